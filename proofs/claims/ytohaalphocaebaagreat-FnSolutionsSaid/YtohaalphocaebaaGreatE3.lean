/- Contracts of the reference: variables of a term. -/
import Derived.Test.YtohaalphocaebaaGreatProg
import Derived.Shelf.Sort.Plain
import Derived.Ground.NamesProg
import Derived.Sort.OwnSortedInts
import Derived.Lib.OwnBridge
import Derived.Test.YtohaalphocaebaaGreatE2
set_option linter.all false
set_option maxHeartbeats 4000000
set_option maxRecDepth 4000
open Bool renaming and_eq_true->cr,eq_iff_iff->q4,false_eq_true->gZ,not_eq_true'->pQ,or_eq_true->k6
open Go.IntKind renaming i64->nD
open Go.IntWalk renaming i64_in->mT
open Go.Op renaming bytesLess->hL
open Go.Proofs.Tryz renaming prog->ax
open Go.Value renaming cells->pS
open Int renaming natCast_nonneg->r4
open List renaming all_eq_true->fy,cons_append->bZ,drop_eq_getElem_cons->k8,getElem?_eq_getElem->bY,getElem?_eq_none->pT,getElem?_eq_some_iff->eS,getElem?_map->q5,getElem_of_mem->oi,length_drop->tB,length_map->r5,map_append->r6,map_cons->ht,mem_append->iz,mem_cons->e7,mem_cons_of_mem->o1,mem_filter->iL,mem_map->hG,mem_of_getElem?->dP,nil_append->b4,pairwise_cons->mU,pairwise_iff_getElem->o2,take->pU,take_of_length_le->gw,take_succ->q6
open List.Nodup renaming length_le_of_subset->Fx
open List.Pairwise renaming imp_of_mem->aq1,nil->aq2
open List.Perm renaming eq_of_pairwise->P5
open List.cons renaming injEq->zK
open Nat renaming le_refl->eu,strongRecOn->qA
open Ne renaming symm->lF
open Option renaming bind_eq_some_iff->iX,bind_some->ij,getD_none->kc,getD_some->jo,map_eq_some_iff->gm,map_some->oq
open Option.some renaming inj->eH,injEq->dE
open Prod.mk renaming injEq->jU
open _root_ renaming UInt8->c0,beq_iff_eq->dQ,congrArg->eP,decide_eq_false->h6,decide_eq_false_iff_not->gn,decide_eq_true->gx,decide_eq_true_eq->en
namespace Go.Pv
section
open Go
theorem abA{E:Int->Int->Prop}{x:Int}{r:Int->Nat}{M:Nat}(h:∀z u,z≠x->E z u->r u<r z)(gC:∀u,E x u->r u<M)(au:∀u,E x u->¬nE E u x):∃eQ:Int->Nat,∀z u,E z u->eQ u<eQ z:=by
 classical
 refine⟨fun z=>if nE E z x then r z+M else r z,fun z u he=>?_⟩;show(if nE E u x then r u+M else r u)<(if nE E z x then r z+M else r z);by_cases ba:z=x
 ·subst ba;have J:=au u he;have U:=gC u he;rw[if_neg J,if_pos (nE.refl z)];omega
 ·have J:=h z u ba he;by_cases hu:nE E u x
  ·rw[if_pos hu,if_pos (nE.step he hu)];omega
  ·rw[if_neg hu];split<;>omega
def nK(ph:Int->Option T)(ρ:Int->Int):Nat->Int->T
 |0,v=>.var (ρ v)
 |n+1,v=>match ph (ρ v)with
  |none=>.var (ρ v)
  |some t=>t.ap (nK ph ρ n)
section
variable {ph:Int->Option T} {ρ:Int->Int} {r:Int->Nat}
theorem aea(e4:∀v,ρ (ρ v)=ρ v):∀(n:Nat) (v:Int),nK ph ρ n v=nK ph ρ n (ρ v)
 |0,v=>by simp[nK,e4]
 |n+1,v=>by simp[nK,e4]
theorem TA(e4:∀v,ρ (ρ v)=ρ v)(aK:∀z u,jq ph ρ z u->r u<r z):∀(n:Nat) (v:Int),r (ρ v)<n->nK ph ρ n v=nK ph ρ (n+1) v
 |0,_,h=>Ω
 |n+1,v,h=>by
  show(match ph (ρ v)with|none=>T.var (ρ v)|some t=>t.ap (nK ph ρ n))=(match ph (ρ v)with|none=>T.var (ρ v)|some t=>t.ap (nK ph ρ (n+1)));cases e:ph (ρ v)with
  |none=>rfl
  |some t=>refine p1 fun w hw=>TA e4 aK n w ?_;have:=aK (ρ v) (ρ w) ⟨e4 v,t,w,e,hw,rfl⟩;omega
theorem Tz(e4:∀v,ρ (ρ v)=ρ v)(aK:∀z u,jq ph ρ z u->r u<r z){n:Nat}{v:Int}(h:r (ρ v)<n):∀k,nK ph ρ (n+k) v=nK ph ρ n v
 |0=>rfl
 |k+1=>by rw[<-Tz e4 aK h k];exact(TA e4 aK (n+k) v Ω).symm
def hh(ph:Int->Option T)(ρ:Int->Int)(r:Int->Nat)(v:Int):T:=nK ph ρ (r (ρ v)+1) v
theorem Av(e4:∀v,ρ (ρ v)=ρ v)(v:Int):hh ph ρ r v=hh ph ρ r (ρ v):=by unfold hh;rw[aea e4,e4]
theorem C3{v:Int}(h:ph (ρ v)=none):hh ph ρ r v= .var (ρ v):=by simp[hh,nK,h]
theorem Aw(e4:∀v,ρ (ρ v)=ρ v)(aK:∀z u,jq ph ρ z u->r u<r z){v:Int}{t:T}(h:ph (ρ v)=some t):hh ph ρ r v=t.ap (hh ph ρ r):=by show nK ph ρ (r (ρ v)+1) v=_;simp only[nK,h];refine p1 fun w hw=>?_;have J:=aK (ρ v) (ρ w) ⟨e4 v,t,w,h,hw,rfl⟩;have:=Tz e4 aK (n:=r (ρ w)+1) (v:=w) Ω (r (ρ v)-(r (ρ w)+1));rw[show r (ρ w)+1+(r (ρ v)-(r (ρ w)+1))=r (ρ v)from by omega]at this;exact this
theorem ahj(e4:∀v,ρ (ρ v)=ρ v)(aK:∀z u,jq ph ρ z u->r u<r z):kt ph ρ (hh ph ρ r):=⟨Av e4,fun x t ad h=>Aw e4 aK (by rw[ad];exact h)⟩
theorem Jj{V:List Int}(gV:o8 V ph){θ:Int->T}(h:kt ph ρ θ){z u:Int}(he:jq ph ρ z u):(θ u).size<(θ z).size:=by obtain⟨J,t,w,U,ao,rfl⟩:=he;rw[h.2 z t J U,<-h.1 w];exact(y3 θ ao).2 (gV z t U).1
theorem Jk{V:List Int}(gV:o8 V ph){θ:Int->T}(h:kt ph ρ θ){z u:Int}(he:nE (jq ph ρ) z u):(θ u).size<=(θ z).size:=by
 induction he with
 |refl=>exact eu _
 |step J _ bR=>have:=Jj gV h J;omega
end
theorem ab9(r:Int->Nat)(t:T):∃M,∀w,t.occ w=true->r w<M:=by
 induction t with
 |var n=>exact⟨r n+1,fun w hw=>by simp[T.occ]at hw;subst hw;omega⟩
 |pair a b dJ dK=>
  obtain⟨abl,J⟩:=dJ;obtain⟨abm,U⟩:=dK;refine⟨abl+abm,fun w hw=>?_⟩;simp only[T.occ,k6]at hw;rcases hw with hw|hw
  ·have:=J w hw;omega
  ·have:=U w hw;omega
 |_=>exact⟨0,fun w hw=>by simp[T.occ]at hw⟩
theorem EV{ph:Int->Option T}{ρ:Int->Int}(e4:∀v,ρ (ρ v)=ρ v){x:Int}{r:Int->Nat}(h:∀z u,z≠x->jq ph ρ z u->r u<r z)(au:∀u,jq ph ρ x u->¬nE (jq ph ρ) u x):∃θ,kt ph ρ θ:=by
 have gC:∃M,∀u,jq ph ρ x u->r u<M:=by
  cases e:ph x with
  |none=>exact⟨0,fun u ⟨_,t,w,J,_⟩=>by rw[e]at J;cases J⟩
  |some t=>obtain⟨M,gC⟩:=ab9 (fun w=>r (ρ w)) t;refine⟨M,fun u ⟨_,dO,w,J,U,ao⟩=>?_⟩;rw[e]at J;cases J;subst ao;exact gC w U
 obtain⟨M,gC⟩:=gC;obtain⟨eQ,dp⟩:=abA h gC au;exact⟨_,ahj e4 dp⟩
structure mu (c:bB) (ρ:Int->Int):Prop where
 ru:jX c.up ρ
 sh:o8 (cC c.up) c.ph
 sat:∃θ,kt c.ph ρ θ
theorem mu.sm{c cq:bB}{ρ:Int->Int}(h:mu c ρ)(k:ja ρ c cq):mu cq ρ:=⟨k.ru,by rw[k.keys,k.ph];exact h.sh,by rw[k.ph];exact h.sat⟩
def iN(c:bB)(ρ:Int->Int):Nat:=((cC c.up).filter fun v=>decide (ρ v=v)).length+((cC c.up).filter fun v=>decide (ρ v=v)&& !(c.ph v).isSome).length
theorem xU{c cq:bB}{ρ:Int->Int}(k:ja ρ c cq):iN cq ρ=iN c ρ:=by unfold iN;rw[k.keys,k.ph]
structure jr (c:bB) (ρ:Int->Int) (p:(Int->T)->Prop) (o:Bool×bB):Prop where
 keys:cC o.2.up=cC c.up
 rest:o.2.color=c.color/\o.2.size=c.size/\o.2.full=c.full
 yes:o.1=true->∃ρ',mu o.2 ρ'/\(∀θ,kt o.2.ph ρ' θ↔kt c.ph ρ θ/\p θ)/\((ρ'=ρ/\o.2.ph=c.ph)\/iN o.2 ρ'<iN c ρ)
 no:o.1=false->∀θ,kt c.ph ρ θ->¬p θ
theorem ja.rest{ρ:Int->Int}{c cq:bB}(h:ja ρ c cq):cq.color=c.color/\cq.size=c.size/\cq.full=c.full:=by rw[h.eq];exact⟨rfl,rfl,rfl⟩
theorem jr.sm{c cq:bB}{ρ:Int->Int}{p:(Int->T)->Prop}{o:Bool×bB}(k:ja ρ c cq)(h:jr cq ρ p o):jr c ρ p o:=⟨h.keys.trans k.keys,by rw[h.rest.1,h.rest.2.1,h.rest.2.2];exact k.rest,fun e=>by rw[<-xU k,<-k.ph];exact h.yes e,by rw[<-k.ph];exact h.no⟩
theorem jr.congr{c:bB}{ρ:Int->Int}{p q:(Int->T)->Prop}{o:Bool×bB}(jN:∀θ,kt c.ph ρ θ->(p θ↔q θ))(h:jr c ρ p o):jr c ρ q o:=⟨h.keys,h.rest,fun e=>by obtain⟨ρ',J,U,ao⟩:=h.yes e;exact⟨ρ',J,fun θ=>(U θ).trans (and_congr_right fun ag=>jN θ ag),ao⟩,fun e θ ag bt=>h.no e θ ag ((jN θ ag).2 bt)⟩
theorem xq(c:bB)(x:Int)(t:T)(z:Int):(c.know x t).ph z=if z=x then some t else c.ph z:=by
 simp only[bB.ph,bB.know,bB.shd,bB.shp,oc];by_cases h:z=x
 ·simp[h]
 ·simp only[if_neg h];exact ite_congr rfl (fun _=>rfl) fun _=>rfl
theorem WK{c:bB}{ρ:Int->Int}(hi:mu c ρ){x:Int}(ad:ρ x=x)(ae:x∈cC c.up)(jM:c.ph x=none){t:T}(aH:t.kind≠1)(ay:∀w,t.occ w=true->w∈cC c.up):
  ∃N o,(∀n,N<=n->vE n x t c=some o)/\jr c ρ (fun θ=>θ x=t.ap θ) o:=by
 have gV:o8 (cC (c.know x t).up) (c.know x t).ph:=by
  intro z u ba;rw[xq]at ba;split at ba
  ·rename_i e;cases ba;subst e;exact⟨aH,ay,ae⟩
  ·exact hi.sh z u ba
 have iw:∀θ,kt (c.know x t).ph ρ θ↔kt c.ph ρ θ/\θ x=t.ap θ:=by
  intro θ;constructor
  ·rintro⟨J,U⟩;refine⟨⟨J,fun z u ba hu=>U z u ba ?_⟩,U x t ad (by rw[xq];simp)⟩;rw[xq];split
   ·rename_i e;subst e;rw[jM]at hu;cases hu
   ·exact hu
  ·rintro⟨⟨J,U⟩,ao⟩;refine⟨J,fun z u ba hu=>?_⟩;rw[xq]at hu;split at hu
   ·rename_i e;subst e;cases hu;exact ao
   ·exact U z u ba hu
 obtain⟨N,a,J,U,ao⟩:=IM (x:=x) (c:=c.know x t) (t:=t) hi.ru gV ay;refine⟨N,(!a.found,a.c),fun n au=>by simp[vE,J n au],U.keys,U.rest,fun aQ=>?_,fun aQ θ ag he=>?_⟩
 ·simp only[pQ]at aQ;have aiF:∀u,jq (c.know x t).ph ρ x u->¬nE (jq (c.know x t).ph ρ) u x:=by rintro u ⟨_,dO,w,a1,bp,rfl⟩ aK;rw[xq,if_pos rfl]at a1;cases a1;have:=ao.2 ⟨w,bp,aK⟩;rw[aQ]at this;cases this
  obtain⟨lE,vw⟩:=hi.sat
  have aiW:=EV (ph:=(c.know x t).ph) (ρ:=ρ) hi.ru.idem (x:=x) (r:=fun z=>(lE z).size) (fun z u ba he=>by refine Jj hi.sh vw ?_;obtain⟨aq,dO,w,aG,bG⟩:=he;rw[xq,if_neg ba]at aG;exact⟨aq,dO,w,aG,bG⟩) aiF
  refine⟨ρ,⟨U.ru,?_,?_⟩,fun θ=>?_,.inr ?_⟩
  ·simp only[U.keys,U.ph];exact gV
  ·simp only[U.ph];exact aiW
  ·simp only[U.ph];exact iw θ
  ·simp only[xU U];unfold iN;have aq:cC (c.know x t).up=cC c.up:=rfl;rw[aq];have:=GB (V:=cC c.up) (v:=x) (p:=fun v=>decide (ρ v=v)&& !(c.ph v).isSome) (q:=fun v=>decide (ρ v=v)&& !((c.know x t).ph v).isSome) (fun z _ ba=>by
    rw[xq]at ba;split at ba
    ·simp at ba
    ·exact ba) ae (by simp[ad,jM]) (by simp[xq])
   omega
 ·simp only[Bool.not_eq_false']at aQ;obtain⟨w,a1,bp⟩:=ao.1 aQ;have fe:=(iw θ).2 ⟨ag,he⟩;have:=Jk gV fe bp;have a6:=(y3 θ a1).2 aH;rw[<-he]at a6;rw[<-ag.1 w]at this;omega
def jy(ρ:Int->Int)(x y:Int)(v:Int):Int:=if ρ v=y then x else ρ v
section
variable {c:bB} {ρ:Int->Int} {x y:Int}
theorem qQ(ad:ρ x=x)(aC:ρ y=y)(gP:x≠y){z:Int}:jy ρ x y z=z↔ρ z=z/\z≠y:=by
 unfold jy;split
 ·rename_i e;constructor
  ·intro h;subst h;rw[ad]at e;exact absurd e gP
  ·rintro⟨J,U⟩;rw[J]at e;exact absurd e U
 ·rename_i e;constructor
  ·intro h;exact⟨h,fun aG=>e (by rw[aG,aC])⟩
  ·exact fun h=>h.1
theorem jX.join(h:jX c.up ρ)(ad:ρ x=x)(aC:ρ y=y)(gP:x<y)(D5:x∈cC c.up)(vF:y∈cC c.up):jX (c.join x y).up (jy ρ x y):=by
 have ae:cC (c.join x y).up=cC c.up:=D3 vF;refine⟨fun v u ay=>?_,fun v ay=>?_⟩
 ·rw[ae];have mI:tg v (e2 y x c.up)=some u:=ay;rw[oc]at mI;by_cases e:v=y
  ·subst e;rw[if_pos rfl]at mI;cases mI;have bE:=(h.mem D5).2;rw[ad]at bE;refine⟨⟨bE,Ω,D5⟩,?_,⟨fun e=>?_,fun e=>Ω⟩⟩
   ·unfold jy;rw[ad,aC,if_pos rfl,if_neg Ω]
   ·have:=((qQ ad aC Ω).1 e).2;exact absurd rfl this
  ·rw[if_neg e]at mI;obtain⟨bC,a2,a3⟩:=h.up v u mI;refine⟨bC,by unfold jy;rw[a2],?_⟩;rw[qQ ad aC Ω,a3];exact⟨fun h=>h.1,fun h=>⟨h,e⟩⟩
 ·rw[ae]at ay;have:=h.no v ay;unfold jy;rw[this,if_neg fun e=>ay (by rw[e];exact vF)]
theorem ao6{ph:Int->Option T}(ad:ρ x=x)(aC:ρ y=y)(gP:x≠y)(θ:Int->T):(kt ph (jy ρ x y) θ/\∀t,ph y=some t->θ x=t.ap θ)↔(kt ph ρ θ/\θ x=θ y):=by
 constructor
 ·rintro⟨⟨J,U⟩,ao⟩;have Mz:θ y=θ x:=by have:=J y;simpa[jy,aC]using this
  refine⟨⟨fun v=>?_,fun z t ba aH=>?_⟩,Mz.symm⟩
  ·have:=J v;unfold jy at this;split at this
   ·rename_i e;rw[e,this,Mz]
   ·exact this
  ·by_cases e:z=y
   ·subst e;rw[Mz];exact ao t aH
   ·exact U z t ((qQ ad aC gP).2 ⟨ba,e⟩) aH
 ·rintro⟨⟨J,U⟩,ao⟩;refine⟨⟨fun v=>?_,fun z t ba aH=>U z t ((qQ ad aC gP).1 ba).1 aH⟩,fun t aH=>by rw[ao];exact U y t aC aH⟩;unfold jy;split
  ·rename_i e;rw[J v,e,ao]
  ·exact J v
theorem aoo{V:List Int}{ph:Int->Option T}(gV:o8 V ph)(ad:ρ x=x)(aC:ρ y=y)(gP:x≠y){θ:Int->T}(h:kt ph ρ θ){z u:Int}(ba:z≠x)(he:jq ph (jy ρ x y) z u):(if u=x then 0 else(θ u).size)<(if z=x then 0 else(θ z).size):=by
 obtain⟨J,t,w,U,ao,rfl⟩:=he;have aK:=(qQ ad aC gP).1 J;rw[if_neg ba];split
 ·exact T.size_pos _
 ·rename_i cK;have:jy ρ x y w=ρ w:=by
   unfold jy at cK⊢;split
   ·rename_i e;rw[if_pos e]at cK;exact absurd rfl cK
   ·rfl
  rw[this];exact Jj gV h ⟨aK.1,t,w,U,ao,rfl⟩
theorem abi(ad:ρ x=x)(aC:ρ y=y)(gP:x≠y)(vF:y∈cC c.up):iN (c.join x y) (jy ρ x y)<iN c ρ:=by have ae:cC (c.join x y).up=cC c.up:=D3 vF;have bD:(c.join x y).ph=c.ph:=rfl;unfold iN;rw[ae,bD];have J:=GB (V:=cC c.up) (v:=y) (p:=fun v=>decide (ρ v=v)) (q:=fun v=>decide (jy ρ x y v=v)) (fun z _ ba=>by simp only[en]at ba⊢;exact((qQ ad aC gP).1 ba).1) vF (by simp[aC]) (by simp only[gn];exact fun h=>((qQ ad aC gP).1 h).2 rfl);have U:=GA (V:=cC c.up) (p:=fun v=>decide (ρ v=v)&& !(c.ph v).isSome) (q:=fun v=>decide (jy ρ x y v=v)&& !(c.ph v).isSome) (fun z _ ba=>by simp only[cr,en]at ba⊢;exact⟨((qQ ad aC gP).1 ba.1).1,ba.2⟩);omega
end
theorem BE{c:bB}{x:Int}(h:c.shd x=false):c.ph x=none:=by simp[bB.ph,h]
theorem BF{c:bB}{x:Int}(h:¬c.shd x=false):c.ph x=some (c.shp x):=by simp[bB.ph];simpa using h
theorem Ts{c:bB}{ρ:Int->Int}(hi:mu c ρ){x y:Int}(ad:ρ x=x)(aC:ρ y=y)(gP:x<y)(D5:x∈cC c.up)(vF:y∈cC c.up)
  (rec:∀(b0:bB) (lW:Int->Int),mu b0 lW->cC b0.up=cC c.up->iN b0 lW<iN c ρ->∀a b:T,(∀w,a.occ w=true->w∈cC c.up)->(∀w,b.occ w=true->w∈cC c.up)->∃N o,(∀n,N<=n->gM n a b b0=some o)/\jr b0 lW (fun θ=>a.ap θ=b.ap θ) o):
  ∃N o,(∀n,N<=n->sg (gM n) n x y (c.join x y)=some o)/\jr c ρ (fun θ=>θ x=θ y) o:=by
 have cK:x≠y:=Ω
 have ae:cC (c.join x y).up=cC c.up:=D3 vF;have bD:(c.join x y).ph=c.ph:=rfl;have mG:=hi.ru.join ad aC gP D5 vF;have c4:=abi (c:=c) ad aC cK vF;have gV:o8 (cC (c.join x y).up) (c.join x y).ph:=by rw[ae,bD];exact hi.sh
 obtain⟨lE,vw⟩:=hi.sat
 have Hj:∀z u,z≠x->jq c.ph (jy ρ x y) z u->(fun z=>if z=x then 0 else(lE z).size) u<(fun z=>if z=x then 0 else(lE z).size) z:=fun z u ba he=>aoo hi.sh ad aC cK vw ba he;have iw:=fun θ=>ao6 (ph:=c.ph) ad aC cK θ;have VB:∀{cq:bB},ja (jy ρ x y) (c.join x y) cq->(∃θ,kt c.ph (jy ρ x y) θ)->c.ph y=none->jr c ρ (fun θ=>θ x=θ y) (true,cq):=by intro cq k ag au;refine⟨k.keys.trans ae,k.rest,fun _=>⟨jy ρ x y,⟨k.ru,by simp only[k.keys,k.ph];exact gV,by simp only[k.ph];exact ag⟩,fun θ=>?_,.inr (by simp only[xU k];exact c4)⟩,fun e=>by cases e⟩;simp only[k.ph,bD];rw[<-iw θ];exact⟨fun h=>⟨h,fun t aH=>by rw[au]at aH;cases aH⟩,fun h=>h.1⟩
 by_cases J:(c.join x y).shd y=false
 ·have AQ:c.ph y=none:=BE J;by_cases U:(c.join x y).shd x=false
  ·have kA:c.ph x=none:=BE U;refine⟨0,(true,c.join x y),fun n _=>by simp only[sg,if_pos J,if_pos U],VB (ja.refl mG) ?_ AQ⟩;exact EV mG.idem (x:=x) Hj fun u ⟨_,t,w,q,_⟩=>by rw[kA]at q;cases q
  ·have oH:c.ph x=some ((c.join x y).shp x):=BF U;obtain⟨N,a,aq,aG,bG⟩:=IM (x:=x) (c:=c.join x y) (t:=(c.join x y).shp x) mG gV (by rw[ae];exact(hi.sh _ _ oH).2.1);refine⟨N,(!a.found,a.c),fun n au=>by simp only[sg,if_pos J,if_neg U,aq n au,oq],?_⟩;cases aQ:a.found with
   |false=>refine VB aG (EV mG.idem (x:=x) Hj fun u ⟨_,t,w,a1,bp,bV⟩ aK=>?_) AQ;rw[oH]at a1;cases a1;subst bV;have:=bG.2 ⟨w,bp,aK⟩;rw[aQ]at this;cases this
   |true=>refine⟨aG.keys.trans ae,aG.rest,(fun e=>by cases e),fun _ θ ag he=>?_⟩;obtain⟨w,a1,bp⟩:=bG.1 aQ;have fe:=((iw θ).2 ⟨ag,he⟩).1;have ao:=Jk hi.sh fe bp;have a6:=(y3 θ a1).2 (hi.sh _ _ oH).1;rw[<-fe.2 x _ ((qQ ad aC cK).2 ⟨ad,cK⟩) oH]at a6;rw[<-fe.1 w]at ao;omega
 ·have rG:c.ph y=some ((c.join x y).shp y):=BF J;by_cases U:(c.join x y).shd x=false
  ·have kA:c.ph x=none:=BE U;have ln:mu (c.join x y) (jy ρ x y):=⟨mG,gV,EV mG.idem (x:=x) Hj fun u ⟨_,t,w,q,_⟩=>by rw[bD,kA]at q;cases q⟩;obtain⟨N,o,aq,aG⟩:=WK ln (x:=x) ((qQ ad aC cK).2 ⟨ad,cK⟩) (by rw[ae];exact D5) kA (t:=(c.join x y).shp y) (hi.sh _ _ rG).1 (by rw[ae];exact(hi.sh _ _ rG).2.1);refine⟨N,o,fun n au=>by simp only[sg,if_neg J,if_pos U,aq n au],aG.keys.trans ae,aG.rest,fun aQ=>?_,fun aQ θ ag he=>?_⟩
   ·obtain⟨ρ',g1,g2,g3⟩:=aG.yes aQ;refine⟨ρ',g1,fun θ=>?_,.inr ?_⟩
    ·rw[g2 θ,<-iw θ];refine and_congr_right fun _=>⟨fun h t aH=>by rw[rG]at aH;cases aH;exact h,fun h=>h _ rG⟩
    ·rcases g3 with⟨rfl,g3⟩|g3
     ·have:iN o.2 (jy ρ x y)=iN (c.join x y) (jy ρ x y):=by unfold iN;rw[aG.keys,g3]
      omega
     ·omega
   ·obtain⟨s1,s2⟩:=(iw θ).2 ⟨ag,he⟩;exact aG.no aQ θ s1 (s2 _ rG)
  ·have oH:c.ph x=some ((c.join x y).shp x):=BF U;obtain⟨hZ,a,aq,aG,bG⟩:=IM (x:=x) (c:=c.join x y) (t:=(c.join x y).shp y) mG gV (by rw[ae];exact(hi.sh _ _ rG).2.1);cases aQ:a.found with
   |true=>refine⟨hZ,(false,a.c),fun n au=>by simp only[sg,if_neg J,if_neg U,aq n au,ij,aQ,if_true],aG.keys.trans ae,aG.rest,(fun e=>by cases e),fun _ θ ag he=>?_⟩;obtain⟨w,a1,bp⟩:=bG.1 aQ;obtain⟨fe,qh⟩:=(iw θ).2 ⟨ag,he⟩;have ao:=Jk hi.sh fe bp;have a6:=(y3 θ a1).2 (hi.sh _ _ rG).1;rw[<-qh _ rG]at a6;rw[<-fe.1 w]at ao;omega
   |false=>
    have VF:a.c.shp x=(c.join x y).shp x:=aG.shp x;obtain⟨jt,b,f1,f2,f3⟩:=IM (x:=x) (c:=a.c) (t:=(c.join x y).shp x) aG.ru (by rw[aG.keys,aG.ph];exact gV) (by rw[aG.keys,ae];exact(hi.sh _ _ oH).2.1);have eL:=aG.trans f2;cases aX:b.found with
    |true=>refine⟨max hZ jt,(false,b.c),fun n au=>by simp only[sg,if_neg J,if_neg U,aq n Ω,ij,aQ,VF,f1 n Ω,aX,if_true,gZ,if_false],eL.keys.trans ae,eL.rest,(fun e=>by cases e),fun _ θ ag he=>?_⟩;obtain⟨w,a1,bp⟩:=f3.1 aX;obtain⟨fe,_⟩:=(iw θ).2 ⟨ag,he⟩;rw[aG.ph]at bp;have ao:=Jk hi.sh fe bp;have a6:=(y3 θ a1).2 (hi.sh _ _ oH).1;rw[<-fe.2 x _ ((qQ ad aC cK).2 ⟨ad,cK⟩) oH]at a6;rw[<-fe.1 w]at ao;omega
    |false=>
     have AI:mu b.c (jy ρ x y):=by refine⟨eL.ru,by rw[eL.keys,eL.ph];exact gV,?_⟩;rw[eL.ph];refine EV mG.idem (x:=x) Hj fun u ⟨_,t,w,a1,bp,bV⟩ aK=>?_;rw[bD,oH]at a1;cases a1;subst bV;have:=f3.2 ⟨w,bp,by rw[aG.ph];exact aK⟩;rw[aX]at this;cases this
     obtain⟨zN,o,g1,g2⟩:=rec b.c (jy ρ x y) AI (eL.keys.trans ae) (by rw[xU eL];exact c4) ((c.join x y).shp x) ((c.join x y).shp y) (hi.sh _ _ oH).2.1 (hi.sh _ _ rG).2.1;refine⟨max (max hZ jt) zN,o,fun n au=>?_,g2.keys.trans (eL.keys.trans ae),?_,fun cA=>?_,fun cA θ ag he=>?_⟩
     ·simp only[sg,if_neg J,if_neg U,aq n Ω,ij,aQ,VF,f1 n Ω,aX,gZ,if_false,eL.shp];exact g1 n Ω
     ·rw[g2.rest.1,g2.rest.2.1,g2.rest.2.2];exact eL.rest
     ·obtain⟨ρ',a1,bp,bV⟩:=g2.yes cA;refine⟨ρ',a1,fun θ=>?_,.inr ?_⟩
      ·rw[bp θ,eL.ph,bD,<-iw θ];refine and_congr_right fun h=>?_;have:=h.2 x _ ((qQ ad aC cK).2 ⟨ad,cK⟩) oH;rw[<-this];exact⟨fun h t aH=>by rw[rG]at aH;cases aH;exact h,fun h=>h _ rG⟩
      ·have:iN b.c (jy ρ x y)<iN c ρ:=by rw[xU eL];exact c4
       rcases bV with⟨rfl,bV⟩|bV
       ·have:iN o.2 (jy ρ x y)=iN b.c (jy ρ x y):=by unfold iN;rw[g2.keys,bV]
        omega
       ·omega
     ·obtain⟨s1,s2⟩:=(iw θ).2 ⟨ag,he⟩;refine g2.no cA θ (by rw[eL.ph];exact s1) ?_;have:=s1.2 x _ ((qQ ad aC cK).2 ⟨ad,cK⟩) oH;rw[<-this];exact s2 _ rG
def u6:T->T->Nat
 | .var _,_=>1
 |_,.var _=>2
 |_,_=>0
theorem adf(K:Nat):∀(m:Nat) (c:bB) (ρ:Int->Int) (a b:T) (lE:Int->T),mu c ρ->kt c.ph ρ lE->(∀w,a.occ w=true->w∈cC c.up)->(∀w,b.occ w=true->w∈cC c.up)->iN c ρ=K->((a.ap lE).size+(b.ap lE).size)*3+u6 a b=m->
  ∃N o,(∀n,N<=n->gM n a b c=some o)/\jr c ρ (fun θ=>a.ap θ=b.ap θ) o:=by
 induction K using qA with
 |ind K ajo=>
 have VS:∀(b0:bB) (lW:Int->Int),mu b0 lW->iN b0 lW<K->∀a b:T,(∀w,a.occ w=true->w∈cC b0.up)->(∀w,b.occ w=true->w∈cC b0.up)->∃N o,(∀n,N<=n->gM n a b b0=some o)/\jr b0 lW (fun θ=>a.ap θ=b.ap θ) o:=by
  intro b0 lW J U a b bm ab;obtain⟨θ,gb⟩:=J.sat
  exact ajo _ U _ b0 lW a b θ J gb bm ab rfl rfl
 intro m;induction m using qA with
 |ind m A5=>
 intro c ρ a b lE hi vw bm ab c4 hm;have aim:∀{a b:T},(∀n,gM (n+1) a b c=some (decide (a=b),c))->(∀θ,a.ap θ=a)->(∀θ,b.ap θ=b)->∃N o,(∀n,N<=n->gM n a b c=some o)/\jr c ρ (fun θ=>a.ap θ=b.ap θ) o:=by
  intro a b J U ao;refine⟨1,(decide (a=b),c),fun n au=>?_,rfl,⟨rfl,rfl,rfl⟩,fun h=>?_,fun h θ _ he=>?_⟩
  ·obtain⟨n',rfl⟩:∃n',n=n'+1:=⟨n-1,Ω⟩;exact J n'
  ·simp only[en]at h;subst h;exact⟨ρ,hi,fun θ=>⟨fun h=>⟨h,rfl⟩,fun h=>h.1⟩,.inl ⟨rfl,rfl⟩⟩
  ·simp only[gn]at h;rw[U,ao]at he;exact h he
 have UR:∀{a b:T},(∀n,gM (n+1) a b c=some (decide (a=b),c))->(∀θ,a.ap θ≠b.ap θ)->a≠b->∃N o,(∀n,N<=n->gM n a b c=some o)/\jr c ρ (fun θ=>a.ap θ=b.ap θ) o:=by intro a b J U ao;refine⟨1,(false,c),fun n au=>?_,rfl,⟨rfl,rfl,rfl⟩,(fun h=>by cases h),fun _ θ _ he=>U θ he⟩;obtain⟨n',rfl⟩:∃n',n=n'+1:=⟨n-1,Ω⟩;rw[J n',h6 ao]
 have sM:∀(i:Int) (b:T),b.kind≠1->(∀n,gM (n+1) (.var i) b c=(rt c i).bind fun p=>if p.2.shd p.1=false then vE n p.1 b p.2 else gM n (p.2.shp p.1) b p.2)->i∈cC c.up->(∀w,b.occ w=true->w∈cC c.up)->((lE i).size+(b.ap lE).size)*3<m->∃N o,(∀n,N<=n->gM n (.var i) b c=some o)/\jr c ρ (fun θ=>θ i=b.ap θ) o:=by
  intro i b pk UU w8 ab bz;obtain⟨b0,aq,aP⟩:=uF hi.ru w8;have ln:=hi.sm aP;by_cases ag:b0.shd (ρ i)=false
  ·obtain⟨N,o,aG,dv⟩:=WK ln (x:=ρ i) (hi.ru.idem i) (by rw[aP.keys];exact(hi.ru.mem w8).1) (BE ag) pk (by rw[aP.keys];exact ab);refine⟨N+1,o,fun n au=>?_,jr.sm aP (jr.congr (fun θ h=>?_) dv)⟩
   ·obtain⟨n',rfl⟩:∃n',n=n'+1:=⟨n-1,Ω⟩;rw[UU,aq];simp only[ij,if_pos ag];exact aG n' Ω
   ·rw[<-h.1 i]
  ·have oH:b0.ph (ρ i)=some (b0.shp (ρ i)):=BF ag;have iw:∀θ,kt b0.ph ρ θ->θ i=(b0.shp (ρ i)).ap θ:=fun θ h=>by rw[h.1 i];exact h.2 _ _ (hi.ru.idem i) oH
   have hJ:=(ln.sh _ _ oH).1;have ahV:u6 (b0.shp (ρ i)) b=0:=by cases e:b0.shp (ρ i)<;>cases b<;>simp_all[u6,T.kind]
   have VR:kt b0.ph ρ lE:=by rw[aP.ph];exact vw
   obtain⟨N,o,aG,dv⟩:=A5 (((b0.shp (ρ i)).ap lE).size*3+(b.ap lE).size*3) (by rw[<-iw lE VR];omega) b0 ρ (b0.shp (ρ i)) b lE ln VR (ln.sh _ _ oH).2.1 (by rw[aP.keys];exact ab) (by rw[xU aP];exact c4) (by rw[ahV];omega);refine⟨N+1,o,fun n au=>?_,jr.sm aP (jr.congr (fun θ h=>?_) dv)⟩
   ·obtain⟨n',rfl⟩:∃n',n=n'+1:=⟨n-1,Ω⟩;rw[UU,aq];simp only[ij,if_neg ag];exact aG n' Ω
   ·rw[iw θ h]
 have DK:∀(i j:Int),i∈cC c.up->j∈cC c.up->∃N o,(∀n,N<=n->gM n (.var i) (.var j) c=some o)/\jr c ρ (fun θ=>θ i=θ j) o:=by
  intro i j w8 HQ;obtain⟨b0,aq,aP⟩:=uF hi.ru w8;obtain⟨cu,aG,bd⟩:=uF aP.ru (by rw[aP.keys];exact HQ:j∈cC b0.up);have um:=aP.trans bd;have hV:=hi.sm um;have vs:ρ i∈cC cu.up:=by rw[um.keys];exact(hi.ru.mem w8).1
  have U8:ρ j∈cC cu.up:=by rw[um.keys];exact(hi.ru.mem HQ).1
  have wT:∀(b0:bB) (lW:Int->Int),mu b0 lW->cC b0.up=cC cu.up->iN b0 lW<iN cu ρ->∀a b:T,(∀w,a.occ w=true->w∈cC cu.up)->(∀w,b.occ w=true->w∈cC cu.up)->∃N o,(∀n,N<=n->gM n a b b0=some o)/\jr b0 lW (fun θ=>a.ap θ=b.ap θ) o:=fun dg ρ3 J U ao a b bm ab=>VS dg ρ3 J (by rw[xU um,c4]at ao;exact ao) a b (by rw[U];exact bm) (by rw[U];exact ab);rcases Int.lt_trichotomy (ρ i) (ρ j)with h|h|h
  ·obtain⟨N,o,bG,jj⟩:=Ts hV (hi.ru.idem i) (hi.ru.idem j) h vs U8 wT;refine⟨N+1,o,fun n au=>?_,jr.sm um (jr.congr (fun θ h=>?_) jj)⟩
   ·obtain⟨n',rfl⟩:∃n',n=n'+1:=⟨n-1,Ω⟩;simp only[gM,aq,aG,ij];rw[if_neg Ω,if_neg Ω];exact bG n' Ω
   ·rw[h.1 i,h.1 j]
  ·refine⟨1,(true,cu),fun n au=>?_,um.keys,um.rest,fun _=>⟨ρ,hV,fun θ=>?_,.inl ⟨rfl,um.ph⟩⟩,fun e=>by cases e⟩
   ·obtain⟨n',rfl⟩:∃n',n=n'+1:=⟨n-1,Ω⟩;simp only[gM,aq,aG,ij,if_pos h]
   ·simp only[um.ph];exact⟨fun ag=>⟨ag,by rw[ag.1 i,ag.1 j,h]⟩,fun ag=>ag.1⟩
  ·obtain⟨N,o,bG,jj⟩:=Ts hV (hi.ru.idem j) (hi.ru.idem i) h U8 vs wT;refine⟨N+1,o,fun n au=>?_,jr.sm um (jr.congr (fun θ h=>?_) jj)⟩
   ·obtain⟨n',rfl⟩:∃n',n=n'+1:=⟨n-1,Ω⟩;simp only[gM,aq,aG,ij];rw[if_neg Ω,if_pos h];exact bG n' Ω
   ·rw[h.1 i,h.1 j];exact⟨Eq.symm,Eq.symm⟩
 have AY:∀(a:T) (j:Int),a.kind≠1->(∀n,gM (n+1) a (.var j) c=gM n (.var j) a c)->(∀n,gM (n+1) (.var j) a c=(rt c j).bind fun p=>if p.2.shd p.1=false then vE n p.1 a p.2 else gM n (p.2.shp p.1) a p.2)->j∈cC c.up->(∀w,a.occ w=true->w∈cC c.up)->((lE j).size+(a.ap lE).size)*3<m->∃N o,(∀n,N<=n->gM n a (.var j) c=some o)/\jr c ρ (fun θ=>a.ap θ=θ j) o:=by intro a j J U ao HQ bm bz;obtain⟨N,o,aq,c1⟩:=sM j a J ao HQ bm bz;refine⟨N+1,o,fun n au=>?_,jr.congr (fun θ _=>⟨Eq.symm,Eq.symm⟩) c1⟩;obtain⟨n',rfl⟩:∃n',n=n'+1:=⟨n-1,Ω⟩;rw[U];exact aq n' Ω
 cases a with
 |var i=>
  have w8:i∈cC c.up:=bm i (by simp[T.occ]);cases b with
  |var j=>exact DK i j w8 (ab j (by simp[T.occ]))
  |_=>exact sM i _ (by simp[T.kind]) (fun n=>rfl) w8 ab (by simp only[T.ap,u6]at hm⊢;omega)
 |pair bC a2=>
  cases b with
  |var j=>exact AY _ j (by simp[T.kind]) (fun n=>rfl) (fun n=>rfl) (ab j (by simp[T.occ])) bm (by simp only[T.ap,u6]at hm⊢;omega)
  |pair cg cc=>
   have tZ:∀p q:T,u6 p q<=2:=fun p q=>by cases p<;>cases q<;>simp[u6]
   have lL:∀w,bC.occ w=true->w∈cC c.up:=fun w hw=>bm w (by simp[T.occ,hw]);have qH:∀w,a2.occ w=true->w∈cC c.up:=fun w hw=>bm w (by simp[T.occ,hw]);have l4:∀w,cg.occ w=true->w∈cC c.up:=fun w hw=>ab w (by simp[T.occ,hw]);have pg:∀w,cc.occ w=true->w∈cC c.up:=fun w hw=>ab w (by simp[T.occ,hw]);simp only[T.ap,T.size,u6]at hm;have f1:=tZ bC cg;have f2:=tZ a2 cc;obtain⟨hZ,gW,aq,c1⟩:=A5 _ (by rw[<-hm];omega) c ρ bC cg lE hi vw lL l4 c4 rfl;obtain⟨alb,b0⟩:=gW;cases alb with
   |false=>refine⟨hZ+1,(false,b0),fun n au=>?_,c1.keys,c1.rest,(fun e=>by cases e),fun _ θ ag he=>c1.no rfl θ ag (by simp only[T.ap,T.pair.injEq]at he;exact he.1)⟩;obtain⟨n',rfl⟩:∃n',n=n'+1:=⟨n-1,Ω⟩;simp only[gM,aq n' Ω,ij,gZ,if_false]
   |true=>
    obtain⟨lW,a1,bp,bV⟩:=c1.yes rfl;simp only at a1 bp bV;have yw:cC b0.up=cC c.up:=c1.keys;have DD:∃jt gR,(∀n,jt<=n->gM n a2 cc b0=some gR)/\jr b0 lW (fun θ=>a2.ap θ=cc.ap θ) gR:=by
     rcases bV with⟨rfl,bV⟩|bV
     ·exact A5 _ (by rw[<-hm];omega) b0 lW a2 cc lE a1 (by rw[bV];exact vw) (by rw[yw];exact qH) (by rw[yw];exact pg) (by unfold iN;rw[yw,bV];exact c4) rfl
     ·exact VS b0 lW a1 Ω a2 cc (by rw[yw];exact qH) (by rw[yw];exact pg)
    obtain⟨jt,gR,aG,dv⟩:=DD;refine⟨max hZ jt+1,gR,fun n au=>?_,dv.keys.trans yw,?_,fun aQ=>?_,fun aQ θ ag he=>?_⟩
    ·obtain⟨n',rfl⟩:∃n',n=n'+1:=⟨n-1,Ω⟩;simp only[gM,aq n' Ω,ij,if_true];exact aG n' Ω
    ·rw[dv.rest.1,dv.rest.2.1,dv.rest.2.2];exact c1.rest
    ·obtain⟨ρ2,s1,s2,s3⟩:=dv.yes aQ;refine⟨ρ2,s1,fun θ=>?_,?_⟩
     ·rw[s2 θ,bp θ];simp only[T.ap,T.pair.injEq,and_assoc]
     ·rcases bV with⟨rfl,bV⟩|bV
      ·rcases s3 with⟨rfl,s3⟩|s3
       ·exact .inl ⟨rfl,s3.trans bV⟩
       ·have:iN b0 lW=iN c lW:=by unfold iN;rw[yw,bV]
        exact .inr Ω
      ·rcases s3 with⟨rfl,s3⟩|s3
       ·have:iN gR.2 ρ2=iN b0 ρ2:=by unfold iN;rw[dv.keys,s3]
        exact .inr Ω
       ·exact .inr Ω
    ·simp only[T.ap,T.pair.injEq]at he;exact dv.no aQ θ ((bp θ).2 ⟨ag,he.1⟩) he.2
  |_=>exact UR (fun n=>rfl) (fun θ=>by simp[T.ap]) Ψ
 |_=>
  cases b with
  |var j=>exact AY _ j (by simp[T.kind]) (fun n=>rfl) (fun n=>rfl) (ab j (by simp[T.occ])) bm (by simp only[T.ap,u6]at hm⊢;omega)
  |_=>first|exact aim (fun n=>rfl) (fun θ=>rfl) (fun θ=>rfl)|exact UR (fun n=>rfl) (fun θ=>by simp[T.ap]) Ψ
end
section
open Go
def zE(rec:Int->bB->Option (Bool×bB))(v:Int)(a:bB×Bool):Option (bB×Bool):=if a.2=true then(rt a.1 v).bind fun p=>(rec p.1 p.2).map fun q=>(q.2,q.1)else some a
def zr(v:Int)(c:bB):Option (Int×bB):=(rt c v).map fun p=>(p.2.sz p.1,p.2)
def bB.grey(c:bB)(x:Int):bB:={c with color:=e2 x 1 c.color,size:=e2 x 1 c.size}
def bB.black(c:bB)(x:Int):bB:={c with color:=e2 x 2 c.color}
def q3:Nat->Int->bB->Option (Bool×bB)
 |0,_,_=>none
 |n+1,x,c=>if c.col x=2 then some (true,c)else if c.col x=1 then some (false,c)else
   if(c.grey x).shd x=false then some (true,(c.grey x).black x)else
   (((c.grey x).shp x).foldO (zE (q3 n)) (c.grey x,true)).bind fun a=>if a.2=false then some (false,a.1)else
   (((a.1.shp x).sizeO zr a.1).map fun p=>(true,{p.2 with size:=e2 x p.1 p.2.size}.black x))
def Ci(rec:Int->bB->Option (T×bB))(v:Int)(c:bB):Option (T×bB):=(rt c v).bind fun p=>rec p.1 p.2
def q2:Nat->Int->bB->Option (T×bB)
 |0,_,_=>none
 |n+1,x,c=>match tg x c.full with
  |some t=>some (t,c)
  |none=>if c.shd x=false then some (.var x,{c with full:=e2 x (.var x) c.full})else
   ((c.shp x).mapO (Ci (q2 n)) c).map fun p=>(p.1,{p.2 with full:=e2 x p.1 p.2.full})
def tk(n:Nat):List Int->bB->List Int->Option (Option (List Int)×bB)
 |[],c,out=>some (some out,c)
 |v::a7,c,out=>(rt c v).bind fun p=>(q3 n p.1 p.2).bind fun q=>if q.1=false then some (none,q.2)else
   if p.1=v/\q.2.shd p.1=false then tk n a7 q.2 out else
   if 5000<q.2.sz p.1\/400<out.length+1 then some (none,q.2)else tk n a7 q.2 (out++[v])
def zs(n:Nat):List Int->bB->Option (List ai×bB)
 |[],c=>some ([],c)
 |v::a7,c=>(rt c v).bind fun p=>(q2 n p.1 p.2).bind fun q=>(zs n a7 q.2).map fun r=>(⟨v,q.1⟩::r.1,r.2)
def E5(n:Nat)(a7:List Int)(c:bB):Option (Option (List ai)):=(tk n a7 c []).bind fun a=>match a.1 with
 |none=>some none
 |some out=>(zs n out a.2).map fun r=>some r.1
def qD(n:Nat):List (T×T)->bB->Option (Bool×bB)
 |[],c=>some (true,c)
 |e::es,c=>(Bk e.1 c).bind fun b0=>(Bk e.2 b0).bind fun cu=>(gM n e.1 e.2 cu).bind fun p=>if p.1=true then qD n es p.2 else some (false,p.2)
theorem mu.rank{c:bB}{ρ:Int->Int}(h:mu c ρ):∃r:Int->Nat,∀z u,jq c.ph ρ z u->r u<r z:=by
 obtain⟨θ,gb⟩:=h.sat
 exact⟨fun z=>(θ z).size,fun z u he=>Jj h.sh gb he⟩
structure uR (V:List Int) (ph:Int->Option T) (ρ:Int->Int) (c:bB):Prop where
 ru:jX c.up ρ
 keys:cC c.up=V
 ph:c.ph=ph
theorem uR.sm{V:List Int}{ph:Int->Option T}{ρ:Int->Int}{c cq:bB}(h:uR V ph ρ c)(k:ja ρ c cq):uR V ph ρ cq:=⟨k.ru,k.keys.trans h.keys,k.ph.trans h.ph⟩
def cut(n:Nat):Int:=if 5001<(n:Int)then 5001 else n
section
variable {V:List Int} {ph:Int->Option T} {ρ:Int->Int} {r:Int->Nat}
theorem aoV(Fv:Int->T):∀(t:T) (c:bB),uR V ph ρ c->(∀w,t.occ w=true->w∈V/\c.sz (ρ w)=cut (Fv w).size)->∃cq,t.sizeO zr c=some (cut (t.ap Fv).size,cq)/\ja ρ c cq:=by
 intro t;induction t with
 |var v=>
  intro c h aH;obtain⟨ay,ba⟩:=aH v (by simp[T.occ]);obtain⟨b0,J,U⟩:=uF h.ru (by rw[h.keys];exact ay:v∈cC c.up);refine⟨b0,?_,U⟩;have:b0.sz (ρ v)=cut (Fv v).size:=by rw[<-ba,U.eq];rfl
  simp only[T.sizeO,zr,J,oq,this,T.ap,dE,jU,and_true];unfold cut;split<;>omega
 |pair a b dJ dK=>
  intro c h aH;obtain⟨b0,J,aP⟩:=dJ c h fun w hw=>aH w (by simp[T.occ,hw]);obtain⟨cu,U,bd⟩:=dK b0 (h.sm aP) fun w hw=>⟨(aH w (by simp[T.occ,hw])).1,by rw[<-(aH w (by simp[T.occ,hw])).2,aP.eq];rfl⟩;have ab:=T.size_pos (b.ap Fv);simp only[T.sizeO,J,ij,T.ap,T.size];by_cases ar:5000<cut (a.ap Fv).size
  ·rw[if_pos ar];refine⟨b0,?_,aP⟩;simp only[dE,jU,and_true];unfold cut at ar⊢;split at ar<;>split<;>(try split)<;>omega
  ·rw[if_neg ar,U];refine⟨cu,?_,aP.trans bd⟩;simp only[oq,dE,jU,and_true];unfold cut at ar⊢;split at ar<;>(repeat' split)<;>omega
 |_=>intro c h aH;exact⟨c,by simp[T.sizeO,T.ap,T.size,cut],ja.refl h.ru⟩
structure rb (V:List Int) (ph:Int->Option T) (ρ:Int->Int) (r:Int->Nat) (d:Nat) (c:bB):Prop where
 fin:uR V ph ρ c
 col:∀z,r z<d->c.col z=0\/(c.col z=2/\c.sz z=cut (hh ph ρ r z).size)
structure nH (ph:Int->Option T) (ρ:Int->Int) (r:Int->Nat) (d:Nat) (c cq:bB):Prop where
 full:cq.full=c.full
 hi:∀z,d<=r z->cq.col z=c.col z/\cq.sz z=c.sz z
 lo:∀z,c.col z=2->cq.col z=2/\cq.sz z=c.sz z
theorem nH.refl{c:bB}{d:Nat}:nH ph ρ r d c c:=⟨rfl,fun _ _=>⟨rfl,rfl⟩,fun _ h=>⟨h,rfl⟩⟩
theorem nH.trans{a b c:bB}{d:Nat}(h:nH ph ρ r d a b)(k:nH ph ρ r d b c):nH ph ρ r d a c:=⟨k.full.trans h.full,fun z ba=>⟨(k.hi z ba).1.trans (h.hi z ba).1,(k.hi z ba).2.trans (h.hi z ba).2⟩,fun z ba=>⟨(k.lo z (h.lo z ba).1).1,(k.lo z (h.lo z ba).1).2.trans (h.lo z ba).2⟩⟩
theorem nH.mono{a b:bB}{d cn:Nat}(aF:d<=cn)(h:nH ph ρ r d a b):nH ph ρ r cn a b:=⟨h.full,fun z ba=>h.hi z Ω,h.lo⟩
theorem nH.sm{c cq:bB}{d:Nat}(k:ja ρ c cq):nH ph ρ r d c cq:=by
 have aq:∀z,cq.col z=c.col z:=fun z=>by rw[k.eq];rfl
 have aG:∀z,cq.sz z=c.sz z:=fun z=>by rw[k.eq];rfl
 exact⟨k.rest.2.2,fun z _=>⟨aq z,aG z⟩,fun z h=>⟨by rw[aq];exact h,aG z⟩⟩
theorem rb.sm{c cq:bB}{d:Nat}(h:rb V ph ρ r d c)(k:ja ρ c cq):rb V ph ρ r d cq:=by
 have aq:∀z,cq.col z=c.col z:=fun z=>by rw[k.eq];rfl
 have aG:∀z,cq.sz z=c.sz z:=fun z=>by rw[k.eq];rfl
 exact⟨h.fin.sm k,fun z ba=>by rw[aq,aG];exact h.col z ba⟩
theorem aqN(gV:o8 V ph)(e4:∀v,ρ (ρ v)=ρ v)(aK:∀z u,jq ph ρ z u->r u<r z)(d:Nat):∀(x:Int) (c:bB),r x<d->ρ x=x->x∈V->rb V ph ρ r d c->
  ∃N cq,(∀n,N<=n->q3 n x c=some (true,cq))/\rb V ph ρ r d cq/\nH ph ρ r (r x+1) c cq/\cq.col x=2/\cq.sz x=cut (hh ph ρ r x).size:=by
 induction d using qA with
 |ind d bR=>
 intro x c aF ad gN hw;rcases hw.col x aF with bE|⟨U,ao⟩;rotate_left
 ·refine⟨1,c,fun n au=>?_,hw,nH.refl,U,ao⟩;obtain⟨n',rfl⟩:∃n',n=n'+1:=⟨n-1,Ω⟩;simp only[q3,if_pos U]
 have yi:∀z,(c.grey x).col z=if z=x then 1 else c.col z:=fun z=>by simp only[bB.grey,bB.col,oc];split<;>rfl
 have C4:∀z,(c.grey x).sz z=if z=x then 1 else c.sz z:=fun z=>by simp only[bB.grey,bB.sz,oc];split<;>rfl
 have Au:uR V ph ρ (c.grey x):=⟨hw.fin.ru,hw.fin.keys,hw.fin.ph⟩;have ajf:rb V ph ρ r (r x) (c.grey x):=⟨Au,fun z ba=>by
  have cK:z≠x:=fun e=>by subst e;omega
  rw[yi,C4,if_neg cK,if_neg cK];exact hw.col z Ω⟩
 have qg:¬c.col x=2:=Ω
 have qf:¬c.col x=1:=Ω
 have fm:∀(e:bB) (z:Int),(e.black x).col z=(if z=x then 2 else e.col z):=fun e z=>by simp only[bB.black,bB.col,oc];split<;>rfl
 by_cases ag:(c.grey x).shd x=false
 ·have jM:ph x=none:=by rw[<-Au.ph];exact BE ag
  have aX:hh ph ρ r x= .var x:=by rw[C3 (by rw[ad];exact jM),ad]
  have ep:∀z,((c.grey x).black x).sz z=if z=x then 1 else c.sz z:=C4
  refine⟨1,(c.grey x).black x,fun n au=>?_,⟨⟨Au.ru,Au.keys,Au.ph⟩,fun z ba=>?_⟩,⟨rfl,fun z ba=>?_,fun z ba=>?_⟩,?_,?_⟩
  ·obtain⟨n',rfl⟩:∃n',n=n'+1:=⟨n-1,Ω⟩;simp only[q3,if_neg qg,if_neg qf,if_pos ag]
  ·rw[fm,ep,yi];by_cases e:z=x
   ·subst e;simp only[if_true,aX];exact .inr ⟨trivial,by simp[T.size,cut]⟩
   ·simp only[if_neg e];exact hw.col z ba
  ·have e:z≠x:=fun e=>by subst e;omega
   rw[fm,ep,yi];simp only[if_neg e];exact⟨trivial,trivial⟩
  ·have e:z≠x:=fun e=>by subst e;omega
   rw[fm,ep,yi];simp only[if_neg e];exact⟨ba,trivial⟩
  ·rw[fm,if_pos rfl]
  ·rw[ep,if_pos rfl,aX];simp[T.size,cut]
 ·have jM:ph x=some ((c.grey x).shp x):=by rw[<-Au.ph];exact BF ag
  obtain⟨g1,g2,g3⟩:=gV _ _ jM;have ahX:∀(t:T) (e:bB),(∀w,t.occ w=true->((c.grey x).shp x).occ w=true)->rb V ph ρ r (r x) e->∃N fF,(∀n,N<=n->t.foldO (zE (q3 n)) (e,true)=some (fF,true))/\rb V ph ρ r (r x) fF/\nH ph ρ r (r x) e fF/\∀w,t.occ w=true->fF.col (ρ w)=2/\fF.sz (ρ w)=cut (hh ph ρ r w).size:=by
   intro t;induction t with
   |var v=>intro e mH he;have ay:=g2 v (mH v (by simp[T.occ]));have wU:r (ρ v)<r x:=aK x (ρ v) ⟨ad,_,v,jM,mH v (by simp[T.occ]),rfl⟩;obtain⟨aq,a1,aP⟩:=uF he.fin.ru (by rw[he.fin.keys];exact ay:v∈cC e.up);obtain⟨N,aG,bp,ee,dv,cu,s2⟩:=bR (r x) aF (ρ v) aq wU (e4 v) (by rw[<-he.fin.keys];exact(he.fin.ru.mem (by rw[he.fin.keys];exact ay)).1) (he.sm aP);refine⟨N,aG,fun n au=>by simp[T.foldO,zE,a1,bp n au],ee,(nH.sm aP).trans (dv.mono Ω),fun w hw=>?_⟩;simp[T.occ]at hw;subst hw;exact⟨cu,by rw[s2,<-Av e4]⟩
   |pair a b dJ dK=>
    intro e mH he;obtain⟨hZ,aq,a1,fx,c1,s1⟩:=dJ e (fun w hw=>mH w (by simp[T.occ,hw])) he;obtain⟨jt,aG,bp,ee,dv,s2⟩:=dK aq (fun w hw=>mH w (by simp[T.occ,hw])) fx;refine⟨max hZ jt,aG,fun n au=>by simp only[T.foldO];rw[a1 n Ω];exact bp n Ω,ee,c1.trans dv,fun w hw=>?_⟩;simp only[T.occ,k6]at hw;rcases hw with hw|hw
    ·obtain⟨lD,z2⟩:=s1 w hw;exact⟨(dv.lo _ lD).1,by rw[(dv.lo _ lD).2];exact z2⟩
    ·exact s2 w hw
   |_=>intro e _ he;exact⟨0,e,fun n _=>rfl,he,nH.refl,fun w hw=>by simp[T.occ]at hw⟩
  obtain⟨N,e,a1,fx,c1,s1⟩:=ahX ((c.grey x).shp x) (c.grey x) (fun w h=>h) ajf;have aiX:e.shp x=(c.grey x).shp x:=by
   have J:e.ph x=some ((c.grey x).shp x):=by rw[fx.fin.ph];exact jM
   unfold bB.ph at J;split at J
   ·exact eH J
   ·cases J
  obtain⟨aG,bp,bd⟩:=aoV (V:=V) (ph:=ph) (ρ:=ρ) (hh ph ρ r) ((c.grey x).shp x) e fx.fin (fun w hw=>⟨g2 w hw,(s1 w hw).2⟩);have nV:hh ph ρ r x=((c.grey x).shp x).ap (hh ph ρ r):=Aw e4 aK (by rw[ad];exact jM);have Hd:=c1.trans (nH.sm (ph:=ph) (r:=r) (d:=r x) bd);have ee:=fx.sm bd;let bG:bB:={aG with size:=e2 x (cut (hh ph ρ r x).size) aG.size}.black x
  have dg:∀z,bG.col z=if z=x then 2 else aG.col z:=fun z=>fm _ z
  have s3:∀z,bG.sz z=if z=x then cut (hh ph ρ r x).size else aG.sz z:=fun z=>by show(tg z (e2 x _ aG.size)).getD 0=_;rw[oc];split<;>rfl
  refine⟨N+1,bG,fun n au=>?_,⟨⟨ee.fin.ru,ee.fin.keys,ee.fin.ph⟩,fun z ba=>?_⟩,⟨Hd.full,fun z ba=>?_,fun z ba=>?_⟩,by rw[dg,if_pos rfl],by rw[s3,if_pos rfl]⟩
  ·obtain⟨n',rfl⟩:∃n',n=n'+1:=⟨n-1,Ω⟩;simp only[q3,if_neg qg,if_neg qf,if_neg ag,a1 n' Ω,ij,Bool.true_eq_false,if_false,aiX,bp,oq,nV,bG]
  ·rw[dg,s3];by_cases oB:z=x
   ·subst oB;simp only[if_true];exact .inr ⟨trivial,trivial⟩
   ·simp only[if_neg oB];by_cases bz:r z<r x
    ·exact ee.col z bz
    ·obtain⟨bC,a2⟩:=Hd.hi z Ω;rw[bC,a2,yi,C4,if_neg oB,if_neg oB];exact hw.col z ba
  ·have oB:z≠x:=fun e=>by subst e;omega
   obtain⟨bC,a2⟩:=Hd.hi z Ω;rw[dg,s3,if_neg oB,if_neg oB,bC,a2,yi,C4,if_neg oB,if_neg oB];exact⟨rfl,rfl⟩
  ·have oB:z≠x:=fun e=>by subst e;omega
   obtain⟨bC,a2⟩:=Hd.lo z (by rw[yi,if_neg oB];exact ba);rw[dg,s3,if_neg oB,if_neg oB,bC,a2,C4,if_neg oB];exact⟨rfl,rfl⟩
structure r9 (V:List Int) (ph:Int->Option T) (ρ:Int->Int) (r:Int->Nat) (c:bB):Prop where
 fin:uR V ph ρ c
 full:∀x t,tg x c.full=some t->t=hh ph ρ r x
theorem r9.sm{c cq:bB}(h:r9 V ph ρ r c)(k:ja ρ c cq):r9 V ph ρ r cq:=⟨h.fin.sm k,by rw[k.rest.2.2];exact h.full⟩
theorem aqL(gV:o8 V ph)(e4:∀v,ρ (ρ v)=ρ v)(aK:∀z u,jq ph ρ z u->r u<r z)(d:Nat):∀(x:Int) (c:bB),r x<d->ρ x=x->x∈V->r9 V ph ρ r c->
  ∃N cq,(∀n,N<=n->q2 n x c=some (hh ph ρ r x,cq))/\r9 V ph ρ r cq:=by
 induction d with
 |zero=>intro x c h;omega
 |succ d bR=>
 intro x c aF ad gN ay;cases aQ:tg x c.full with
 |some t=>refine⟨1,c,fun n au=>?_,ay⟩;obtain⟨n',rfl⟩:∃n',n=n'+1:=⟨n-1,Ω⟩;simp only[q2,aQ,ay.full x t aQ]
 |none=>
  have Vw:∀(e:bB),r9 V ph ρ r e->r9 V ph ρ r {e with full:=e2 x (hh ph ρ r x) e.full}:=fun e he=>⟨⟨he.fin.ru,he.fin.keys,he.fin.ph⟩,fun z t ba=>by
   have sR:tg z (e2 x (hh ph ρ r x) e.full)=some t:=ba;rw[oc]at sR;split at sR
   ·rename_i e;subst e;cases sR;rfl
   ·exact he.full z t sR⟩
  by_cases ag:c.shd x=false
  ·have jM:ph x=none:=by rw[<-ay.fin.ph];exact BE ag
   have aX:hh ph ρ r x= .var x:=by rw[C3 (by rw[ad];exact jM),ad]
   refine⟨1,_,fun n au=>?_,Vw c ay⟩;obtain⟨n',rfl⟩:∃n',n=n'+1:=⟨n-1,Ω⟩;simp only[q2,aQ,if_pos ag,aX]
  ·have jM:ph x=some (c.shp x):=by rw[<-ay.fin.ph];exact BF ag
   obtain⟨g1,g2,g3⟩:=gV _ _ jM;have air:∀(t:T) (e:bB),(∀w,t.occ w=true->(c.shp x).occ w=true)->r9 V ph ρ r e->∃N fF,(∀n,N<=n->t.mapO (Ci (q2 n)) e=some (t.ap (hh ph ρ r),fF))/\r9 V ph ρ r fF:=by
    intro t;induction t with
    |var v=>intro e mH he;have wY:=g2 v (mH v (by simp[T.occ]));have wU:r (ρ v)<r x:=aK x (ρ v) ⟨ad,_,v,jM,mH v (by simp[T.occ]),rfl⟩;obtain⟨aq,a1,aP⟩:=uF he.fin.ru (by rw[he.fin.keys];exact wY:v∈cC e.up);obtain⟨N,aG,bp,ee⟩:=bR (ρ v) aq Ω (e4 v) (by rw[<-he.fin.keys];exact(he.fin.ru.mem (by rw[he.fin.keys];exact wY)).1) (he.sm aP);exact⟨N,aG,fun n au=>by simp only[T.mapO,Ci,a1,ij,bp n au,T.ap];rw[<-Av e4],ee⟩
    |pair a b dJ dK=>intro e mH he;obtain⟨hZ,aq,a1,fx⟩:=dJ e (fun w hw=>mH w (by simp[T.occ,hw])) he;obtain⟨jt,aG,bp,ee⟩:=dK aq (fun w hw=>mH w (by simp[T.occ,hw])) fx;exact⟨max hZ jt,aG,fun n au=>by simp only[T.mapO,a1 n Ω,ij,bp n Ω,oq,T.ap],ee⟩
    |_=>intro e _ he;exact⟨0,e,fun n _=>rfl,he⟩
   obtain⟨N,e,a1,fx⟩:=air (c.shp x) c (fun w h=>h) ay;have nV:hh ph ρ r x=(c.shp x).ap (hh ph ρ r):=Aw e4 aK (by rw[ad];exact jM);refine⟨N+1,_,fun n au=>?_,Vw e fx⟩;obtain⟨n',rfl⟩:∃n',n=n'+1:=⟨n-1,Ω⟩;simp only[q2,aQ,if_neg ag,a1 n' Ω,oq,nV]
def oz(ph:Int->Option T)(ρ:Int->Int)(v:Int):Bool:= !(decide (ρ v=v)&&(ph v).isNone)
theorem aoY(gV:o8 V ph)(e4:∀v,ρ (ρ v)=ρ v)(aK:∀z u,jq ph ρ z u->r u<r z)(j0:∀v∈V,ρ v∈V):∀(a7:List Int) (c:bB) (out:List Int),(∀v∈a7,v∈V)->(∀d,rb V ph ρ r d c)->out.length<=400->(∀v∈out,(hh ph ρ r v).size<=5000)->
  ∃N cq o,(∀n,N<=n->tk n a7 c out=some (o,cq))/\uR V ph ρ cq/\cq.full=c.full/\(∀l,o=some l->l=out++a7.filter (oz ph ρ)/\l.length<=400/\∀v∈l,(hh ph ρ r v).size<=5000)/\(o=none->¬((out++a7.filter (oz ph ρ)).length<=400/\∀v∈out++a7.filter (oz ph ρ),(hh ph ρ r v).size<=5000)):=by
 intro a7;induction a7 with
 |nil=>intro c out _ hw J U;exact⟨0,c,some out,fun n _=>rfl,(hw 0).fin,rfl,fun l e=>by cases e;simp;exact⟨J,U⟩,fun e=>by cases e⟩
 |cons v a7 bR=>
  intro c out ay hw J U;have wY:=ay v Ψ;obtain⟨b0,a1,aP⟩:=uF (hw 0).fin.ru (by rw[(hw 0).fin.keys];exact wY:v∈cC c.up);have Ht:∀d,rb V ph ρ r d b0:=fun d=>(hw d).sm aP;obtain⟨hZ,cu,bp,ee,dv,aG,s2⟩:=aqN gV e4 aK (r (ρ v)+1) (ρ v) b0 Ω (e4 v) (j0 v wY) (Ht _);have pD:∀d,rb V ph ρ r d cu:=fun d=>⟨ee.fin,fun z ba=>by
   by_cases bz:r z<r (ρ v)+1
   ·exact ee.col z bz
   ·obtain⟨bC,a2⟩:=dv.hi z Ω;rw[bC,a2];exact(Ht d).col z ba⟩
  have LS:cu.full=c.full:=dv.full.trans aP.rest.2.2;have VC:(cu.shd (ρ v)=false)=((ph (ρ v)).isNone=true):=by rw[<-ee.fin.ph];unfold bB.ph;cases cu.shd (ρ v)<;>simp
  have h2:∀n,hZ<=n->tk n (v::a7) c out=(if ρ v=v/\cu.shd (ρ v)=false then tk n a7 cu out else if 5000<cu.sz (ρ v)\/400<out.length+1 then some (none,cu)else tk n a7 cu (out++[v])):=fun n au=>by simp only[tk,a1,ij,bp n au,Bool.true_eq_false,if_false]
  have U4:hh ph ρ r (ρ v)=hh ph ρ r v:=(Av e4 v).symm;by_cases ar:ρ v=v/\cu.shd (ρ v)=false
  ·have ab:oz ph ρ v=false:=by have ao:=ar.2;rw[VC]at ao;rw[ar.1]at ao;simp[oz,ar.1,ao]
   obtain⟨jt,dg,o,bV,f3,q1,JB,jB⟩:=bR cu out (fun w hw=>ay w (by simp[hw])) pD J U;refine⟨max hZ jt,dg,o,fun n au=>by rw[h2 n Ω,if_pos ar];exact bV n Ω,f3,q1.trans LS,?_,?_⟩
   ·simp only[List.filter_cons,ab,gZ,if_false];exact JB
   ·simp only[List.filter_cons,ab,gZ,if_false];exact jB
  ·have ab:oz ph ρ v=true:=by
    cases e:oz ph ρ v with
    |true=>rfl
    |false=>simp only[oz,Bool.not_eq_false',cr,en]at e;exact absurd ⟨e.1,by rw[VC,e.1];exact e.2⟩ ar
   by_cases av:5000<cu.sz (ρ v)\/400<out.length+1
   ·refine⟨hZ,cu,none,fun n au=>by rw[h2 n au,if_neg ar,if_pos av],ee.fin,LS,(fun l e=>by cases e),fun _=>?_⟩;simp only[List.filter_cons,ab,if_true];rintro⟨bC,a2⟩;rcases av with av|av
    ·rw[s2,U4]at av;have:=a2 v Ψ;unfold cut at av;split at av<;>omega
    ·simp at bC;omega
   ·have ba:(hh ph ρ r v).size<=5000:=by have:¬5000<cu.sz (ρ v):=fun h=>av (.inl h);rw[s2,U4]at this;unfold cut at this;split at this<;>omega
    obtain⟨jt,dg,o,bV,f3,q1,JB,jB⟩:=bR cu (out++[v]) (fun w hw=>ay w (by simp[hw])) pD (by simp;omega) (fun w hw=>by
     rcases iz.1 hw with hw|hw
     ·exact U w hw
     ·simp at hw;subst hw;exact ba)
    refine⟨max hZ jt,dg,o,fun n au=>by rw[h2 n Ω,if_neg ar,if_neg av];exact bV n Ω,f3,q1.trans LS,?_,?_⟩
    ·simp only[List.filter_cons,ab,if_true];simpa using JB
    ·simp only[List.filter_cons,ab,if_true];simpa using jB
theorem aoZ(gV:o8 V ph)(e4:∀v,ρ (ρ v)=ρ v)(aK:∀z u,jq ph ρ z u->r u<r z)(j0:∀v∈V,ρ v∈V):∀(a7:List Int) (c:bB),(∀v∈a7,v∈V)->r9 V ph ρ r c->∃N cq,∀n,N<=n->zs n a7 c=some (a7.map fun v=>⟨v,hh ph ρ r v⟩,cq):=by
 intro a7;induction a7 with
 |nil=>intro c _ _;exact⟨0,c,fun n _=>rfl⟩
 |cons v a7 bR=>intro c ay hw;have wY:=ay v Ψ;obtain⟨b0,a1,aP⟩:=uF hw.fin.ru (by rw[hw.fin.keys];exact wY:v∈cC c.up);obtain⟨hZ,cu,bp,ee⟩:=aqL gV e4 aK (r (ρ v)+1) (ρ v) b0 Ω (e4 v) (j0 v wY) (hw.sm aP);obtain⟨jt,dg,bV⟩:=bR cu (fun w hw=>ay w (by simp[hw])) ee;refine⟨max hZ jt,dg,fun n au=>?_⟩;simp only[zs,a1,ij,bp n Ω,bV n Ω,oq,ht];rw[<-Av e4]
end
end
section
open Go
def bB.new:bB:=⟨[],[],[],[],[],[]⟩
def rT(l:List Int):List Int:=l.mergeSort fun x y=>decide (x<=y)
def B2(n:Nat)(E:List (T×T)):Option (Option (List ai)):=(qD n E bB.new).bind fun p=>if p.1=false then some none else E5 n (rT (cC p.2.up)) p.2
theorem E8(l:List Int):(rT l).Perm l:=List.mergeSort_perm l _
theorem apd{l:List Int}(h:l.Nodup):(rT l).Pairwise (· < ·):=by have J:(rT l).Pairwise fun x y=>decide (x<=y)=true:=List.pairwise_mergeSort (fun a b c=>by simp;omega) (fun a b=>by simp;omega) l;have U:(rT l).Pairwise (· ≠ ·):=List.nodup_iff_pairwise_ne.1 ((E8 l).nodup_iff.2 h);exact(J.and U).imp fun h=>by simp at h;omega
structure abn (c:bB) (ρ:Int->Int) (cq:bB) (XA:Int->Prop):Prop where
 inv:mu cq ρ
 ph:cq.ph=c.ph
 nd:(cC cq.up).Nodup
 sub:∀v∈cC c.up,v∈cC cq.up
 occ:∀v,XA v->v∈cC cq.up
 rest:cq.color=c.color/\cq.size=c.size/\cq.full=c.full
 new:∀v∈cC cq.up,v∈cC c.up\/XA v
theorem W8{ρ:Int->Int}(t:T):∀(c:bB),mu c ρ->(cC c.up).Nodup->(∀v,t.occ v=true->0<=v)->∃cq,Bk t c=some cq/\abn c ρ cq fun v=>t.occ v=true:=by
 unfold Bk;induction t with
 |var v=>
  intro c hi au bE;by_cases ay:v∈cC c.up
  ·obtain⟨b0,a1,aP⟩:=uF hi.ru ay;refine⟨b0,by simp[T.foldO,a1],hi.sm aP,aP.ph,by rw[aP.keys];exact au,fun w hw=>by rw[aP.keys];exact hw,fun w hw=>?_,aP.rest,fun w hw=>.inl (by rw[aP.keys]at hw;exact hw)⟩;simp[T.occ]at hw;subst hw;rw[aP.keys];exact ay
  ·obtain⟨a1,bp,bV⟩:=aoA hi.ru (bE v (by simp[T.occ])) ay;refine⟨{c with up:=e2 v v c.up},by simp only[T.foldO,a1,oq],⟨bp,?_,hi.sat⟩,rfl,?_,fun w hw=>by rw[bV];simp[hw],fun w hw=>?_,⟨rfl,rfl,rfl⟩,fun w hw=>?_⟩
   ·intro x u ad;obtain⟨bC,a2,a3⟩:=hi.sh x u ad;refine⟨bC,fun w hw=>?_,?_⟩
    ·show w∈cC (e2 v v c.up);rw[bV];simp[a2 w hw]
    ·show x∈cC (e2 v v c.up);rw[bV];simp[a3]
   ·rw[bV];rw[List.nodup_append];exact⟨au,Ψ,fun a bm b ab e=>by simp at ab;subst ab;subst e;exact ay bm⟩
   ·simp[T.occ]at hw;subst hw;rw[bV];simp
   ·rw[bV]at hw;simp at hw;rcases hw with hw|rfl;exact .inl hw;exact .inr (by simp[T.occ])
 |pair a b dJ dK=>
  intro c hi au bE;obtain⟨b0,a1,m1⟩:=dJ c hi au fun v ay=>bE v (by simp[T.occ,ay]);obtain⟨cu,bp,m2⟩:=dK b0 m1.inv m1.nd fun v ay=>bE v (by simp[T.occ,ay]);refine⟨cu,by simp only[T.foldO,a1,ij,bp],m2.inv,m2.ph.trans m1.ph,m2.nd,fun v ay=>m2.sub v (m1.sub v ay),fun v ay=>?_,?_,fun v ay=>?_⟩
  ·simp only[T.occ,k6]at ay;rcases ay with ay|ay
   ·exact m2.sub v (m1.occ v ay)
   ·exact m2.occ v ay
  ·rw[m2.rest.1,m2.rest.2.1,m2.rest.2.2];exact m1.rest
  ·rcases m2.new v ay with h|h
   ·rcases m1.new v h with h|h
    ·exact .inl h
    ·exact .inr (by simp[T.occ,h])
   ·exact .inr (by simp[T.occ,h])
 |_=>intro c hi au bE;exact⟨c,rfl,hi,rfl,au,fun v ay=>ay,fun v ay=>by simp[T.occ]at ay,⟨rfl,rfl,rfl⟩,fun v ay=>.inl ay⟩
def ND(E:List (T×T)):Prop:= ∀e∈E,∀v,(e.1.occ v=true\/e.2.occ v=true)->0<=v
theorem CP:∀(E:List (T×T)) (c:bB) (ρ:Int->Int),mu c ρ->(cC c.up).Nodup->ND E->∃N o,(∀n,N<=n->qD n E c=some o)/\((o.2.color=c.color/\o.2.size=c.size/\o.2.full=c.full)/\∀v∈cC o.2.up,v∈cC c.up\/ ∃e∈E,e.1.occ v=true\/e.2.occ v=true)/\(o.1=true->∃ρ',mu o.2 ρ'/\(cC o.2.up).Nodup/\∀θ,kt o.2.ph ρ' θ↔kt c.ph ρ θ/\il E θ)/\(o.1=false->∀θ,kt c.ph ρ θ->¬il E θ):=by
 intro E;induction E with
 |nil=>intro c ρ hi au _;exact⟨0,(true,c),fun n _=>rfl,⟨⟨rfl,rfl,rfl⟩,fun v ay=>.inl ay⟩,fun _=>⟨ρ,hi,au,fun θ=>⟨fun h=>⟨h,E7 θ⟩,fun h=>h.1⟩⟩,fun e=>by cases e⟩
 |cons e E bR=>
  intro c ρ hi au bE;obtain⟨b0,a1,m1⟩:=W8 e.1 c hi au fun v ay=>bE e Ψ v (.inl ay);obtain⟨cu,bp,m2⟩:=W8 e.2 b0 m1.inv m1.nd fun v ay=>bE e Ψ v (.inr ay);obtain⟨lE,vw⟩:=m2.inv.sat
  obtain⟨hZ,gW,bV,jj⟩:=adf _ _ cu ρ e.1 e.2 lE m2.inv vw (fun w hw=>m2.sub w (m1.occ w hw)) (fun w hw=>m2.occ w hw) rfl rfl;have jM:cu.ph=c.ph:=m2.ph.trans m1.ph;have l9:gW.2.color=c.color/\gW.2.size=c.size/\gW.2.full=c.full:=by rw[jj.rest.1,jj.rest.2.1,jj.rest.2.2,m2.rest.1,m2.rest.2.1,m2.rest.2.2];exact m1.rest
  have G7:∀v∈cC gW.2.up,v∈cC c.up\/e.1.occ v=true\/e.2.occ v=true:=fun v ay=>by
   rw[jj.keys]at ay;rcases m2.new v ay with h|h
   ·rcases m1.new v h with h|h
    ·exact .inl h
    ·exact .inr (.inl h)
   ·exact .inr (.inr h)
  obtain⟨f,dg⟩:=gW;cases f with
  |false=>refine⟨hZ,(false,dg),fun n au=>?_,⟨l9,fun v ay=>(G7 v ay).imp id fun h=>⟨e,Ψ,h⟩⟩,(fun e=>by cases e),fun _ θ ag he=>jj.no rfl θ (by rw[jM];exact ag) (rR.1 he).1⟩;simp only[qD,a1,bp,ij,bV n au,gZ,if_false]
  |true=>
   obtain⟨lW,bC,a2,_⟩:=jj.yes rfl;simp only at bC a2;obtain⟨jt,gR,cg,cc,gq,u2⟩:=bR dg lW bC (by have:=jj.keys;simp only at this;rw[this];exact m2.nd) fun fF he=>bE fF (by simp[he]);refine⟨max hZ jt,gR,fun n au=>?_,?_,fun aQ=>?_,fun aQ θ ag he=>?_⟩
   ·simp only[qD,a1,bp,ij,bV n Ω,if_true];exact cg n Ω
   ·refine⟨by rw[cc.1.1,cc.1.2.1,cc.1.2.2];exact l9,fun v ay=>?_⟩;rcases cc.2 v ay with h|⟨fF,J,U⟩
    ·exact(G7 v h).imp id fun h=>⟨e,Ψ,h⟩
    ·exact .inr ⟨fF,by simp[J],U⟩
   ·obtain⟨ρ2,d1,d2,d3⟩:=gq aQ;exact⟨ρ2,d1,d2,fun θ=>by rw[d3 θ,a2 θ,jM,rR,and_assoc]⟩
   ·exact u2 aQ θ ((a2 θ).2 ⟨by rw[jM];exact ag,(rR.1 he).1⟩) (rR.1 he).2
theorem FV{ph:Int->Option T}{ρ:Int->Int}{v:Int}:oz ph ρ v=false↔ρ v=v/\ph v=none:=by simp[oz]
theorem Uu{ph:Int->Option T}{ρ:Int->Int}{r:Int->Nat}(e4:∀v,ρ (ρ v)=ρ v):∀(n:Nat) (v w:Int),(nK ph ρ n v).occ w=true->(∀z u,jq ph ρ z u->r u<r z)->r (ρ v)<n->ρ w=w/\ph w=none
 |0,v,w,_,_,h=>Ω
 |n+1,v,w,h,aK,au=>by
  simp only[nK]at h;cases e:ph (ρ v)with
  |none=>rw[e]at h;simp[T.occ]at h;subst h;exact⟨e4 v,e⟩
  |some t=>rw[e]at h;obtain⟨u,J,U⟩:=Bu.1 h;have:=aK (ρ v) (ρ u) ⟨e4 v,t,u,e,J,rfl⟩;exact Uu e4 n u w U aK Ω
section
variable {V:List Int} {ph:Int->Option T} {ρ:Int->Int} {r:Int->Nat}
def uG(ph:Int->Option T)(ρ:Int->Int)(r:Int->Nat)(V:List Int):List ai:=((rT V).filter (oz ph ρ)).map fun v=>⟨v,hh ph ρ r v⟩
theorem O8(au:V.Nodup):hf (uG ph ρ r V):=by unfold uG;rw[hf,List.pairwise_map];exact((apd au).filter _)
theorem ZG(au:V.Nodup)(gV:o8 V ph)(cB:∀v,v∉V->ρ v=v)(v:Int):df (uG ph ρ r V) v=if oz ph ρ v then some (hh ph ρ r v)else none:=by
 by_cases ab:oz ph ρ v=true
 ·rw[if_pos ab];have ay:v∈V:=by
   refine Classical.byContradiction fun h=>?_;have J:=cB v h;have U:ph v=none:=by cases e:ph v with
    |none=>rfl
    |some t=>exact absurd (gV v t e).2.2 h
   rw[FV.2 ⟨J,U⟩]at ab;cases ab
  have:(⟨v,hh ph ρ r v⟩:ai)∈uG ph ρ r V:=hG.2 ⟨v,iL.2 ⟨(E8 V).mem_iff.2 ay,ab⟩,rfl⟩;exact sb (O8 au) this
 ·rw[if_neg ab];refine wk.2 fun b gk e=>?_;obtain⟨u,J,rfl⟩:=hG.1 gk;simp only at e;subst e;exact ab (iL.1 J).2
theorem ao1(au:V.Nodup)(gV:o8 V ph)(cB:∀v,v∉V->ρ v=v)(e4:∀v,ρ (ρ v)=ρ v)(hle:∀v,ρ v<=v)(aK:∀z u,jq ph ρ z u->r u<r z):eT (uG ph ρ r V):=by
 refine⟨O8 au,fun b ab w hw=>?_,fun b ab w hw=>?_⟩
 ·obtain⟨u,J,rfl⟩:=hG.1 ab;rw[ZG au gV cB];have:=Uu e4 _ u w hw aK Ω;rw[FV.2 this];rfl
 ·obtain⟨u,J,rfl⟩:=hG.1 ab;have pg:=(iL.1 J).2;simp only at hw⊢;cases e:ph (ρ u)with
  |none=>
   rw[C3 e]at hw;cases hw;have U:=hle u;have ao:ρ u≠u:=fun h=>by rw[FV.2 ⟨h,by rw[h]at e;exact e⟩]at pg;cases pg
   omega
  |some t=>rw[Aw e4 aK e]at hw;have:=(gV _ _ e).1;cases t<;>simp[T.ap,T.kind]at hw this
theorem ahi(e4:∀v,ρ (ρ v)=ρ v)(aK:∀z u,jq ph ρ z u->r u<r z)(θ:Int->T):kt ph ρ θ↔∀v,θ v=(hh ph ρ r v).ap θ:=by
 constructor
 ·intro h;have:∀(n:Nat) (v:Int),r (ρ v)<n->θ v=(hh ph ρ r v).ap θ:=by
   intro n;induction n with
   |zero=>intro v h;omega
   |succ n bR=>
    intro v ay;cases e:ph (ρ v)with
    |none=>rw[C3 e];exact h.1 v
    |some t=>rw[Aw e4 aK e,x3,h.1 v,h.2 _ t (e4 v) e];refine p1 fun w hw=>bR w ?_;have:=aK (ρ v) (ρ w) ⟨e4 v,t,w,e,hw,rfl⟩;omega
  exact fun v=>this _ v (Nat.lt_succ_self _)
 ·intro h;refine⟨fun v=>by rw[h v,h (ρ v),<-Av e4],fun x t ad aH=>?_⟩;rw[h x,Aw e4 aK (by rw[ad];exact aH),x3];exact p1 fun w _=>(h w).symm
theorem ao0(au:V.Nodup)(gV:o8 V ph)(cB:∀v,v∉V->ρ v=v)(e4:∀v,ρ (ρ v)=ρ v)(aK:∀z u,jq ph ρ z u->r u<r z)(θ:Int->T):dY (uG ph ρ r V) θ↔kt ph ρ θ:=by
 rw[ahi e4 aK,Pc (O8 au)];refine forall_congr' fun v=>?_;rw[aY,ZG au gV cB];cases e:oz ph ρ v with
 |true=>simp
 |false=>obtain⟨J,U⟩:=FV.1 e;rw[C3 (by rw[J];exact U),J];simp
end
theorem ao8(E:List (T×T))(bE:ND E):∃n o,B2 n E=some o/\jb [] E o/\∀c,qD n E bB.new=some (true,c)->(cC c.up).Nodup/\(∀v∈cC c.up,∃e∈E,e.1.occ v=true\/e.2.occ v=true)/\c.size=[]:=by
 have hi:mu bB.new id:=⟨⟨fun v u h=>by simp[bB.new,tg]at h,fun v _=>rfl⟩,fun x t h=>by simp[bB.new,bB.ph,bB.shd,tg]at h,⟨.var,fun v=>rfl,fun x t _ h=>by simp[bB.new,bB.ph,bB.shd,tg]at h⟩⟩;have tV:∀θ,kt bB.new.ph id θ:=fun θ=>⟨fun v=>rfl,fun x t _ h=>by simp[bB.new,bB.ph,bB.shd,tg]at h⟩;obtain⟨hZ,gW,a1,c1,dv,jj⟩:=CP E bB.new id hi (by simp[bB.new,cC]) bE;obtain⟨c1,X6⟩:=c1;obtain⟨f,c⟩:=gW;cases f with
 |false=>refine⟨hZ,none,by simp[B2,a1 hZ (eu _)],FK fun θ _ he=>jj rfl θ (tV θ) he,fun c h=>?_⟩;rw[a1 hZ (eu _)]at h;cases h
 |true=>
  obtain⟨ρ,bC,a2,a3⟩:=dv rfl;simp only at bC a2 a3 c1 X6;have UZ:∀n,hZ<=n->∀cq,qD n E bB.new=some (true,cq)->(cC cq.up).Nodup/\(∀v∈cC cq.up,∃e∈E,e.1.occ v=true\/e.2.occ v=true)/\cq.size=[]:=fun n au cq h=>by rw[a1 n au]at h;cases h;exact⟨a2,fun v ay=>(X6 v ay).resolve_left (by simp[bB.new,cC]),c1.2.1⟩
  obtain⟨r,aK⟩:=bC.rank;have e4:=bC.ru.idem;have j0:∀v∈cC c.up,ρ v∈cC c.up:=fun v ay=>(bC.ru.mem ay).1;have dz:uR (cC c.up) c.ph ρ c:=⟨bC.ru,rfl,rfl⟩;have hw:∀d,rb (cC c.up) c.ph ρ r d c:=fun d=>⟨dz,fun z _=>.inl (by simp[bB.col,c1.1,bB.new,tg])⟩;obtain⟨jt,cu,o,cg,cc,gq,u2,QC⟩:=aoY bC.sh e4 aK j0 (rT (cC c.up)) c [] (fun v ay=>(E8 _).mem_iff.1 ay) hw Ψ (fun v ay=>by simp at ay);have dy:=ao1 (r:=r) a2 bC.sh bC.ru.no e4 bC.ru.le aK;have iw:∀θ,dY (uG c.ph ρ r (cC c.up)) θ↔dY [] θ/\il E θ:=fun θ=>by rw[ao0 a2 bC.sh bC.ru.no e4 aK,a3 θ];exact⟨fun h=>⟨fun b ab=>by simp at ab,h.2⟩,fun h=>⟨tV θ,h.2⟩⟩
  have U1:fP (uG c.ph ρ r (cC c.up))↔(([]++(rT (cC c.up)).filter (oz c.ph ρ)).length<=400/\∀v∈[]++(rT (cC c.up)).filter (oz c.ph ρ),(hh c.ph ρ r v).size<=5000):=by unfold fP uG;simp only[r5,b4,hG,forall_exists_index,and_imp,forall_apply_eq_imp_iff₂]
  cases o with
  |none=>refine⟨max hZ jt,none,by simp[B2,a1 (max hZ jt) Ω,E5,cg (max hZ jt) Ω],?_,UZ _ Ω⟩;exact fun ah J U ao=>QC rfl (U1.1 (TX dy J (fun θ gb=>(iw θ).2 (U θ gb)) ao))
  |some l=>
   obtain⟨aq,aG,bG⟩:=u2 l rfl;have ajc:r9 (cC c.up) c.ph ρ r cu:=⟨cc,fun x t h=>by rw[gq,c1.2.2]at h;simp[bB.new,tg]at h⟩;simp only[b4]at aq;obtain⟨zN,dg,d1⟩:=aoZ bC.sh e4 aK j0 l cu (fun v ay=>by rw[aq]at ay;exact(E8 _).mem_iff.1 (iL.1 ay).1) ajc;refine⟨max (max hZ jt) zN,some (uG c.ph ρ r (cC c.up)),?_,⟨⟨dy,U1.2 ?_⟩,iw⟩,UZ _ Ω⟩
   ·simp only[B2,a1 (max (max hZ jt) zN) Ω,ij,Bool.true_eq_false,if_false,E5,cg (max (max hZ jt) zN) Ω,d1 (max (max hZ jt) zN) Ω,oq];rw[aq];rfl
   ·rw[b4,<-aq];exact⟨aG,bG⟩
def ga(s:List ai):List (T×T):=s.map fun b=>(.var b.v,b.t)
theorem B1{s:List ai}{θ:Int->T}:il (ga s) θ↔dY s θ:=by simp[il,ga,dY,T.ap]
theorem abx{s:List ai}{E:List (T×T)}{o:Option (List ai)}:jb [] (ga s++E) o↔jb s E o:=by
 have h:∀θ,(dY [] θ/\il (ga s++E) θ)↔(dY s θ/\il E θ):=fun θ=>by rw[E6,B1];exact⟨fun h=>h.2,fun h=>⟨fun b ab=>by simp at ab,h⟩⟩
 exact⟨zQ h,zQ fun θ=>(h θ).symm⟩
end
section
open Go
open Classical in
noncomputable def mgu(s:List ai)(E:List (T×T)):Option (List ai):=if h:∃o,jb s E o then h.choose else none
theorem qn{s:List ai}{E:List (T×T)}{o:Option (List ai)}(h:jb s E o):mgu s E=o:=by have ad:∃o,jb s E o:=⟨o,h⟩;unfold mgu;rw[dif_pos ad];exact aby ad.choose_spec h
def jQ(s:List ai):Prop:= ∀b∈s,(0<=b.v/\b.v<=100000)/\b.t.ok=true
theorem Qt{θ:Int->T}{t:T}(aH:t.ok=true)(h:∀v,t.occ v=true->(θ v).ok=true):(t.ap θ).ok=true:=by
 induction t with
 |var n=>exact h n (by simp[T.occ])
 |pair a b dJ dK=>simp only[T.ok,cr]at aH;simp only[T.ap,T.ok,cr];exact⟨dJ aH.1 fun v ay=>h v (by simp[T.occ,ay]),dK aH.2 fun v ay=>h v (by simp[T.occ,ay])⟩
 |_=>exact aH
theorem xP{t:T}(aH:t.ok=true){v:Int}(h:t.occ v=true):0<=v/\v<=100000:=by
 induction t with
 |var n=>simp[T.occ]at h;subst h;simpa[T.ok]using aH
 |pair a b dJ dK=>
  simp only[T.ok,cr]at aH;simp only[T.occ,k6]at h;rcases h with h|h
  ·exact dJ aH.1 h
  ·exact dK aH.2 h
 |_=>simp[T.occ]at h
theorem BY{s:List ai}(ag:jQ s){t:T}(aH:t.ok=true):(t.ap (aY s)).ok=true:=Qt aH fun v ay=>by
 unfold aY;cases e:df s v with
 |none=>have:=xP aH ay;simpa[T.ok]using this
 |some x=>exact(ag _ (jI e)).2
theorem CB{s:List ai}(ag:jQ s){v:Int}{t:T}(ay:0<=v/\v<=100000)(aH:t.ok=true){ah:List ai}(h:oy s v t=some ah):jQ ah:=by
 unfold oy at h;split at h
 ·cases h;intro b ab;rcases qV.1 ab with rfl|⟨c,ar,rfl⟩
  ·exact⟨ay,BY ag aH⟩
  ·refine⟨(ag c ar).1,Qt (ag c ar).2 fun w hw=>?_⟩;unfold one;split
   ·exact BY ag aH
   ·have:=xP (ag c ar).2 hw;simpa[T.ok]using this
 ·cases h
theorem aaT{s:List ai}(ag:jQ s){t:T}(aH:t.ok=true):(hE s t).ok=true:=by
 cases t with
 |var n=>have:=BY ag aH;simpa[hE,T.ap]using this
 |_=>exact aH
theorem Px:∀(n:Nat) (s:List ai) (a b:T) (ah:List ai),jQ s->a.ok=true->b.ok=true->k4 n s a b=some (some ah)->jQ ah
 |0,_,_,_,_,_,_,_,h=>by simp[k4]at h
 |n+1,s,a,b,ah,ag,bm,ab,h=>by
  have ad:=aaT ag bm;have aC:=aaT ag ab;simp only[k4]at h;generalize hE s a=x at h ad;generalize hE s b=y at h aC;have sM:∀{i:Int},(T.var i).ok=true->0<=i/\i<=100000:=fun h=>xP h (by simp[T.occ]);cases x with
  |var i=>
   cases y with
   |var j=>
    simp only[kq,dE]at h;split at h
    ·exact CB ag (sM aC) ad h
    ·split at h
     ·cases h;exact ag
     ·exact CB ag (sM ad) aC h
   |_=>simp only[kq,dE]at h;exact CB ag (sM ad) aC h
  |pair bC a2=>
   cases y with
   |var j=>simp only[kq,dE]at h;exact CB ag (sM aC) ad h
   |pair cg cc=>
    simp only[T.ok,cr]at ad aC;simp only[kq]at h;split at h
    ·cases h
    ·cases h
    ·rename_i s1 aq;exact Px n s1 a2 cc ah (Px n s bC cg s1 ag ad.1 aC.1 aq) ad.2 aC.2 h
   |_=>simp[kq]at h
  |_=>
   cases y with
   |var j=>simp only[kq,dE]at h;exact CB ag (sM aC) ad h
   |_=>
    simp only[kq,dE]at h;split at h
    ·cases h;exact ag
    ·cases h
def oe:T->List Int
 | .var n=>[n]
 | .pair a b=>oe a++oe b
 |_=>[]
theorem yZ{t:T}{v:Int}(h:t.occ v=true):v∈oe t:=by
 induction t with
 |var n=>simp[T.occ]at h;subst h;simp[oe]
 |pair a b dJ dK=>simp only[T.occ,k6]at h;simp only[oe,iz];exact h.imp dJ dK
 |_=>simp[T.occ]at h
theorem Jr{s:List ai}(ag:eT s)(aQ:fP s)(a b:T):∃n o,k4 n s a b=some o/\jb s [(a,b)] o:=by obtain⟨n,o,J,U⟩:=Z6 (s.flatMap (fun b=>b.v::oe b.t)++oe a++oe b) _ _ s a b ag aQ (fun c ar=>⟨by simp only[iz,List.mem_flatMap];exact .inl (.inl ⟨c,ar,Ψ⟩),fun w hw=>by simp only[iz,List.mem_flatMap];exact .inl (.inl ⟨c,ar,by simp[yZ hw]⟩)⟩) (fun w hw=>by simp[yZ hw]) (fun w hw=>by simp[yZ hw]) rfl rfl;exact⟨n,o,J,U.1⟩
theorem Qg{s:List ai}{e:T×T}{E:List (T×T)}{s1:List ai}(h:jb s [e] (some s1)){o:Option (List ai)}(U:jb s1 E o):jb s (e::E) o:=JR (E:=[e]) h U
theorem xg{s:List ai}(ag:eT s)(aQ:fP s)(E:List (T×T)):jb s E (mgu s E):=by
 induction E generalizing s with
 |nil=>rw[qn (JS ag aQ)];exact JS ag aQ
 |cons e E bR=>
  obtain⟨n,o,_,U⟩:=Jr ag aQ e.1 e.2;cases o with
  |none=>have ao:jb s (e::E) none:=FL E U;rw[qn ao];exact ao
  |some s1=>have ao:=Qg U (bR U.1.1 U.1.2);rw[qn ao];exact ao
theorem Ei{s:List ai}(ag:eT s)(aQ:fP s):mgu s []=some s:=qn (JS ag aQ)
theorem Ns{s:List ai}(ag:eT s)(aQ:fP s)(e:T×T)(E:List (T×T)):mgu s (e::E)=match mgu s [e]with|some s1=>mgu s1 E|none=>none:=by
 have J:=xg ag aQ [e];cases h:mgu s [e]with
 |none=>rw[h]at J;have ao:jb s (e::E) none:=FL E J;exact qn ao
 |some s1=>rw[h]at J;exact qn (Qg J (xg J.1.1 J.1.2 E))
theorem sY{s:List ai}(ag:eT s)(aQ:fP s){E:List (T×T)}{ah:List ai}(h:mgu s E=some ah):eT ah/\fP ah:=by have J:=xg ag aQ E;rw[h]at J;exact J.1
theorem akL{s:List ai}(ag:eT s)(aQ:fP s)(aw:jQ s){E:List (T×T)}(c8:∀e∈E,e.1.ok=true/\e.2.ok=true){ah:List ai}(h:mgu s E=some ah):jQ ah:=by
 induction E generalizing s with
 |nil=>rw[Ei ag aQ]at h;cases h;exact aw
 |cons e E bR=>
  rw[Ns ag aQ]at h;split at h
  ·rename_i s1 J;obtain⟨n,o,U,ao⟩:=Jr ag aQ e.1 e.2;have a6:=qn ao;rw[J]at a6;subst a6;exact bR ao.1.1 ao.1.2 (Px n s e.1 e.2 s1 aw (c8 e Ψ).1 (c8 e Ψ).2 U) (fun fF he=>c8 fF (by simp[he])) h
  ·cases h
theorem Ww{l:List Int}(au:l.Nodup)(h:∀v∈l,0<=v/\v<=100000):l.length<=100001:=by
 have J:(l.map Int.toNat).Nodup:=by rw[List.nodup_iff_pairwise_ne,List.pairwise_map];exact aq1 (fun{a b} bm ab cK e=>cK (by have:=h a bm;have:=h b ab;omega)) au
 have:=Fx J (l₂:=List.range 100001) (fun x ad=>by obtain⟨v,ay,rfl⟩:=hG.1 ad;have:=h v ay;simp;omega)
 simpa using this
end
end Go.Pv
namespace Go.Proofs.YtohaalphocaebaaGreat
section
open Go Go.Pv
theorem Pd(p:Nat->Bool)(n:Nat)(hm:∀k bH,k<=bH->bH<n->p k=true->p bH=true):∀(m i j:Nat),j-i<=m->i<=j->j<=n->(∀k,k<i->p k=false)->(∀k,j<=k->k<n->p k=true)->
  (i<=mM p i j/\mM p i j<=j)/\(∀k,k<mM p i j->p k=false)/\(∀k,mM p i j<=k->k<n->p k=true)
 |m,i,j,aF,lp,af,J,U=>by
  rw[mM];split
  ·rename_i bz;obtain⟨m,rfl⟩:∃ic,m=ic+1:=⟨m-1,Ω⟩;split
   ·rename_i bD;have:=Pd p n hm m i ((i+j)/2) Ω Ω Ω J (fun k ae G7=>hm _ k ae G7 bD);exact⟨⟨this.1.1,Ω⟩,this.2⟩
   ·rename_i bD;have:=Pd p n hm m ((i+j)/2+1) j Ω Ω af (fun k ae=>by
     by_cases oD:p k=true
     ·exact absurd (hm k ((i+j)/2) Ω Ω oD) bD
     ·simpa using oD) U
    exact⟨⟨Ω,this.1.2⟩,this.2⟩
  ·obtain rfl:i=j:=Ω
   exact⟨⟨eu _,eu _⟩,J,U⟩
theorem N2{l:List ai}(ag:hf l)(v:Int):s9 l v=df l v:=by
 have bz:∀(i j:Nat) (x y:ai),i<j->l[i]? =some x->l[j]? =some y->x.v<y.v:=by intro i j x y lp ad aC;obtain⟨J,rfl⟩:=eS.1 ad;obtain⟨U,rfl⟩:=eS.1 aC;exact o2.1 ag i j J U lp
 obtain⟨p,bD⟩:∃p:Nat->Bool,p=(fun i=>match l[i]? with|some b=>decide (v<=b.v)|none=>false):=⟨_,rfl⟩;have He:∀i b,l[i]? =some b->p i=decide (v<=b.v):=fun i b ab=>by rw[bD];simp[ab]
 have hm:∀k bH,k<=bH->bH<l.length->p k=true->p bH=true:=by
  intro k bH ae oD h;have aq:l[k]? =some l[k]:=bY Ω;have aG:l[bH]? =some l[bH]:=bY oD;rw[He k _ aq]at h;rw[He bH _ aG];simp only[en]at h⊢;rcases Nat.lt_or_eq_of_le ae with wQ|rfl
  ·have:=bz k bH _ _ wQ aq aG;omega
  ·exact h
 obtain⟨⟨_,hle⟩,hbef,haft⟩:=Pd p l.length hm l.length 0 l.length Ω Ω (eu _) (fun k ae=>Ω) (fun k J U=>Ω);have LQ:nL l v=(match l[mM p 0 l.length]? with|some b=>if b.v=v then((mM p 0 l.length:Nat):Int)else-1|none=> -1):=by rw[bD];rfl
 generalize mM p 0 l.length=r at hle hbef haft LQ;by_cases hex:∃(k:Nat) (b:ai),l[k]? =some b/\b.v=v
 ·obtain⟨k,b,ab,UL⟩:=hex;have gl:k<l.length:=(eS.1 ab).1;have fH:r<=k:=by
   rcases Nat.lt_or_ge k r with h|h
   ·have:=hbef k h;rw[He k b ab]at this;simp at this;omega
   ·exact h
  have aK:l[r]? =some l[r]:=bY Ω;have AV:=haft r (eu _) Ω;rw[He r _ aK]at AV;simp only[en]at AV;have aiT:r=k:=by
   rcases Nat.lt_or_eq_of_le fH with h|h
   ·have:=bz r k _ _ h aK ab;omega
   ·exact h
  subst aiT;have LU:nL l v=r:=by rw[LQ,ab];simp[UL]
  have J:s9 l v=some b.t:=by unfold s9;rw[LU,if_neg Ω];simp[ab]
  have U:l.find? (fun b=>b.v==v)=some b:=by
   rw[List.find?_eq_some_iff_getElem];refine⟨by simp[UL],r,gl,?_,fun j af=>?_⟩
   ·rw[bY gl]at ab;simpa using ab
   ·have:=bz j r l[j] b af (bY Ω) ab;simp;omega
  rw[J];simp[df,U]
 ·have U:l.find? (fun b=>b.v==v)=none:=by rw[List.find?_eq_none];intro b ab;obtain⟨k,ae,rfl⟩:=List.mem_iff_getElem.1 ab;simp;intro e;exact hex ⟨k,l[k],bY ae,e⟩
  have LU:nL l v= -1:=by
   rw[LQ];split
   ·rename_i b ab;rw[if_neg (fun e=>hex ⟨r,b,ab,e⟩)]
   ·rfl
  unfold s9;rw[LU];simp[df,U]
theorem T3{l:List ai}(ag:hf l)(v:Int):nL l v<0↔df l v=none:=by
 rw[<-N2 ag v];unfold s9;have J:=T2 l v;by_cases h:nL l v<0
 ·simp[h]
 ·simp only[h,if_false,false_iff];intro e;rw[Option.map_eq_none_iff,List.getElem?_eq_none_iff]at e;omega
def ye(s:List ai):Prop:= ∀b∈s,b.t.fit=true
theorem agq{l:List ai}(ag:hf l)(h:ye l)(v:Int):ve l v=(aY l v).size:=by
 unfold ve aY;rw[N2 ag];cases ab:df l v with
 |none=>simp[T.size]
 |some x=>have:=h _ (jI ab);simp only[T.fit,cr,en]at this;simp only[jo];rw[Ia,if_pos ⟨this.1,Ω⟩]
theorem aoW{l:List ai}(ag:hf l)(h:ye l)(t:T):lS (ve l) t=cut (t.ap (aY l)).size:=by
 induction t with
 |var n=>simp only[lS,agq ag h,T.ap];rfl
 |pair a b dJ dK=>have ab:=T.size_pos (b.ap (aY l));simp only[lS,dJ,dK,T.ap,T.size];unfold cut;(repeat' split)<;>omega
 |_=>simp[lS,T.ap,T.size,cut]
theorem anz{l:List ai}(ag:hf l)(h:ye l)(t:T):uB l t=decide ((t.ap (aY l)).size<=5000):=by unfold uB;rw[aoW ag h];unfold cut;split<;>simp<;>omega
theorem anA{l:List ai}(ag:hf l)(t:T):EF l t=t.ap (aY l):=by unfold EF;rw[Pm];exact p1 fun v _=>by rw[N2 ag];rfl
theorem zD(l:List ai)(t:T)(av:l.length<=1000000)(ag:hf l)(h:ye l):bQ ax 95 [.slice 5 .no (l.map ai.e),t.e] (.tuple [(if(t.ap (aY l)).size<=5000 then t.ap (aY l)else .nil).e,.bool (decide ((t.ap (aY l)).size<=5000))]):=by have:=aqw l t av;rw[anz ag h,anA ag]at this;simpa using this
def W1(l:List (Int×T)):List ak:=kG (l.map fun x=>(x.1,x.2.e))
@[simp]theorem atL:W1 []=kG []:=rfl
@[simp]theorem aug(l:List (Int×T)):ie (W1 l)=false:=rfl
def aoI(x:Int×T):Bool:= !(decide (x.2= .var x.1))
end
end Go.Proofs.YtohaalphocaebaaGreat
namespace Go.Proofs
section
open Go.Shelf
def Tryz.lays191_ren:Go.Shelf.Ren:=⟨fun|191=>242|189=>272|125=>209|257=>283|128=>258|129=>259|294=>286|295=>287|296=>288|297=>289|298=>290|299=>291|216=>292|300=>293|301=>294|328=>296|329=>297|330=>298|331=>299|332=>300|215=>301|343=>302|n=>n,fun|28=>112|0=>0|3=>3|46=>163|51=>254|53=>256|4=>4|183=>277|182=>276|131=>246|5=>5|9=>9|218=>282|222=>269|228=>285|229=>273|n=>n,fun|n=>n⟩
theorem Tryz.lays191:Go.Proofs.Lays.n191 ax Tryz.lays191_ren:={
 mixed:=by kernel_rfl
 f125:=Tryz.func209.trans (eP some (by kernel_rfl))
 f128:=Tryz.func258.trans (eP some (by kernel_rfl))
 f129:=Tryz.func259.trans (eP some (by kernel_rfl))
 f189:=Tryz.func272.trans (eP some (by kernel_rfl))
 f191:=Tryz.func242.trans (eP some (by kernel_rfl))
 f215:=Tryz.func301.trans (eP some (by kernel_rfl))
 f216:=Tryz.func292.trans (eP some (by kernel_rfl))
 f257:=Tryz.func283.trans (eP some (by kernel_rfl))
 f294:=Tryz.func286.trans (eP some (by kernel_rfl))
 f295:=Tryz.func287.trans (eP some (by kernel_rfl))
 f296:=Tryz.func288.trans (eP some (by kernel_rfl))
 f297:=Tryz.func289.trans (eP some (by kernel_rfl))
 f298:=Tryz.func290.trans (eP some (by kernel_rfl))
 f299:=Tryz.func291.trans (eP some (by kernel_rfl))
 f300:=Tryz.func293.trans (eP some (by kernel_rfl))
 f301:=Tryz.func294.trans (eP some (by kernel_rfl))
 f328:=Tryz.func296.trans (eP some (by kernel_rfl))
 f329:=Tryz.func297.trans (eP some (by kernel_rfl))
 f330:=Tryz.func298.trans (eP some (by kernel_rfl))
 f331:=Tryz.func299.trans (eP some (by kernel_rfl))
 f332:=Tryz.func300.trans (eP some (by kernel_rfl))
 f343:=Tryz.func302.trans (eP some (by kernel_rfl))
 t0:=Tryz.underlying0
 a0:=Tryz.isAgg0
 z0:=Tryz.sizeOf0
 v0:=Tryz.zeroValue0
 t3:=Tryz.underlying3
 a3:=Tryz.isAgg3
 z3:=Tryz.sizeOf3
 v3:=Tryz.zeroValue3
 t4:=Tryz.underlying4
 a4:=Tryz.isAgg4
 z4:=Tryz.sizeOf4
 v4:=Tryz.zeroValue4
 t5:=Tryz.underlying5
 a5:=Tryz.isAgg5
 z5:=Tryz.sizeOf5
 v5:=Tryz.zeroValue5
 t9:=Tryz.underlying9
 a9:=Tryz.isAgg9
 z9:=Tryz.sizeOf9
 v9:=Tryz.zeroValue9
 t28:=Tryz.underlying112
 a28:=Tryz.isAgg112
 z28:=Tryz.sizeOf112
 v28:=Tryz.zeroValue112
 t46:=Tryz.underlying163
 a46:=Tryz.isAgg163
 z46:=Tryz.sizeOf163
 v46:=Tryz.zeroValue163
 t51:=Tryz.underlying254
 a51:=Tryz.isAgg254
 z51:=Tryz.sizeOf254
 v51:=Tryz.zeroValue254
 t53:=Tryz.underlying256
 a53:=Tryz.isAgg256
 z53:=Tryz.sizeOf256
 v53:=Tryz.zeroValue256
 t131:=Tryz.underlying246
 a131:=Tryz.isAgg246
 z131:=Tryz.sizeOf246
 v131:=Tryz.zeroValue246
 t182:=Tryz.underlying276
 a182:=Tryz.isAgg276
 z182:=Tryz.sizeOf276
 v182:=Tryz.zeroValue276
 t183:=Tryz.underlying277
 a183:=Tryz.isAgg277
 z183:=Tryz.sizeOf277
 v183:=Tryz.zeroValue277
 t218:=Tryz.underlying282
 a218:=Tryz.isAgg282
 z218:=Tryz.sizeOf282
 v218:=Tryz.zeroValue282
 t222:=Tryz.underlying269
 a222:=Tryz.isAgg269
 z222:=Tryz.sizeOf269
 v222:=Tryz.zeroValue269
 t228:=Tryz.underlying285
 a228:=Tryz.isAgg285
 z228:=Tryz.sizeOf285
 v228:=Tryz.zeroValue285
 t229:=Tryz.underlying273
 a229:=Tryz.isAgg273
 z229:=Tryz.sizeOf273
 v229:=Tryz.zeroValue273}
end
end Go.Proofs

namespace Go.Proofs.YtohaalphocaebaaGreat
section
open Go Go.Pv
def dV(xs:List Int):List ak:=xs.map (ak.int .i64)
theorem Zo{w:World}{ν:be}:∀{xs:List Int} {us:List Value},dD w ν 1 (dV xs) us->us=xs.map (Value.int .i64)
 |[],us,h=>by simpa[dV,dD]using h
 |x::xs,us,h=>by simp only[dV,ht,dD]at h;obtain⟨u,ck,rfl,⟨J,_,_⟩,U⟩:=h;simp only[bc]at J;subst J;rw[Zo U];rfl
theorem V5(w:World)(ν:be):∀xs:List Int,dD w ν 1 (dV xs) (xs.map (Value.int .i64))
 |[]=>by simp[dV,dD]
 |x::xs=>by simp only[dV,ht,dD];exact⟨.int .i64 x,_,rfl,⟨by simp[bc],rfl,by intro c ar;simp[pS]at ar;subst ar;rfl⟩,V5 w ν xs⟩
def nF(K:Nat)(xs:List Int):cR:=⟨[],[(.obj K,⟨xs.length,3,1,some (dV xs)⟩)]⟩
theorem ur(S:aM->Prop)(xs:List Int):aN S (dV xs):=by
 induction xs with
 |nil=>simp[dV,aN]
 |cons x r bR=>simp only[dV,ht,aN,aJ];exact⟨trivial,bR⟩
theorem JL(K:Nat)(xs:List Int):dM (nF K xs):=by unfold nF;refine dM.of ⟨by intro m;simp[Pv.look],by intro m;simp[Pv.look]⟩ Ψ ?_;intro x ad ys aC;simp at ad;subst ad;simp at aC;subst aC;exact ur _ xs
def rS(xs:List Int):List Int:=xs.mergeSort fun x y=>decide (x<=y)
theorem ZN(xs:List Int):(rS xs).length=xs.length:=List.length_mergeSort xs
theorem ag6(K:Nat)(xs:List Int)(av:xs.length<=1000000):bI ax 242 [.row 1 (.obj K) xs.length] (nF K xs) fun r ah=>r= .tuple []/\ah=nF K (rS xs):=by
 refine bI.sem (JL K xs).obj fun w ν a7 kW aK=>?_;refine .inl ⟨⟨Tryz.f242,Tryz.func242,by kernel_rfl,by kernel_rfl⟩,?_⟩;have sL:=aK.slot 0;simp only[j8,Pv.get,if_true]at sL;have lr:Pv.look (.obj K) (nF K xs).e=some ⟨xs.length,3,1,some (dV xs)⟩:=by simp[nF,Pv.look]
 obtain⟨v,us,a1,bp,bV,cQ⟩:=aK.good.own (.obj K) _ lr;obtain⟨cZ,oO,vR⟩:=cQ _ rfl;have rH:=Zo oO;subst rH;simp only[bc]at sL;obtain⟨⟨Cz,ace,sA⟩,_,n',u,aq,aG,bG⟩:=sL;rw[a1]at aq;simp only[dE,jU]at aq;obtain⟨rfl,rfl⟩:=aq;have ay:=bG rfl;have aja:a7= #[v]:=by
  have J:a7.size=1:=by simpa using kW
  apply Array.ext (by simpa using J);intro i U ao;simp at ao;subst ao;rw[<-ay];simp[Array.getD,J]
 have cK:v≠ .slice none 0 0:=by rw[<-ay,sA];simp
 obtain⟨g,cap,rfl,_,rC,pq,ahZ,Dm,C8⟩:=Lib.holds_of_ownsRow bp cK;have ar:=Any.sort_Ints Tryz.lays191 g 0 cap xs w C8 rC Ω;subst aja;refine ar.mono ?_;rintro e w' ⟨rfl,n,os,rfl⟩;have qL:=ZN xs;have l8:=Lib.ownsRow_putRow (q:=n) (k:=xs.length) (ys:=rS xs) bp qL (eu _);rw[gw Ω]at l8;obtain⟨c1,dv,_⟩:=aK.setRowM (w':=Sort.putRow (Value.int .i64) (Sort.ahead w n) g 0 (rS xs).toArray) lr rfl a1 (bl:=g) rfl (v':= .slice (some ⟨g,0,none⟩) xs.length cap) rfl (xs':=dV (rS xs)) (us:=(rS xs).map (Value.int .i64)) (.inl ⟨by simp[dV,qL],rfl⟩) rfl rfl rfl
  (fun j af=>by simp[Sort.putRow,Sort.mapBlock,Sort.ahead,Array.getElem?_modify,lF af]) (by simp[Sort.putRow,Sort.mapBlock,Sort.ahead]) (by simpa[dV,qL]using l8) (V5 _ _ _)
 have jj:=c1.grown (w':=Sort.grow (Sort.putRow (Value.int .i64) (Sort.ahead w n) g 0 (rS xs).toArray) os) ⟨rfl,rfl,rfl,Ψ,fun k ae _=>Sort.heap_grow_old _ _ ae⟩;refine⟨_,_,_,_,.tuple [],nF K (rS xs),rfl,jj,by simp[bc,cT],by simp[nF,kh],?_,?_,?_,(JL K _).obj,by simp[aJ,aN],rfl,rfl⟩
 ·simp[nF,kh,inObs,Pv.look]
 ·intro k cs ae;simp[nF,Pv.look]at ae
 ·intro k o ae;have hm:=uu ae;simp[nF]at hm;obtain⟨rfl,rfl⟩:=hm;refine⟨by simp[nF,Pv.look,cF,dV,qL],.inr (by simp[ae]),fun ys aC=>?_⟩;simp at aC;subst aC;exact ur _ _
def o9(l:List Int):List ak:=kG (l.map fun x=>(x,.bool true))
theorem nr(S:aM->Prop)(l:List Int):aN S (o9 l):=by
 have:∀l:List Int,aN S (kP (l.map fun x=>(x,.bool true))):=by
  intro l;induction l with
  |nil=>simp[kP,aN]
  |cons x r bR=>simp[kP,aN,bR,aJ]
 simp[o9,kG,aN,this,aJ]
def JV(v:Int)(l:List Int):List Int:=if v∈l then l else l++[v]
theorem Qw(k:Int):∀l:List Int,p2 k (.bool true) (l.map fun x=>(x,ak.bool true))=if k∈l then some (l.map fun x=>(x,ak.bool true))else none
 |[]=>rfl
 |i::r=>by
  by_cases h:k=i
  ·simp[p2,h]
  ·by_cases U:k∈r<;>simp[p2,h,U,Qw k r]
@[simp]theorem at2(k:Int)(l:List Int):pH .i (.int .i64 k) (.bool true) (o9 l)=some (o9 (JV k l)):=by
 simp only[o9,Xs,FP,Qw,JV];split<;>rename_i h
 ·split at h
  ·simp at h;subst h;simp[*]
  ·cases h
 ·split at h
  ·cases h
  ·simp[*]
@[simp]theorem ari:o9 []=kG []:=rfl
@[simp]theorem aue(l:List Int):ie (o9 l)=false:=rfl
@[simp]theorem aum(m:aM)(l:List Int):zh m (o9 l)=some (cz l.length [] m):=by simp[o9]
theorem akA(f:aM->Option (List ak))(fv mk:aM)(n:Nat)(seen:List Nat)(b:Nat)(l:List Int)(x:Int)(hi:f fv=some (cz n (seen++[b]) mk))(hm:f mk=some (o9 l))(au:n=l.length)(ad:l[b]? =some x):qm f (.ptr fv 0)=some (True,.tuple [.int .i64 x,.bool true]):=by rw[Xa f fv mk n seen b _ hi hm (by simpa using au)];simp[ad]
theorem adl{st:br}{d:Nat}{K:br->Prop}{fv mk:aM}{n:Nat}{seen:List Nat}{l:List Int}(hi:Pv.look fv st.b=some (cz n seen mk))(hm:Pv.look mk st.b=some (o9 l))(au:n=l.length)
  (J:(∀b,b<l.length->b∈seen)->K {st with t:=Pv.put d (.tuple [.bool false]) st.t}) (U:∀b x,l[b]? =some x->b∉seen->K {st with t:=Pv.put d (.tuple [.bool true,.int .i64 x,.bool true]) st.t,b:=cF fv (cz n (seen++[b]) mk) st.b}):
  tP st d (.ptr fv 0) K:=by
 refine Tw hi hm (by simpa using au) (fun h=>J fun b ab=>h b Ω) (fun b k v ab ag=>?_);simp only[q5,gm]at ab;obtain⟨x,aq,aG⟩:=ab;simp only[jU]at aG;obtain⟨rfl,rfl⟩:=aG;exact U b x aq ag
def _root_.Go.Pv.T.fold{α:Type}(f:Int->α->α):T->α->α
 | .var n,a=>f n a
 | .pair x y,a=>y.fold f (x.fold f a)
 |_,a=>a
theorem Lo{α:Type}(S:α->cR)(dy:∀a,dM (S a))(eL:∀a b,Same (S a) (S b))(g:Nat)(dt:List ak)(ar:∀a,aN (inObs (S a)) dt)(dh:c7 dt=dt)(f:Int->α->α)(aQ:∀v a,bI ax g (.int .i64 v::dt) (S a) fun r ah=>r= .tuple []/\ah=S (f v a))(t:T):
  ∀a,bI ax 129 [t.e,.func g dt] (S a) fun r ah=>r= .tuple []/\ah=S (t.fold f a):=by
 have au:∀a m,Pv.look (.loc m) (S a).b=none:=fun a=>(dy a).obj.1;have hu:∀a m cs,cF (.loc m) cs (S a).b=(S a).b++[(.loc m,cs)]:=fun a m cs=>kr (au a m);have aw:∀a m,aM.loc m∉c3 (S a):=fun a=>kl (dy a).obj;induction t with
 |pair x y oJ qM=>intro a;have ag:=dy a;refine bI.mk mixed fN Aj Bw Ψ ag.obj fun aR cI=>?_;unfold x5;simp[hu,aw,cS,au,dh];(with_reducible repeat' first|refine aj ?_|simp[hu,aw,cS,au]);refine cO.ob (oJ a) ag aL aL (by simp[ar]) ?_;rintro r ah ⟨rfl,rfl⟩;refine⟨eL _ _,?_⟩;simp[hr,iW,cb,au];(with_reducible repeat' first|refine aj ?_|simp[hu,aw,cS,au]);rw[dh];refine cO.ob (qM (x.fold f a)) (dy (x.fold f a)) aL aL (by simp[ar]) ?_;rintro r ah ⟨rfl,rfl⟩;refine⟨eL _ _,?_⟩;simp[hr,iW,cb,au];refine cP.at (S (y.fold f (x.fold f a))) (.inr rfl) (dy _) (eL _ _) aL aL ?_;simp[cW,zd,aU,aW,aT];simp[T.fold]
 |var n=>intro a;have ag:=dy a;refine bI.mk mixed fN Aj Bw Ψ ag.obj fun aR cI=>?_;unfold x5;simp[hu,aw,cS,au,dh];(with_reducible repeat' first|refine aj ?_|simp[hu,aw,cS,au]);refine cO.ob (aQ n a) ag aL aL (by simp[ar]) ?_;rintro r ah ⟨rfl,rfl⟩;refine⟨eL _ _,?_⟩;simp[hr,iW,cb,au,cS];refine cP.at (S (f n a)) (.inr rfl) (dy _) (eL _ _) aL aL ?_;simp[cW,zd,aU,aW,aT];simp[T.fold]
 |_=>intro a;have ag:=dy a;refine bI.mk mixed fN Aj Bw Ψ ag.obj fun aR cI=>?_;unfold x5;simp[hu,aw,cS,au,dh];(with_reducible repeat' first|refine aj ?_|simp[hu,aw,cS,au]);refine cP.at (S a) (.inr rfl) ag (Same.refl _) aL aL ?_;simp[cW,zd,aU,aW,aT];simp[T.fold]
def uU(l:List Int):cR:=⟨[(.obj 304,o9 l)],[]⟩
theorem Qd(l:List Int):dM (uU l):=by unfold uU;exact dM.of ⟨by intro m;simp[Pv.look],by intro m;simp[Pv.look]⟩ (by simp[nr,aN,aJ,inObs,Pv.look]) Ψ
def Ke:C:=(aa [cU 1 0,bh 2 false] (.seq (.seq (.fz false 1 (.region [az 6 1 1,cG 7 100 6,cx 8 7])) (aZ 8 (aa [bh 2 false] .ret) .skip)) (.seq (aa [az 9 1 1,ct 10 9,b6 11 0] (eZ 12 11 10 (.seq (.block 1 (aa [cw 13 5 9 11,aV 14 5 13,cL 4 ib,bu 5 4 14] (aa [cX (.alloc 5 (some 731) (.bool false)),cX (.store 1 (.t 5) (.c (.bool true)))] (aa [hp 15 1 4 4,aV 16 4 15,b2 17 (.mkf 133 [.t 1,.t 5]),b5 18 129 16 17] (aa [az 19 1 5,cx 20 19,I 21 20,al 21 false (hp 22 1 4 4),al 21 false (aI 23 0 1 22),al 21 false (az 24 1 23),al 21 false (aS 25 .eql 24 1),bO 21 false 26 25,al 26 true (hp 27 1 4 4),al 26 true (aI 28 1 1 27),al 26 true (az 29 1 28),al 26 true (aI 30 0 1 4),al 26 true (az 31 1 30),al 26 true (bq 32 .geq 29 31),al 21 false (de 33 26 32),cV 34 21 33] (aZ 34 (aa [bh 2 false] .ret) .skip)))))) (.region [aS 35 .add 11 1,I 11 35])))) (aa [bh 2 true] .ret))))
@[simp] def anN:List bW:=[.tmp 2]
def Rm:C:=(aa [eA 2 5] (aa [dI 6 5 61 [],I 3 6] (.seq (aa [I 7 0,ct 8 7,b6 9 0] (eZ 10 9 8 (.seq (.block 1 (aa [cw 11 5 7 9,aV 12 5 11,cL 5 ib,bu 5 5 12] (.drawn true 24 [I 13 3,aI 14 0 1 5,az 15 1 14,hp 16 1 4 5,aV 17 4 16,cG 18 200 17,gv 19 ib [(0,1,(.t 15)),(1,4,(.t 18))],dI 20 5 61 [.t 19],gf 21 5 61 13 20,I 3 21]))) (.region [aS 22 .add 9 1,I 9 22])))) (aa [I 23 3,I 2 23] .ret))))
@[simp] def anS:List bW:=[.tmp 2]
def QY:C:=(aa [eA 4 5,bh 5 false] (.seq (aa [I 8 0,cG 9 55 8,cx 10 9,I 11 10,bO 11 false 12 1,al 11 false (cG 13 55 12),al 11 false (cx 14 13),cV 15 11 14] (aZ 15 (aa [eA 4 5,bh 5 false] .ret) .skip)) (aa [I 17 1,cG 18 201 17,I 16 18,cj 19 0 16,cj 20 1 16,I 6 19,I 7 20] (aa [I 21 0,I 22 6,I 23 7,c2 24 118 [.t 21,.t 22,.t 23],cj 25 0 24,cj 26 1 24,I 4 25,I 5 26] .ret))))
@[simp] def Yi:List bW:=[.tmp 4,.tmp 5]
def Q3:C:=(aa [eA 4 5] (.seq (aa [I 8 0,cG 9 55 8,cx 10 9,I 11 10,bO 11 false 12 1,al 11 false (cG 13 55 12),al 11 false (cx 14 13),cV 15 11 14] (aZ 15 (aa [eA 4 5] .ret) .skip)) (aa [dI 16 5 61 [],I 5 16] (.seq (aa [I 17 1,ct 18 17,b6 19 0] (eZ 20 19 18 (.seq (.block 1 (aa [cw 21 5 17 19,aV 22 5 21,cL 7 ib,bu 5 7 22] (aa [I 23 0,aI 24 0 1 7,az 25 1 24,b5 26 134 23 25,aS 27 .lss 26 0] (aZ 27 (.drawn true 39 [I 28 5,aI 29 0 1 7,az 30 1 29,hp 31 1 4 7,aV 32 4 31,cG 33 200 32,gv 34 ib [(0,1,(.t 30)),(1,4,(.t 33))],dI 35 5 61 [.t 34],gf 36 5 61 28 35,I 5 36]) .skip)))) (.region [aS 37 .add 19 1,I 19 37])))) (aa [I 38 5,I 4 38] .ret)))))
@[simp] def anL:List bW:=[.tmp 4]
def Kf:C:=(aa [az 4 1 1,I 5 0,b5 6 134 4 5,aS 7 .geq 6 0] (aZ 7 (.region [cX (.store 1 (.t 2) (.c (.bool false)))]) .skip))
@[simp] def Oa:List bW:=[]
def Kk:C:=(aa [bh 4 false] (.seq (aa [I 6 0,ct 7 6,I 8 1,ct 9 8,bq 10 .neq 7 9] (aZ 10 (aa [bh 4 false] .ret) .skip)) (.seq (aa [I 11 0,ct 12 11,b6 13 0] (eZ 14 13 12 (.seq (.block 1 (aa [I 15 13,I 5 15] (.seq (.drawn true 42 [I 16 0,I 17 5,cw 18 5 16 17,aI 19 0 1 18,az 20 1 19,I 21 1,I 22 5,cw 23 5 21 22,aI 24 0 1 23,az 25 1 24,bq 26 .neq 20 25,I 27 26,bO 27 false 28 0,bO 27 false 29 5,al 27 false (cw 30 5 28 29),al 27 false (hp 31 1 4 30),al 27 false (aV 32 4 31),bO 27 false 33 1,bO 27 false 34 5,al 27 false (cw 35 5 33 34),al 27 false (hp 36 1 4 35),al 27 false (aV 37 4 36),al 27 false (b5 38 108 32 37),al 27 false (cx 39 38),cV 40 27 39]) (aZ 40 (aa [bh 4 false] .ret) .skip)))) (.region [aS 41 .add 13 1,I 13 41])))) (aa [bh 4 true] .ret))))
@[simp] def Yv:List bW:=[.tmp 4]
def Ro:C:=(aa [eA 2 4,eA 3 4] (aa [dI 8 4 32 [],I 4 8] (aa [dI 9 4 32 [],I 5 9] (.seq (aa [I 10 0,ct 11 10,b6 12 0] (eZ 13 12 11 (.seq (.block 1 (aa [cw 14 5 10 12,aV 15 5 14,cL 7 ib,bu 5 7 15] (aa [I 16 4,aI 17 0 1 7,az 18 1 17,cG 19 96 18,dI 20 4 32 [.t 19],gf 21 4 32 16 20,I 4 21] (.region [I 22 5,hp 23 1 4 7,aV 24 4 23,dI 25 4 32 [.t 24],gf 26 4 32 22 25,I 5 26])))) (.region [aS 27 .add 12 1,I 12 27])))) (aa [I 28 4,I 29 5,I 2 28,I 3 29] .ret)))))
@[simp] def Yx:List bW:=[.tmp 2,.tmp 3]
def Rw:C:=(aa [b6 4 0] (.seq (aa [b6 5 0] (.block 0 (.loop (.seq (aa [I 8 5,I 9 0,ct 10 9,bq 11 .lss 8 10,I 12 11,bO 12 true 13 5,bO 12 true 14 1,al 12 true (ct 15 14),al 12 true (bq 16 .lss 13 15),de 17 12 16] (aZ 17 .skip (.exit 0))) (.seq (.block 1 (.seq (.seq (.drawn true 53 [I 20 0,I 21 5,cw 22 5 20 21,aI 23 0 1 22,az 24 1 23,I 25 1,I 26 5,cw 27 5 25 26,aI 28 0 1 27,az 29 1 28,b5 30 232 24 29,I 6 30]) (aa [I 31 6,aS 32 .neq 31 0] (aZ 32 (aa [I 33 6,I 4 33] .ret) .skip))) (.seq (.drawn true 53 [I 34 0,I 35 5,cw 36 5 34 35,hp 37 1 4 36,aV 38 4 37,I 39 1,I 40 5,cw 41 5 39 40,hp 42 1 4 41,aV 43 4 42,b5 44 170 38 43,I 7 44]) (aa [I 45 7,aS 46 .neq 45 0] (aZ 46 (aa [I 47 7,I 4 47] .ret) .skip))))) (.region [I 18 5,aS 19 .add 18 1,I 5 19])))))) (aa [I 48 0,ct 49 48,I 50 1,ct 51 50,b5 52 232 49 51,I 4 52] .ret)))
@[simp] def EG:List bW:=[.tmp 4]
def Rt:C:=(aa [bh 4 false] (.seq (aa [I 11 0,ct 12 11,b6 13 0] (eZ 14 13 12 (.seq (.block 1 (aa [cw 15 5 11 13,aV 16 5 15,cL 6 ib,bu 5 6 16] (aa [I 18 1,aI 19 0 1 6,az 20 1 19,cG 21 96 20,b5 22 95 18 21,I 17 22,cj 23 0 17,cj 24 1 17,cL 7 da,bu 4 7 23,I 8 24] (aa [I 26 1,hp 27 1 4 6,aV 28 4 27,b5 29 95 26 28,I 25 29,cj 30 0 25,cj 31 1 25,cL 9 da,bu 4 9 30,I 10 31] (aa [I 32 8,cx 33 32,I 34 33,bO 34 false 35 10,al 34 false (cx 36 35),cV 37 34 36,I 38 37,al 38 false (aV 39 4 7),al 38 false (aV 40 4 9),al 38 false (b5 41 108 39 40),al 38 false (cx 42 41),cV 43 38 42] (aZ 43 (aa [bh 4 false] .ret) .skip)))))) (.region [aS 44 .add 13 1,I 13 44])))) (aa [bh 4 true] .ret)))
@[simp] def Od:List bW:=[.tmp 4]
def uI:List (Nat×dB):=[
 (3,⟨1,8,.int .i64,.int .i64 0⟩),
 (4,⟨1,1,.bool,.bool false⟩),
 (23,⟨1,24,.slice 61,.slice 5 .nil []⟩),
 (30,⟨1,24,.slice 32,.slice 4 .nil []⟩),
 (32,⟨4,56,.struct [(0,3),(1,3),(2,9),(3,30)],.agg [.int .i64 0,.int .i64 0,.str [],.slice 4 .nil []]⟩),
 (61,⟨5,64,.struct [(0,3),(1,32)],.agg [.int .i64 0,.int .i64 0,.int .i64 0,.str [],.slice 4 .nil []]⟩)]
theorem rW:fM ax uI=true:=by kernel_rfl
theorem XF:b3 uI Ke anN 1 Tryz.f55=true:=by kernel_rfl
theorem TF:ax.funcs[(55:Nat)]? =some Tryz.f55:=Tryz.func55
theorem alI:b3 uI Rm anS 1 Tryz.f119=true:=by kernel_rfl
theorem aeF:ax.funcs[(119:Nat)]? =some Tryz.f119:=Tryz.func119
theorem alj:b3 uI QY Yi 2 Tryz.f122=true:=by kernel_rfl
theorem aei:ax.funcs[(122:Nat)]? =some Tryz.f122:=Tryz.func122
theorem alp:b3 uI Q3 anL 2 Tryz.f123=true:=by kernel_rfl
theorem aen:ax.funcs[(123:Nat)]? =some Tryz.f123:=Tryz.func123
theorem XG:b3 uI Kf Oa 3 Tryz.f133=true:=by kernel_rfl
theorem TG:ax.funcs[(133:Nat)]? =some Tryz.f133:=Tryz.func133
theorem XL:b3 uI Kk Yv 2 Tryz.f135=true:=by kernel_rfl
theorem TL:ax.funcs[(135:Nat)]? =some Tryz.f135:=Tryz.func135
theorem alK:b3 uI Ro Yx 1 Tryz.f201=true:=by kernel_rfl
theorem aeH:ax.funcs[(201:Nat)]? =some Tryz.f201:=Tryz.func201
theorem alS:b3 uI Rw EG 2 Tryz.f204=true:=by kernel_rfl
theorem aeP:ax.funcs[(204:Nat)]? =some Tryz.f204:=Tryz.func204
theorem alP:b3 uI Rt Od 2 Tryz.f205=true:=by kernel_rfl
theorem aeM:ax.funcs[(205:Nat)]? =some Tryz.f205:=Tryz.func205
def RG:C:=(aa [cL 2 da] (aa [I 3 0,gv 4 da [(0,1,(dS 1)),(1,1,(.t 3))],bu 4 2 4] .ret))
@[simp] def anX:List bW:=[.cell 2 true 4]
def Ru:C:=(aa [b2 0 (.mov (.c (.nilp)))] (aa [cX (.mkmap 1 (some 702)),cX (.mkmap 2 (some 703)),cX (.mkmap 3 (some 704)),cX (.mkmap 4 (some 705)),cX (.mkmap 5 (some 706)),cX (.mkmap 6 (some 707)),b2 7 (.build [.junk,.junk,.junk,.junk,.junk,.junk] [(0,1,(.t 1)),(1,1,(.t 2)),(2,1,(.t 3)),(3,1,(.t 4)),(4,1,(.t 5)),(5,1,(.t 6))]),cU 8 7,I 0 8] (.fz true 0 .ret)))
@[simp] def YC:List bW:=[.tmp 0]
def Ri:C:=(aa [b6 4 0] (.seq (aa [I 8 0,eO 9 8,aI 10 0 1 9,az 11 1 10,I 12 1,b2 13 (.mget .i (.int .i64 0) true (.t 11) (.t 12)),I 7 13,cj 14 0 7,cj 15 1 7,I 5 14,I 6 15] (aa [I 16 6,cx 17 16] (aZ 17 (.region [I 18 0,eO 19 18,aI 20 0 1 19,az 21 1 20,I 22 1,I 23 1,cX (.mput .i (.t 21) (.t 22) (.t 23))]) .skip))) (.seq (.block 0 (.loop (.seq (aa [I 24 0,eO 25 24,aI 26 0 1 25,az 27 1 26,I 28 1,b2 29 (.mget .i (.int .i64 0) false (.t 27) (.t 28)),I 30 1,bq 31 .neq 29 30] (aZ 31 .skip (.exit 0))) (.block 1 (.seq (.drawn true 55 [I 32 0,eO 33 32,aI 34 0 1 33,az 35 1 34,I 36 1,I 37 0,eO 38 37,aI 39 0 1 38,az 40 1 39,I 41 0,eO 42 41,aI 43 0 1 42,az 44 1 43,I 45 1,b2 46 (.mget .i (.int .i64 0) false (.t 44) (.t 45)),b2 47 (.mget .i (.int .i64 0) false (.t 40) (.t 46)),cX (.mput .i (.t 35) (.t 36) (.t 47))]) (.region [I 48 0,eO 49 48,aI 50 0 1 49,az 51 1 50,I 52 1,b2 53 (.mget .i (.int .i64 0) false (.t 51) (.t 52)),I 1 53])))))) (aa [I 54 1,I 4 54] .ret))))
@[simp] def Yr:List bW:=[.tmp 4]
def Re:C:=(aa [cU 2 0,cU 3 1] (.fz false 2 (.region [aV 4 4 3,b2 5 (.mkf 243 [.t 2]),b5 6 129 4 5])))
@[simp] def Yo:List bW:=[]
def wq:C:=(aa [cU 4 1,cU 5 2,bh 6 false] (.seq (.block 0 (aa [aI 12 0 1 4,az 13 1 12,aS 14 .eql 13 1,I 15 14,al 15 true (aI 16 0 1 5),al 15 true (az 17 1 16),al 15 true (aS 18 .eql 17 1),de 19 15 18,I 11 19] (aZ 11 (aa [I 20 0,aI 21 1 1 4,az 22 1 21,b5 23 196 20 22,I 7 23] (aa [I 24 0,aI 25 1 1 5,az 26 1 25,b5 27 196 24 26,I 8 27] (.seq (aa [I 28 7,I 29 8,bq 30 .eql 28 29] (aZ 30 (aa [bh 6 true] .ret) .skip)) (.seq (aa [I 31 8,I 32 7,bq 33 .lss 31 32] (aZ 33 (.region [I 34 8,I 35 7,I 7 34,I 8 35]) .skip)) (aa [I 36 0,eO 37 36,aI 38 0 1 37,az 39 1 38,I 40 8,I 41 7,cX (.mput .i (.t 39) (.t 40) (.t 41))] (.seq (aa [I 42 0,eO 43 42,aI 44 2 1 43,az 45 1 44,I 46 8,b2 47 (.mget .i (.bool false) false (.t 45) (.t 46)),cx 48 47] (aZ 48 (aa [I 49 0,eO 50 49,aI 51 2 1 50,az 52 1 51,I 53 7,b2 54 (.mget .i (.bool false) false (.t 52) (.t 53)),cx 55 54,I 56 55,bO 56 false 57 0,bO 56 false 58 0,al 56 false (eO 59 58),al 56 false (aI 60 1 1 59),al 56 false (az 61 1 60),bO 56 false 62 7,xS 56 false 63 (.mget .i (.agg da) false (.t 61) (.t 62)),bO 56 false 64 7,ys 56 false (.mkmap 65 (some 715)),al 56 false (c2 66 244 [.t 57,.t 63,.t 64,.t 65]),al 56 false (cx 67 66),cV 68 56 67,I 6 68] .ret) .skip)) (aa [I 69 0,eO 70 69,aI 71 1 1 70,az 72 1 71,I 73 8,b2 74 (.mget .i (.agg da) false (.t 72) (.t 73)),cL 9 da,bu 4 9 74] (.seq (aa [I 75 0,eO 76 75,aI 77 2 1 76,az 78 1 77,I 79 7,b2 80 (.mget .i (.bool false) false (.t 78) (.t 79)),cx 81 80] (aZ 81 (aa [I 82 0,I 83 7,aV 84 4 9,c2 85 245 [.t 82,.t 83,.t 84],I 6 85] .ret) .skip)) (.seq (.drawnW [715,716] 198 [I 86 0,aV 87 4 9,I 88 7,cX (.mkmap 89 (some 715)),c2 90 244 [.t 86,.t 87,.t 88,.t 89],cx 91 90,I 92 91,bO 92 true 93 0,bO 92 true 94 0,al 92 true (eO 95 94),al 92 true (aI 96 1 1 95),al 92 true (az 97 1 96),bO 92 true 98 7,xS 92 true 99 (.mgetB .i (.agg da) false (.t 97) (.t 98)),bO 92 true 100 7,ys 92 true (.mkmap 101 (some 716)),al 92 true (c2 102 244 [.t 93,.t 99,.t 100,.t 101]),al 92 true (cx 103 102),de 104 92 103,I 105 104,bO 105 true 106 0,bO 105 true 107 0,al 105 true (eO 108 107),al 105 true (aI 109 1 1 108),al 105 true (az 110 1 109),bO 105 true 111 7,xS 105 true 112 (.mgetB .i (.agg da) false (.t 110) (.t 111)),al 105 true (aV 113 4 9),al 105 true (c2 114 198 [.t 106,.t 112,.t 113]),de 115 105 114,I 6 115]) .ret))))))))) (aa [aI 117 0 1 4,az 118 1 117,aS 119 .eql 118 1,I 116 119] (aZ 116 (aa [I 120 0,aI 121 1 1 4,az 122 1 121,b5 123 196 120 122,I 10 123] (.seq (aa [I 124 0,eO 125 124,aI 126 2 1 125,az 127 1 126,I 128 10,b2 129 (.mget .i (.bool false) false (.t 127) (.t 128)),cx 130 129] (aZ 130 (aa [I 131 0,I 132 10,aV 133 4 5,c2 134 245 [.t 131,.t 132,.t 133],I 6 134] .ret) .skip)) (.seq (.drawn false 198 [I 135 0,I 136 0,eO 137 136,aI 138 1 1 137,az 139 1 138,I 140 10,b2 141 (.mgetB .i (.agg da) false (.t 139) (.t 140)),aV 142 4 5,c2 143 198 [.t 135,.t 141,.t 142],I 6 143]) .ret))) (aa [aI 145 0 1 5,az 146 1 145,aS 147 .eql 146 1,I 144 147] (aZ 144 (aa [I 148 0,aV 149 4 5,aV 150 4 4,c2 151 198 [.t 148,.t 149,.t 150],I 6 151] .ret) (aa [aI 153 0 1 4,az 154 1 153,aI 155 0 1 5,az 156 1 155,bq 157 .neq 154 156,I 158 157,al 158 false (aI 159 1 1 4),al 158 false (az 160 1 159),al 158 false (aI 161 1 1 5),al 158 false (az 162 1 161),al 158 false (bq 163 .neq 160 162),cV 164 158 163,I 165 164,al 165 false (aI 166 2 1 4),al 165 false (az 167 1 166),al 165 false (aI 168 2 1 5),al 165 false (az 169 1 168),al 165 false (bq 170 .neq 167 169),cV 171 165 170,I 152 171] (aZ 152 (aa [bh 6 false] .ret) (aa [aI 173 0 1 4,az 174 1 173,aS 175 .eql 174 4,I 172 175] (aZ 172 (.seq (.drawn false 198 [I 176 0,aI 177 3 1 4,az 178 1 177,j9 179 4 178 0,aV 180 4 179,aI 181 3 1 5,az 182 1 181,j9 183 4 182 0,aV 184 4 183,c2 185 198 [.t 176,.t 180,.t 184],I 186 185,bO 186 true 187 0,al 186 true (aI 188 3 1 4),al 186 true (az 189 1 188),al 186 true (j9 190 4 189 1),al 186 true (aV 191 4 190),al 186 true (aI 192 3 1 5),al 186 true (az 193 1 192),al 186 true (j9 194 4 193 1),al 186 true (aV 195 4 194),al 186 true (c2 196 198 [.t 187,.t 191,.t 195]),de 197 186 196,I 6 197]) .ret) .skip))))))))))) (aa [bh 6 true] .ret)))
@[simp] def oP:List bW:=[.tmp 6]
def Rf:C:=(.region [az 3 1 1,I 4 0,b5 5 196 3 4])
@[simp] def Yp:List bW:=[]
def Rg:C:=(aa [cU 4 0,cU 5 1,cU 6 2,cU 7 3,bh 8 false] (aa [cX (.alloc 9 (some 712) (.bool false)),cX (.store 1 (.t 9) (.c (.bool false)))] (.seq (.fz false 7 (.fz false 6 (.fz false 4 (.region [aV 10 4 5,b2 11 (.mkf 273 [.t 4,.t 9,.t 6,.t 7]),b5 12 129 10 11])))) (aa [az 13 1 9,I 8 13] .ret))))
@[simp] def Yq:List bW:=[.tmp 8]
def Rc:C:=(aa [cU 5 2,bh 6 false] (.seq (.drawn true 24 [I 7 0,eO 8 7,aI 9 1 1 8,az 10 1 9,I 11 1,aV 12 4 5,cX (.mput .i (.t 10) (.t 11) (.t 12))]) (aa [I 13 0,eO 14 13,aI 15 2 1 14,az 16 1 15,I 17 1,cX (.mput .i (.t 16) (.t 17) (.c (.bool true)))] (aa [I 18 0,aV 19 4 5,I 20 1,cX (.mkmap 21 (some 715)),c2 22 244 [.t 18,.t 19,.t 20,.t 21],cx 23 22,I 6 23] .ret))))
@[simp] def Yn:List bW:=[.tmp 6]
def zZ:C:=(aa [cU 2 0,bh 4 false] (.seq (.seq (.fz false 2 (.region [az 6 1 2,eO 7 6,aI 8 3 1 7,az 9 1 8,I 10 1,b2 11 (.mget .i (.int .i64 0) false (.t 9) (.t 10)),aS 12 .eql 11 2])) (aZ 12 (aa [bh 4 true] .ret) .skip)) (.seq (aa [az 13 1 2,eO 14 13,aI 15 3 1 14,az 16 1 15,I 17 1,b2 18 (.mget .i (.int .i64 0) false (.t 16) (.t 17)),aS 19 .eql 18 1] (aZ 19 (aa [bh 4 false] .ret) .skip)) (aa [az 20 1 2,eO 21 20,aI 22 3 1 21,az 23 1 22,I 24 1,cX (.mput .i (.t 23) (.t 24) (dS 1))] (aa [az 25 1 2,eO 26 25,aI 27 4 1 26,az 28 1 27,I 29 1,cX (.mput .i (.t 28) (.t 29) (dS 1))] (.seq (aa [az 30 1 2,eO 31 30,aI 32 2 1 31,az 33 1 32,I 34 1,b2 35 (.mget .i (.bool false) false (.t 33) (.t 34))] (aZ 35 (aa [cX (.alloc 5 (some 712) (.bool false)),cX (.store 1 (.t 5) (.c (.bool true)))] (aa [az 36 1 2,eO 37 36,aI 38 1 1 37,az 39 1 38,I 40 1,b2 41 (.mget .i (.agg da) false (.t 39) (.t 40)),b2 42 (.mkf 274 [.t 5,.t 2]),b5 43 129 41 42] (.seq (aa [az 44 1 5,cx 45 44] (aZ 45 (aa [bh 4 false] .ret) .skip)) (.drawn false 64 [az 46 1 2,eO 47 46,aI 48 4 1 47,az 49 1 48,I 50 1,az 51 1 2,eO 52 51,aI 53 1 1 52,az 54 1 53,I 55 1,b2 56 (.mgetB .i (.agg da) false (.t 54) (.t 55)),b2 57 (.mkf 275 [.t 2]),b5 58 239 56 57,cX (.mput .i (.t 49) (.t 50) (.t 58))])))) .skip)) (aa [az 59 1 2,eO 60 59,aI 61 3 1 60,az 62 1 61,I 63 1,cX (.mput .i (.t 62) (.t 63) (dS 2))] (aa [bh 4 true] .ret))))))))
@[simp] def BJ:List bW:=[.tmp 4]
def F5:C:=(aa [cU 2 0,cL 4 da] (.seq (.seq (.fz false 2 (.region [az 9 1 2,eO 10 9,aI 11 5 1 10,az 12 1 11,I 13 1,b2 14 (.mget .i (.agg da) true (.t 12) (.t 13)),I 8 14,cj 15 0 8,cj 16 1 8,cL 5 da,bu 4 5 15,I 6 16])) (aa [I 17 6] (aZ 17 (aa [aV 18 4 5,bu 4 4 18] .ret) .skip))) (aa [I 19 1,cG 20 96 19,cL 7 da,bu 4 7 20] (.seq (aa [az 21 1 2,eO 22 21,aI 23 2 1 22,az 24 1 23,I 25 1,b2 26 (.mget .i (.bool false) false (.t 24) (.t 25))] (aZ 26 (.region [az 27 1 2,eO 28 27,aI 29 1 1 28,az 30 1 29,I 31 1,b2 32 (.mget .i (.agg da) false (.t 30) (.t 31)),b2 33 (.mkf 276 [.t 2]),b5 34 153 32 33,bu 4 7 34]) .skip)) (.seq (.drawn true 42 [az 35 1 2,eO 36 35,aI 37 5 1 36,az 38 1 37,I 39 1,aV 40 4 7,cX (.mput .i (.t 38) (.t 39) (.t 40))]) (aa [aV 41 4 7,bu 4 4 41] .ret))))))
@[simp] def Iw:List bW:=[.cell 4 true 4]
def Rh:C:=(aa [az 7 1 1,I 8 0,b5 9 196 7 8,I 6 9] (.seq (aa [az 10 1 2,I 11 10,bO 11 false 12 6,al 11 false (az 13 1 3),al 11 false (bq 14 .eql 12 13),cV 15 11 14] (aZ 15 (aa [cX (.store 1 (.t 2) (.c (.bool true)))] .ret) .skip)) (aa [az 16 1 4,I 17 6,b2 18 (.mget .i (.bool false) false (.t 16) (.t 17)),cx 19 18,I 20 19,al 20 true (az 21 1 1),al 20 true (eO 22 21),al 20 true (aI 23 2 1 22),al 20 true (az 24 1 23),bO 20 true 25 6,al 20 true (b2 26 (.mget .i (.bool false) false (.t 24) (.t 25))),de 27 20 26] (aZ 27 (aa [az 28 1 4,I 29 6,cX (.mput .i (.t 28) (.t 29) (.c (.bool true)))] (.drawn false 40 [az 30 1 1,az 31 1 1,eO 32 31,aI 33 1 1 32,az 34 1 33,I 35 6,b2 36 (.mgetB .i (.agg da) false (.t 34) (.t 35)),az 37 1 3,az 38 1 4,c2 39 244 [.t 30,.t 36,.t 37,.t 38],bu 1 2 39])) .skip))))
@[simp] def BI:List bW:=[]
def Kh:C:=(.seq (.drawn false 13 [b2 4 (.loadB false 1 (.t 1)),I 5 4,al 5 true (az 6 1 2),al 5 true (az 7 1 2),bO 5 true 8 0,al 5 true (b5 9 196 7 8),al 5 true (b5 10 246 6 9),al 5 true (cx 11 10),de 12 5 11]) (aZ 12 (.region [cX (.store 1 (.t 1) (.c (.bool false)))]) .skip))
@[simp] def Ix:List bW:=[]
def Rl:C:=(aa [b6 3 0] (.seq (.drawn false 12 [az 4 1 1,eO 5 4,aI 6 4 1 5,az 7 1 6,az 8 1 1,I 9 0,b5 10 196 8 9,b2 11 (.mgetB .i (.int .i64 0) false (.t 7) (.t 10)),I 3 11]) .ret))
@[simp] def Yt:List bW:=[.tmp 3]
def Rk:C:=(aa [cL 3 da,bh 4 false] (.seq (.drawn false 10 [az 5 1 1,az 6 1 1,I 7 0,b5 8 196 6 7,b5 9 247 5 8,bu 4 3 9,bh 4 true]) .ret))
@[simp] def Ys:List bW:=[.cell 3 true 4,.tmp 4]
def pN:List (Nat×dB):=[
 (3,⟨1,8,.int .i64,.int .i64 0⟩),
 (4,⟨1,1,.bool,.bool false⟩),
 (9,⟨1,16,.str,.str []⟩),
 (30,⟨1,24,.slice 32,.slice 4 .nil []⟩),
 (32,⟨4,56,.struct [(0,3),(1,3),(2,9),(3,30)],.agg [.int .i64 0,.int .i64 0,.str [],.slice 4 .nil []]⟩),
 (127,⟨1,8,.map 3 32,.junk⟩),
 (154,⟨1,8,.map 3 4,.junk⟩),
 (182,⟨1,8,.map 3 3,.junk⟩),
 (204,⟨1,8,.other,.nilp⟩),
 (245,⟨6,48,.struct [(0,182),(1,127),(2,154),(3,182),(4,182),(5,127)],.agg [.junk,.junk,.junk,.junk,.junk,.junk]⟩)]
theorem jR:fM ax pN=true:=by kernel_rfl
theorem al2:b3 pN RG anX 1 Tryz.f96=true:=by kernel_rfl
theorem aeZ:ax.funcs[(96:Nat)]? =some Tryz.f96:=Tryz.func96
theorem alQ:b3 pN Ru YC 0 Tryz.f195=true:=by kernel_rfl
theorem aeN:ax.funcs[(195:Nat)]? =some Tryz.f195:=Tryz.func195
theorem alE:b3 pN Ri Yr 2 Tryz.f196=true:=by kernel_rfl
theorem aeB:ax.funcs[(196:Nat)]? =some Tryz.f196:=Tryz.func196
theorem alA:b3 pN Re Yo 2 Tryz.f197=true:=by kernel_rfl
theorem aex:ax.funcs[(197:Nat)]? =some Tryz.f197:=Tryz.func197
theorem y6:b3 pN wq oP 3 Tryz.f198=true:=by kernel_rfl
theorem ya:ax.funcs[(198:Nat)]? =some Tryz.f198:=Tryz.func198
theorem alB:b3 pN Rf Yp 2 Tryz.f243=true:=by kernel_rfl
theorem aey:ax.funcs[(243:Nat)]? =some Tryz.f243:=Tryz.func243
theorem alC:b3 pN Rg Yq 4 Tryz.f244=true:=by kernel_rfl
theorem aez:ax.funcs[(244:Nat)]? =some Tryz.f244:=Tryz.func244
theorem alz:b3 pN Rc Yn 3 Tryz.f245=true:=by kernel_rfl
theorem aew:ax.funcs[(245:Nat)]? =some Tryz.f245:=Tryz.func245
theorem Eo:b3 pN zZ BJ 2 Tryz.f246=true:=by kernel_rfl
theorem CR:ax.funcs[(246:Nat)]? =some Tryz.f246:=Tryz.func246
theorem NM:b3 pN F5 Iw 2 Tryz.f247=true:=by kernel_rfl
theorem K3:ax.funcs[(247:Nat)]? =some Tryz.f247:=Tryz.func247
theorem alD:b3 pN Rh BI 5 Tryz.f273=true:=by kernel_rfl
theorem aeA:ax.funcs[(273:Nat)]? =some Tryz.f273:=Tryz.func273
theorem XI:b3 pN Kh Ix 3 Tryz.f274=true:=by kernel_rfl
theorem TI:ax.funcs[(274:Nat)]? =some Tryz.f274:=Tryz.func274
theorem alH:b3 pN Rl Yt 2 Tryz.f275=true:=by kernel_rfl
theorem aeE:ax.funcs[(275:Nat)]? =some Tryz.f275:=Tryz.func275
theorem alG:b3 pN Rk Ys 2 Tryz.f276=true:=by kernel_rfl
theorem aeD:ax.funcs[(276:Nat)]? =some Tryz.f276:=Tryz.func276
end
section
open Go Go.Pv
section
variable {α:Type} (S:α->cR) (dy:∀a,dM (S a)) (eL:∀a b,Same (S a) (S b)) (g:Nat) (dt:List ak) (ar:∀a,aN (inObs (S a)) dt) (dh:c7 dt=dt)
include dy eL ar dh in
theorem Ud(hv:α->Prop)(f:Int->α->Option α)(aQ:∀v a bn,hv a->f v a=some bn->hv bn/\bI ax g (.int .i64 v::dt) (S a) fun r ah=>r= .tuple []/\ah=S bn)(t:T):
  ∀a bn,hv a->t.foldO f a=some bn->hv bn/\bI ax 129 [t.e,.func g dt] (S a) fun r ah=>r= .tuple []/\ah=S bn:=by
 have au:∀a m,Pv.look (.loc m) (S a).b=none:=fun a=>(dy a).obj.1;have hu:∀a m cs,cF (.loc m) cs (S a).b=(S a).b++[(.loc m,cs)]:=fun a m cs=>kr (au a m);have aw:∀a m,aM.loc m∉c3 (S a):=fun a=>kl (dy a).obj;induction t with
 |pair x y oJ qM=>intro a bn hi he;have ag:=dy a;simp only[T.foldO,iX]at he;obtain⟨bC,J,U⟩:=he;obtain⟨i1,g1⟩:=oJ a bC hi J;obtain⟨i2,g2⟩:=qM bC bn i1 U;refine⟨i2,?_⟩;refine bI.mk mixed fN Aj Bw Ψ ag.obj fun aR cI=>?_;unfold x5;simp[hu,aw,cS,au,dh];(with_reducible repeat' first|refine aj ?_|simp[hu,aw,cS,au]);refine cO.ob g1 ag aL aL (by simp[ar]) ?_;rintro r ah ⟨rfl,rfl⟩;refine⟨eL _ _,?_⟩;simp[hr,iW,cb,au];(with_reducible repeat' first|refine aj ?_|simp[hu,aw,cS,au]);rw[dh];refine cO.ob g2 (dy bC) aL aL (by simp[ar]) ?_;rintro r ah ⟨rfl,rfl⟩;refine⟨eL _ _,?_⟩;simp[hr,iW,cb,au];refine cP.at (S bn) (.inr rfl) (dy _) (eL _ _) aL aL ?_;simp[cW,zd,aU,aW,aT]
 |var n=>intro a bn hi he;have ag:=dy a;simp only[T.foldO]at he;obtain⟨i1,g1⟩:=aQ n a bn hi he;refine⟨i1,?_⟩;refine bI.mk mixed fN Aj Bw Ψ ag.obj fun aR cI=>?_;unfold x5;simp[hu,aw,cS,au,dh];(with_reducible repeat' first|refine aj ?_|simp[hu,aw,cS,au]);refine cO.ob g1 ag aL aL (by simp[ar]) ?_;rintro r ah ⟨rfl,rfl⟩;refine⟨eL _ _,?_⟩;simp[hr,iW,cb,au,cS];refine cP.at (S bn) (.inr rfl) (dy _) (eL _ _) aL aL ?_;simp[cW,zd,aU,aW,aT]
 |_=>intro a bn hi he;have ag:=dy a;simp only[T.foldO,dE]at he;subst he;refine⟨hi,?_⟩;refine bI.mk mixed fN Aj Bw Ψ ag.obj fun aR cI=>?_;unfold x5;simp[hu,aw,cS,au,dh];(with_reducible repeat' first|refine aj ?_|simp[hu,aw,cS,au]);refine cP.at (S a) (.inr rfl) ag (Same.refl _) aL aL ?_;simp[cW,zd,aU,aW,aT]
include dy eL ar dh in
theorem Lp(f:Int->α->Option α)(aQ:∀v a bn,f v a=some bn->bI ax g (.int .i64 v::dt) (S a) fun r ah=>r= .tuple []/\ah=S bn)(t:T)(a bn:α)(h:t.foldO f a=some bn):bI ax 129 [t.e,.func g dt] (S a) fun r ah=>r= .tuple []/\ah=S bn:=(Ud S dy eL g dt ar dh (fun _=>True) f (fun v a bn _ h=>⟨trivial,aQ v a bn h⟩) t a bn trivial h).2
include dy eL ar dh in
theorem agP(f:Int->α->Option (T×α))(aQ:∀v a p,f v a=some p->bI ax g (.int .i64 v::dt) (S a) fun r ah=>r= .tuple [p.1.e,.bool true]/\ah=S p.2)(t:T):
  ∀a p,t.mapO f a=some p->bI ax 153 [t.e,.func g dt] (S a) fun r ah=>r=p.1.e/\ah=S p.2:=by
 have au:∀a m,Pv.look (.loc m) (S a).b=none:=fun a=>(dy a).obj.1;have cK:∀a m,Pv.look (.loc m) (S a).e=none:=fun a=>(dy a).obj.2;have hu:∀a m cs,cF (.loc m) cs (S a).b=(S a).b++[(.loc m,cs)]:=fun a m cs=>kr (au a m);have aw:∀a m,aM.loc m∉c3 (S a):=fun a=>kl (dy a).obj;have mf:∀a m p r,cF (.loc m) p ((S a).b++r)=(S a).b++cF (.loc m) p r:=fun a m p r=>Cc (au a m);induction t with
 |pair x y oJ qM=>intro a p he;have ag:=dy a;simp only[T.mapO,iX,gm]at he;obtain⟨c1,J,dv,U,rfl⟩:=he;refine bI.mk mixed fN Ak Bx Ψ ag.obj fun aR cI=>?_;unfold x6;simp[hu,aw,cS,au,cK,dh,mf];(with_reducible repeat' first|refine aj ?_|simp[hu,aw,cS,au,cK,mf]);refine hH.ob (oJ a c1 J) ag (dy c1.2) (eL _ _) aL aL (by simp[ar]) ?_;simp[hr,iW,cb,au,dh];(with_reducible repeat' first|refine aj ?_|simp[hu,aw,cS,au,cK,mf]);refine hH.ob (qM c1.2 dv U) (dy c1.2) (dy dv.2) (eL _ _) aL aL (by simp[ar,dh]) ?_;simp[hr,iW,cb,au,dh];(with_reducible repeat' first|refine aj ?_|refine aA (Jx _ _) ?_|refine aB (Jx _ _) ?_|simp[cS,au,mf]);refine cP.at (S dv.2) (.inl rfl) (dy _) (eL _ _) aL aL ?_;simp[cW,ze,aU,aW,aT,cS,au]
 |var n=>
  intro a p he;have ag:=dy a;simp only[T.mapO]at he;refine bI.mk mixed fN Ak Bx Ψ ag.obj fun aR cI=>?_;unfold x6;simp[hu,aw,cS,au,dh,mf];(with_reducible repeat' first|refine aj ?_|simp[hu,aw,cS,au,mf]);refine cO.ob (aQ n a p he) ag aL aL (by simp[ar]) ?_;rintro r ah ⟨rfl,rfl⟩;refine⟨eL _ _,?_⟩;simp[hr,iW,cb,au,hu,aw,cS];(with_reducible repeat' first|refine aj ?_|refine aA (uL _) ?_|refine aB (uL _) ?_|simp[hu,aw,cS,au,mf]);all_goals refine cP.at (S p.2) (.inl rfl) (dy _) (eL _ _) aL aL ?_
  all_goals simp[cW,ze,aU,aW,aT,cS,au]
 |_=>intro a p he;have ag:=dy a;simp only[T.mapO,dE]at he;subst he;refine bI.mk mixed fN Ak Bx Ψ ag.obj fun aR cI=>?_;unfold x6;simp[hu,aw,cS,au,dh,mf];(with_reducible repeat' first|refine aj ?_|simp[hu,aw,cS,au,mf]);refine cP.at (S a) (.inl rfl) ag (Same.refl _) aL aL ?_;simp[cW,ze,aU,aW,aT,cS,au]
include dy eL ar dh in
theorem ag2(hv:α->Prop)(f:Int->α->Option (Int×α))(Dj:∀v a p,hv a->f v a=some p->hv p.2/\0<=p.1/\p.1<=1000000)(aQ:∀v a p,hv a->f v a=some p->bI ax g (.int .i64 v::dt) (S a) fun r ah=>r= .int .i64 p.1/\ah=S p.2)(t:T):
  ∀a p,hv a->t.sizeO f a=some p->hv p.2/\(0<=p.1/\p.1<=5001)/\bI ax 239 [t.e,.func g dt] (S a) fun r ah=>r= .int .i64 p.1/\ah=S p.2:=by
 have au:∀a m,Pv.look (.loc m) (S a).b=none:=fun a=>(dy a).obj.1;have hu:∀a m cs,cF (.loc m) cs (S a).b=(S a).b++[(.loc m,cs)]:=fun a m cs=>kr (au a m);have aw:∀a m,aM.loc m∉c3 (S a):=fun a=>kl (dy a).obj;induction t with
 |pair x y oJ qM=>
  intro a p hi he;have ag:=dy a;simp only[T.sizeO,iX]at he;obtain⟨c1,J,U⟩:=he;obtain⟨i1,cg,g1⟩:=oJ a c1 hi J;by_cases Df:5000<c1.1
  ·rw[if_pos Df]at U;cases U;refine⟨i1,cg,?_⟩;refine bI.mk mixed fN yb y7 Ψ ag.obj fun aR cI=>?_;unfold wu;simp[hu,aw,cS,au,dh];(with_reducible repeat' first|refine aj ?_|simp[hu,aw,cS,au]);refine cO.ob g1 ag aL aL (by simp[ar]) ?_;rintro r ah ⟨rfl,rfl⟩;refine⟨eL _ _,?_⟩;simp[hr,iW,cb,au];((with_reducible repeat' first|((first|apply bL|apply bN|apply bM)<;>intro h<;>try simp at h)|refine aj ?_|simp[hu,aw,cS,au])<;>(try contradiction));all_goals first|omega|(refine cP.at (S p.2) (.inl rfl) (dy _) (eL _ _) aL aL ?_;simp[cW,vT,aU,aW,aT])
  ·rw[if_neg Df,gm]at U;obtain⟨dv,U,rfl⟩:=U;obtain⟨i2,cc,g2⟩:=qM c1.2 dv i1 U;refine⟨i2,by simp only;split<;>omega,?_⟩;refine bI.mk mixed fN yb y7 Ψ ag.obj fun aR cI=>?_;unfold wu;simp[hu,aw,cS,au,dh];(with_reducible repeat' first|((first|apply bL|apply bN|apply bM)<;>intro h<;>try simp at h)|refine aj ?_|simp[hu,aw,cS,au]);refine cO.ob g1 ag aL aL (by simp[ar]) ?_;rintro r ah ⟨rfl,rfl⟩;refine⟨eL _ _,?_⟩;simp[hr,iW,cb,au];((with_reducible repeat' first|refine aj ?_|simp[hu,aw,cS,au]|((first|apply bL|apply bN|apply bM)<;>intro h<;>try simp at h))<;>(try exact cm));all_goals first|omega|skip
   rw[dh];refine cO.ob g2 (dy c1.2) aL aL (by simp[ar]) ?_;rintro r s2 ⟨rfl,rfl⟩;refine⟨eL _ _,?_⟩;simp[hr,iW,cb,au];(with_reducible repeat' first|refine aj ?_|simp[hu,aw,cS,au]);refine cP.at (S dv.2) (.inl rfl) (dy _) (eL _ _) aL aL ?_;simp[cW,vT,aU,aW,aT]
 |var n=>intro a p hi he;have ag:=dy a;simp only[T.sizeO,gm]at he;obtain⟨c1,J,rfl⟩:=he;have ab:=Dj n a c1 hi J;refine⟨ab.1,by simp only;split<;>omega,?_⟩;refine bI.mk mixed fN yb y7 Ψ ag.obj fun aR cI=>?_;unfold wu;simp[hu,aw,cS,au,dh];(with_reducible repeat' first|refine aj ?_|simp[hu,aw,cS,au]);refine cO.ob (aQ n a c1 hi J) ag aL aL (by simp[ar]) ?_;rintro r ah ⟨rfl,rfl⟩;refine⟨eL _ _,?_⟩;simp[hr,iW,cb,au];refine cP.at (S c1.2) (.inl rfl) (dy _) (eL _ _) aL aL ?_;simp[cW,vT,aU,aW,aT]
 |_=>intro a p hi he;have ag:=dy a;simp only[T.sizeO,dE]at he;subst he;refine⟨hi,Ψ,?_⟩;refine bI.mk mixed fN yb y7 Ψ ag.obj fun aR cI=>?_;unfold wu;simp[hu,aw,cS,au,dh];(with_reducible repeat' first|refine aj ?_|simp[hu,aw,cS,au]);refine cP.at (S a) (.inl rfl) ag (Same.refl _) aL aL ?_;simp[cW,vT,aU,aW,aT]
end
end
section
open Go Go.Pv
theorem M7{α β:Type}(k:aM):∀{l:List (aM×α)} {a8:List (aM×β)},l.map (·.1)=a8.map (·.1)->(Pv.look k l).isSome=(Pv.look k a8).isSome
 |[],[],_=>rfl
 |[],_::_,h=>by simp at h
 |_::_,[],h=>by simp at h
 |(i,x)::r,(j,y)::eQ,h=>by
  simp only[ht,zK]at h;simp only[Pv.look];obtain⟨rfl,h⟩:=h;split
  ·rfl
  ·exact M7 k h
theorem _root_.Go.Pv.Same.keys{s ah:cR}(ab:s.b.map (·.1)=ah.b.map (·.1))(he:s.e.map (·.1)=ah.e.map (·.1)):Same s ah:=⟨fun k=>M7 k ab,fun k=>M7 k he⟩
section
variable {α:Type} (e:α->ak)
def sW(l:List (Int×α)):List ak:=kG (l.map fun x=>(x.1,e x.2))
theorem Qs(k:Int):∀l:List (Int×α),x1 k (l.map fun x=>(x.1,e x.2))=(tg k l).map e
 |[]=>rfl
 |(i,v)::r=>by
  simp only[ht,x1,tg];split
  ·rfl
  ·exact Qs k r
theorem Qy(k:Int)(v:α):∀l:List (Int×α),p2 k (e v) (l.map fun x=>(x.1,e x.2))=if(tg k l).isSome then some ((e2 k v l).map fun x=>(x.1,e x.2))else none
 |[]=>rfl
 |(i,w)::r=>by
  simp only[ht,p2,tg,e2];by_cases h:k=i
  ·subst h;simp
  ·simp only[h,if_false,Qy k v r];cases (tg k r).isSome<;>simp
theorem Z0{k:Int}{v:α}:∀{l:List (Int×α)},tg k l=none->e2 k v l=l++[(k,v)]
 |[],_=>rfl
 |(i,w)::r,h=>by
  simp only[tg]at h;split at h
  ·cases h
  ·rename_i cK;simp[e2,cK,Z0 h]
theorem Nv(k:Int)(v:α)(l:List (Int×α)):pH .i (.int .i64 k) (e v) (sW e l)=some (sW e (e2 k v l)):=by
 simp only[sW,Xs,FP,Qy];cases h:tg k l with
 |some w=>simp
 |none=>simp[Z0 h]
theorem Nr(f:aM->Option (List ak))(m:aM)(l:List (Int×α))(z:ak)(ok:Bool)(k:Int)(hm:f m=some (sW e l)):oM f .i z ok (.gmap m) (.int .i64 k)=some (True,if ok then .tuple [((tg k l).map e).getD z,.bool (tg k l).isSome]else((tg k l).map e).getD z):=by rw[akG f m _ z ok k hm,Qs];cases tg k l<;>rfl
@[simp]theorem auk(l:List (Int×α)):ie (sW e l)=false:=rfl
theorem MW(S:aM->Prop)(he:∀x,aJ S (e x))(l:List (Int×α)):aN S (sW e l):=by
 have:∀l:List (Int×α),aN S (kP (l.map fun x=>(x.1,e x.2))):=by
  intro l;induction l with
  |nil=>simp[kP,aN]
  |cons x r bR=>simp[kP,aN,bR,he]
 simp[sW,kG,aN,this,aJ]
end
def n1:List (Int×Int)->List ak:=sW (ak.int .i64)
def qT:List (Int×Bool)->List ak:=sW ak.bool
def uw:List (Int×T)->List ak:=sW T.e
@[simp]theorem auh(l):ie (n1 l)=false:=rfl
@[simp]theorem auf(l):ie (qT l)=false:=rfl
@[simp]theorem auj(l):ie (uw l)=false:=rfl
@[simp]theorem ath(S:aM->Prop)(l):aN S (n1 l)=True:=eq_true (MW _ S (fun _=>by simp) l)
@[simp]theorem atg(S:aM->Prop)(l):aN S (qT l)=True:=eq_true (MW _ S (fun _=>by simp) l)
@[simp]theorem ati(S:aM->Prop)(l):aN S (uw l)=True:=eq_true (MW _ S (fun _=>by simp) l)
@[simp]theorem at4(k v:Int)(l):pH .i (.int .i64 k) (.int .i64 v) (n1 l)=some (n1 (e2 k v l)):=Nv _ k v l
@[simp]theorem at3(k:Int)(v:Bool)(l):pH .i (.int .i64 k) (.bool v) (qT l)=some (qT (e2 k v l)):=Nv _ k v l
@[simp]theorem at6(k:Int)(v:T)(l):pH .i (.int .i64 k) v.e (uw l)=some (uw (e2 k v l)):=Nv _ k v l
def Eg(ch:jW)(z:ak)(ok:Bool)(o:Option (List ak))(k:ak):Option (Prop×ak):=oM (fun _=>o) ch z ok (.gmap (.loc 0)) k
@[simp]theorem at1(f:aM->Option (List ak))(ch:jW)(z:ak)(ok:Bool)(m:aM)(k:ak):oM f ch z ok (.gmap m) k=Eg ch z ok (f m) k:=by simp only[Eg,Xe]
theorem akI(f:aM->Option (List ak))(m:aM)(l:List (Int×Int))(ok:Bool)(k:Int)(hm:f m=some (n1 l)):oM f .i (.int .i64 0) ok (.gmap m) (.int .i64 k)=some (True,if ok then .tuple [.int .i64 (jn l k),.bool (tg k l).isSome]else .int .i64 (jn l k)):=by rw[Nr _ f m l _ ok k hm];unfold jn;cases tg k l<;>rfl
theorem akH(f:aM->Option (List ak))(m:aM)(l:List (Int×Bool))(ok:Bool)(k:Int)(hm:f m=some (qT l)):oM f .i (.bool false) ok (.gmap m) (.int .i64 k)=some (True,if ok then .tuple [.bool ((tg k l).getD false),.bool (tg k l).isSome]else .bool ((tg k l).getD false)):=by rw[Nr _ f m l _ ok k hm];cases tg k l<;>rfl
def ZW:ak:= .agg [.int .i64 0,.int .i64 0,.str [],.slice 4 .nil []]
def xE(o:Option T):ak:=(o.map T.e).getD ZW
theorem akJ(f:aM->Option (List ak))(m:aM)(l:List (Int×T))(ok:Bool)(k:Int)(hm:f m=some (uw l)):oM f .i (.agg [.int .i64 0,.int .i64 0,.str [],.slice 4 .nil []]) ok (.gmap m) (.int .i64 k)=some (True,if ok then .tuple [xE (tg k l),.bool (tg k l).isSome]else xE (tg k l)):=by rw[Nr _ f m l _ ok k hm];rfl
@[simp]theorem atZ(l:List (Int×Int))(ok:Bool)(k:Int):Eg .i (.int .i64 0) ok (some (n1 l)) (.int .i64 k)=some (True,if ok then .tuple [.int .i64 (jn l k),.bool (tg k l).isSome]else .int .i64 (jn l k)):=akI _ _ l ok k rfl
@[simp]theorem atY(l:List (Int×Bool))(ok:Bool)(k:Int):Eg .i (.bool false) ok (some (qT l)) (.int .i64 k)=some (True,if ok then .tuple [.bool ((tg k l).getD false),.bool (tg k l).isSome]else .bool ((tg k l).getD false)):=akH _ _ l ok k rfl
@[simp]theorem at0(l:List (Int×T))(ok:Bool)(k:Int):Eg .i (.agg [.int .i64 0,.int .i64 0,.str [],.slice 4 .nil []]) ok (some (uw l)) (.int .i64 k)=some (True,if ok then .tuple [xE (tg k l),.bool (tg k l).isSome]else xE (tg k l)):=akJ _ _ l ok k rfl
@[simp]theorem au9(o:Option T):eb (xE o)=(o.getD .nil).e:=by cases o<;>simp[xE,ZW,eb,c7]
@[simp]theorem atM:[ak.hdm 0 []]=kG []:=rfl
def aE:ak:= .eptr (.agg [.gmap (.obj 702),.gmap (.obj 703),.gmap (.obj 704),.gmap (.obj 705),.gmap (.obj 706),.gmap (.obj 707)])
def aD(c:bB):List (aM×List ak):=[(.obj 702,n1 c.up),(.obj 703,uw c.shape),(.obj 704,qT c.shaped),(.obj 705,n1 c.color),(.obj 706,n1 c.size),(.obj 707,uw c.full)]
def aO(c:bB):cR:=⟨aD c,[]⟩
theorem cl(c:bB):dM (aO c):=by unfold aO aD;exact dM.of ⟨by intro m;simp[Pv.look],by intro m;simp[Pv.look]⟩ Ψ Ψ
theorem FF(c cq:bB):Same (aO c) (aO cq):=by
 refine⟨fun k=>?_,fun k=>rfl⟩;simp only[aO,aD,Pv.look];repeat' split
 all_goals rfl
theorem sp(c:bB)(v r:Int)(cq:bB)(he:rt c v=some (r,cq)):bI ax 196 [aE,.int .i64 v] (aO c) fun eQ ah=>eQ= .int .i64 r/\ah=aO cq:=by
 have ag:=cl c;have fe:=cl cq;have eL:=FF c cq;simp only[rt,gm,jU]at he;obtain⟨⟨e1,m1⟩,he,rfl,rfl⟩:=he;unfold aO aD at ag fe eL⊢;simp only at fe eL⊢;unfold aE;refine bI.mk mixed jR aeB alE Ψ ag.obj fun aR cI=>?_;unfold Ri;simp;(with_reducible repeat' first|((first|apply bL|apply bN|apply bM)<;>intro h<;>try simp at h)|refine aj ?_|simp);all_goals
  refine pd (α:=Nat×Int×List (Int×Int)) (fun a=>⟨[(0,aE),(1,.int .i64 a.2.1)],[(.obj 702,n1 a.2.2),(.obj 703,uw c.shape),(.obj 704,qT c.shaped),(.obj 705,n1 c.color),(.obj 706,n1 c.size),(.obj 707,uw c.full)],[],0,[.obj 702,.obj 703,.obj 704,.obj 705,.obj 706,.obj 707]⟩) (fun a=>a.1) (fun a=>xy a.1 a.2.2 a.2.1=some (e1,m1)) (v.toNat+1,v,zR v c.up) (by simp[zR,h,aE];exact⟨by simp[fresh,aN,aJ,cz,inObs,Pv.look,aE],eD (by simp[fresh,aN,aJ,cz,inObs,Pv.look,aE]),eE (by simp[fresh,aN,aJ,eg,inObs,Pv.look,aE]),Ψ⟩) he ?_
  rintro⟨n,u,m⟩ af ab
  simp only at af ab⊢
  cases n with
  |zero=>simp[xy]at af
  |succ n=>
   simp only[xy]at af
   simp[aE]
   (with_reducible repeat' first|((first|apply bL|apply bN|apply bM)<;>intro h<;>try simp at h)|refine aj ?_|simp)
   ·rw[if_neg h]at af
    refine bP.whl (n,jn (e2 u (jn m (jn m u)) m) u,e2 u (jn m (jn m u)) m) (Nat.lt_succ_self n) af ?_
    simp[aE]
    exact⟨by simp[fresh,aN,aJ,cz,inObs,Pv.look,aE],eD (by simp[fresh,aN,aJ,cz,inObs,Pv.look,aE]),eE (by simp[fresh,aN,aJ,eg,inObs,Pv.look,aE]),Ψ⟩
   ·rw[if_pos h]at af
    cases af
    refine cP.at _ (.inl rfl) fe eL aL aL ?_
    simp[cW,Yr,aU,aW,aT]
end
section
open Go Go.Pv
theorem agQ(c:bB)(v r:Int)(cq:bB)(he:rt c v=some (r,cq)):bI ax 243 [.int .i64 v,.eptr aE] (aO c) fun eQ ah=>eQ= .tuple []/\ah=aO cq:=by have ag:=cl c;simp only[aO,aD]at ag⊢;refine bI.mk mixed jR aey alB Ψ ag.obj fun aR cI=>?_;unfold Rf;simp[aE];(refine cO.ob (sp c v r cq he) (by first|exact cl _|exact cl ‹_› _) (by simp only[aO,aD,aE,bZ,b4];exact aL) (by simp only[aO,aD,aE,bZ,b4];exact aL) (by simp[inObs,Pv.look,aO,aD,aE]) ?_;rintro r ah ⟨rfl,rfl⟩;refine⟨(Same.keys (by simp[aO,aD,aE]) (by simp[aO,aD,aE])),?_⟩;simp[cb,aO,aD,aE]);(refine cP.at (aO cq) Ψ (by first|exact cl _|exact cl ‹_› _) (Same.keys (by simp[aO,aD,aE]) (by simp[aO,aD,aE])) (by simp only[aO,aD,aE,bZ,b4];exact aL) (by simp only[aO,aD,aE,bZ,b4];exact aL) ?_;simp[cW,Yp,aU,aW,aT,inObs,Pv.look,aO,aD,aE])
theorem Ls(c:bB)(t:T)(cq:bB)(he:Bk t c=some cq):bI ax 197 [aE,t.e] (aO c) fun eQ ah=>eQ= .tuple []/\ah=aO cq:=by
 have ag:=cl c;have key:=Lp aO cl FF 243 [.eptr aE] (fun a=>by simp[aO,aD,aE,inObs,Pv.look]) rfl (fun(v:Int) (c:bB)=>(rt c v).map Prod.snd) (fun v a bn h=>by rw[gm]at h;obtain⟨⟨r,b0⟩,J,rfl⟩:=h;exact agQ a v r b0 J) t c cq he
 simp only[aO,aD]at ag⊢;refine bI.mk mixed jR aex alA Ψ ag.obj fun aR cI=>?_;unfold Re;simp[aE];(refine cO.ob (key) (by first|exact cl _|exact cl ‹_› _) (by simp only[aO,aD,aE,bZ,b4];exact aL) (by simp only[aO,aD,aE,bZ,b4];exact aL) (by simp[inObs,Pv.look,aO,aD,aE]) ?_;rintro r ah ⟨rfl,rfl⟩;refine⟨(Same.keys (by simp[aO,aD,aE]) (by simp[aO,aD,aE])),?_⟩;simp[cb,aO,aD,aE]);(refine cP.at (aO cq) Ψ (by first|exact cl _|exact cl ‹_› _) (Same.keys (by simp[aO,aD,aE]) (by simp[aO,aD,aE])) (by simp only[aO,aD,aE,bZ,b4];exact aL) (by simp only[aO,aD,aE,bZ,b4];exact aL) ?_;simp[cW,Yo,aU,aW,aT,inObs,Pv.look,aO,aD,aE])
def eI(K:Nat)(a:bB×List (Int×Bool)):cR:=⟨aD a.1++[(.obj K,qT a.2)],[]⟩
def gp(K:Nat)(a:uT):cR:=⟨aD a.c++[(.obj K,qT a.seen),(.obj 712,[.bool a.found])],[]⟩
def y4(K:Nat):Prop:=K=715\/K=716
theorem iB{K:Nat}(c4:y4 K)(a):dM (eI K a):=by unfold eI aD;rcases c4 with rfl|rfl;all_goals exact dM.of ⟨by intro m;simp[Pv.look],by intro m;simp[Pv.look]⟩ Ψ Ψ
theorem qC{K:Nat}(c4:y4 K)(a):dM (gp K a):=by unfold gp aD;rcases c4 with rfl|rfl;all_goals exact dM.of ⟨by intro m;simp[Pv.look],by intro m;simp[Pv.look]⟩ Ψ Ψ
theorem JJ{K:Nat}(a b):Same (gp K a) (gp K b):=by
 refine⟨fun k=>?_,fun k=>rfl⟩;simp only[gp,aD,bZ,b4,Pv.look];repeat' split
 all_goals rfl
theorem agW{K:Nat}(c4:y4 K)(n:Nat)(x:Int)(wT:∀t c seen a,qt n x t c seen=some a->bI ax 244 [aE,t.e,.int .i64 x,.gmap (.obj K)] (eI K (c,seen)) fun r ah=>r= .bool a.found/\ah=eI K (a.c,a.seen))
  (v:Int) (a bn:uT) (he:xx (qt n x) x v a=some bn):bI ax 273 [.int .i64 v,.eptr aE,.ptr (.obj 712) 0,.eptr (.int .i64 x),.eptr (.gmap (.obj K))] (gp K a) fun r ah=>r= .tuple []/\ah=gp K bn:=by
 have ag:=qC c4 a;simp only[xx,iX]at he;obtain⟨⟨r,b0⟩,J,U⟩:=he;simp only at U;have ae:=c4;rcases ae with rfl|rfl;all_goals
  simp only[gp,aD,bZ,b4]at ag⊢
  refine bI.mk mixed jR aeA alD Ψ ag.obj fun aR cI=>?_;unfold Rh
  simp[aE]
  (refine cO.ob (sp a.c v r b0 J) (by first|exact cl _|exact cl ‹_› _) (by simp only[aO,aD,aE,bZ,b4];exact aL) (by simp only[aO,aD,aE,bZ,b4];exact aL) (by simp[inObs,Pv.look,aO,aD,aE]) ?_;rintro r ah ⟨rfl,rfl⟩;refine⟨(Same.keys (by simp[aO,aD,aE]) (by simp[aO,aD,aE])),?_⟩;simp[cb,aO,aD,aE])
  obtain⟨ac,tl,JW⟩:=a
  cases JW with
  |true=>
   simp at U;subst U
   (with_reducible repeat' first|refine aj ?_|simp)
   (refine cP.at (gp _ ⟨b0,tl,true⟩) Ψ (by first|exact qC _|exact qC ‹_› _) (Same.keys (by simp[gp,aD,aE]) (by simp[gp,aD,aE])) (by simp only[gp,aD,aE,bZ,b4];exact aL) (by simp only[gp,aD,aE,bZ,b4];exact aL) ?_;simp[cW,BI,aU,aW,aT,inObs,Pv.look,gp,aD,aE])
  |false=>
   by_cases ad:r=x
   ·simp[ad]at U;subst U
    (with_reducible repeat' first|refine aj ?_|simp[ad])
    (refine cP.at (gp _ ⟨b0,tl,true⟩) Ψ (by first|exact qC _|exact qC ‹_› _) (Same.keys (by simp[gp,aD,aE]) (by simp[gp,aD,aE])) (by simp only[gp,aD,aE,bZ,b4];exact aL) (by simp only[gp,aD,aE,bZ,b4];exact aL) ?_;simp[cW,BI,aU,aW,aT,inObs,Pv.look,gp,aD,aE])
   ·have iH:(r==x)=false:=by simp[ad]
    simp only[ad,gZ,or_self,if_false]at U
    cases nU:(tg r tl).getD false with
    |true=>
     simp[nU]at U;subst U
     (with_reducible repeat' first|refine aj ?_|simp[iH,nU])
     (refine cP.at (gp _ ⟨b0,tl,false⟩) Ψ (by first|exact qC _|exact qC ‹_› _) (Same.keys (by simp[gp,aD,aE]) (by simp[gp,aD,aE])) (by simp only[gp,aD,aE,bZ,b4];exact aL) (by simp only[gp,aD,aE,bZ,b4];exact aL) ?_;simp[cW,BI,aU,aW,aT,inObs,Pv.look,gp,aD,aE])
    |false=>
     cases gV:b0.shd r with
     |false=>
      have Mk:(tg r b0.shaped).getD false=false:=gV
      simp[nU,gV]at U;subst U
      (with_reducible repeat' first|refine aj ?_|simp[iH,nU,Mk])
      (refine cP.at (gp _ ⟨b0,tl,false⟩) Ψ (by first|exact qC _|exact qC ‹_› _) (Same.keys (by simp[gp,aD,aE]) (by simp[gp,aD,aE])) (by simp only[gp,aD,aE,bZ,b4];exact aL) (by simp only[gp,aD,aE,bZ,b4];exact aL) ?_;simp[cW,BI,aU,aW,aT,inObs,Pv.look,gp,aD,aE])
     |true=>
      have Mk:(tg r b0.shaped).getD false=true:=gV
      simp[nU,gV]at U
      have aK:=wT _ _ _ _ U
      (with_reducible repeat' first|refine aj ?_|simp[iH,nU,Mk])
      (refine hH.ob (aK) (by first|exact iB _|exact iB ‹_› _) (by first|exact iB _|exact iB ‹_› _) (Same.keys (by simp[eI,aD,aE]) (by simp[eI,aD,aE])) (by simp only[eI,aD,aE,bZ,b4];exact aL) (by simp only[eI,aD,aE,bZ,b4];exact aL) (by simp[inObs,Pv.look,eI,aD,aE]) ?_;simp[cb,eI,aD,aE])
      (with_reducible repeat' first|refine aj ?_|simp)
      (refine cP.at (gp _ bn) Ψ (by first|exact qC _|exact qC ‹_› _) (Same.keys (by simp[gp,aD,aE]) (by simp[gp,aD,aE])) (by simp only[gp,aD,aE,bZ,b4];exact aL) (by simp only[gp,aD,aE,bZ,b4];exact aL) ?_;simp[cW,BI,aU,aW,aT,inObs,Pv.look,gp,aD,aE])
theorem GJ{K:Nat}(c4:y4 K)(x:Int)(n:Nat):∀(t:T) (c:bB) (seen:List (Int×Bool)) (a:uT),qt n x t c seen=some a->bI ax 244 [aE,t.e,.int .i64 x,.gmap (.obj K)] (eI K (c,seen)) fun r ah=>r= .bool a.found/\ah=eI K (a.c,a.seen):=by
 induction n with
 |zero=>intro t c seen a h;simp[qt]at h
 |succ n bR=>
  intro t c seen a h;simp only[qt]at h;have ag:=iB c4 (c,seen);have key:=Lp (gp K) (qC c4) JJ 273 [.eptr aE,.ptr (.obj 712) 0,.eptr (.int .i64 x),.eptr (.gmap (.obj K))] (fun a=>by rcases c4 with rfl|rfl<;>simp[gp,aD,aE,inObs,Pv.look]) rfl (xx (qt n x) x) (fun v a bn h=>agW c4 n x bR v a bn h) t ⟨c,seen,false⟩ a h;have ae:=c4;rcases ae with rfl|rfl;all_goals
   simp only[eI,aD,bZ,b4]at ag⊢
   refine bI.mk mixed jR aez alC Ψ ag.obj fun aR cI=>?_;unfold Rg
   simp[aE]
   refine cO.new key (qC c4 _) (by simp only[gp,aD,aE,bZ,b4];exact aL) (by simp only[gp,aD,aE,bZ,b4];exact aL) (by simp[inObs,Pv.look,gp,aD,aE]) ?_
   rintro r ah ⟨rfl,rfl⟩
   refine⟨fun m hm=>.inl ⟨?_,JJ _ _⟩,?_⟩
   ·exact((JJ _ _).inObs _).2 hm
   simp[cb,gp,aD]
   (with_reducible repeat' first|refine aj ?_|simp)
   (refine cP.at (eI _ (a.c,a.seen)) Ψ (by first|exact iB _|exact iB ‹_› _) (Same.keys (by simp[eI,aD,aE]) (by simp[eI,aD,aE])) (by simp only[eI,aD,aE,bZ,b4];exact aL) (by simp only[eI,aD,aE,bZ,b4];exact aL) ?_;simp[cW,Yq,aU,aW,aT,inObs,Pv.look,eI,aD,aE])
@[simp]theorem M9:qT []=kG []:=rfl
@[simp]theorem avb(t:T):xE (some t)=t.e:=rfl
@[simp]theorem ava:xE none= .agg [.int .i64 0,.int .i64 0,.str [],.slice 4 .nil []]:=rfl
theorem Ug(n:Nat)(x:Int)(t:T)(c:bB)(p:Bool×bB)(he:vE n x t c=some p):bI ax 245 [aE,.int .i64 x,t.e] (aO c) fun r ah=>r= .bool p.1/\ah=aO p.2:=by have ag:=cl c;simp only[vE,gm]at he;obtain⟨a,J,rfl⟩:=he;have c4:y4 715:= .inl rfl;have key:=GJ c4 x n t (c.know x t) [] a J;simp only[aO,aD]at ag⊢;refine bI.mk mixed jR aew alz Ψ ag.obj fun aR cI=>?_;unfold Rc;simp[aE];(refine cO.ob (key) (by first|exact iB _|exact iB ‹_› _) (by simp only[eI,aD,aE,bB.know,bZ,b4];exact aL) (by simp only[eI,aD,aE,bB.know,bZ,b4];exact aL) (by simp[inObs,Pv.look,eI,aD,aE,bB.know]) ?_;rintro r ah ⟨rfl,rfl⟩;refine⟨(Same.keys (by simp[eI,aD,aE,bB.know]) (by simp[eI,aD,aE,bB.know])),?_⟩;simp[cb,eI,aD,aE,bB.know]);(refine cP.at (aO a.c) Ψ (by first|exact cl _|exact cl ‹_› _) (Same.keys (by simp[aO,aD,aE]) (by simp[aO,aD,aE])) (by simp only[aO,aD,aE,bZ,b4];exact aL) (by simp only[aO,aD,aE,bZ,b4];exact aL) ?_;simp[cW,Yn,aU,aW,aT,inObs,Pv.look,aO,aD,aE])
theorem Ue(n:Nat):∀(a b:T) (c:bB) (p:Bool×bB),gM n a b c=some p->bI ax 198 [aE,a.e,b.e] (aO c) fun r ah=>r= .bool p.1/\ah=aO p.2:=by
 induction n with
 |zero=>intro a b c p h;simp[gM]at h
 |succ n bR=>
  intro a b c p he;have ag:=cl c;have DK:∀i j,a= .var i->b= .var j->bI ax 198 [aE,a.e,b.e] (aO c) fun r ah=>r= .bool p.1/\ah=aO p.2:=by
   rintro i j rfl rfl;simp only[gM,iX]at he;obtain⟨⟨x,b0⟩,J,⟨y,cu⟩,U,ao⟩:=he;simp only at U ao;simp only[aO,aD]at ag⊢;refine bI.mk mixed jR ya y6 Ψ ag.obj fun aR cI=>?_;unfold wq;simp[aE];(refine cO.ob (sp c i x b0 J) (by first|exact cl _|exact cl ‹_› _) (by simp only[aO,aD,aE,bZ,b4];exact aL) (by simp only[aO,aD,aE,bZ,b4];exact aL) (by simp[inObs,Pv.look,aO,aD,aE]) ?_;rintro r ah ⟨rfl,rfl⟩;refine⟨(Same.keys (by simp[aO,aD,aE]) (by simp[aO,aD,aE])),?_⟩;simp[cb,aO,aD,aE]);(with_reducible repeat' first|refine aj ?_|simp);(refine cO.ob (sp b0 j y cu U) (by first|exact cl _|exact cl ‹_› _) (by simp only[aO,aD,aE,bZ,b4];exact aL) (by simp only[aO,aD,aE,bZ,b4];exact aL) (by simp[inObs,Pv.look,aO,aD,aE]) ?_;rintro r ah ⟨rfl,rfl⟩;refine⟨(Same.keys (by simp[aO,aD,aE]) (by simp[aO,aD,aE])),?_⟩;simp[cb,aO,aD,aE]);by_cases gP:x=y
   ·rw[if_pos gP]at ao;cases ao;(with_reducible repeat' first|refine aj ?_|simp[gP]);(refine cP.at (aO cu) Ψ (by first|exact cl _|exact cl ‹_› _) (Same.keys (by simp[aO,aD,aE]) (by simp[aO,aD,aE])) (by simp only[aO,aD,aE,bZ,b4];exact aL) (by simp only[aO,aD,aE,bZ,b4];exact aL) ?_;simp[cW,oP,aU,aW,aT,inObs,Pv.look,aO,aD,aE])
   ·rw[if_neg gP]at ao;have A3:(x==y)=false:=by simp[gP]
    have Uy:y4 715:= .inl rfl;have ahx:y4 716:= .inr rfl;obtain⟨u,v,A0,a6⟩:∃u v,((u=y/\v=x/\y<x)\/(u=x/\v=y/\¬y<x))/\sg (gM n) n u v (cu.join u v)=some p:=by
     by_cases bz:y<x
     ·rw[if_pos bz]at ao;exact⟨y,x,.inl ⟨rfl,rfl,bz⟩,ao⟩
     ·rw[if_neg bz]at ao;exact⟨x,y,.inr ⟨rfl,rfl,bz⟩,ao⟩
    clear ao;obtain⟨d,aF⟩:∃d,d=cu.join u v:=⟨_,rfl⟩;have fs:d.up=e2 v u cu.up:=by rw[aF];rfl
    have eV:d.shape=cu.shape:=by rw[aF];rfl
    have gO:d.shaped=cu.shaped:=by rw[aF];rfl
    have hS:d.color=cu.color:=by rw[aF];rfl
    have hT:d.size=cu.size:=by rw[aF];rfl
    have hU:d.full=cu.full:=by rw[aF];rfl
    rw[<-aF]at a6;simp only[sg]at a6;cases ay:d.shd v with
    |false=>
     have mI:(tg v cu.shaped).getD false=false:=by rw[<-gO];exact ay
     rw[if_pos ay]at a6;cases hu:d.shd u with
     |false=>
      have vv:(tg u cu.shaped).getD false=false:=by rw[<-gO];exact hu
      rw[if_pos hu]at a6;cases a6;rcases A0 with⟨rfl,rfl,bz⟩|⟨rfl,rfl,bz⟩;all_goals
       (with_reducible repeat' first|refine aj ?_|simp[A3,bz,mI,vv])
       (refine cP.at (aO d) Ψ (by first|exact cl _|exact cl ‹_› _) (Same.keys (by simp[aO,aD,aE,fs,eV,gO,hS,hT,hU]) (by simp[aO,aD,aE,fs,eV,gO,hS,hT,hU])) (by simp only[aO,aD,aE,fs,eV,gO,hS,hT,hU,bZ,b4];exact aL) (by simp only[aO,aD,aE,fs,eV,gO,hS,hT,hU,bZ,b4];exact aL) ?_;simp[cW,oP,aU,aW,aT,inObs,Pv.look,aO,aD,aE,fs,eV,gO,hS,hT,hU])
     |true=>
      have vv:(tg u cu.shaped).getD false=true:=by rw[<-gO];exact hu
      rw[if_neg (by simp[hu]),gm]at a6;obtain⟨a,b7,rfl⟩:=a6;have key:=GJ Uy u n _ _ _ _ b7;rw[show d.shp u=(tg u cu.shape).getD .nil from by rw[<-eV];rfl]at key;rcases A0 with⟨rfl,rfl,bz⟩|⟨rfl,rfl,bz⟩;all_goals
       (with_reducible repeat' first|refine aj ?_|simp[A3,bz,mI,vv])
       (refine cO.ob (key) (by first|exact iB _|exact iB ‹_› _) (by simp only[eI,aD,aE,fs,eV,gO,hS,hT,hU,bZ,b4];exact aL) (by simp only[eI,aD,aE,fs,eV,gO,hS,hT,hU,bZ,b4];exact aL) (by simp[inObs,Pv.look,eI,aD,aE,fs,eV,gO,hS,hT,hU]) ?_;rintro r ah ⟨rfl,rfl⟩;refine⟨(Same.keys (by simp[eI,aD,aE,fs,eV,gO,hS,hT,hU]) (by simp[eI,aD,aE,fs,eV,gO,hS,hT,hU])),?_⟩;simp[cb,eI,aD,aE,fs,eV,gO,hS,hT,hU])
       (with_reducible repeat' first|refine aj ?_|simp)
       (refine cP.at (aO a.c) Ψ (by first|exact cl _|exact cl ‹_› _) (Same.keys (by simp[aO,aD,aE]) (by simp[aO,aD,aE])) (by simp only[aO,aD,aE,bZ,b4];exact aL) (by simp only[aO,aD,aE,bZ,b4];exact aL) ?_;simp[cW,oP,aU,aW,aT,inObs,Pv.look,aO,aD,aE])
    |true=>
     have mI:(tg v cu.shaped).getD false=true:=by rw[<-gO];exact ay
     rw[if_neg (by simp[ay])]at a6;rw[show d.shp v=(tg v cu.shape).getD .nil from by rw[<-eV];rfl]at a6;cases hu:d.shd u with
     |false=>
      have vv:(tg u cu.shaped).getD false=false:=by rw[<-gO];exact hu
      rw[if_pos hu]at a6;have key:=Ug n u _ d p a6;cases aH:tg v cu.shape;all_goals
       rw[aH]at key
       simp only[jo,kc]at key
       rcases A0 with⟨rfl,rfl,bz⟩|⟨rfl,rfl,bz⟩
       all_goals
        (with_reducible repeat' first|refine aj ?_|simp[A3,bz,mI,vv,aH])
        (refine cO.ob (key) (by first|exact cl _|exact cl ‹_› _) (by simp only[aO,aD,aE,fs,eV,gO,hS,hT,hU,bZ,b4];exact aL) (by simp only[aO,aD,aE,fs,eV,gO,hS,hT,hU,bZ,b4];exact aL) (by simp[inObs,Pv.look,aO,aD,aE,fs,eV,gO,hS,hT,hU]) ?_;rintro r ah ⟨rfl,rfl⟩;refine⟨(Same.keys (by simp[aO,aD,aE,fs,eV,gO,hS,hT,hU]) (by simp[aO,aD,aE,fs,eV,gO,hS,hT,hU])),?_⟩;simp[cb,aO,aD,aE,fs,eV,gO,hS,hT,hU])
        (with_reducible repeat' first|refine aj ?_|simp)
        (refine cP.at (aO p.2) Ψ (by first|exact cl _|exact cl ‹_› _) (Same.keys (by simp[aO,aD,aE]) (by simp[aO,aD,aE])) (by simp only[aO,aD,aE,bZ,b4];exact aL) (by simp only[aO,aD,aE,bZ,b4];exact aL) ?_;simp[cW,oP,aU,aW,aT,inObs,Pv.look,aO,aD,aE])
     |true=>
      have vv:(tg u cu.shaped).getD false=true:=by rw[<-gO];exact hu
      rw[if_neg (by simp[hu]),iX]at a6;obtain⟨a,b7,dd⟩:=a6;have key:=GJ Uy u n _ _ _ _ b7;obtain⟨o,aH⟩:∃o,tg v cu.shape=o:=⟨_,rfl⟩;rw[aH]at key dd;obtain⟨ac,tl,JW⟩:=a;cases JW with
      |true=>
       simp at dd;subst dd;cases o;all_goals
        simp only[jo,kc]at key
        rcases A0 with⟨rfl,rfl,bz⟩|⟨rfl,rfl,bz⟩
        all_goals
         (with_reducible repeat' first|refine aj ?_|simp[A3,bz,mI,vv,aH])
         (refine hH.ob (key) (by first|exact iB _|exact iB ‹_› _) (by first|exact iB _|exact iB ‹_› _) (Same.keys (by simp[eI,aD,aE,fs,eV,gO,hS,hT,hU]) (by simp[eI,aD,aE,fs,eV,gO,hS,hT,hU])) (by simp only[eI,aD,aE,fs,eV,gO,hS,hT,hU,bZ,b4];exact aL) (by simp only[eI,aD,aE,fs,eV,gO,hS,hT,hU,bZ,b4];exact aL) (by simp[inObs,Pv.look,eI,aD,aE,fs,eV,gO,hS,hT,hU]) ?_;simp[cb,eI,aD,aE,fs,eV,gO,hS,hT,hU])
         (with_reducible repeat' first|refine aj ?_|simp)
         (refine cP.at (aO ac) Ψ (by first|exact cl _|exact cl ‹_› _) (Same.keys (by simp[aO,aD,aE]) (by simp[aO,aD,aE])) (by simp only[aO,aD,aE,bZ,b4];exact aL) (by simp only[aO,aD,aE,bZ,b4];exact aL) ?_;simp[cW,oP,aU,aW,aT,inObs,Pv.look,aO,aD,aE])
      |false=>
       simp only[gZ,if_false,iX]at dd;obtain⟨b,ed,ll⟩:=dd;have w6:=GJ ahx u n _ _ _ _ ed;rw[show ac.shp u=(tg u ac.shape).getD .nil from rfl]at w6;obtain⟨J4,arE,ab4⟩:=b;cases ab4 with
       |true=>
        simp at ll;subst ll;cases o;all_goals
         simp only[jo,kc]at key
         rcases A0 with⟨rfl,rfl,bz⟩|⟨rfl,rfl,bz⟩
         all_goals
          (with_reducible repeat' first|refine aj ?_|simp[A3,bz,mI,vv,aH])
          (refine hH.ob (key) (by first|exact iB _|exact iB ‹_› _) (by first|exact iB _|exact iB ‹_› _) (Same.keys (by simp[eI,aD,aE,fs,eV,gO,hS,hT,hU]) (by simp[eI,aD,aE,fs,eV,gO,hS,hT,hU])) (by simp only[eI,aD,aE,fs,eV,gO,hS,hT,hU,bZ,b4];exact aL) (by simp only[eI,aD,aE,fs,eV,gO,hS,hT,hU,bZ,b4];exact aL) (by simp[inObs,Pv.look,eI,aD,aE,fs,eV,gO,hS,hT,hU]) ?_;simp[cb,eI,aD,aE,fs,eV,gO,hS,hT,hU])
          (with_reducible repeat' first|refine aj ?_|simp)
          (refine hH.ob (w6) (by first|exact iB _|exact iB ‹_› _) (by first|exact iB _|exact iB ‹_› _) (Same.keys (by simp[eI,aD,aE]) (by simp[eI,aD,aE])) (by simp only[eI,aD,aE,bZ,b4];exact aL) (by simp only[eI,aD,aE,bZ,b4];exact aL) (by simp[inObs,Pv.look,eI,aD,aE]) ?_;simp[cb,eI,aD,aE])
          (with_reducible repeat' first|refine aj ?_|simp)
          (refine cP.at (aO J4) Ψ (by first|exact cl _|exact cl ‹_› _) (Same.keys (by simp[aO,aD,aE]) (by simp[aO,aD,aE])) (by simp only[aO,aD,aE,bZ,b4];exact aL) (by simp only[aO,aD,aE,bZ,b4];exact aL) ?_;simp[cW,oP,aU,aW,aT,inObs,Pv.look,aO,aD,aE])
       |false=>
        simp only[gZ,if_false]at ll;have MT:=bR _ _ _ _ ll;rw[show J4.shp u=(tg u J4.shape).getD .nil from rfl]at MT;cases o;all_goals
         simp only[jo,kc]at key MT
         rcases A0 with⟨rfl,rfl,bz⟩|⟨rfl,rfl,bz⟩
         all_goals
          (with_reducible repeat' first|refine aj ?_|simp[A3,bz,mI,vv,aH])
          (refine hH.ob (key) (by first|exact iB _|exact iB ‹_› _) (by first|exact iB _|exact iB ‹_› _) (Same.keys (by simp[eI,aD,aE,fs,eV,gO,hS,hT,hU]) (by simp[eI,aD,aE,fs,eV,gO,hS,hT,hU])) (by simp only[eI,aD,aE,fs,eV,gO,hS,hT,hU,bZ,b4];exact aL) (by simp only[eI,aD,aE,fs,eV,gO,hS,hT,hU,bZ,b4];exact aL) (by simp[inObs,Pv.look,eI,aD,aE,fs,eV,gO,hS,hT,hU]) ?_;simp[cb,eI,aD,aE,fs,eV,gO,hS,hT,hU])
          (with_reducible repeat' first|refine aj ?_|simp)
          (refine hH.ob (w6) (by first|exact iB _|exact iB ‹_› _) (by first|exact iB _|exact iB ‹_› _) (Same.keys (by simp[eI,aD,aE]) (by simp[eI,aD,aE])) (by simp only[eI,aD,aE,bZ,b4];exact aL) (by simp only[eI,aD,aE,bZ,b4];exact aL) (by simp[inObs,Pv.look,eI,aD,aE]) ?_;simp[cb,eI,aD,aE])
          (with_reducible repeat' first|refine aj ?_|simp)
          (refine hH.ob (MT) (by first|exact cl _|exact cl ‹_› _) (by first|exact cl _|exact cl ‹_› _) (Same.keys (by simp[aO,aD,aE]) (by simp[aO,aD,aE])) (by simp only[aO,aD,aE,bZ,b4];exact aL) (by simp only[aO,aD,aE,bZ,b4];exact aL) (by simp[inObs,Pv.look,aO,aD,aE]) ?_;simp[cb,aO,aD,aE])
          (with_reducible repeat' first|refine aj ?_|simp)
          (refine cP.at (aO p.2) Ψ (by first|exact cl _|exact cl ‹_› _) (Same.keys (by simp[aO,aD,aE]) (by simp[aO,aD,aE])) (by simp only[aO,aD,aE,bZ,b4];exact aL) (by simp only[aO,aD,aE,bZ,b4];exact aL) ?_;simp[cW,oP,aU,aW,aT,inObs,Pv.look,aO,aD,aE])
  have ay:∀i,a= .var i->b.kind≠1->bI ax 198 [aE,a.e,b.e] (aO c) fun r ah=>r= .bool p.1/\ah=aO p.2:=by
   rintro i rfl ab;have wI:((rt c i).bind fun p=>if p.2.shd p.1=false then vE n p.1 b p.2 else gM n (p.2.shp p.1) b p.2)=some p:=by cases b<;>first|exact he|simp at ab
   simp only[iX]at wI;obtain⟨⟨x,b0⟩,J,U⟩:=wI;simp only at U;have gk:(b.kind==1)=false:=by simp[ab]
   simp only[aO,aD]at ag⊢;refine bI.mk mixed jR ya y6 Ψ ag.obj fun aR cI=>?_;unfold wq;simp[aE];(with_reducible repeat' first|refine aj ?_|simp[gk,ab]);(refine cO.ob (sp c i x b0 J) (by first|exact cl _|exact cl ‹_› _) (by simp only[aO,aD,aE,bZ,b4];exact aL) (by simp only[aO,aD,aE,bZ,b4];exact aL) (by simp[inObs,Pv.look,aO,aD,aE]) ?_;rintro r ah ⟨rfl,rfl⟩;refine⟨(Same.keys (by simp[aO,aD,aE]) (by simp[aO,aD,aE])),?_⟩;simp[cb,aO,aD,aE]);cases ad:b0.shd x with
   |false=>have iH:(tg x b0.shaped).getD false=false:=ad;rw[if_pos ad]at U;(with_reducible repeat' first|refine aj ?_|simp[iH]);(refine cO.ob (Ug n x b b0 p U) (by first|exact cl _|exact cl ‹_› _) (by simp only[aO,aD,aE,bZ,b4];exact aL) (by simp only[aO,aD,aE,bZ,b4];exact aL) (by simp[inObs,Pv.look,aO,aD,aE]) ?_;rintro r ah ⟨rfl,rfl⟩;refine⟨(Same.keys (by simp[aO,aD,aE]) (by simp[aO,aD,aE])),?_⟩;simp[cb,aO,aD,aE]);(refine cP.at (aO p.2) Ψ (by first|exact cl _|exact cl ‹_› _) (Same.keys (by simp[aO,aD,aE]) (by simp[aO,aD,aE])) (by simp only[aO,aD,aE,bZ,b4];exact aL) (by simp only[aO,aD,aE,bZ,b4];exact aL) ?_;simp[cW,oP,aU,aW,aT,inObs,Pv.look,aO,aD,aE])
   |true=>have iH:(tg x b0.shaped).getD false=true:=ad;rw[if_neg (by simp[ad])]at U;have key:=bR _ _ _ _ U;(with_reducible repeat' first|refine aj ?_|simp[iH]);(refine hH.ob (key) (by first|exact cl _|exact cl ‹_› _) (by first|exact cl _|exact cl ‹_› _) (Same.keys (by simp[aO,aD,aE]) (by simp[aO,aD,aE])) (by simp only[aO,aD,aE,bZ,b4];exact aL) (by simp only[aO,aD,aE,bZ,b4];exact aL) (by simp[inObs,Pv.look,aO,aD,aE]) ?_;simp[cb,aO,aD,aE]);(with_reducible repeat' first|refine aj ?_|simp);(refine cP.at (aO p.2) Ψ (by first|exact cl _|exact cl ‹_› _) (Same.keys (by simp[aO,aD,aE]) (by simp[aO,aD,aE])) (by simp only[aO,aD,aE,bZ,b4];exact aL) (by simp only[aO,aD,aE,bZ,b4];exact aL) ?_;simp[cW,oP,aU,aW,aT,inObs,Pv.look,aO,aD,aE])
  cases a with
  |var i=>
   cases b with
   |var j=>exact DK i j rfl rfl
   |_=>exact ay i rfl Ψ
  |pair bC a2=>
   cases b with
   |var j=>simp only[gM]at he;have key:=bR _ _ _ _ he;simp only[aO,aD]at ag⊢;refine bI.mk mixed jR ya y6 Ψ ag.obj fun aR cI=>?_;unfold wq;simp[aE];(refine cO.ob (key) (by first|exact cl _|exact cl ‹_› _) (by simp only[aO,aD,aE,bZ,b4];exact aL) (by simp only[aO,aD,aE,bZ,b4];exact aL) (by simp[inObs,Pv.look,aO,aD,aE]) ?_;rintro r ah ⟨rfl,rfl⟩;refine⟨(Same.keys (by simp[aO,aD,aE]) (by simp[aO,aD,aE])),?_⟩;simp[cb,aO,aD,aE]);(refine cP.at (aO p.2) Ψ (by first|exact cl _|exact cl ‹_› _) (Same.keys (by simp[aO,aD,aE]) (by simp[aO,aD,aE])) (by simp only[aO,aD,aE,bZ,b4];exact aL) (by simp only[aO,aD,aE,bZ,b4];exact aL) ?_;simp[cW,oP,aU,aW,aT,inObs,Pv.look,aO,aD,aE])
   |pair cg cc=>
    simp only[gM,iX]at he;obtain⟨⟨f1,b0⟩,J,U⟩:=he;have key:=bR _ _ _ _ J;simp only[aO,aD]at ag⊢;refine bI.mk mixed jR ya y6 Ψ ag.obj fun aR cI=>?_;unfold wq;simp[aE];(with_reducible repeat' first|refine aj ?_|simp);(refine hH.ob (key) (by first|exact cl _|exact cl ‹_› _) (by first|exact cl _|exact cl ‹_› _) (Same.keys (by simp[aO,aD,aE]) (by simp[aO,aD,aE])) (by simp only[aO,aD,aE,bZ,b4];exact aL) (by simp only[aO,aD,aE,bZ,b4];exact aL) (by simp[inObs,Pv.look,aO,aD,aE]) ?_;simp[cb,aO,aD,aE]);cases f1 with
    |false=>simp at U;subst U;(with_reducible repeat' first|refine aj ?_|simp);(refine cP.at (aO b0) Ψ (by first|exact cl _|exact cl ‹_› _) (Same.keys (by simp[aO,aD,aE]) (by simp[aO,aD,aE])) (by simp only[aO,aD,aE,bZ,b4];exact aL) (by simp only[aO,aD,aE,bZ,b4];exact aL) ?_;simp[cW,oP,aU,aW,aT,inObs,Pv.look,aO,aD,aE])
    |true=>simp at U;have w6:=bR _ _ _ _ U;(with_reducible repeat' first|refine aj ?_|simp);(refine hH.ob (w6) (by first|exact cl _|exact cl ‹_› _) (by first|exact cl _|exact cl ‹_› _) (Same.keys (by simp[aO,aD,aE]) (by simp[aO,aD,aE])) (by simp only[aO,aD,aE,bZ,b4];exact aL) (by simp only[aO,aD,aE,bZ,b4];exact aL) (by simp[inObs,Pv.look,aO,aD,aE]) ?_;simp[cb,aO,aD,aE]);(with_reducible repeat' first|refine aj ?_|simp);(refine cP.at (aO p.2) Ψ (by first|exact cl _|exact cl ‹_› _) (Same.keys (by simp[aO,aD,aE]) (by simp[aO,aD,aE])) (by simp only[aO,aD,aE,bZ,b4];exact aL) (by simp only[aO,aD,aE,bZ,b4];exact aL) ?_;simp[cW,oP,aU,aW,aT,inObs,Pv.look,aO,aD,aE])
   |_=>simp[gM]at he;subst he;simp only[aO,aD]at ag⊢;refine bI.mk mixed jR ya y6 Ψ ag.obj fun aR cI=>?_;unfold wq;simp[aE];(refine cP.at (aO c) Ψ (by first|exact cl _|exact cl ‹_› _) (Same.keys (by simp[aO,aD,aE]) (by simp[aO,aD,aE])) (by simp only[aO,aD,aE,bZ,b4];exact aL) (by simp only[aO,aD,aE,bZ,b4];exact aL) ?_;simp[cW,oP,aU,aW,aT,inObs,Pv.look,aO,aD,aE])
  |_=>
   cases b with
   |var j=>simp only[gM]at he;have key:=bR _ _ _ _ he;simp only[aO,aD]at ag⊢;refine bI.mk mixed jR ya y6 Ψ ag.obj fun aR cI=>?_;unfold wq;simp[aE];(refine cO.ob (key) (by first|exact cl _|exact cl ‹_› _) (by simp only[aO,aD,aE,bZ,b4];exact aL) (by simp only[aO,aD,aE,bZ,b4];exact aL) (by simp[inObs,Pv.look,aO,aD,aE]) ?_;rintro r ah ⟨rfl,rfl⟩;refine⟨(Same.keys (by simp[aO,aD,aE]) (by simp[aO,aD,aE])),?_⟩;simp[cb,aO,aD,aE]);(refine cP.at (aO p.2) Ψ (by first|exact cl _|exact cl ‹_› _) (Same.keys (by simp[aO,aD,aE]) (by simp[aO,aD,aE])) (by simp only[aO,aD,aE,bZ,b4];exact aL) (by simp only[aO,aD,aE,bZ,b4];exact aL) ?_;simp[cW,oP,aU,aW,aT,inObs,Pv.look,aO,aD,aE])
   |_=>
    simp[gM]at he;subst he;simp only[aO,aD]at ag⊢;refine bI.mk mixed jR ya y6 Ψ ag.obj fun aR cI=>?_;unfold wq;simp[aE];((with_reducible repeat' first|refine aj ?_|simp|((first|apply bL|apply bN|apply bM)<;>intro h<;>try simp at h))<;>(try exact cm));all_goals(refine cP.at (aO c) Ψ (by first|exact cl _|exact cl ‹_› _) (Same.keys (by simp[aO,aD,aE]) (by simp[aO,aD,aE])) (by simp only[aO,aD,aE,bZ,b4];exact aL) (by simp only[aO,aD,aE,bZ,b4];exact aL) ?_;simp[cW,oP,aU,aW,aT,inObs,Pv.look,aO,aD,aE])
    all_goals simp_all
def mY(c:bB):Prop:= ∀x,0<=c.sz x/\c.sz x<=5001
theorem mY.rt{c:bB}(h:mY c){v r:Int}{cq:bB}(he:rt c v=some (r,cq)):mY cq:=by simp only[Pv.rt,gm,jU]at he;obtain⟨p,_,_,rfl⟩:=he;exact h
theorem mY.put{c:bB}(h:mY c){x k:Int}(ae:0<=k/\k<=5001)(m:List (Int×Int)):mY {c with size:=e2 x k c.size,color:=m}:=fun z=>by
 show 0<=(tg z (e2 x k c.size)).getD 0/\(tg z (e2 x k c.size)).getD 0<=5001;rw[oc];split
 ·exact ae
 ·exact h z
theorem ahd(c:bB)(v:Int)(p:Int×bB)(he:zr v c=some p):bI ax 275 [.int .i64 v,.eptr aE] (aO c) fun r ah=>r= .int .i64 p.1/\ah=aO p.2:=by have ag:=cl c;simp only[zr,gm]at he;obtain⟨⟨r,b0⟩,J,rfl⟩:=he;simp only[aO,aD]at ag⊢;refine bI.mk mixed jR aeE alH Ψ ag.obj fun aR cI=>?_;unfold Rl;simp[aE];(refine hH.ob (sp c v r b0 J) (by first|exact cl _|exact cl ‹_› _) (by first|exact cl _|exact cl ‹_› _) (Same.keys (by simp[aO,aD,aE]) (by simp[aO,aD,aE])) (by simp only[aO,aD,aE,bZ,b4];exact aL) (by simp only[aO,aD,aE,bZ,b4];exact aL) (by simp[inObs,Pv.look,aO,aD,aE]) ?_;simp[cb,aO,aD,aE]);(with_reducible repeat' first|refine aj ?_|simp);(refine cP.at (aO b0) Ψ (by first|exact cl _|exact cl ‹_› _) (Same.keys (by simp[aO,aD,aE]) (by simp[aO,aD,aE])) (by simp only[aO,aD,aE,bZ,b4];exact aL) (by simp only[aO,aD,aE,bZ,b4];exact aL) ?_;simp[cW,Yt,aU,aW,aT,inObs,Pv.look,aO,aD,aE]);all_goals rfl
def gG(a:bB×Bool):cR:=⟨aD a.1++[(.obj 712,[.bool a.2])],[]⟩
theorem ra(a):dM (gG a):=by unfold gG aD;exact dM.of ⟨by intro m;simp[Pv.look],by intro m;simp[Pv.look]⟩ Ψ Ψ
theorem abt(a b):Same (gG a) (gG b):=Same.keys (by simp[gG,aD]) (by simp[gG,aD])
theorem ahc(n:Nat)(wT:∀x c p,q3 n x c=some p->mY c->mY p.2/\bI ax 246 [aE,.int .i64 x] (aO c) fun r ah=>r= .bool p.1/\ah=aO p.2)
  (v:Int) (a bn:bB×Bool) (ba:mY a.1) (he:zE (q3 n) v a=some bn):mY bn.1/\bI ax 274 [.int .i64 v,.ptr (.obj 712) 0,.eptr aE] (gG a) fun r ah=>r= .tuple []/\ah=gG bn:=by
 have ag:=ra a;obtain⟨c,f⟩:=a;cases f with
 |false=>simp[zE]at he;subst he;refine⟨ba,?_⟩;simp only[gG,aD,bZ,b4]at ag⊢;refine bI.mk mixed jR TI XI Ψ ag.obj fun aR cI=>?_;unfold Kh;simp[aE];(with_reducible repeat' first|refine aj ?_|simp);(refine cP.at (gG (c,false)) Ψ (by first|exact ra _|exact ra ‹_› _) (Same.keys (by simp[gG,aD,aE]) (by simp[gG,aD,aE])) (by simp only[gG,aD,aE,bZ,b4];exact aL) (by simp only[gG,aD,aE,bZ,b4];exact aL) ?_;simp[cW,Ix,aU,aW,aT,inObs,Pv.look,gG,aD,aE])
 |true=>
  simp only[zE,if_true,iX,gm]at he;obtain⟨⟨r,b0⟩,J,⟨f2,cu⟩,U,rfl⟩:=he;obtain⟨z2,key⟩:=wT _ _ _ U (ba.rt J);refine⟨z2,?_⟩;simp only[gG,aD,bZ,b4]at ag⊢;refine bI.mk mixed jR TI XI Ψ ag.obj fun aR cI=>?_;unfold Kh;simp[aE];(with_reducible repeat' first|refine aj ?_|simp);(refine hH.ob (sp c v r b0 J) (by first|exact cl _|exact cl ‹_› _) (by first|exact cl _|exact cl ‹_› _) (Same.keys (by simp[aO,aD,aE]) (by simp[aO,aD,aE])) (by simp only[aO,aD,aE,bZ,b4];exact aL) (by simp only[aO,aD,aE,bZ,b4];exact aL) (by simp[inObs,Pv.look,aO,aD,aE]) ?_;simp[cb,aO,aD,aE]);(with_reducible repeat' first|refine aj ?_|simp);(refine hH.ob (key) (by first|exact cl _|exact cl ‹_› _) (by first|exact cl _|exact cl ‹_› _) (Same.keys (by simp[aO,aD,aE]) (by simp[aO,aD,aE])) (by simp only[aO,aD,aE,bZ,b4];exact aL) (by simp only[aO,aD,aE,bZ,b4];exact aL) (by simp[inObs,Pv.look,aO,aD,aE]) ?_;simp[cb,aO,aD,aE]);cases f2 with
  |true=>(with_reducible repeat' first|refine aj ?_|simp);(refine cP.at (gG (cu,true)) Ψ (by first|exact ra _|exact ra ‹_› _) (Same.keys (by simp[gG,aD,aE]) (by simp[gG,aD,aE])) (by simp only[gG,aD,aE,bZ,b4];exact aL) (by simp only[gG,aD,aE,bZ,b4];exact aL) ?_;simp[cW,Ix,aU,aW,aT,inObs,Pv.look,gG,aD,aE])
  |false=>(with_reducible repeat' first|refine aj ?_|simp);(refine cP.at (gG (cu,false)) Ψ (by first|exact ra _|exact ra ‹_› _) (Same.keys (by simp[gG,aD,aE]) (by simp[gG,aD,aE])) (by simp only[gG,aD,aE,bZ,b4];exact aL) (by simp only[gG,aD,aE,bZ,b4];exact aL) ?_;simp[cW,Ix,aU,aW,aT,inObs,Pv.look,gG,aD,aE])
theorem ahb(n:Nat):∀(x:Int) (c:bB) (p:Bool×bB),q3 n x c=some p->mY c->mY p.2/\bI ax 246 [aE,.int .i64 x] (aO c) fun r ah=>r= .bool p.1/\ah=aO p.2:=by
 induction n with
 |zero=>intro x c p h;simp[q3]at h
 |succ n bR=>
  intro x c p he ba;have ag:=cl c;simp only[q3]at he;by_cases U:c.col x=2
  ·rw[if_pos U]at he;cases he;have C6:jn c.color x=2:=U;refine⟨ba,?_⟩;simp only[aO,aD]at ag⊢;refine bI.mk mixed jR CR Eo Ψ ag.obj fun aR cI=>?_;unfold zZ;simp[aE];(with_reducible repeat' first|refine aj ?_|simp[C6]);(refine cP.at (aO c) Ψ (by first|exact cl _|exact cl ‹_› _) (Same.keys (by simp[aO,aD,aE]) (by simp[aO,aD,aE])) (by simp only[aO,aD,aE,bZ,b4];exact aL) (by simp only[aO,aD,aE,bZ,b4];exact aL) ?_;simp[cW,BJ,aU,aW,aT,inObs,Pv.look,aO,aD,aE])
  rw[if_neg U]at he;have C6:(jn c.color x==2)=false:=by simp;exact U
  by_cases J:c.col x=1
  ·rw[if_pos J]at he;cases he;have oC:jn c.color x=1:=J;refine⟨ba,?_⟩;simp only[aO,aD]at ag⊢;refine bI.mk mixed jR CR Eo Ψ ag.obj fun aR cI=>?_;unfold zZ;simp[aE];(with_reducible repeat' first|refine aj ?_|simp[oC]);(refine cP.at (aO c) Ψ (by first|exact cl _|exact cl ‹_› _) (Same.keys (by simp[aO,aD,aE]) (by simp[aO,aD,aE])) (by simp only[aO,aD,aE,bZ,b4];exact aL) (by simp only[aO,aD,aE,bZ,b4];exact aL) ?_;simp[cW,BJ,aU,aW,aT,inObs,Pv.look,aO,aD,aE])
  rw[if_neg J]at he;have oC:(jn c.color x==1)=false:=by simp;exact J
  have VQ:mY (c.grey x):=ba.put Ω _;cases iG:(c.grey x).shd x with
  |false=>rw[if_pos iG]at he;cases he;have ui:(tg x c.shaped).getD false=false:=iG;refine⟨VQ,?_⟩;simp only[aO,aD]at ag⊢;refine bI.mk mixed jR CR Eo Ψ ag.obj fun aR cI=>?_;unfold zZ;simp[aE];(with_reducible repeat' first|refine aj ?_|simp[C6,oC,ui]);(refine cP.at (aO ((c.grey x).black x)) Ψ (by first|exact cl _|exact cl ‹_› _) (Same.keys (by simp[aO,aD,aE,bB.grey,bB.black]) (by simp[aO,aD,aE,bB.grey,bB.black])) (by simp only[aO,aD,aE,bB.grey,bB.black,bZ,b4];exact aL) (by simp only[aO,aD,aE,bB.grey,bB.black,bZ,b4];exact aL) ?_;simp[cW,BJ,aU,aW,aT,inObs,Pv.look,aO,aD,aE,bB.grey,bB.black])
  |true=>
   rw[if_neg (by simp[iG]),iX]at he;have ui:(tg x c.shaped).getD false=true:=iG;obtain⟨⟨e,f⟩,ao,a6⟩:=he;simp only at a6;obtain⟨aa8,key⟩:=Ud gG ra abt 274 [.ptr (.obj 712) 0,.eptr aE] (fun a=>by simp[gG,aD,aE,inObs,Pv.look]) rfl (fun a=>mY a.1) (zE (q3 n)) (fun v a bn ba h=>ahc n bR v a bn ba h) _ _ _ VQ ao;rw[show(c.grey x).shp x=(tg x c.shape).getD .nil from rfl]at key;cases f with
   |false=>simp at a6;subst a6;refine⟨aa8,?_⟩;simp only[aO,aD]at ag⊢;refine bI.mk mixed jR CR Eo Ψ ag.obj fun aR cI=>?_;unfold zZ;simp[aE];(with_reducible repeat' first|refine aj ?_|simp[C6,oC,ui]);(refine cO.ob (key) (by first|exact ra _|exact ra ‹_› _) (by simp only[gG,aD,aE,bB.grey,bZ,b4];exact aL) (by simp only[gG,aD,aE,bB.grey,bZ,b4];exact aL) (by simp[inObs,Pv.look,gG,aD,aE,bB.grey]) ?_;rintro r ah ⟨rfl,rfl⟩;refine⟨(Same.keys (by simp[gG,aD,aE,bB.grey]) (by simp[gG,aD,aE,bB.grey])),?_⟩;simp[cb,gG,aD,aE,bB.grey]);(with_reducible repeat' first|refine aj ?_|simp);(refine cP.at (aO e) Ψ (by first|exact cl _|exact cl ‹_› _) (Same.keys (by simp[aO,aD,aE]) (by simp[aO,aD,aE])) (by simp only[aO,aD,aE,bZ,b4];exact aL) (by simp only[aO,aD,aE,bZ,b4];exact aL) ?_;simp[cW,BJ,aU,aW,aT,inObs,Pv.look,aO,aD,aE])
   |true=>
    rw[if_neg Ψ,gm]at a6;obtain⟨⟨k,aG⟩,b7,rfl⟩:=a6;obtain⟨z2,cc,w6⟩:=ag2 aO cl FF 275 [.eptr aE] (fun a=>by simp[aO,aD,aE,inObs,Pv.look]) rfl mY zr (fun v a p ba h=>by simp only[zr,gm]at h;obtain⟨⟨r,b0⟩,J,rfl⟩:=h;exact⟨ba.rt J,(ba.rt J r).1,Int.le_trans (ba.rt J r).2 Ω⟩) (fun v a p _ h=>ahd a v p h) _ _ _ aa8 b7
    rw[show bB.shp e x=(tg x e.shape).getD .nil from rfl]at w6;refine⟨z2.put cc _,?_⟩;simp only[aO,aD]at ag⊢;refine bI.mk mixed jR CR Eo Ψ ag.obj fun aR cI=>?_;unfold zZ;simp[aE];(with_reducible repeat' first|refine aj ?_|simp[C6,oC,ui]);(refine cO.ob (key) (by first|exact ra _|exact ra ‹_› _) (by simp only[gG,aD,aE,bB.grey,bZ,b4];exact aL) (by simp only[gG,aD,aE,bB.grey,bZ,b4];exact aL) (by simp[inObs,Pv.look,gG,aD,aE,bB.grey]) ?_;rintro r ah ⟨rfl,rfl⟩;refine⟨(Same.keys (by simp[gG,aD,aE,bB.grey]) (by simp[gG,aD,aE,bB.grey])),?_⟩;simp[cb,gG,aD,aE,bB.grey]);(with_reducible repeat' first|refine aj ?_|simp);(refine hH.ob (w6) (by first|exact cl _|exact cl ‹_› _) (by first|exact cl _|exact cl ‹_› _) (Same.keys (by simp[aO,aD,aE]) (by simp[aO,aD,aE])) (by simp only[aO,aD,aE,bZ,b4];exact aL) (by simp only[aO,aD,aE,bZ,b4];exact aL) (by simp[inObs,Pv.look,aO,aD,aE]) ?_;simp[cb,aO,aD,aE]);(with_reducible repeat' first|refine aj ?_|simp);(refine cP.at (aO (({aG with size:=e2 x k aG.size}:bB).black x)) Ψ (by first|exact cl _|exact cl ‹_› _) (Same.keys (by simp[aO,aD,aE,bB.black]) (by simp[aO,aD,aE,bB.black])) (by simp only[aO,aD,aE,bB.black,bZ,b4];exact aL) (by simp only[aO,aD,aE,bB.black,bZ,b4];exact aL) ?_;simp[cW,BJ,aU,aW,aT,inObs,Pv.look,aO,aD,aE,bB.black])
theorem aha(n:Nat)(wT:∀x c p,q2 n x c=some p->bI ax 247 [aE,.int .i64 x] (aO c) fun r ah=>r=p.1.e/\ah=aO p.2)
  (v:Int) (c:bB) (p:T×bB) (he:Ci (q2 n) v c=some p):bI ax 276 [.int .i64 v,.eptr aE] (aO c) fun r ah=>r= .tuple [p.1.e,.bool true]/\ah=aO p.2:=by
 have ag:=cl c;simp only[Ci,iX]at he;obtain⟨⟨r,b0⟩,J,U⟩:=he;have key:=wT _ _ _ U;simp only[aO,aD]at ag⊢;refine bI.mk mixed jR aeD alG Ψ ag.obj fun aR cI=>?_;unfold Rk;simp[aE];(with_reducible repeat' first|refine aj ?_|simp);(refine hH.ob (sp c v r b0 J) (by first|exact cl _|exact cl ‹_› _) (by first|exact cl _|exact cl ‹_› _) (Same.keys (by simp[aO,aD,aE]) (by simp[aO,aD,aE])) (by simp only[aO,aD,aE,bZ,b4];exact aL) (by simp only[aO,aD,aE,bZ,b4];exact aL) (by simp[inObs,Pv.look,aO,aD,aE]) ?_;simp[cb,aO,aD,aE]);(with_reducible repeat' first|refine aj ?_|simp);(refine hH.ob (key) (by first|exact cl _|exact cl ‹_› _) (by first|exact cl _|exact cl ‹_› _) (Same.keys (by simp[aO,aD,aE]) (by simp[aO,aD,aE])) (by simp only[aO,aD,aE,bZ,b4];exact aL) (by simp only[aO,aD,aE,bZ,b4];exact aL) (by simp[inObs,Pv.look,aO,aD,aE]) ?_;simp[cb,aO,aD,aE]);(with_reducible repeat' first|refine aj ?_|simp);(refine cP.at (aO p.2) Ψ (by first|exact cl _|exact cl ‹_› _) (Same.keys (by simp[aO,aD,aE]) (by simp[aO,aD,aE])) (by simp only[aO,aD,aE,bZ,b4];exact aL) (by simp only[aO,aD,aE,bZ,b4];exact aL) ?_;simp[cW,Ys,aU,aW,aT,inObs,Pv.look,aO,aD,aE])
theorem jF(n:Int):bQ ax 96 [.int .i64 n] (T.var n).e:=by refine bj jR aeZ al2 fun aR=>?_;unfold RG;exact cp
theorem ag9(n:Nat):∀(x:Int) (c:bB) (p:T×bB),q2 n x c=some p->bI ax 247 [aE,.int .i64 x] (aO c) fun r ah=>r=p.1.e/\ah=aO p.2:=by
 induction n with
 |zero=>intro x c p h;simp[q2]at h
 |succ n bR=>
  intro x c p he;have ag:=cl c;simp only[q2]at he;cases aQ:tg x c.full with
  |some t=>rw[aQ]at he;cases he;simp only[aO,aD]at ag⊢;refine bI.mk mixed jR K3 NM Ψ ag.obj fun aR cI=>?_;unfold F5;simp[aE];(with_reducible repeat' first|refine aj ?_|simp[aQ]);(refine cP.at (aO c) Ψ (by first|exact cl _|exact cl ‹_› _) (Same.keys (by simp[aO,aD,aE]) (by simp[aO,aD,aE])) (by simp only[aO,aD,aE,bZ,b4];exact aL) (by simp only[aO,aD,aE,bZ,b4];exact aL) ?_;simp[cW,Iw,aU,aW,aT,inObs,Pv.look,aO,aD,aE])
  |none=>
   rw[aQ]at he;simp only at he;cases iG:c.shd x with
   |false=>have ui:(tg x c.shaped).getD false=false:=iG;rw[if_pos iG]at he;cases he;simp only[aO,aD]at ag⊢;refine bI.mk mixed jR K3 NM Ψ ag.obj fun aR cI=>?_;unfold F5;simp[aE];(with_reducible repeat' first|refine aj ?_|refine aA (jF _) ?_|refine aB (jF _) ?_|simp[aQ,ui]);(refine cP.at (aO {c with full:=e2 x (.var x) c.full}) Ψ (by first|exact cl _|exact cl ‹_› _) (Same.keys (by simp[aO,aD,aE]) (by simp[aO,aD,aE])) (by simp only[aO,aD,aE,bZ,b4];exact aL) (by simp only[aO,aD,aE,bZ,b4];exact aL) ?_;simp[cW,Iw,aU,aW,aT,inObs,Pv.look,aO,aD,aE])
   |true=>have ui:(tg x c.shaped).getD false=true:=iG;rw[if_neg (by simp[iG]),gm]at he;obtain⟨⟨t,b0⟩,J,rfl⟩:=he;have key:=agP aO cl FF 276 [.eptr aE] (fun a=>by simp[aO,aD,aE,inObs,Pv.look]) rfl (Ci (q2 n)) (fun v a p h=>aha n bR v a p h) _ _ _ J;rw[show c.shp x=(tg x c.shape).getD .nil from rfl]at key;simp only[aO,aD]at ag⊢;refine bI.mk mixed jR K3 NM Ψ ag.obj fun aR cI=>?_;unfold F5;simp[aE];(with_reducible repeat' first|refine aj ?_|refine aA (jF _) ?_|refine aB (jF _) ?_|simp[aQ,ui]);(refine cO.ob (key) (by first|exact cl _|exact cl ‹_› _) (by simp only[aO,aD,aE,bZ,b4];exact aL) (by simp only[aO,aD,aE,bZ,b4];exact aL) (by simp[inObs,Pv.look,aO,aD,aE]) ?_;rintro r ah ⟨rfl,rfl⟩;refine⟨(Same.keys (by simp[aO,aD,aE]) (by simp[aO,aD,aE])),?_⟩;simp[cb,aO,aD,aE]);(with_reducible repeat' first|refine aj ?_|simp);(refine cP.at (aO {b0 with full:=e2 x t b0.full}) Ψ (by first|exact cl _|exact cl ‹_› _) (Same.keys (by simp[aO,aD,aE]) (by simp[aO,aD,aE])) (by simp only[aO,aD,aE,bZ,b4];exact aL) (by simp only[aO,aD,aE,bZ,b4];exact aL) ?_;simp[cW,Iw,aU,aW,aT,inObs,Pv.look,aO,aD,aE])
theorem agR:bI ax 195 [] ⟨[],[]⟩ fun r ah=>r=aE/\ah=aO bB.new:=by have ag:dM ⟨[],[]⟩:=dM.of vM Ψ Ψ;refine bI.mk mixed jR aeN alQ Ψ ag.obj fun aR cI=>?_;unfold Ru;simp;refine cP.new (aO bB.new) (.inl rfl) (cl _) ⟨trivial,trivial⟩ (by simp only[aO,aD,bB.new];exact aL) (by simp only[aO,aD,bB.new];exact aL) ?_;simp[cW,YC,aU,aW,aT,inObs,Pv.look,aO,aD,aE]
theorem ZO{a b:List Int}(h:a.Perm b):rS a=rS b:=by
 have aH:∀a b c:Int,(decide (a<=b))=true->(decide (b<=c))=true->(decide (a<=c))=true:=by intro a b c;simp;omega
 have AZ:∀a b:Int,(decide (a<=b)||decide (b<=a))=true:=by intro a b;simp;omega
 have J:=List.pairwise_mergeSort aH AZ a;have U:=List.pairwise_mergeSort aH AZ b;refine P5 (le:=fun x y:Int=>(decide (x<=y))=true) (fun x y _ _ J U=>by simp at J U;omega) J U ?_;exact(List.mergeSort_perm a _).trans (h.trans (List.mergeSort_perm b _).symm)
def ajI(l:List Int)(k:Nat)(st:br):Prop:=∃(seen:List Nat) (xs:List Int),seen.Nodup/\(∀b∈seen,b<l.length)/\k=l.length-seen.length/\xs=seen.filterMap (fun b=>l[b]?)/\xs.length=seen.length/\st=⟨[(3,.row 1 (.obj 306) xs.length),(7,.ptr (.loc 0) 0)],[(.obj 304,o9 l),(.loc 0,cz l.length seen (.obj 304))],[(.obj 306,⟨xs.length,3,1,some (dV xs)⟩)],1,[.obj 306,.obj 304]⟩
@[simp]theorem HB(xs:List Int):(dV xs).length=xs.length:=by simp[dV]
@[simp]theorem au6(xs:List Int):c7 (dV xs)=dV xs:=by
 induction xs with
 |nil=>rfl
 |cons x r bR=>simp only[dV,ht,c7,eb]at bR⊢;rw[bR]
@[simp]theorem as3:dV []=[]:=rfl
theorem ajB(xs:List Int)(x:Int):dV xs++[ak.int .i64 x]=dV (xs++[x]):=by simp[dV]
theorem ag8(l:List Int)(av:l.length<=1000000):bI ax 189 [.gmap (.obj 304)] (uU l) fun r ah=>r= .slice 1 .no (dV (rS l))/\ah=uU l:=by
 have ag:=Qd l;unfold uU at ag⊢;refine bI.mk mixed fN aeY al1 Ψ ag.obj fun aR cI=>?_;unfold RF;simp;refine nJ (ajI l) l.length _ ⟨by simp[fresh,aN,aJ,cz,inObs,Pv.look,nr,ur],eD (by simp[fresh,aN,aJ,cz,inObs,Pv.look,nr,ur]),eE (by simp[fresh,aN,aJ,eg,inObs,Pv.look,nr,ur]),Ψ⟩ ⟨[],[],Ψ,Ψ,Ψ,Ψ,Ψ,rfl⟩ ?_;rintro k st ⟨seen,xs,aF,bz,ae,hc,qk,rfl⟩ ju cI;clear ju cI;have hle:=Je aF bz;simp;refine adl (mk:= .obj 304) (seen:=seen) (l:=l) Ψ Ψ rfl (fun l3=>?_) (fun b x ad ab=>?_)
 ·simp;have wS:=OZ aF bz l3;rw[<-hc]at wS;refine cO.ob (ag6 306 xs Ω) (JL 306 xs) (by unfold nF;exact aL) (by unfold nF;exact aL) (by simp[nF,inObs,Pv.look]) ?_;rintro r ah ⟨rfl,rfl⟩;refine⟨⟨fun _=>rfl,fun k=>by simp only[nF,Pv.look];split<;>rfl⟩,?_⟩;unfold nF;simp[cb,ZN];refine cP.at _ (.inl rfl) ag (Same.refl _) aL aL ?_;simp[cW,YH,aU,aW,aT];rw[ZO wS];simp[aJ,ur]
 ·have AO:∀f:aM->Option (List ak),f (.loc 0)=some (cz l.length (seen++[b]) (.obj 304))->f (.obj 304)=some (o9 l)->qm f (.ptr (.loc 0) 0)=some (True,.tuple [.int .i64 x,.bool true]):=fun f J U=>akA f (.loc 0) (.obj 304) l.length seen b l x J U rfl ad;have fm:b<l.length:=(eS.1 ad).1;have qL:=O0 aF bz fm ab;simp[AO,ajB];refine⟨by unfold lim;omega,?_⟩;refine bP.next (l.length-(seen.length+1)) Ω ⟨seen++[b],xs++[x],NC aF ab,(by simp;intro c ar;rcases ar with ar|rfl;exact bz c ar;exact fm),Ψ,by rw[List.filterMap_append,<-hc];simp[ad],by simp[qk],rfl⟩ ⟨by simp[fresh,aN,aJ,cz,inObs,Pv.look,nr,ur],eD (by simp[fresh,aN,aJ,cz,inObs,Pv.look,nr,ur]),eE (by simp[fresh,aN,aJ,eg,inObs,Pv.look,nr,ur]),Ψ⟩
@[simp]theorem atf(S:aM->Prop)(xs:List Int):aN S (dV xs)=True:=eq_true (ur S xs)
@[simp]theorem arV:cells .junk=[.junk]:=rfl
def RE:C:=(aa [eA 6 5,bh 7 false] (aa [c2 12 195 [],I 8 12] (.seq (aa [I 13 0,ct 14 13,b6 15 0] (eZ 16 15 14 (.seq (.block 1 (aa [cw 17 5 13 15,aV 18 5 17,cL 10 ib,bu 5 10 18] (aa [I 19 8,aI 20 0 1 10,az 21 1 20,b5 22 196 19 21] (aa [I 23 8,hp 24 1 4 10,aV 25 4 24,b5 26 197 23 25] (.seq (.drawn false 69 [I 27 8,aI 28 0 1 10,az 29 1 28,cG 30 96 29,hp 31 1 4 10,aV 32 4 31,c2 33 198 [.t 27,.t 30,.t 32],cx 34 33]) (aZ 34 (aa [eA 6 5,bh 7 false] .ret) .skip)))))) (.region [aS 35 .add 15 1,I 15 35])))) (.seq (aa [I 36 1,ct 37 36,b6 38 0] (.block 2 (.loop (aa [bq 39 .lss 38 37] (.seq (aZ 39 .skip (.exit 2)) (.seq (.block 3 (aa [I 40 38,I 11 40] (aa [I 41 8,I 42 1,I 43 11,cw 44 4 42 43,aV 45 4 44,b5 46 197 41 45] (aa [I 47 8,I 48 2,I 49 11,cw 50 4 48 49,aV 51 4 50,b5 52 197 47 51] (.seq (.drawn false 69 [I 53 8,I 54 1,I 55 11,cw 56 4 54 55,aV 57 4 56,I 58 2,I 59 11,cw 60 4 58 59,aV 61 4 60,c2 62 198 [.t 53,.t 57,.t 61],cx 63 62]) (aZ 63 (aa [eA 6 5,bh 7 false] .ret) .skip)))))) (.region [aS 64 .add 38 1,I 38 64]))))))) (aa [I 65 8,cG 66 199 65,cj 67 0 66,cj 68 1 66,I 6 67,I 7 68] .ret)))))
@[simp] def Oh:List bW:=[.tmp 6,.tmp 7]
def Rj:C:=(aa [eA 2 5,bh 3 false] (aa [cX (.mkmap 12 (some 304)),I 4 12] (.seq (aa [I 13 0,eO 14 13,aI 15 0 1 14,az 16 1 15,cX (.range 17 none (.t 16))] (.block 0 (.loop (aa [⟨none,.next 18 (.t 17)⟩,cj 19 0 18] (.seq (aZ 19 .skip (.exit 0)) (.block 1 (aa [b2 20 (.ment (.t 17)),cj 21 0 20,I 5 21] (.region [I 22 4,I 23 5,cX (.mput .i (.t 22) (.t 23) (.c (.bool true)))])))))))) (aa [I 24 4,cG 25 189 24,I 6 25] (aa [cX (.bslm 26 none 5 61 []),I 7 26] (.seq (aa [I 27 6,ct 28 27,b6 29 0] (.block 2 (.loop (aa [bq 30 .lss 29 28] (.seq (aZ 30 .skip (.exit 2)) (.seq (.block 3 (aa [cw 31 1 27 29,az 32 1 31,I 9 32] (aa [I 33 0,I 34 9,b5 35 196 33 34,I 10 35] (.seq (aa [I 36 0,I 37 10,b5 38 246 36 37,cx 39 38] (aZ 39 (aa [eA 2 5,bh 3 false] .ret) .skip)) (.seq (aa [I 40 10,I 41 9,bq 42 .eql 40 41,I 43 42,bO 43 true 44 0,al 43 true (eO 45 44),al 43 true (aI 46 2 1 45),al 43 true (az 47 1 46),bO 43 true 48 10,al 43 true (b2 49 (.mget .i (.bool false) false (.t 47) (.t 48))),al 43 true (cx 50 49),de 51 43 50] (aZ 51 (.exit 3) .skip)) (aa [I 52 7,I 53 9,gv 54 ib [(0,1,(.t 53))],dI 55 5 61 [.t 54],cX (.appm 56 none 5 61 (.t 52) (.t 55)),I 7 56] (aa [I 57 0,eO 58 57,aI 59 4 1 58,az 60 1 59,I 61 10,b2 62 (.mget .i (.int .i64 0) false (.t 60) (.t 61)),aS 63 .gtr 62 5000,I 64 63,bO 64 false 65 7,al 64 false (ct 66 65),al 64 false (aS 67 .gtr 66 400),cV 68 64 67] (aZ 68 (aa [eA 2 5,bh 3 false] .ret) .skip)))))))) (.region [aS 69 .add 29 1,I 29 69]))))))) (.seq (aa [I 70 7,ct 71 70,b6 72 0] (.block 4 (.loop (aa [bq 73 .lss 72 71] (.seq (aZ 73 .skip (.exit 4)) (.seq (.block 5 (aa [I 74 72,I 11 74] (.region [I 75 7,I 76 11,I 77 0,I 78 0,I 79 7,I 80 11,cw 81 5 79 80,aI 82 0 1 81,az 83 1 82,b5 84 196 78 83,b5 85 247 77 84,cG 86 200 85,cw 87 5 75 76,hp 88 1 4 87,bu 4 88 86]))) (.region [aS 89 .add 72 1,I 72 89]))))))) (.seq (.pub 7 (.region [I 90 7,I 2 90,bh 3 true])) .ret))))))))
@[simp] def Iv:List bW:=[.tmp 2,.tmp 3]
def Pu:List (Nat×dB):=[
 (3,⟨1,8,.int .i64,.int .i64 0⟩),
 (4,⟨1,1,.bool,.bool false⟩),
 (23,⟨1,24,.slice 61,.slice 5 .nil []⟩),
 (30,⟨1,24,.slice 32,.slice 4 .nil []⟩),
 (32,⟨4,56,.struct [(0,3),(1,3),(2,9),(3,30)],.agg [.int .i64 0,.int .i64 0,.str [],.slice 4 .nil []]⟩),
 (61,⟨5,64,.struct [(0,3),(1,32)],.agg [.int .i64 0,.int .i64 0,.int .i64 0,.str [],.slice 4 .nil []]⟩),
 (112,⟨1,24,.slice 3,.slice 1 .nil []⟩),
 (154,⟨1,8,.map 3 4,.junk⟩),
 (182,⟨1,8,.map 3 3,.junk⟩),
 (245,⟨6,48,.struct [(0,182),(1,127),(2,154),(3,182),(4,182),(5,127)],.agg [.junk,.junk,.junk,.junk,.junk,.junk]⟩)]
theorem Z2:fM ax Pu=true:=by kernel_rfl
theorem al0:b3 Pu RE Oh 3 Tryz.f118=true:=by kernel_rfl
theorem aeX:ax.funcs[(118:Nat)]? =some Tryz.f118:=Tryz.func118
theorem alF:b3 Pu Rj Iv 1 Tryz.f199=true:=by kernel_rfl
theorem aeC:ax.funcs[(199:Nat)]? =some Tryz.f199:=Tryz.func199
def fh(o:Option (List ai)):ak:= .tuple [.slice 5 .no ((o.getD []).map ai.e),.bool o.isSome]
theorem akC(f:aM->Option (List ak))(fv mk:aM)(n:Nat)(seen:List Nat)(b:Nat)(l:List (Int×Int))(x:Int×Int)(hi:f fv=some (cz n (seen++[b]) mk))(hm:f mk=some (n1 l))(au:n=l.length)(ad:l[b]? =some x):qm f (.ptr fv 0)=some (True,.tuple [.int .i64 x.1,.int .i64 x.2]):=by rw[Xa f fv mk n seen b _ hi hm (by simpa using au)];simp[ad]
theorem adm{st:br}{d:Nat}{K:br->Prop}{fv mk:aM}{n:Nat}{seen:List Nat}{l:List (Int×Int)}(hi:Pv.look fv st.b=some (cz n seen mk))(hm:Pv.look mk st.b=some (n1 l))(au:n=l.length)
  (J:(∀b,b<l.length->b∈seen)->K {st with t:=Pv.put d (.tuple [.bool false]) st.t}) (U:∀b x,l[b]? =some x->b∉seen->K {st with t:=Pv.put d (.tuple [.bool true,.int .i64 x.1,.int .i64 x.2]) st.t,b:=cF fv (cz n (seen++[b]) mk) st.b}):
  tP st d (.ptr fv 0) K:=by
 refine Tw hi hm (by simpa using au) (fun h=>J fun b ab=>h b Ω) (fun b k v ab ag=>?_);simp only[q5,gm]at ab;obtain⟨x,aq,aG⟩:=ab;simp only[jU]at aG;obtain⟨rfl,rfl⟩:=aG;exact U b x aq ag
@[simp]theorem aun(m:aM)(l:List (Int×Int)):zh m (n1 l)=some (cz l.length [] m):=by simp[n1,sW]
def lI(v:Int):ak:= .agg [.int .i64 v,.int .i64 0,.int .i64 0,.str [],.slice 4 .nil []]
@[simp]theorem aj6(S:aM->Prop)(l:List Int):aN S (l.map lI)=True:=by
 apply eq_true;induction l with
 |nil=>simp[aN]
 |cons x r bR=>simp only[ht,aN];exact⟨by simp[lI,aJ,aN],bR⟩
@[simp]theorem atp(S:aM->Prop)(v:Int):aJ S (lI v)=True:=by simp[lI,aJ,aN]
@[simp]theorem auC(v:Int):eR (lI v)=true:=rfl
@[simp]theorem arI(v:Int):cells (lI v)=[.int .i64 v,.int .i64 0,.int .i64 0,.str [],.slice 4 .nil []]:=rfl
theorem aox(v:Int)(f:Nat)(cs:List ak):qw (lI v) f cs= .agg (oQ [.int .i64 v,.int .i64 0,.int .i64 0,.str [],.slice 4 .nil []] f cs):=rfl
theorem jA{S:aM->Prop}:∀{a b:List ak},aN S (a++b)↔(aN S a/\aN S b)
 |[],b=>by simp[aN]
 |x::a,b=>by simp[aN,jA (a:=a),and_assoc]
@[simp]theorem atd(S:aM->Prop)(k:Nat)(l:List Int):aN S (List.drop k (l.map lI))=True:=by rw[<-List.map_drop];exact aj6 S _
@[simp]theorem atx(S:aM->Prop)(o:Option (List ai)):aJ S (fh o)=True:=by simp[fh]
theorem J3(l:List Int)(v:Int):l.map lI++[.agg [.int .i64 v,.int .i64 0,.int .i64 0,.str [],.slice 4 .nil []]]=(l++[v]).map lI:=by simp[lI]
def ajD(c:bB)(k:Nat)(st:br):Prop:=∃(seen:List Nat) (xs:List Int),seen.Nodup/\(∀b∈seen,b<c.up.length)/\k=c.up.length-seen.length/\xs=seen.filterMap (fun b=>(c.up[b]?).map (·.1))/\xs.length=seen.length/\st=⟨[(0,aE),(4,.gmap (.obj 304)),(17,.ptr (.loc 0) 0)],aD c++[(.obj 304,o9 xs),(.loc 0,cz c.up.length seen (.obj 702))],[],1,[.obj 304,.obj 702,.obj 703,.obj 704,.obj 705,.obj 706,.obj 707]⟩
theorem aoK{c:bB}{seen:List Nat}(aF:seen.Nodup)(bz:∀b∈seen,b<c.up.length)(l3:∀b,b<c.up.length->b∈seen):(seen.filterMap fun b=>(c.up[b]?).map (·.1)).Perm (cC c.up):=by have:=OZ (l:=cC c.up) aF (by simpa[cC]using bz) (by simpa[cC]using l3);simpa[cC]using this
theorem aoL{c:bB}(au:(cC c.up).Nodup){seen:List Nat}{b:Nat}(ab:b∉seen){x:Int×Int}(ad:c.up[b]? =some x):x.1∉seen.filterMap fun b=>(c.up[b]?).map (·.1):=by
 intro hm;rw[List.mem_filterMap]at hm;obtain⟨b1,J,U⟩:=hm;obtain⟨y,ao,a6⟩:=gm.1 U;have aq:(cC c.up)[b]? =some x.1:=by simp[cC,ad]
 have aG:(cC c.up)[b1]? =some x.1:=by simp[cC,ao,a6]
 have bz:=(eS.1 aq).1;have wQ:=(eS.1 aG).1;have f1:=(eS.1 aq).2;have f2:=(eS.1 aG).2;rcases Nat.lt_trichotomy b b1 with h|h|h
 ·exact o2.1 au b b1 bz wQ h (f1.trans f2.symm)
 ·subst h;exact ab J
 ·exact o2.1 au b1 b wQ bz h (f2.trans f1.symm)
theorem ag4(n:Nat)(c:bB)(o:Option (List ai))(he:E5 n (rT (cC c.up)) c=some o)(Dv:(cC c.up).Nodup)(hlen:c.up.length<=1000000)(ba:mY c):bI ax 199 [aE] (aO c) fun r ah=>r=fh o/\∃cq,ah=aO cq:=by
 have ag:=cl c;simp only[aO,aD]at ag⊢;refine bI.mk mixed Z2 aeC alF Ψ ag.obj fun aR cI=>?_;unfold Rj;simp[aE];have sG:∀S:aM->Prop,aN S (kG []):=fun S=>nr S [];refine nJ (ajD c) c.up.length _ ⟨by simp[fresh,aN,aJ,cz,inObs,Pv.look,nr,aE,aD,sG],eD (by simp[fresh,aN,aJ,cz,inObs,Pv.look,nr,aE,aD,sG]),eE (by simp[fresh,aN,aJ,eg,inObs,Pv.look,nr,aE,aD,sG]),Ψ⟩ ⟨[],[],Ψ,Ψ,Ψ,Ψ,Ψ,rfl⟩ ?_;rintro k st ⟨seen,xs,aF,bz,ae,hc,qk,rfl⟩ ju cI;clear ju cI;have hle:=Je aF bz;simp[aD,aE];refine adm (mk:= .obj 702) (seen:=seen) (l:=c.up) Ψ Ψ rfl (fun l3=>?_) (fun b x ad ab=>?_);rotate_left
 ·have AO:∀f:aM->Option (List ak),f (.loc 0)=some (cz c.up.length (seen++[b]) (.obj 702))->f (.obj 702)=some (n1 c.up)->qm f (.ptr (.loc 0) 0)=some (True,.tuple [.int .i64 x.1,.int .i64 x.2]):=fun f J U=>akC f (.loc 0) (.obj 702) c.up.length seen b c.up x J U rfl ad;have fm:b<c.up.length:=(eS.1 ad).1;have qL:=O0 aF bz fm ab;have kg:=aoL Dv ab ad;rw[<-hc]at kg;simp[AO,JV,kg];refine bP.next (c.up.length-(seen.length+1)) Ω ⟨seen++[b],xs++[x.1],NC aF ab,(by simp;intro c ar;rcases ar with ar|rfl;exact bz c ar;exact fm),Ψ,by rw[List.filterMap_append,<-hc];simp[ad],by simp[qk],rfl⟩ ⟨by simp[fresh,aN,aJ,cz,inObs,Pv.look,nr,aE,aD],eD (by simp[fresh,aN,aJ,cz,inObs,Pv.look,nr,aE,aD]),eE (by simp[fresh,aN,aJ,eg,inObs,Pv.look,nr,aE,aD]),Ψ⟩
 ·simp;have wS:=aoK aF bz l3;rw[<-hc]at wS;have ajh:xs.length<=1000000:=Ω
  refine cO.ob (ag8 xs ajh) (Qd _) (by simp only[uU];exact aL) (by simp only[uU];exact aL) (by simp[inObs,uU,Pv.look]) ?_;rintro r ah ⟨rfl,rfl⟩;refine⟨Same.refl _,?_⟩;have AX:rS xs=rT (cC c.up):=ZO wS;rw[AX];obtain⟨a7,kW⟩:∃a7,a7=rT (cC c.up):=⟨_,rfl⟩;rw[<-kW]at he⊢;simp[uU,cb];simp only[E5,iX]at he;obtain⟨res,wJ,po⟩:=he;have iT:a7.length<=1000000:=by rw[kW,(E8 _).length_eq];simpa[cC]using hlen
  refine h0 (α:=bB×List Int) (fun i a=>⟨[(0,aE),(27,.slice 1 .no (dV a7)),(28,.int .i64 a7.length),(7,.row 5 (.loc 1) a.2.length),(29,.int .i64 i)],aD a.1,[(.loc 1,⟨a.2.length,61,5,some (a.2.map lI)⟩)],2,[.obj 702,.obj 703,.obj 704,.obj 705,.obj 706,.obj 707]⟩) a7.length (fun i a=>tk n (a7.drop i) a.1 a.2=some res/\mY a.1/\a.2.length<=400) (c,[]) (by simp[aE,aD];exact⟨by simp[fresh,aN,aJ,cz,inObs,Pv.look,nr,aE,aD],eD (by simp[fresh,aN,aJ,cz,inObs,Pv.look,nr,aE,aD]),eE (by simp[fresh,aN,aJ,eg,inObs,Pv.look,nr,aE,aD]),Ψ⟩) ⟨by simpa using wJ,ba,Ψ⟩ ?_ ?_
  ·rintro⟨b0,out⟩ ⟨J,U,ao⟩ ab;simp only at J U ao ab⊢;simp[tk]at J;subst J;simp only[gm]at po;obtain⟨⟨L,ach⟩,ahS,rfl⟩:=po;simp[aE,aD];refine h0 (α:=bB×List ai) (fun j a=>⟨[(0,aE),(7,.row 5 (.loc 1) out.length),(71,.int .i64 out.length),(72,.int .i64 j)],aD a.1,[(.loc 1,⟨out.length,61,5,some (a.2.map ai.e++(out.drop j).map lI)⟩)],2,[.obj 702,.obj 703,.obj 704,.obj 705,.obj 706,.obj 707]⟩) out.length (fun j a=>a.2.length=j/\∃rest,zs n (out.drop j) a.1=some (rest,ach)/\a.2++rest=L) (b0,[]) (by simp[aE,aD];exact⟨by simp[fresh,aN,aJ,cz,inObs,Pv.look,aE,aD],eD (by simp[fresh,aN,aJ,cz,inObs,Pv.look,aE,aD]),eE (by simp[fresh,aN,aJ,eg,inObs,Pv.look,aE,aD]),Ψ⟩) ⟨rfl,L,by simpa using ahS,rfl⟩ ?_ ?_
   ·rintro⟨cu,done⟩ ⟨a6,rest,b7,dd⟩ ab;simp only at a6 b7 dd ab⊢;simp[zs]at b7;obtain⟨rfl,rfl⟩:=b7;simp at dd;subst dd;simp[aE,aD,a6];refine cP.at (aO cu) Ψ (cl _) (Same.keys (by simp[aO,aD]) (by simp[aO,aD])) (by simp only[aO,aD];exact aL) (by simp only[aO,aD];exact aL) ?_;simp[cW,Iv,aU,aW,aT,aO,aD,fh];exact⟨cu,Ψ⟩
   ·rintro j ⟨cu,done⟩ af ⟨a6,rest,b7,dd⟩ ab;simp only at a6 b7 dd ab⊢;obtain⟨v,ay⟩:∃v,out[j]? =some v:=⟨_,bY af⟩;have aF:out.drop j=v::out.drop (j+1):=by rw[k8 af];rw[bY af]at ay;cases ay;rfl
    rw[aF]at b7;simp only[zs,iX,gm,jU]at b7;obtain⟨⟨x,dg⟩,ed,⟨t,ku⟩,ll,⟨aou,ar3⟩,tT,rfl,rfl⟩:=b7;simp only at ll tT;have key:=ag9 n x dg _ ll;rw[aF];have hj:∀R,(done.map ai.e++lI v::R)[j]? =some (lI v):=fun R=>by rw[List.getElem?_append_right (by simp;omega)];simp[a6]
    have wV:∀R x,(done.map ai.e++lI v::R).set j x=done.map ai.e++x::R:=fun R x=>by rw[List.set_append_right _ _ (by simp;omega)];simp[a6]
    simp[aE,aD];(with_reducible repeat' first|refine aj ?_|simp[hj,af]);(refine cO.ob (sp cu v x dg ed) (by first|exact cl _|exact cl ‹_› _) (by simp only[aO,aD,aE,bZ,b4];exact aL) (by simp only[aO,aD,aE,bZ,b4];exact aL) (by simp[inObs,Pv.look,aO,aD,aE]) ?_;rintro r ah ⟨rfl,rfl⟩;refine⟨(Same.keys (by simp[aO,aD,aE]) (by simp[aO,aD,aE])),?_⟩;simp[cb,aO,aD,aE]);(with_reducible repeat' first|refine aj ?_|simp);(refine cO.ob (key) (by first|exact cl _|exact cl ‹_› _) (by simp only[aO,aD,aE,bZ,b4];exact aL) (by simp only[aO,aD,aE,bZ,b4];exact aL) (by simp[inObs,Pv.look,aO,aD,aE]) ?_;rintro r ah ⟨rfl,rfl⟩;refine⟨(Same.keys (by simp[aO,aD,aE]) (by simp[aO,aD,aE])),?_⟩;simp[cb,aO,aD,aE]);(with_reducible repeat' first|refine aj ?_|refine aA (uL _) ?_|refine aB (uL _) ?_|simp[hj,wV,af,aox,-qw]);refine bP.rng (ku,done++[⟨v,t⟩]) af ⟨by simp[a6],aou,tT,by simpa using dd⟩ ?_;simp[aE,aD];exact⟨by simp[fresh,aN,aJ,cz,inObs,Pv.look,aE,aD,jA],eD (by simp[fresh,aN,aJ,cz,inObs,Pv.look,aE,aD,jA]),eE (by simp[fresh,aN,aJ,eg,inObs,Pv.look,aE,aD,jA]),Ψ⟩
  ·rintro i ⟨b0,out⟩ hi ⟨J,U,ao⟩ ab;simp only at J U ao ab⊢;obtain⟨v,ay⟩:∃v,a7[i]? =some v:=⟨_,bY hi⟩;have aF:a7.drop i=v::a7.drop (i+1):=by rw[k8 hi];rw[bY hi]at ay;cases ay;rfl
   rw[aF]at J;simp only[tk,iX]at J;obtain⟨⟨x,cu⟩,a6,⟨f,dg⟩,b7,dd⟩:=J;simp only at b7 dd;obtain⟨z3,key⟩:=ahb n x cu _ b7 (U.rt a6);have ah7:∀h,(dV a7)[i]'h= .int .i64 v:=fun h=>by rw[bY hi]at ay;simp only[dE]at ay;simp[dV,ay]
   simp[aE,aD];(with_reducible repeat' first|refine aj ?_|simp[ah7,hi]);(refine cO.ob (sp b0 v x cu a6) (by first|exact cl _|exact cl ‹_› _) (by simp only[aO,aD,aE,bZ,b4];exact aL) (by simp only[aO,aD,aE,bZ,b4];exact aL) (by simp[inObs,Pv.look,aO,aD,aE]) ?_;rintro r ah ⟨rfl,rfl⟩;refine⟨(Same.keys (by simp[aO,aD,aE]) (by simp[aO,aD,aE])),?_⟩;simp[cb,aO,aD,aE]);(with_reducible repeat' first|refine aj ?_|simp);(refine cO.ob (key) (by first|exact cl _|exact cl ‹_› _) (by simp only[aO,aD,aE,bZ,b4];exact aL) (by simp only[aO,aD,aE,bZ,b4];exact aL) (by simp[inObs,Pv.look,aO,aD,aE]) ?_;rintro r ah ⟨rfl,rfl⟩;refine⟨(Same.keys (by simp[aO,aD,aE]) (by simp[aO,aD,aE])),?_⟩;simp[cb,aO,aD,aE]);cases f with
   |false=>simp at dd;subst dd;simp at po;subst po;(with_reducible repeat' first|refine aj ?_|simp);refine cP.at (aO dg) Ψ (cl _) (Same.keys (by simp[aO,aD]) (by simp[aO,aD])) (by simp only[aO,aD];exact aL) (by simp only[aO,aD];exact aL) ?_;simp[cW,Iv,aU,aW,aT,aO,aD,fh];exact⟨dg,Ψ⟩
   |true=>
    simp only[Bool.true_eq_false,if_false]at dd;by_cases ar:x=v/\dg.shd x=false
    ·rw[if_pos ar]at dd;obtain⟨aji,iG⟩:=ar;subst aji;have ui:(tg x dg.shaped).getD false=false:=iG;(with_reducible repeat' first|refine aj ?_|simp[ui]);refine bP.rng (dg,out) hi ⟨dd,z3,ao⟩ ?_;exact⟨by simp[fresh,aN,aJ,cz,inObs,Pv.look,aE,aD],eD (by simp[fresh,aN,aJ,cz,inObs,Pv.look,aE,aD]),eE (by simp[fresh,aN,aJ,eg,inObs,Pv.look,aE,aD]),Ψ⟩
    ·rw[if_neg ar]at dd;have Vr:(x==v)=false\/((x==v)=true/\(tg x dg.shaped).getD false=true):=by
      by_cases e:x=v
      ·right;refine⟨by simp[e],?_⟩;cases aG:dg.shd x with
       |false=>exact absurd ⟨e,aG⟩ ar
       |true=>exact aG
      ·left;simp[e]
     by_cases av:5000<dg.sz x\/400<out.length+1
     ·rw[if_pos av]at dd;cases dd;simp at po;subst po;have oE:(decide (5000<jn dg.size x))=true\/(decide (5000<jn dg.size x)=false/\400<out.length+1):=by
       by_cases e:5000<jn dg.size x
       ·left;simp[e]
       ·right;exact⟨by simp[e],av.resolve_left e⟩
      have AT:True:=trivial;have kU:True:=trivial;rcases Vr with bD|⟨bD,AT⟩;all_goals
       rcases oE with bt|⟨bt,kU⟩
       all_goals
        ((with_reducible repeat' first|refine aj ?_|simp[bD,AT,bt,kU]|((first|apply bL|apply bN|apply bM)<;>intro h<;>try simp at h))<;>(try exact cm))
        refine cP.at (aO dg) Ψ (cl _) (Same.keys (by simp[aO,aD]) (by simp[aO,aD])) (by simp only[aO,aD];exact aL) (by simp only[aO,aD];exact aL) ?_
        simp[cW,Iv,aU,aW,aT,aO,aD,fh]
        exact⟨dg,Ψ⟩
     ·rw[if_neg av]at dd;have bt:decide (5000<jn dg.size x)=false:=by simp;exact Int.not_lt.1 fun h=>av (.inl h)
      have kU:¬400<out.length+1:=fun h=>av (.inr h);have AT:True:=trivial;rcases Vr with bD|⟨bD,AT⟩;all_goals
       ((with_reducible repeat' first|refine aj ?_|simp[bD,AT,bt,kU]|((first|apply bL|apply bN|apply bM)<;>intro h<;>try simp at h))<;>(try exact cm))
       all_goals first|(refine⟨by unfold lim;omega,?_⟩)|skip
       ((with_reducible repeat' first|refine aj ?_|simp[bD,AT,bt,kU]|((first|apply bL|apply bN|apply bM)<;>intro h<;>try simp at h))<;>(try exact cm))
       refine bP.rng (dg,out++[v]) hi ⟨dd,z3,by simp;omega⟩ ?_
       exact⟨by simp[fresh,aN,aJ,cz,inObs,Pv.look,aE,aD,J3,jA],eD (by simp[fresh,aN,aJ,cz,inObs,Pv.look,aE,aD,J3,jA]),eE (by simp[fresh,aN,aJ,eg,inObs,Pv.look,aE,aD,J3,jA]),Ψ⟩
theorem zy:∀{a b:T},a.tm=b.tm->a=b:=by
 intro a;induction a with
 |pair x y oJ qM=>intro b h;cases b<;>simp[T.tm]at h;rw[oJ h.1,qM h.2]
 |_=>intro b h;cases b<;>simp[T.tm]at h⊢ <;>exact h
def abz(l:List dL):Prop:= ∃s:List ai,l=s.map ai.b/\jQ s/\hf s/\fP s
def JP(l:List dL):Prop:= ∃s:List ai,l=s.map ai.b/\jQ s/\eT s/\fP s
theorem QL:∀{l:List dL},(∀b∈l,b.t.fits=true)->∃s:List ai,l=s.map ai.b/\ye s
 |[],_=>⟨[],rfl,fun b ab=>by simp at ab⟩
 |b::l,h=>by
  obtain⟨s,J,U⟩:=QL (l:=l) fun c ar=>h c (by simp[ar]);obtain⟨x,ao,a6⟩:=bU.fits_ex (h b Ψ);refine⟨⟨b.v,x⟩::s,by rw[J];simp[ai.b,ao],fun c ar=>?_⟩;rcases e7.1 ar with rfl|ar
  ·exact a6
  ·exact U c ar
theorem uN{l:List dL}:uX l↔abz l:=by
 constructor
 ·rintro⟨J,U⟩;obtain⟨s,rfl,Dl⟩:=QL (l:=l) fun b ab=>by obtain⟨i,hi,e⟩:=oi ab;exact(U i hi b (by rw[bY hi,e])).2.2
  have U0:∀b∈s,b.t.ok=true/\b.t.size<=5000:=fun b ab=>by have:=Dl b ab;simpa[T.fit]using this
  refine⟨s,rfl,fun b ab=>⟨?_,(U0 b ab).1⟩,?_,by simpa using J,fun b ab=>(U0 b ab).2⟩
  ·obtain⟨i,hi,e⟩:=oi ab;have:=(U i (by simpa using hi) b.b (by simp[bY hi,e])).1;exact this
  ·rw[hf,o2];have h2:∀i (h:i+1<s.length),s[i].v<s[i+1].v:=fun i h=>by have:=(U (i+1) (by simpa using h) s[i+1].b (by simp[bY h])).2.1 s[i].b Ω (by simp[bY (show i<s.length by omega)]);exact this
   have:∀(d i:Nat) (h:i+d+1<s.length),s[i].v<s[i+d+1].v:=by
    intro d;induction d with
    |zero=>intro i h;exact h2 i h
    |succ d bR=>intro i h;have bC:=bR i Ω;have a2:=h2 (i+d+1) Ω;simp only[Nat.add_assoc]at bC a2⊢;omega
   intro i j hi af lp;have:=this (j-i-1) i Ω;simpa[show i+(j-i-1)+1=j from by omega]using this
 ·rintro⟨s,rfl,aw,bm,aQ⟩;refine⟨by simpa using aQ.1,fun i hi b ab=>?_⟩;simp only[q5,gm]at ab;obtain⟨c,ar,rfl⟩:=ab;have hm:=dP ar;refine⟨(aw c hm).1,fun d bE aF=>?_,?_⟩
  ·simp only[q5,gm]at aF;obtain⟨e,he,rfl⟩:=aF;obtain⟨J,aq⟩:=eS.1 he;obtain⟨U,aG⟩:=eS.1 ar;have:=o2.1 bm (i-1) i J U Ω;rw[aq,aG]at this;exact this
  ·show c.t.tm.fits=true;rw[bU.fits_T];simp[T.fit,(aw c hm).2,aQ.2 c hm]
def wy(s:List ai)(v:Int)(f:Bool):Bool:=if 0<=nL s v then false else f
def mZ(s:List ai)(b:ai):Bool:=b.t.fold (wy s) true&& !(b.t.kind==1&&decide (b.v<=b.t.int))
theorem T5{s:List ai}(bm:hf s)(t:T):∀f:Bool,t.fold (wy s) f=true↔f=true/\∀w,t.occ w=true->df s w=none:=by
 induction t with
 |var n=>
  intro f;simp only[T.fold,T.occ,dQ,wy];have:=T3 bm n;by_cases h:0<=nL s n
  ·rw[if_pos h];constructor
   ·intro h;cases h
   ·rintro⟨_,U⟩;have:=this.2 (U n rfl);omega
  ·rw[if_neg h];exact⟨fun aQ=>⟨aQ,fun w hw=>by subst hw;exact this.1 Ω⟩,fun h=>h.1⟩
 |pair a b dJ dK=>
  intro f;simp only[T.fold,dJ,dK,T.occ,k6];constructor
  ·rintro⟨⟨J,U⟩,ao⟩;exact⟨J,fun w hw=>hw.elim (U w) (ao w)⟩
  ·rintro⟨J,U⟩;exact⟨⟨J,fun w hw=>U w (.inl hw)⟩,fun w hw=>U w (.inr hw)⟩
 |_=>intro f;simp[T.fold,T.occ]
theorem J5{s:List ai}(bm:hf s)(b:ai):mZ s b=true↔(∀w,b.t.occ w=true->df s w=none)/\∀w,b.t= .var w->w<b.v:=by
 unfold mZ;rw[cr,T5 bm];simp only[true_and];refine and_congr_right fun _=>?_;constructor
 ·intro h w hw;have ae:(b.t.kind==1)=true:=by rw[hw];rfl
  have hi:b.t.int=w:=by rw[hw];rfl
  rw[ae,hi]at h;simpa using h
 ·intro h;cases ae:(b.t.kind==1)with
  |false=>rfl
  |true=>
   obtain⟨w,hw⟩:∃w,b.t= .var w:=by
    cases e:b.t with
    |var w=>exact⟨w,rfl⟩
    |_=>rw[e]at ae;simp at ae
   have hi:b.t.int=w:=by rw[hw];rfl
   have:=h w hw;rw[hi];simpa using this
theorem ZK{s:List ai}(bm:hf s):eT s↔∀b∈s,mZ s b=true:=by
 constructor
 ·intro h b ab;exact(J5 bm b).2 ⟨h.free b ab,h.ori b ab⟩
 ·intro h;exact⟨bm,fun b ab=>((J5 bm b).1 (h b ab)).1,fun b ab=>((J5 bm b).1 (h b ab)).2⟩
def kD{α:Type}(p:α->Bool)(s:List α)(i:Nat)(_:Unit):Prop:= ∀k b,k<i->s[k]? =some b->p b=true
theorem kD.step{α:Type}{p:α->Bool}{s:List α}{i:Nat}(h:kD p s i ()){b:α}(ab:s[i]? =some b)(bD:p b=true):kD p s (i+1) ():=fun k c ae ar=>by
 rcases(by omega:k<i\/k=i)with J|rfl
 ·exact h k c J ar
 ·rw[ab]at ar;cases ar;exact bD
open Classical in
noncomputable def gL(l:List dL):Bool:=decide (JP l)
theorem rV{l:List dL}:gL l=true↔JP l:=by unfold gL;simp
def iY(f:Bool):cR:=⟨[(.obj 731,[.bool f])],[]⟩
theorem wg(f:Bool):dM (iY f):=by unfold iY;exact dM.of ⟨by intro m;simp[Pv.look],by intro m;simp[Pv.look]⟩ Ψ Ψ
theorem abq(a b:Bool):Same (iY a) (iY b):=Same.keys (by simp[iY]) (by simp[iY])
theorem agA(s:List ai)(av:s.length<=1000000)(v:Int)(f:Bool):bI ax 133 [.int .i64 v,.eptr (.slice 5 .no (s.map ai.e)),.ptr (.obj 731) 0] (iY f) fun r ah=>r= .tuple []/\ah=iY (wy s v f):=by
 have ag:=wg f;simp only[iY]at ag⊢;by_cases h:0<=nL s v
 ·rw[wy,if_pos h];refine bI.mk mixed rW TG XG Ψ ag.obj fun aR cI=>?_;unfold Kf;simp;(with_reducible repeat' first|refine aj ?_|refine aA (uM s v av) ?_|refine aB (uM s v av) ?_|simp[h]);(refine cP.at (iY false) Ψ (by first|exact wg _|exact wg ‹_› _) (Same.keys (by simp[iY]) (by simp[iY])) (by simp only[iY,bZ,b4];exact aL) (by simp only[iY,bZ,b4];exact aL) ?_;simp[cW,Oa,aU,aW,aT,inObs,Pv.look,iY])
 ·rw[wy,if_neg h];refine bI.mk mixed rW TG XG Ψ ag.obj fun aR cI=>?_;unfold Kf;simp;(with_reducible repeat' first|refine aj ?_|refine aA (uM s v av) ?_|refine aB (uM s v av) ?_|simp[h]);(refine cP.at (iY f) Ψ (by first|exact wg _|exact wg ‹_› _) (Same.keys (by simp[iY]) (by simp[iY])) (by simp only[iY,bZ,b4];exact aL) (by simp only[iY,bZ,b4];exact aL) ?_;simp[cW,Oa,aU,aW,aT,inObs,Pv.look,iY])
theorem PB(l:List dL):bQ ax 55 [.slice 5 .no (l.map dL.e)] (.bool (gL l)):=by
 have ay:=PC l;by_cases h:uX l;rotate_left
 ·have bE:gL l=false:=by unfold gL;simp only[gn];rintro⟨s,J,U,ao,a6⟩;exact h (uN.2 ⟨s,J,U,ao.asc,a6⟩)
  rw[bE];refine bj rW TF XF fun aR=>?_;unfold Ke;exact cp
 ·obtain⟨s,rfl,aw,bm,aQ⟩:=uN.1 h;have av:s.length<=1000000:=by have:=aQ.1;omega
  have aq:(s.map ai.b).map dL.e=s.map ai.e:=by rw[List.map_map];exact List.map_congr_left fun b _=>ai.b_e b
  have bE:gL (s.map ai.b)=s.all (mZ s):=by
   rw[q4,fy,rV,<-ZK bm];constructor
   ·rintro⟨ah,J,U,ao,a6⟩;have:ah=s:=by
     have ah6:∀a b:List ai,a.map ai.b=b.map ai.b->a=b:=by
      intro a;induction a with
      |nil=>intro b ab;cases b<;>simp at ab⊢
      |cons x a bR=>
       intro b ab;cases b with
       |nil=>simp at ab
       |cons y b=>simp only[ht,zK,ai.b,dL.mk.injEq]at ab;rw[bR b ab.2];have:=zy ab.1.2;obtain⟨⟨l4,_⟩,_⟩:=ab;cases x;cases y;simp_all
     exact(ah6 _ _ J).symm
    rw[<-this];exact ao
   ·intro ao;exact⟨s,rfl,aw,ao,aQ⟩
  rw[bE];rw[aq]at ay⊢;refine bj rW TF XF fun aR=>?_;unfold Ke;simp;(with_reducible repeat' first|refine aj ?_|refine aA ay ?_|refine aB ay ?_|simp[h]);refine h0 (α:=Unit) (fun i _=>⟨[(1,.eptr (.slice 5 .no (s.map ai.e))),(9,.slice 5 .no (s.map ai.e)),(10,.int .i64 s.length),(11,.int .i64 i)],[],[],1,[]⟩) s.length (kD (mZ s) s) () bT (fun k b ae=>Ω) (fun _ af _=>?_) (fun i _ hi af _=>?_)
  ·have:s.all (mZ s)=true:=by rw[fy];intro b ab;obtain⟨k,ae,e⟩:=oi ab;exact af k b ae (by rw[bY ae,e])
   rw[this];exact cp
  ·obtain⟨b,mI⟩:∃b,s[i]? =some b:=⟨_,bY hi⟩;have fV:∀h,(s[i]'h)=b:=fun h=>by rw[bY hi]at mI;exact eH mI
   have key:=Lo iY wg abq 133 [.eptr (.slice 5 .no (s.map ai.e)),.ptr (.obj 731) 0] (fun a=>by simp[iY,inObs,Pv.look]) Ψ (wy s) (fun v a=>agA s av v a) b.t true;have e8:mZ s b=false->s.all (mZ s)=false:=fun h=>by rw[Bool.eq_false_iff];intro cd;rw[fy]at cd;rw[cd b (dP mI)]at h;cases h
   simp[hi,fV];(with_reducible repeat' first|refine aj ?_|simp[fV,hi]);(refine cO.ob (key) (by first|exact wg _|exact wg ‹_› _) (by simp only[iY,bZ,b4];exact aL) (by simp only[iY,bZ,b4];exact aL) (by simp[inObs,Pv.look,iY]) ?_;rintro r ah ⟨rfl,rfl⟩;refine⟨(Same.keys (by simp[iY]) (by simp[iY])),?_⟩;simp[cb,iY]);generalize ahW:b.t.fold (wy s) true=tQ;have yl:mZ s b=(tQ&& !(b.t.kind==1&&decide (b.v<=b.t.int))):=by unfold mZ;rw[ahW]
   cases tQ with
   |false=>rw[e8 (by rw[yl];rfl)];exact cp
   |true=>
    cases ae:(b.t.kind==1)with
    |false=>(with_reducible repeat' first|refine aj ?_|simp[ae]);refine bP.rng () hi (af.step mI (by rw[yl,ae];rfl)) ?_;exact bT
    |true=>
     by_cases hle:b.v<=b.t.int
     ·rw[e8 (by rw[yl,ae];simp[hle])];exact cp
     ·(with_reducible repeat' first|refine aj ?_|simp[ae,hle]);refine bP.rng () hi (af.step mI (by rw[yl,ae];simp[hle])) ?_;exact bT
@[simp]theorem atl(S:aM->Prop):aN S (kG [])=True:=eq_true (nr S [])
theorem ag3(n:Nat)(s:List ai)(l r:List T)(av:l.length=r.length)(kV:s.length<=1000000)(yy:l.length<=1000000)(o:Option (List ai))(he:B2 n (ga s++l.zip r)=some o)
  (hinv:∀c,qD n (ga s++l.zip r) bB.new=some (true,c)->(cC c.up).Nodup/\c.up.length<=1000000/\mY c):bQ ax 118 [.slice 5 .no (s.map ai.e),.slice 4 .no (l.map T.e),.slice 4 .no (r.map T.e)] (fh o):=by
 obtain⟨E,c8⟩:∃E,E=ga s++l.zip r:=⟨_,rfl⟩;rw[<-c8]at he hinv;simp only[B2,iX]at he;obtain⟨fin,wJ,po⟩:=he;have hlen:E.length=s.length+l.length:=by rw[c8];simp[ga,av]
 have ahs:∀i b,s[i]? =some b->E.drop i=(.var b.v,b.t)::E.drop (i+1):=fun i b ab=>by
  have hi:=(eS.1 ab).1;have aX:E[i]? =some (.var b.v,b.t):=by rw[c8,List.getElem?_append_left (by simp[ga];exact hi)];simp[ga,ab]
  rw[k8 Ω];rw[bY Ω]at aX;simp only[dE]at aX;rw[aX]
 have ahr:∀i a b,l[i]? =some a->r[i]? =some b->E.drop (s.length+i)=(a,b)::E.drop (s.length+(i+1)):=fun i a b bm ab=>by
  have hi:=(eS.1 bm).1;have aX:E[s.length+i]? =some (a,b):=by rw[c8,List.getElem?_append_right (by simp[ga])];simp[ga,List.getElem?_zip_eq_some,bm,ab]
  rw[k8 Ω];rw[bY Ω]at aX;simp only[dE]at aX;rw[aX];rfl
 refine bj Z2 aeX al0 fun aR=>?_;unfold RE;simp;refine cO.new agR (dM.of vM Ψ Ψ) (fun k cs h=>by simp[Pv.look]at h) (fun k cs h=>by simp[Pv.look]at h) Ψ ?_;rintro r0 s0 ⟨rfl,rfl⟩;refine⟨fun m hm=>.inr Ψ,?_⟩;simp[aO,aD,cb,aE];refine h0 (α:=bB) (fun i c=>⟨[(1,.slice 4 .no (l.map T.e)),(2,.slice 4 .no (r.map T.e)),(8,aE),(13,.slice 5 .no (s.map ai.e)),(14,.int .i64 s.length),(15,.int .i64 i)],aD c,[],0,[.obj 702,.obj 703,.obj 704,.obj 705,.obj 706,.obj 707]⟩) s.length (fun i c=>qD n (E.drop i) c=some fin) bB.new (by simp[aE,aD];exact⟨by simp[fresh,aN,aJ,cz,inObs,Pv.look,aE,aD,bB.new],eD (by simp[fresh,aN,aJ,cz,inObs,Pv.look,aE,aD,bB.new]),eE (by simp[fresh,aN,aJ,eg,inObs,Pv.look,aE,aD,bB.new]),Ψ⟩) (by simpa using wJ) ?_ ?_
 ·rintro c J ab;simp[aE,aD];refine h0 (α:=bB) (fun i c=>⟨[(1,.slice 4 .no (l.map T.e)),(2,.slice 4 .no (r.map T.e)),(8,aE),(37,.int .i64 l.length),(38,.int .i64 i)],aD c,[],0,[.obj 702,.obj 703,.obj 704,.obj 705,.obj 706,.obj 707]⟩) l.length (fun i c=>qD n (E.drop (s.length+i)) c=some fin) c (by simp[aE,aD];exact⟨by simp[fresh,aN,aJ,cz,inObs,Pv.look,aE,aD],eD (by simp[fresh,aN,aJ,cz,inObs,Pv.look,aE,aD]),eE (by simp[fresh,aN,aJ,eg,inObs,Pv.look,aE,aD]),Ψ⟩) J ?_ ?_
  ·rintro b0 J ab;rw[List.drop_eq_nil_of_le Ω]at J;simp[qD]at J;subst J;simp at po;obtain⟨a1,bp,bV⟩:=hinv b0 wJ;simp[aE,aD];refine cO.ob (ag4 n b0 o po a1 bp bV) (cl _) (by simp only[aO,aD];exact aL) (by simp only[aO,aD];exact aL) (by simp[inObs,Pv.look,aO,aD,aE]) ?_;rintro r0 s0 ⟨rfl,cq,rfl⟩;refine⟨Same.keys (by simp[aO,aD]) (by simp[aO,aD]),?_⟩;simp[cb,aO,aD,fh];exact cp
  ·rintro i c hi J ab;simp only at J ab⊢;obtain⟨a,bm⟩:∃a,l[i]? =some a:=⟨_,bY hi⟩;obtain⟨b,gk⟩:∃b,r[i]? =some b:=⟨_,bY Ω⟩;have nQ:∀h,(l[i]'h)=a:=fun h=>by rw[bY hi]at bm;exact eH bm
   have cD:∀h,(r[i]'h)=b:=fun h=>by rw[bY h]at gk;exact eH gk
   have sF:i<r.length:=Ω
   rw[ahr i a b bm gk]at J;simp only[qD,iX]at J;obtain⟨b0,U,cu,ao,⟨f,dg⟩,a6,b7⟩:=J;simp only at a6 b7;have key:=Ue n _ _ _ _ a6;simp[aE,aD];(with_reducible repeat' first|refine aj ?_|simp[nQ,cD,hi,sF]);(refine cO.ob (Ls c a b0 U) (by first|exact cl _|exact cl ‹_› _) (by simp only[aO,aD,aE,bZ,b4];exact aL) (by simp only[aO,aD,aE,bZ,b4];exact aL) (by simp[inObs,Pv.look,aO,aD,aE]) ?_;rintro r ah ⟨rfl,rfl⟩;refine⟨(Same.keys (by simp[aO,aD,aE]) (by simp[aO,aD,aE])),?_⟩;simp[cb,aO,aD,aE]);(with_reducible repeat' first|refine aj ?_|simp[nQ,cD,hi,sF]);(refine cO.ob (Ls b0 b cu ao) (by first|exact cl _|exact cl ‹_› _) (by simp only[aO,aD,aE,bZ,b4];exact aL) (by simp only[aO,aD,aE,bZ,b4];exact aL) (by simp[inObs,Pv.look,aO,aD,aE]) ?_;rintro r ah ⟨rfl,rfl⟩;refine⟨(Same.keys (by simp[aO,aD,aE]) (by simp[aO,aD,aE])),?_⟩;simp[cb,aO,aD,aE]);(with_reducible repeat' first|refine aj ?_|simp[nQ,cD,hi,sF]);(refine hH.ob (key) (by first|exact cl _|exact cl ‹_› _) (by first|exact cl _|exact cl ‹_› _) (Same.keys (by simp[aO,aD,aE]) (by simp[aO,aD,aE])) (by simp only[aO,aD,aE,bZ,b4];exact aL) (by simp only[aO,aD,aE,bZ,b4];exact aL) (by simp[inObs,Pv.look,aO,aD,aE]) ?_;simp[cb,aO,aD,aE]);cases f with
   |false=>simp at b7;subst b7;simp at po;subst po;(with_reducible repeat' first|refine aj ?_|simp);simp[bk,Oh,aU,aW,aT];simp[fh]
   |true=>simp at b7;(with_reducible repeat' first|refine aj ?_|simp);refine bP.rng dg hi b7 ?_;simp[aE,aD];exact⟨by simp[fresh,aN,aJ,cz,inObs,Pv.look,aE,aD],eD (by simp[fresh,aN,aJ,cz,inObs,Pv.look,aE,aD]),eE (by simp[fresh,aN,aJ,eg,inObs,Pv.look,aE,aD]),Ψ⟩
 ·rintro i c hi J ab;simp only at J ab⊢;obtain⟨b,ay,fV⟩:=ej hi;rw[ahs i b ay]at J;simp only[qD,iX]at J;obtain⟨b0,U,cu,ao,⟨f,dg⟩,a6,b7⟩:=J;simp only[Bk,T.foldO,gm]at U;obtain⟨⟨x,QQ⟩,U,rfl⟩:=U;simp only at U ao a6 b7;have key:=Ue n _ _ _ _ a6;simp[aE,aD];(with_reducible repeat' first|refine aj ?_|simp[fV,hi]);(refine cO.ob (sp c b.v x QQ U) (by first|exact cl _|exact cl ‹_› _) (by simp only[aO,aD,aE,bZ,b4];exact aL) (by simp only[aO,aD,aE,bZ,b4];exact aL) (by simp[inObs,Pv.look,aO,aD,aE]) ?_;rintro r ah ⟨rfl,rfl⟩;refine⟨(Same.keys (by simp[aO,aD,aE]) (by simp[aO,aD,aE])),?_⟩;simp[cb,aO,aD,aE]);(with_reducible repeat' first|refine aj ?_|simp);(refine cO.ob (Ls QQ b.t cu ao) (by first|exact cl _|exact cl ‹_› _) (by simp only[aO,aD,aE,bZ,b4];exact aL) (by simp only[aO,aD,aE,bZ,b4];exact aL) (by simp[inObs,Pv.look,aO,aD,aE]) ?_;rintro r ah ⟨rfl,rfl⟩;refine⟨(Same.keys (by simp[aO,aD,aE]) (by simp[aO,aD,aE])),?_⟩;simp[cb,aO,aD,aE]);(with_reducible repeat' first|refine aj ?_|refine aA (jF _) ?_|refine aB (jF _) ?_|simp);(refine hH.ob (key) (by first|exact cl _|exact cl ‹_› _) (by first|exact cl _|exact cl ‹_› _) (Same.keys (by simp[aO,aD,aE]) (by simp[aO,aD,aE])) (by simp only[aO,aD,aE,bZ,b4];exact aL) (by simp only[aO,aD,aE,bZ,b4];exact aL) (by simp[inObs,Pv.look,aO,aD,aE]) ?_;simp[cb,aO,aD,aE]);cases f with
  |false=>simp at b7;subst b7;simp at po;subst po;(with_reducible repeat' first|refine aj ?_|simp);simp[bk,Oh,aU,aW,aT];simp[fh]
  |true=>simp at b7;(with_reducible repeat' first|refine aj ?_|simp);refine bP.rng dg hi b7 ?_;simp[aE,aD];exact⟨by simp[fresh,aN,aJ,cz,inObs,Pv.look,aE,aD],eD (by simp[fresh,aN,aJ,cz,inObs,Pv.look,aE,aD]),eE (by simp[fresh,aN,aJ,eg,inObs,Pv.look,aE,aD]),Ψ⟩
theorem aaQ(s:List ai)(l r:List T)(av:l.length=r.length)(ag:eT s)(aQ:fP s)(aw:jQ s)(yy:l.length<=1000000)(J:∀t∈l,t.ok=true)(U:∀t∈r,t.ok=true):
  bQ ax 118 [.slice 5 .no (s.map ai.e),.slice 4 .no (l.map T.e),.slice 4 .no (r.map T.e)] (fh (mgu s (l.zip r))):=by
 have c8:∀e∈ga s++l.zip r,e.1.ok=true/\e.2.ok=true:=fun e he=>by
  rcases iz.1 he with he|he
  ·obtain⟨b,ab,rfl⟩:=hG.1 he;have:=aw b ab;exact⟨by simpa[T.ok]using this.1,this.2⟩
  ·exact⟨J _ (List.of_mem_zip he).1,U _ (List.of_mem_zip he).2⟩
 have bE:ND (ga s++l.zip r):=fun e he v ay=>by
  rcases ay with ay|ay
  ·exact(xP (c8 e he).1 ay).1
  ·exact(xP (c8 e he).2 ay).1
 obtain⟨n,o,a1,bp,bV⟩:=ao8 _ bE;rw[qn (abx.1 bp)];refine ag3 n s l r av (by have:=aQ.1;omega) yy o a1 fun c ar=>?_;obtain⟨bC,a2,a3⟩:=bV c ar;have:=Ww bC fun v ay=>by
  obtain⟨e,he,ay⟩:=a2 v ay;rcases ay with ay|ay
  ·exact xP (c8 e he).1 ay
  ·exact xP (c8 e he).2 ay
 refine⟨bC,by simp[cC]at this;omega,fun x=>?_⟩;simp[bB.sz,a3,tg]
structure ek (s:List ai):Prop where
 ok:jQ s
 sol:eT s
 fits:fP s
theorem ek.len{s:List ai}(h:ek s):s.length<=1000000:=by have:=h.fits.1;omega
theorem ek.fit{s:List ai}(h:ek s):ye s:=fun b ab=>by simp[T.fit,(h.ok b ab).2,h.fits.2 b ab]
theorem ek.mgu{s:List ai}(h:ek s){E:List (T×T)}(c8:∀e∈E,e.1.ok=true/\e.2.ok=true){ah:List ai}(hm:mgu s E=some ah):ek ah:=⟨akL h.sol h.fits h.ok c8 hm,(sY h.sol h.fits hm).1,(sY h.sol h.fits hm).2⟩
theorem qU(s:List ai):(s.map ai.b).map dL.e=s.map ai.e:=by rw[List.map_map];exact List.map_congr_left fun b _=>ai.b_e b
theorem oW{s:List ai}(h:ek s):bQ ax 55 [.slice 5 .no (s.map ai.e)] (.bool true):=by have:=PB (s.map ai.b);rw[qU,rV.2 ⟨s,rfl,h.ok,h.sol,h.fits⟩]at this;exact this
def ajW(t:List ai)(i:Nat)(p:List T×List T):Prop:=p.1=(t.take i).map (fun b=>T.var b.v)/\p.2=(t.take i).map (·.t)
theorem ap5(t:List ai)(aH:t.length<=1000000):bQ ax 201 [.slice 5 .no (t.map ai.e)] (.tuple [.slice 4 .no ((t.map fun b=>T.var b.v).map T.e),.slice 4 .no ((t.map (·.t)).map T.e)]):=by
 generalize bA:((t.map fun b=>T.var b.v).map T.e)=R1;generalize UA:((t.map fun x=>x.t).map T.e)=R2;have fH:∀S:aM->Prop,aN S R1=True:=fun S=>by rw[<-bA];exact WB S _
 have jZ:∀S:aM->Prop,aN S R2=True:=fun S=>by rw[<-UA];exact WB S _
 refine bQ.mk mixed rW aeH alK Ψ (by simp[aJ,fH,jZ]) fun aR=>?_;unfold Ro;simp;refine h0 (α:=List T×List T) (fun i p=>⟨[(10,.slice 5 .no (t.map ai.e)),(11,.int .i64 t.length),(4,.slice 4 (.own (.loc 0)) (p.1.map T.e)),(5,.slice 4 (.own (.loc 1)) (p.2.map T.e)),(12,.int .i64 i)],[],[(.loc 0,⟨p.1.length,32,4,none⟩),(.loc 1,⟨p.2.length,32,4,none⟩)],2,[]⟩) t.length (ajW t) ([],[]) bT ⟨Ψ,Ψ⟩ (fun p af _=>?_) (fun i p hi af _=>?_)
 ·obtain⟨A,B⟩:=p;obtain⟨bg,iR⟩:=af;simp only at bg iR⊢;rw[gw (eu _)]at bg iR;rw[<-bA,<-UA,<-bg,<-iR];simp;(with_reducible repeat' first|refine aj ?_|simp);simp[bk,Yx,aU,aW,aT]
 ·obtain⟨A,B⟩:=p;obtain⟨bg,iR⟩:=af;simp only at bg iR⊢;obtain⟨b,ay,fV⟩:=ej hi;have oI:t.take (i+1)=t.take i++[b]:=by rw[q6,ay];rfl
  have Lz:A.length<=1000000:=by rw[bg];simp;omega
  have ahp:B.length<=1000000:=by rw[iR];simp;omega
  simp[hi,fV];((with_reducible repeat' first|refine aj ?_|refine aA (jF _) ?_|refine aB (jF _) ?_|simp[fV,hi]|((first|apply bL|apply bN|apply bM)<;>intro h<;>try simp at h))<;>(try exact cm));all_goals first|(refine⟨by unfold lim;omega,?_⟩)|skip
  (with_reducible repeat' first|refine aj ?_|simp);all_goals first|(refine⟨by unfold lim;omega,?_⟩)|skip
  (with_reducible repeat' first|refine aj ?_|simp);refine bP.rng (A++[.var b.v],B++[b.t]) hi ⟨by rw[oI,bg];simp,by rw[oI,iR];simp⟩ ?_;simp;exact⟨by simp[fresh,aN,aJ,cz,inObs,Pv.look,jA],eD (by simp[fresh,aN,aJ,cz,inObs,Pv.look,jA]),eE (by simp[fresh,aN,aJ,eg,inObs,Pv.look,jA]),Ψ⟩
theorem apQ{s t:List ai}(ag:ek s)(aH:ek t):bQ ax 122 [.slice 5 .no (s.map ai.e),.slice 5 .no (t.map ai.e)] (fh (mgu s (ga t))):=by
 have ba:(t.map fun b=>T.var b.v).zip (t.map (·.t))=ga t:=by rw[ga,List.zip_map']
 have key:=aaQ s (t.map fun b=>T.var b.v) (t.map (·.t)) Ψ ag.sol ag.fits ag.ok (by simpa using aH.len) (fun x ad=>by
  obtain⟨b,ab,rfl⟩:=hG.1 ad;have:=aH.ok b ab;simpa[T.ok]using this.1) (fun x ad=>by
  obtain⟨b,ab,rfl⟩:=hG.1 ad;exact(aH.ok b ab).2)
 rw[ba]at key;have heq:=ap5 t aH.len;generalize (t.map fun b=>T.var b.v)=A at key heq;generalize (t.map fun x=>x.t)=B at key heq;refine bj rW aei alj fun aR=>?_;unfold QY;simp;(with_reducible repeat' first|refine aj ?_|refine aA (oW ag) ?_|refine aB (oW ag) ?_|refine aA (oW aH) ?_|refine aB (oW aH) ?_|refine aA heq ?_|refine aB heq ?_|refine aA key ?_|refine aB key ?_|simp);simp[bk,Yi,aU,aW,aT];simp[fh]
end
end Go.Proofs.YtohaalphocaebaaGreat
namespace Go.Pv
section
open Go
structure jV {α:Type} (c:α->α->Int):Prop where
 neg:∀a b,c b a= -c a b
 tr:∀a b d,c a b<=0->c b d<=0->c a d<=0
 zero:∀a b,c a b=0↔a=b
section
variable {α:Type} {c:α->α->Int}
def h4(c:α->α->Int)(a b:α):Bool:=decide (c a b<0)
theorem jV.ltOk(h:jV c):q8 (h4 c):=by
 refine⟨fun x y gP=>?_,fun x y z J U=>?_⟩
 ·simp only[h4,en,gn]at gP⊢;rw[h.neg x y];omega
 ·simp only[h4,gn]at J U⊢;have aq:=h.neg x y;have aG:=h.neg y z;have bG:=h.neg x z;have:=h.tr x y z Ω Ω;omega
theorem jV.refl(h:jV c)(a:α):c a a=0:=(h.zero a a).2 rfl
theorem jV.ltr(h:jV c){a b d:α}(J:c a b<0)(U:c b d<=0):c a d<0:=by
 have ao:=h.tr a b d Ω U;rcases(by omega:c a d<0\/c a d=0)with a6|a6
 ·exact a6
 ·obtain rfl:=(h.zero a d).1 a6;have:=h.neg a b;omega
def oR(c:α->α->Int)(l:List α):List α:=l.mergeSort fun x y=>decide (c x y<=0)
theorem xA(c:α->α->Int)(l:List α):(oR c l).Perm l:=List.mergeSort_perm l _
theorem Pe(h:jV c)(l:List α):(oR c l).Pairwise fun x y=>c x y<=0:=by have:=List.pairwise_mergeSort (le:=fun x y=>decide (c x y<=0)) (fun a b d J U=>by simp at J U⊢;exact h.tr a b d J U) (fun a b=>by simp;have:=h.neg a b;omega) l;exact this.imp Ψ
theorem ZQ(h:jV c){l a8:List α}(bD:a8.Perm l)(ag:a8.Pairwise fun x y=>h4 c y x=false):a8=oR c l:=by refine P5 (le:=fun x y=>c x y<=0) (fun x y _ _ J U=>(h.zero x y).1 (by have:=h.neg x y;omega)) (ag.imp fun{x y} gP=>?_) (Pe h l) (bD.trans (xA c l).symm);simp only[h4,gn]at gP;have:=h.neg x y;omega
def cN[DecidableEq α](p:Option α):List α->List α
 |[]=>[]
 |x::r=>if p=some x then cN (some x) r else x::cN (some x) r
def asc[DecidableEq α](c:α->α->Int)(l:List α):List α:=cN none (oR c l)
def gT(c:α->α->Int)(l:List α):Prop:=l.Pairwise fun x y=>c x y<0
variable [DecidableEq α]
theorem Tf:∀(l:List α) (p:Option α),(cN p l).length<=l.length
 |[],_=>by simp[cN]
 |x::r,p=>by have:=Tf r (some x);simp only[cN];split<;>simp<;>omega
theorem abW(c:α->α->Int)(l:List α):(asc c l).length<=l.length:=by have J:=Tf (oR c l) none;have U:=(xA c l).length_eq;unfold asc;omega
theorem KF:∀(l:List α) (p:Option α) (x:α),x∈cN p l->x∈l
 |[],_,_,h=>by simp[cN]at h
 |y::r,p,x,h=>by
  simp only[cN]at h;split at h
  ·exact o1 _ (KF r _ x h)
  ·rcases e7.1 h with rfl|h
   ·simp
   ·exact o1 _ (KF r _ x h)
theorem Nk:∀(l:List α) (p:Option α) (x:α),x∈l->x∈cN p l\/p=some x
 |y::r,p,x,h=>by
  simp only[cN];rcases e7.1 h with rfl|h
  ·split
   ·rename_i U;exact .inr U
   ·simp
  ·split
   ·rename_i U;rcases Nk r (some y) x h with ao|ao
    ·exact .inl ao
    ·cases ao;exact .inr U
   ·rcases Nk r (some y) x h with ao|ao
    ·exact .inl (o1 _ ao)
    ·cases ao;simp
theorem Tg(ar:jV c):∀(l:List α) (p:Option α),l.Pairwise (fun x y=>c x y<=0)->(∀y,p=some y->∀x∈l,c y x<=0)->gT c (cN p l)/\∀y,p=some y->∀x∈cN p l,c y x<0
 |[],p,_,_=>⟨aq2,fun y _ x ad=>by simp[cN]at ad⟩
 |z::r,p,h,bD=>by
  obtain⟨J,U⟩:=mU.1 h;have bR:=Tg ar r (some z) U (fun y aC x ad=>by cases aC;exact J x ad);simp only[cN];split
  ·rename_i ao;subst ao;exact bR
  ·rename_i ao;refine⟨mU.2 ⟨fun x ad=>bR.2 z rfl x ad,bR.1⟩,fun y aC x ad=>?_⟩;subst aC;have sQ:c y z<0:=by
    have a6:=bD y rfl z Ψ;rcases(by omega:c y z<0\/c y z=0)with b7|b7
    ·exact b7
    ·exact absurd (eP some ((ar.zero y z).1 b7)) ao
   rcases e7.1 ad with rfl|ad
   ·exact sQ
   ·exact ar.ltr sQ (by have:=bR.2 z rfl x ad;omega)
theorem FQ(ar:jV c)(l:List α):gT c (asc c l):=(Tg ar _ none (Pe ar l) (fun y h=>by cases h)).1
theorem Nj(l:List α)(x:α):x∈asc c l↔x∈l:=by
 constructor
 ·intro h;exact(xA c l).mem_iff.1 (KF _ _ _ h)
 ·intro h;rcases Nk (oR c l) none x ((xA c l).mem_iff.2 h)with h|h
  ·exact h
  ·cases h
omit [DecidableEq α]in
theorem gT.ext(ar:jV c){l a8:List α}(h:gT c l)(cd:gT c a8)(hm:∀x,x∈l↔x∈a8):l=a8:=by
 have aF:∀{l:List α},gT c l->l.Nodup:=fun{l} h=>h.imp fun{a b} h e=>by subst e;have:=ar.refl a;omega
 refine P5 (le:=fun x y=>c x y<=0) (fun x y _ _ J U=>(ar.zero x y).1 (by have:=ar.neg x y;omega)) (h.imp fun h=>Ω) (cd.imp fun h=>Ω) ?_;exact(List.perm_ext_iff_of_nodup (aF h) (aF cd)).2 hm
omit [DecidableEq α]in
theorem gT.nodup(ar:jV c){l:List α}(h:gT c l):l.Nodup:=h.imp fun{a b} h e=>by subst e;have:=ar.refl a;omega
end
theorem J7:∀a b:List c0,hL a b=true->hL b a=false
 |_,[],h=>by simp[hL]at h
 |[],_::_,_=>by simp[hL]
 |x::a,y::b,h=>by
  simp only[hL,k6,en,cr,dQ]at h;simp only[hL,Bool.or_eq_false_iff,gn,Bool.and_eq_false_iff];rcases h with h|⟨rfl,h⟩
  ·refine⟨fun U=>?_,.inl ?_⟩
   ·rw[UInt8.lt_iff_toNat_lt]at h U;omega
   ·simp;intro e;subst e;rw[UInt8.lt_iff_toNat_lt]at h;omega
  ·exact⟨fun U=>by rw[UInt8.lt_iff_toNat_lt]at U;omega,.inr (J7 a b h)⟩
theorem QG:∀a b:List c0,a≠b->hL a b=false->hL b a=true
 |[],[],h,_=>absurd rfl h
 |x::a,[],_,_=>by simp[hL]
 |[],_::_,_,h=>by simp[hL]at h
 |x::a,y::b,cK,h=>by
  simp only[hL,Bool.or_eq_false_iff,gn,Bool.and_eq_false_iff]at h;simp only[hL,k6,en,cr,dQ];by_cases e:x=y
  ·subst e;right;refine⟨rfl,QG a b (fun e=>cK (by rw[e])) ?_⟩;rcases h.2 with U|U
   ·simp at U
   ·exact U
  ·left;have J:=h.1;rw[UInt8.lt_iff_toNat_lt]at J⊢;have:x.toNat≠y.toNat:=fun h=>e (UInt8.toNat_inj.1 h);omega
theorem QF:∀a b d:List c0,hL a b=true->hL b d=true->hL a d=true
 |_,[],_,h,_=>by simp[hL]at h
 |_,_::_,[],_,h=>by simp[hL]at h
 |[],_::_,_::_,_,_=>by simp[hL]
 |x::a,y::b,z::d,J,U=>by
  simp only[hL,k6,en,cr,dQ,UInt8.lt_iff_toNat_lt]at J U⊢;rcases J with J|⟨rfl,J⟩<;>rcases U with U|⟨rfl,U⟩
  ·left;omega
  ·left;exact J
  ·left;exact U
  ·exact .inr ⟨rfl,QF a b d J U⟩
theorem kH:jV eG:=by
 refine⟨fun a b=>?_,fun a b d=>?_,fun a b=>?_⟩
 ·simp only[eG];repeat' split
  all_goals omega
 ·simp only[eG];repeat' split
  all_goals omega
 ·simp only[eG];repeat' split
  all_goals omega
theorem Ev:jV k2:=by
 have au:∀a b,k2 b a= -k2 a b:=fun a b=>by
  simp only[k2];by_cases e:a=b
  ·subst e;simp
  ·rw[if_neg e,if_neg (lF e)];cases h:hL a b with
   |true=>simp[J7 a b h]
   |false=>simp[QG a b e h]
 refine⟨au,fun a b d J U=>?_,fun a b=>?_⟩
 ·simp only[k2]at J U⊢;by_cases aq:a=b
  ·subst aq;exact U
  ·by_cases aG:b=d
   ·subst aG;exact J
   ·rw[if_neg aq]at J;rw[if_neg aG]at U;have g1:hL a b=true:=by cases h:hL a b<;>simp[h]at J⊢
    have g2:hL b d=true:=by cases h:hL b d<;>simp[h]at U⊢
    rw[QF a b d g1 g2];split<;>simp
 ·simp only[k2];by_cases e:a=b
  ·simp[e]
  ·rw[if_neg e];simp[e];split<;>omega
theorem s8{a b:T}(h:a.kind≠b.kind):du a b=eG a.kind b.kind:=by cases a<;>cases b<;>simp at h<;>simp[du]
theorem Ew:∀a b:T,du b a= -du a b
 | .pair a b,.pair c d=>by
  simp only[du];have J:=Ew a c;have U:=Ew b d;by_cases e:du a c=0
  ·rw[if_pos e,if_pos Ω,U]
  ·rw[if_neg e,if_neg Ω,J]
 | .nil,y=>by
  by_cases ae:T.nil.kind=y.kind
  ·cases y<;>simp at ae;simp[du,k2]
  ·rw[s8 ae,s8 (lF ae),kH.neg]
 | .var n,y=>by
  by_cases ae:(T.var n).kind=y.kind
  ·cases y<;>simp at ae;rename_i m;by_cases e:n=m
   ·subst e;simp[du,k2]
   ·simp[du,e,lF e,kH.neg n m]
  ·rw[s8 ae,s8 (lF ae),kH.neg]
 | .sym s,y=>by
  by_cases ae:(T.sym s).kind=y.kind
  ·cases y<;>simp at ae;rename_i m;simp[du,Ev.neg s m]
  ·rw[s8 ae,s8 (lF ae),kH.neg]
 | .num n,y=>by
  by_cases ae:(T.num n).kind=y.kind
  ·cases y<;>simp at ae;rename_i m;by_cases e:n=m
   ·subst e;simp[du,k2]
   ·simp[du,e,lF e,kH.neg n m]
  ·rw[s8 ae,s8 (lF ae),kH.neg]
 | .pair a b,.nil| .pair a b,.var _| .pair a b,.sym _| .pair a b,.num _=>by simp[du,eG]
theorem Ii{a b:T}(h:du a b<=0):a.kind<=b.kind:=by
 by_cases ae:a.kind=b.kind
 ·omega
 ·rw[s8 ae]at h;simp only[eG]at h;repeat' split at h
  all_goals omega
theorem X0(n m:Int):du (.var n) (.var m)=eG n m:=by
 simp only[du,T.kind,T.int,T.name,k2];by_cases e:n=m
 ·subst e;simp[eG]
 ·simp[e]
theorem XZ(n m:Int):du (.num n) (.num m)=eG n m:=by
 simp only[du,T.kind,T.int,T.name,k2];by_cases e:n=m
 ·subst e;simp[eG]
 ·simp[e]
theorem anh(n m:List c0):du (.sym n) (.sym m)=k2 n m:=by simp[du]
theorem Ij(a b d:T)(bm:a.kind≠4)(J:du a b<=0)(U:du b d<=0):du a d<=0:=by
 have aP:=Ii J;have bd:=Ii U;by_cases ae:a.kind=d.kind
 ·cases a<;>cases d<;>simp at ae bm;all_goals(cases b<;>simp at aP bd)
  ·simp[du,k2]
  ·rw[X0]at J U⊢;exact kH.tr _ _ _ J U
  ·rw[anh]at J U⊢;exact Ev.tr _ _ _ J U
  ·rw[XZ]at J U⊢;exact kH.tr _ _ _ J U
 ·rw[s8 ae];simp only[eG];repeat' split
  all_goals omega
theorem ani:∀a b d:T,du a b<=0->du b d<=0->du a d<=0:=by
 intro a;induction a with
 |pair bC a2 Hy Hz=>
  intro b d J U;have aP:=Ii J;have bd:=Ii U;cases b<;>simp at aP;all_goals(cases d<;>simp at bd)
  rename_i cg cc d1 d2;simp only[du]at J U⊢;by_cases aq:du bC cg=0
  ·obtain rfl:=(qY bC cg).1 aq;rw[if_pos aq]at J;by_cases aG:du bC d1=0
   ·rw[if_pos aG]at U⊢;exact Hz cc d2 J U
   ·rw[if_neg aG]at U⊢;exact U
  ·rw[if_neg aq]at J;by_cases aG:du cg d1=0
   ·obtain rfl:=(qY cg d1).1 aG;rw[if_neg aq];exact J
   ·rw[if_neg aG]at U;have ao:=Hy cg d1 J U;by_cases bG:du bC d1=0
    ·obtain rfl:=(qY bC d1).1 bG;have:=Ew bC cg;omega
    ·rw[if_neg bG];exact ao
 |nil=>exact fun b d=>Ij _ b d Ψ
 |var n=>exact fun b d=>Ij _ b d Ψ
 |sym n=>exact fun b d=>Ij _ b d Ψ
 |num n=>exact fun b d=>Ij _ b d Ψ
theorem Ex:jV du:=⟨Ew,ani,qY⟩
end
end Go.Pv
namespace Go.Proofs.YtohaalphocaebaaGreat
section
open Go Go.Pv
theorem mP{α:Type}{t:List α}{i:Nat}{b:α}(ay:t[i]? =some b):t.take (i+1)=t.take i++[b]:=by rw[q6,ay];rfl
def dN(s t:List ai):List ai:=t.filter fun b=>(df s b.v).isNone
def rJ(s t:List ai)(i:Nat)(out:List ai):Prop:=out=dN s (t.take i)
theorem aaj{s t:List ai}(ag:ek s)(aH:ek t):bQ ax 123 [.slice 5 .no (s.map ai.e),.slice 5 .no (t.map ai.e)] (.slice 5 .no ((dN s t).map ai.e)):=by
 have wW:=aH.len;generalize bA:dN s t=R;refine bj rW aen alp fun aR=>?_;unfold Q3;simp;(with_reducible repeat' first|refine aj ?_|refine aA (oW ag) ?_|refine aB (oW ag) ?_|refine aA (oW aH) ?_|refine aB (oW aH) ?_|simp);refine h0 (α:=List ai) (fun i out=>⟨[(0,.slice 5 .no (s.map ai.e)),(17,.slice 5 .no (t.map ai.e)),(18,.int .i64 t.length),(5,.slice 5 (.own (.loc 0)) (out.map ai.e)),(19,.int .i64 i)],[],[(.loc 0,⟨out.length,61,5,none⟩)],1,[]⟩) t.length (rJ s t) [] bT (by simp[rJ,dN]) (fun out af _=>?_) (fun i out hi af _=>?_)
 ·rw[rJ,gw (eu _),bA]at af;rw[<-af];exact cp
 ·obtain⟨b,ay,fV⟩:=ej hi;have AR:out.length<=1000000:=by
   have:out.length<=(t.take i).length:=by rw[af];exact List.length_filter_le _ _
   simp at this;omega
  have rB:=T3 ag.sol.asc b.v;simp[hi,fV];by_cases ab:nL s b.v<0
  ·(with_reducible repeat' first|refine aj ?_|refine aA (uM s b.v ag.len) ?_|refine aB (uM s b.v ag.len) ?_|refine aA (uL _) ?_|refine aB (uL _) ?_|simp[fV,hi,ab]);all_goals first|(refine⟨by unfold lim;omega,?_⟩)|skip
   (with_reducible repeat' first|refine aj ?_|simp);refine bP.rng (out++[b]) hi (by rw[rJ,mP ay,dN,List.filter_append,af];simp[dN,rB.1 ab]) ?_;simp;exact⟨by simp[fresh,aN,aJ,cz,inObs,Pv.look,jA],eD (by simp[fresh,aN,aJ,cz,inObs,Pv.look,jA]),eE (by simp[fresh,aN,aJ,eg,inObs,Pv.look,jA]),Ψ⟩
  ·(with_reducible repeat' first|refine aj ?_|refine aA (uM s b.v ag.len) ?_|refine aB (uM s b.v ag.len) ?_|simp[fV,hi,ab]);refine bP.rng out hi (by
    have:df s b.v≠none:=fun e=>ab (rB.2 e);rw[rJ,mP ay,dN,List.filter_append,af];cases e:df s b.v with
    |none=>exact absurd e this
    |some x=>simp[dN,e]) ?_
   exact bT
def HE(t:List ai)(i:Nat)(out:List ai):Prop:=out=t.take i
theorem Fh(t:List ai)(aH:t.length<=1000000):bQ ax 119 [.slice 5 .no (t.map ai.e)] (.slice 5 .no (t.map ai.e)):=by
 refine bj rW aeF alI fun aR=>?_;unfold Rm;simp;refine h0 (α:=List ai) (fun i out=>⟨[(7,.slice 5 .no (t.map ai.e)),(8,.int .i64 t.length),(3,.slice 5 (.own (.loc 0)) (out.map ai.e)),(9,.int .i64 i)],[],[(.loc 0,⟨out.length,61,5,none⟩)],1,[]⟩) t.length (HE t) [] bT (by simp[HE]) (fun out af _=>?_) (fun i out hi af _=>?_)
 ·rw[HE,gw (eu _)]at af;subst af;exact cp
 ·obtain⟨b,ay,fV⟩:=ej hi;have AR:out.length<=1000000:=by rw[af];simp;omega
  simp[hi,fV];(with_reducible repeat' first|refine aj ?_|refine aA (uL _) ?_|refine aB (uL _) ?_|simp[fV,hi]);all_goals first|(refine⟨by unfold lim;omega,?_⟩)|skip
  (with_reducible repeat' first|refine aj ?_|simp);refine bP.rng (out++[b]) hi (by rw[HE,mP ay,af]) ?_;simp;exact⟨by simp[fresh,aN,aJ,cz,inObs,Pv.look,jA],eD (by simp[fresh,aN,aJ,cz,inObs,Pv.look,jA]),eE (by simp[fresh,aN,aJ,eg,inObs,Pv.look,jA]),Ψ⟩
def rM(t:List ai)(b:ai):Bool:=decide (aY t b.v=b.t.ap (aY t))
def km(s t:List ai):Bool:=s.all (rM t)
theorem E2{t:List ai}(aH:ek t)(v:Int):(aY t v).size<=5000:=by
 unfold aY;cases e:df t v with
 |none=>simp[T.size]
 |some x=>exact aH.fits.2 _ (jI e)
theorem aaJ(s:List ai){t:List ai}(ag:s.length<=1000000)(aH:ek t):bQ ax 205 [.slice 5 .no (s.map ai.e),.slice 5 .no (t.map ai.e)] (.bool (km s t)):=by
 refine bj rW aeM alP fun aR=>?_;unfold Rt;simp;refine dT [1,11,12] (fun i (_:Unit)=>[(13,.int .i64 i)]) s.length (kD (rM t) s) () bT (fun k b ae=>Ω) (fun _ af _=>?_) (fun i _ hi af _=>?_)
 ·have:km s t=true:=by rw[km,fy];intro b ab;obtain⟨k,ae,e⟩:=oi ab;exact af k b ae (by rw[bY ae,e])
  rw[this];exact cp
 ·obtain⟨b,ay,fV⟩:=ej hi;have e8:rM t b=false->km s t=false:=fun h=>by rw[Bool.eq_false_iff];intro cd;rw[km,fy]at cd;rw[cd b (dP ay)]at h;cases h
  have aP:=zD t (.var b.v) aH.len aH.sol.asc aH.fit;have bd:=zD t b.t aH.len aH.sol.asc aH.fit;have yK:=E2 aH b.v;have Hw:((T.var b.v).ap (aY t)).size<=5000:=yK;rw[if_pos Hw,gx Hw]at aP;rw[show(T.var b.v).ap (aY t)=aY t b.v from rfl]at aP;simp[hi,fV];by_cases ba:(b.t.ap (aY t)).size<=5000
  ·rw[if_pos ba,gx ba]at bd;by_cases he:aY t b.v=b.t.ap (aY t)
   ·rw[he]at aP;(with_reducible repeat' first|refine aj ?_|refine aA (jF _) ?_|refine aB (jF _) ?_|refine aA aP ?_|refine aB aP ?_|refine aA bd ?_|refine aB bd ?_|refine aA (rY _ _) ?_|refine aB (rY _ _) ?_|simp[fV,hi,he]);exact bP.rng () hi (af.step ay (by simp[rM,he])) bT
   ·rw[e8 (by simp[rM,he])];(with_reducible repeat' first|refine aj ?_|refine aA (jF _) ?_|refine aB (jF _) ?_|refine aA aP ?_|refine aB aP ?_|refine aA bd ?_|refine aB bd ?_|refine aA (rY _ _) ?_|refine aB (rY _ _) ?_|simp[fV,hi,he]);simp[bk,Od,aU,aW,aT]
  ·rw[if_neg ba,h6 ba]at bd;rw[e8 (by simp only[rM,gn];intro e;rw[<-e]at ba;exact ba yK)];(with_reducible repeat' first|refine aj ?_|refine aA (jF _) ?_|refine aB (jF _) ?_|refine aA aP ?_|refine aB aP ?_|refine aA bd ?_|refine aB bd ?_|refine aA (rY _ _) ?_|refine aB (rY _ _) ?_|simp[fV,hi]);simp[bk,Od,aU,aW,aT]
end
end Go.Proofs.YtohaalphocaebaaGreat
namespace Go.Pv
section
open Go
section
variable {α:Type} {c:α->α->Int}
def kk(c:α->α->Int):List α->List α->Int
 |[],[]=>0
 |[],_::_=> -1
 |_::_,[]=>1
 |x::xs,y::ys=>if c x y=0 then kk c xs ys else c x y
theorem WR(h:jV c):∀a b:List α,kk c b a= -kk c a b
 |[],[]=>rfl
 |[],_::_=>rfl
 |_::_,[]=>rfl
 |x::xs,y::ys=>by
  simp only[kk];have J:=h.neg x y;by_cases e:c x y=0
  ·rw[if_pos e,if_pos Ω,WR h xs ys]
  ·rw[if_neg e,if_neg Ω,J]
theorem WT(h:jV c):∀a b:List α,kk c a b=0↔a=b
 |[],[]=>by simp[kk]
 |[],_::_=>by simp[kk]
 |_::_,[]=>by simp[kk]
 |x::xs,y::ys=>by
  simp only[kk,zK];by_cases e:c x y=0
  ·rw[if_pos e,WT h xs ys];simp[(h.zero x y).1 e]
  ·rw[if_neg e];exact⟨fun cd=>absurd cd e,fun cd=>absurd ((h.zero x y).2 cd.1) e⟩
theorem WS(h:jV c):∀a b d:List α,kk c a b<=0->kk c b d<=0->kk c a d<=0
 |[],_,[],_,_=>by simp[kk]
 |[],_,_::_,_,_=>by simp[kk]
 |_::_,[],_,J,_=>by simp[kk]at J
 |_::_,_::_,[],_,U=>by simp[kk]at U
 |x::xs,y::ys,z::cX,J,U=>by
  simp only[kk]at J U⊢;by_cases aq:c x y=0
  ·have:=(h.zero x y).1 aq;subst this;rw[if_pos aq]at J;by_cases aG:c x z=0
   ·rw[if_pos aG]at U⊢;exact WS h xs ys cX J U
   ·rw[if_neg aG]at U⊢;exact U
  ·rw[if_neg aq]at J;have bz:c x y<0:=Ω
   by_cases aG:c y z=0
   ·have:=(h.zero y z).1 aG;subst this;rw[if_neg aq];omega
   ·rw[if_neg aG]at U;have:=h.ltr bz U;rw[if_neg Ω];omega
theorem akm(h:jV c):jV (kk c):=⟨WR h,WS h,WT h⟩
end
def za(x y:ai):Int:=if eG x.v y.v=0 then du x.t y.t else eG x.v y.v
theorem anf:jV za:=by
 refine⟨fun x y=>?_,fun x y z J U=>?_,fun x y=>?_⟩
 ·unfold za;have:=kH.neg x.v y.v;have:=Ex.neg x.t y.t;by_cases e:eG x.v y.v=0
  ·rw[if_pos e,if_pos Ω];omega
  ·rw[if_neg e,if_neg Ω];omega
 ·unfold za at J U⊢;by_cases aq:eG x.v y.v=0
  ·rw[if_pos aq]at J;rw[(kH.zero _ _).1 aq];by_cases aG:eG y.v z.v=0
   ·rw[if_pos aG]at U⊢;exact Ex.tr _ _ _ J U
   ·rw[if_neg aG]at U⊢;exact U
  ·rw[if_neg aq]at J;have bz:eG x.v y.v<0:=Ω
   by_cases aG:eG y.v z.v=0
   ·rw[<-(kH.zero _ _).1 aG,if_neg aq];exact J
   ·rw[if_neg aG]at U;have:=kH.ltr bz U;rw[if_neg Ω];omega
 ·unfold za;by_cases e:eG x.v y.v=0
  ·rw[if_pos e,Ex.zero];have:=(kH.zero _ _).1 e;cases x;cases y;simp_all
  ·rw[if_neg e];exact⟨fun h=>absurd h e,fun h=>by rw[h]at e;exact absurd (kH.refl _) e⟩
def ez:List ai->List ai->Int:=kk za
theorem ly:jV ez:=akm anf
end
end Go.Pv
namespace Go.Proofs.YtohaalphocaebaaGreat
section
open Go Go.Pv
theorem D8(c:ai->ai->Int):∀a b:List ai,a=[]\/b=[]->kk c a b=eG a.length b.length
 |[],[],_=>by simp[kk,eG]
 |[],_::_,_=>by simp[kk,eG]<;>omega
 |_::_,[],_=>by simp[kk,eG]<;>omega
 |_::_,_::_,h=>by simp at h
theorem XX(x y:ai)(xs ys:List ai):ez (x::xs) (y::ys)=if eG x.v y.v=0 then(if du x.t y.t=0 then ez xs ys else du x.t y.t)else eG x.v y.v:=by
 by_cases a1:eG x.v y.v=0
 ·by_cases bp:du x.t y.t=0<;>simp[ez,kk,za,a1,bp]
 ·simp[ez,kk,za,a1]
theorem XY(a b k:Int):eG (a-k) (b-k)=eG a b:=by unfold eG;(repeat' split)<;>omega
def ML(d e:List ai)(i:Nat):Prop:=i<=d.length/\i<=e.length/\ez (d.drop i) (e.drop i)=ez d e
theorem Jw(d e:List ai):bQ ax 204 [.slice 5 .no (d.map ai.e),.slice 5 .no (e.map ai.e)] (.int .i64 (ez d e)):=by
 generalize bA:ez d e=R;refine bj rW aeP alS fun aR=>?_;unfold Rw;have aF:d.length<=68719476736:=by simp[gI,fZ,gz,lim]at aR;omega
 have he:e.length<=68719476736:=by simp[gI,fZ,gz,lim]at aR;omega
 simp;refine u9 [0,1] (fun(i:Nat)=>[(5,.int .i64 i)]) (fun i=>d.length-i) (ML d e) 0 bT ⟨Ω,Ω,Ψ⟩ (fun i af _=>?_);obtain⟨J,U,ao⟩:=af;rw[bA]at ao;by_cases hi:i<d.length
 ·by_cases hV:i<e.length
  ·obtain⟨x,ad⟩:∃x,d[i]? =some x:=⟨_,bY hi⟩;obtain⟨y,aC⟩:∃y,e[i]? =some y:=⟨_,bY hV⟩;have c6:∀h,(d[i]'h)=x:=fun h=>by rw[bY hi]at ad;exact eH ad
   have eX:∀h,(e[i]'h)=y:=fun h=>by rw[bY hV]at aC;exact eH aC
   have AF:d.drop i=x::d.drop (i+1):=by rw[k8 hi,c6]
   have AG:e.drop i=y::e.drop (i+1):=by rw[k8 hV,eX]
   rw[AF,AG]at ao;rw[XX]at ao;simp[hi,hV,c6,eX];by_cases a1:eG x.v y.v=0
   ·rw[if_pos a1]at ao;by_cases bp:du x.t y.t=0
    ·rw[if_pos bp]at ao;(with_reducible repeat' first|refine aj ?_|refine aA (oY _ _) ?_|refine aB (oY _ _) ?_|refine aA (zC _ _) ?_|refine aB (zC _ _) ?_|simp[c6,eX,hi,hV,a1,bp]);refine bP.whl (i+1) Ω ⟨Ω,Ω,by rw[bA];exact ao⟩ ?_;exact bT
    ·rw[if_neg bp]at ao;((with_reducible repeat' first|refine aj ?_|refine aA (oY _ _) ?_|refine aB (oY _ _) ?_|refine aA (zC _ _) ?_|refine aB (zC _ _) ?_|simp[c6,eX,hi,hV,a1,bp]|((first|apply bL|apply bN|apply bM)<;>intro h<;>try simp at h))<;>(try exact cm));simp[bk,EG,aU,aW,aT];exact ao
   ·rw[if_neg a1]at ao;((with_reducible repeat' first|refine aj ?_|refine aA (oY _ _) ?_|refine aB (oY _ _) ?_|simp[c6,eX,hi,hV,a1]|((first|apply bL|apply bN|apply bM)<;>intro h<;>try simp at h))<;>(try exact cm));simp[bk,EG,aU,aW,aT];exact ao
  ·have:eG d.length e.length=R:=by rw[<-ao,ez,D8 _ _ _ (.inr (List.drop_eq_nil_of_le Ω))];rw[<-XY d.length e.length i];simp only[tB];congr 1<;>omega
   simp[hi,hV];(with_reducible repeat' first|refine aj ?_|refine aA (oY _ _) ?_|refine aB (oY _ _) ?_|simp[hi,hV]);simp[bk,EG,aU,aW,aT];exact this
 ·have:eG d.length e.length=R:=by rw[<-ao,ez,D8 _ _ _ (.inl (List.drop_eq_nil_of_le Ω))];rw[<-XY d.length e.length i];simp only[tB];congr 1<;>omega
  simp[hi];(with_reducible repeat' first|refine aj ?_|refine aA (oY _ _) ?_|refine aB (oY _ _) ?_|simp[hi]);simp[bk,EG,aU,aW,aT];exact this
theorem PE(a b:List ai)(bm:a.length<=1000000):bQ ax 135 [.slice 5 .no (a.map ai.e),.slice 5 .no (b.map ai.e)] (.bool (decide (a=b))):=by
 by_cases av:a.length=b.length;rotate_left
 ·have bE:decide (a=b)=false:=by simp only[gn];rintro rfl;exact av rfl
  have uc:((a.length:Int) !=(b.length:Int))=true:=by simp;omega
  have oE:¬(a.length:Int)=b.length:=Ω
  rw[bE];refine bj rW TL XL fun aR=>?_;unfold Kk;exact cp
 ·generalize bA:decide (a=b)=R;refine bj rW TL XL fun aR=>?_;unfold Kk;simp;(with_reducible repeat' first|refine aj ?_|simp[av]);refine dT [0,1,12] (fun i (_:Unit)=>[(13,.int .i64 i)]) b.length (fun i (_:Unit)=> ∀k,k<i->a[k]? =b[k]?) () bT (fun k ae=>Ω) (fun _ af _=>?_) (fun i _ hi af _=>?_)
  ·have:R=true:=by
    rw[<-bA,en];apply List.ext_getElem?;intro k;by_cases ae:k<b.length
    ·exact af k ae
    ·rw[pT Ω,pT Ω]
   rw[this];exact cp
  ·obtain⟨x,ad⟩:∃x,a[i]? =some x:=⟨_,bY Ω⟩;obtain⟨y,aC⟩:∃y,b[i]? =some y:=⟨_,bY hi⟩;have gD:i<a.length:=Ω
   have c6:∀h,(a[i]'h)=x:=fun h=>by rw[bY gD]at ad;exact eH ad
   have eX:∀h,(b[i]'h)=y:=fun h=>by rw[bY hi]at aC;exact eH aC
   have e8:x≠y->R=false:=fun h=>by rw[<-bA,gn];rintro rfl;rw[ad]at aC;cases aC;exact h rfl
   simp[hi,gD,c6,eX];by_cases a1:x.v=y.v
   ·have uC:(x.v !=y.v)=false:=by simp[a1]
    by_cases bp:x.t=y.t
    ·(with_reducible repeat' first|refine aj ?_|refine aA (rY _ _) ?_|refine aB (rY _ _) ?_|simp[c6,eX,hi,gD,a1,uC,bp]);refine bP.rng () hi (fun k ae=>?_) ?_
     ·rcases(by omega:k<i\/k=i)with h|rfl
      ·exact af k h
      ·rw[ad,aC];cases x;cases y;simp_all
     ·exact bT
    ·rw[e8 (fun e=>bp (by rw[e]))];(with_reducible repeat' first|refine aj ?_|refine aA (rY _ _) ?_|refine aB (rY _ _) ?_|simp[c6,eX,hi,gD,a1,uC,bp]);simp[bk,Yv,aU,aW,aT]
   ·have uC:(x.v !=y.v)=true:=by simp[a1]
    rw[e8 (fun e=>a1 (by rw[e]))];exact cp
def Gf:C:=(aa [cU 3 1,cL 4 da] (.seq (aa [aI 7 0 1 3,az 8 1 7,aS 9 .eql 8 1] (aZ 9 (aa [I 11 0,aI 12 1 1 3,az 13 1 12,b5 14 161 11 13,I 10 14,cj 15 0 10,cj 16 1 10,cL 5 da,bu 4 5 15,I 6 16] (aa [I 17 6] (aZ 17 (aa [aV 18 4 5,bu 4 4 18] .ret) .skip))) .skip)) (.seq (aa [aI 19 0 1 3,az 20 1 19,aS 21 .eql 20 4] (aZ 21 (.seq (.drawn true 36 [I 22 0,aI 23 3 1 3,az 24 1 23,j9 25 4 24 0,aV 26 4 25,b5 27 75 22 26,I 28 0,aI 29 3 1 3,az 30 1 29,j9 31 4 30 1,aV 32 4 31,b5 33 75 28 32,b5 34 114 27 33,bu 4 4 34]) .ret) .skip)) (aa [aV 35 4 3,bu 4 4 35] .ret))))
@[simp] def IH:List bW:=[.cell 4 true 4]
def Sg:C:=(aa [cU 1 0,bh 2 false] (aa [aV 3 4 1,c2 4 162 [.t 3,(dS 5000)],aS 5 .leq 4 5000,I 6 5,al 6 true (aV 7 4 1),al 6 true (cG 8 163 7),de 9 6 8,I 2 9] .ret))
@[simp] def aod:List bW:=[.tmp 2]
def Sq:C:=(aa [cU 1 0,bh 2 false] (aa [aV 3 4 1,c2 4 162 [.t 3,(dS 5000)],aS 5 .leq 4 5000,I 2 5] .ret))
@[simp] def YY:List bW:=[.tmp 2]
def Sj:C:=(aa [bh 6 false] (aa [I 7 0,I 8 1,bq 9 .geq 7 8,I 10 9,bO 10 true 11 0,bO 10 true 12 2,al 10 true (bq 13 .leq 11 12),de 14 10 13,I 6 14] .ret))
@[simp] def YU:List bW:=[.tmp 6]
def Kv:C:=(aa [bh 2 false] (.seq (aa [I 9 0,cG 10 164 9,cx 11 10] (aZ 11 (aa [bh 2 false] .ret) .skip)) (.seq (aa [I 12 0,ct 13 12,b6 14 0] (eZ 15 14 13 (.seq (.block 1 (aa [cw 16 5 12 14,aV 17 5 16,cL 4 ib,bu 5 4 17] (.seq (aa [hp 18 1 4 4,aI 19 0 1 18,az 20 1 19,aS 21 .eql 20 1,I 22 21,al 22 true (hp 23 1 4 4),al 22 true (aI 24 1 1 23),al 22 true (az 25 1 24),al 22 true (aI 26 0 1 4),al 22 true (az 27 1 26),al 22 true (bq 28 .geq 25 27),de 29 22 28] (aZ 29 (aa [bh 2 false] .ret) .skip)) (aa [hp 30 1 4 4,aV 31 4 30,c2 32 165 [.t 31,(.c (.slice 1 .nil []))],ct 33 32,b6 34 0] (.block 2 (.loop (aa [bq 35 .lss 34 33] (.seq (aZ 35 .skip (.exit 2)) (.seq (.block 3 (aa [cw 36 1 32 34,az 37 1 36,I 6 37] (aa [I 39 0,I 40 6,b5 41 161 39 40,I 38 41,cj 42 0 38,cj 43 1 38,cL 7 da,bu 4 7 42,I 8 43] (aa [I 44 8] (aZ 44 (aa [bh 2 false] .ret) .skip))))) (.region [aS 45 .add 34 1,I 34 45])))))))))) (.region [aS 46 .add 14 1,I 14 46])))) (aa [bh 2 true] .ret))))
@[simp] def Oo:List bW:=[.tmp 2]
def SA:C:=(aa [cL 4 da,bh 5 false] (.seq (aa [I 8 0,ct 9 8,b6 10 0] (eZ 11 10 9 (.seq (.block 1 (aa [cw 12 5 8 10,aV 13 5 12,cL 7 ib,bu 5 7 13] (aa [aI 14 0 1 7,az 15 1 14,I 16 1,bq 17 .eql 15 16] (aZ 17 (aa [hp 18 1 4 7,aV 19 4 18,bu 4 4 19,bh 5 true] .ret) .skip)))) (.region [aS 20 .add 10 1,I 10 20])))) (aa [gv 21 da [],bu 4 4 21,bh 5 false] .ret)))
@[simp] def Ow:List bW:=[.cell 4 true 4,.tmp 5]
def Sn:C:=(aa [cU 2 0,b6 4 0] (aa [b6 5 1] (.seq (aa [aI 8 3 1 2,az 9 1 8,ct 10 9,b6 11 0] (eZ 12 11 10 (.seq (.block 1 (aa [cw 13 4 9 11,aV 14 4 13,cL 7 da,bu 4 7 14] (.seq (aa [I 15 5,I 16 1,bq 17 .gtr 15 16] (aZ 17 (aa [I 18 5,I 4 18] .ret) .skip)) (.region [I 19 5,aV 20 4 7,I 21 1,I 22 5,bq 23 .sub 21 22,b5 24 162 20 23,bq 25 .add 19 24,I 5 25])))) (.region [aS 26 .add 11 1,I 11 26])))) (aa [I 27 5,I 4 27] .ret))))
@[simp] def Ou:List bW:=[.tmp 4]
def mx:C:=(aa [cU 1 0,bh 2 false] (.seq (aa [aI 3 0 1 1,az 4 1 3,aS 5 .neq 4 1,I 6 5,al 6 true (aI 7 0 1 1),al 6 true (az 8 1 7),al 6 true (aS 9 .neq 8 3),de 10 6 9,I 11 10,al 11 true (aI 12 1 1 1),al 11 true (az 13 1 12),al 11 true (aS 14 .neq 13 0),de 15 11 14,I 16 15,al 16 false (aI 17 0 1 1),al 16 false (az 18 1 17),al 16 false (aS 19 .neq 18 2),bO 16 false 20 19,al 20 true (aI 21 2 1 1),al 20 true (az 22 1 21),xS 20 true 23 (.bin .neq false (.t 22) (.c (.str []))),al 16 false (de 24 20 23),cV 25 16 24,I 26 25,al 26 false (aI 27 0 1 1),al 26 false (az 28 1 27),al 26 false (aS 29 .neq 28 4),bO 26 false 30 29,al 30 true (aI 31 3 1 1),al 30 true (az 32 1 31),al 30 true (ct 33 32),al 30 true (aS 34 .gtr 33 0),al 26 false (de 35 30 34),cV 36 26 35] (aZ 36 (aa [bh 2 false] .ret) .skip)) (.seq (aa [aI 37 0 1 1,az 38 1 37] (.block 0 (aa [aS 40 .eql 38 0,I 39 40] (aZ 39 (aa [bh 2 true] .ret) (aa [aS 42 .eql 38 1,I 41 42] (aZ 41 (aa [aI 43 1 1 1,az 44 1 43,c2 45 141 [.t 44,(dS 0),(dS 100000)],I 2 45] .ret) (aa [aS 47 .eql 38 2,I 46 47] (aZ 46 (aa [aI 48 2 1 1,az 49 1 48,cG 50 216 49,I 2 50] .ret) (aa [aS 52 .eql 38 3,I 51 52] (aZ 51 (aa [aI 53 1 1 1,az 54 1 53,c2 55 141 [.t 54,(dS (-1000000000)),(dS 1000000000)],I 2 55] .ret) (aa [aS 57 .eql 38 4,I 56 57] (aZ 56 (aa [aI 58 3 1 1,az 59 1 58,ct 60 59,aS 61 .eql 60 2,I 62 61,al 62 true (aI 63 3 1 1),al 62 true (az 64 1 63),al 62 true (j9 65 4 64 0),al 62 true (aV 66 4 65),al 62 true (cG 67 163 66),de 68 62 67,I 69 68,al 69 true (aI 70 3 1 1),al 69 true (az 71 1 70),al 69 true (j9 72 4 71 1),al 69 true (aV 73 4 72),al 69 true (cG 74 163 73),de 75 69 74,I 2 75] .ret) .skip)))))))))))) (aa [bh 2 false] .ret))))
@[simp] def mn:List bW:=[.tmp 2]
def SC:C:=(aa [bh 2 false] (.seq (aa [I 5 0,ct 6 5,b6 7 0] (eZ 8 7 6 (.seq (.block 1 (aa [I 9 7,cw 10 5 5 7,aV 11 5 10,cL 4 ib,I 3 9,bu 5 4 11] (.seq (.drawn true 41 [I 12 3,aS 13 .gtr 12 0,I 14 13,bO 14 true 15 0,bO 14 true 16 3,al 14 true (aS 17 .sub 16 1),al 14 true (cw 18 5 15 17),al 14 true (aI 19 0 1 18),al 14 true (az 20 1 19),al 14 true (aI 21 0 1 4),al 14 true (az 22 1 21),al 14 true (bq 23 .geq 20 22),de 24 14 23,I 25 24,al 25 false (aI 26 0 1 4),al 25 false (az 27 1 26),al 25 false (c2 28 141 [.t 27,(dS 0),(dS 100000)]),al 25 false (cx 29 28),cV 30 25 29,I 31 30,al 31 false (hp 32 1 4 4),al 31 false (aV 33 4 32),al 31 false (cG 34 76 33),al 31 false (cx 35 34),cV 36 31 35]) (aZ 36 (aa [bh 2 false] .ret) .skip)))) (.region [aS 37 .add 7 1,I 7 37])))) (aa [I 38 0,ct 39 38,aS 40 .leq 39 400,I 2 40] .ret)))
@[simp] def Oy:List bW:=[.tmp 2]
def z6:C:=(aa [cU 2 0,eA 4 1] (.seq (aa [aI 7 0 1 2,az 8 1 7,aS 9 .eql 8 1] (aZ 9 (aa [I 10 1,aI 11 1 1 2,az 12 1 11,b5 13 230 10 12,I 4 13] .ret) .skip)) (.seq (aa [aI 14 3 1 2,az 15 1 14,ct 16 15,b6 17 0] (eZ 18 17 16 (.seq (.block 1 (aa [cw 19 4 15 17,aV 20 4 19,cL 6 da,bu 4 6 20] (.region [aV 21 4 6,I 22 1,b5 23 165 21 22,I 1 23]))) (.region [aS 24 .add 17 1,I 17 24])))) (aa [I 25 1,I 4 25] .ret))))
@[simp] def BP:List bW:=[.tmp 4]
def Sy:C:=(aa [cU 3 1,cL 4 da,bh 5 false] (aa [I 7 0,aV 8 4 3,b5 9 75 7 8,cL 6 da,bu 4 6 9] (.seq (.drawn true 13 [aV 10 4 6,aV 11 4 6,cG 12 92 11,bu 4 4 10,I 5 12]) .ret)))
@[simp] def Y5:List bW:=[.cell 4 true 4,.tmp 5]
def tK:C:=(aa [cU 4 1,cU 5 2,eA 6 5,bh 7 false] (aa [I 12 0,aV 13 4 4,b5 14 236 12 13,bu 4 4 14] (aa [I 15 0,aV 16 4 5,b5 17 236 15 16,bu 4 5 17] (.seq (aa [aI 18 0 1 4,az 19 1 18,aS 20 .eql 19 1,I 21 20,al 21 true (aI 22 0 1 5),al 21 true (az 23 1 22),al 21 true (aS 24 .eql 23 1),de 25 21 24,I 26 25,al 26 true (aI 27 1 1 4),al 26 true (az 28 1 27),al 26 true (aI 29 1 1 5),al 26 true (az 30 1 29),al 26 true (bq 31 .lss 28 30),de 32 26 31] (aZ 32 (aa [I 33 0,aI 34 1 1 5,az 35 1 34,aV 36 4 4,c2 37 237 [.t 33,.t 35,.t 36],cj 38 0 37,cj 39 1 37,I 6 38,I 7 39] .ret) .skip)) (.seq (aa [aI 40 0 1 4,az 41 1 40,aS 42 .eql 41 1,I 43 42,al 43 true (aI 44 0 1 5),al 43 true (az 45 1 44),al 43 true (aS 46 .eql 45 1),de 47 43 46,I 48 47,al 48 true (aI 49 1 1 4),al 48 true (az 50 1 49),al 48 true (aI 51 1 1 5),al 48 true (az 52 1 51),al 48 true (bq 53 .eql 50 52),de 54 48 53] (aZ 54 (aa [I 55 0,I 6 55,bh 7 true] .ret) .skip)) (.seq (aa [aI 56 0 1 4,az 57 1 56,aS 58 .eql 57 1] (aZ 58 (aa [I 59 0,aI 60 1 1 4,az 61 1 60,aV 62 4 5,c2 63 237 [.t 59,.t 61,.t 62],cj 64 0 63,cj 65 1 63,I 6 64,I 7 65] .ret) .skip)) (.seq (aa [aI 66 0 1 5,az 67 1 66,aS 68 .eql 67 1] (aZ 68 (aa [I 69 0,aI 70 1 1 5,az 71 1 70,aV 72 4 4,c2 73 237 [.t 69,.t 71,.t 72],cj 74 0 73,cj 75 1 73,I 6 74,I 7 75] .ret) .skip)) (.seq (aa [aI 76 0 1 4,az 77 1 76,aI 78 0 1 5,az 79 1 78,bq 80 .neq 77 79,I 81 80,al 81 false (aI 82 1 1 4),al 81 false (az 83 1 82),al 81 false (aI 84 1 1 5),al 81 false (az 85 1 84),al 81 false (bq 86 .neq 83 85),cV 87 81 86,I 88 87,al 88 false (aI 89 2 1 4),al 88 false (az 90 1 89),al 88 false (aI 91 2 1 5),al 88 false (az 92 1 91),al 88 false (bq 93 .neq 90 92),cV 94 88 93] (aZ 94 (aa [eA 6 5,bh 7 false] .ret) .skip)) (.seq (aa [aI 95 3 1 4,az 96 1 95,ct 97 96,b6 98 0] (eZ 99 98 97 (.seq (.block 1 (aa [I 100 98,cw 101 4 96 98,aV 102 4 101,cL 9 da,I 8 100,bu 4 9 102] (.seq (.drawn true 119 [I 104 0,aV 105 4 9,aI 106 3 1 5,az 107 1 106,I 108 8,cw 109 4 107 108,aV 110 4 109,c2 111 176 [.t 104,.t 105,.t 110],I 103 111,cj 112 0 103,cj 113 1 103,I 10 112,I 11 113]) (.seq (aa [I 114 11,cx 115 114] (aZ 115 (aa [eA 6 5,bh 7 false] .ret) .skip)) (.region [I 116 10,I 0 116]))))) (.region [aS 117 .add 98 1,I 98 117])))) (aa [I 118 0,I 6 118,bh 7 true] .ret))))))))))
@[simp] def tc:List bW:=[.tmp 6,.tmp 7]
def R7:C:=(aa [bh 2 false] (.seq (aa [b6 3 0] (.block 0 (.loop (.seq (aa [I 5 3,I 6 0,b2 7 (.slen (.t 6)),bq 8 .lss 5 7] (aZ 8 .skip (.exit 0))) (.seq (.block 1 (aa [I 11 0,I 12 3,b2 13 (.sidx (.t 11) (.t 12)),b2 14 (.bin .geq false (.t 13) (.c (.int .u8 97))),I 15 14,bO 15 true 16 0,bO 15 true 17 3,al 15 true (b2 18 (.sidx (.t 16) (.t 17))),al 15 true (b2 19 (.bin .leq false (.t 18) (.c (.int .u8 122)))),de 20 15 19,I 4 20] (aa [I 21 4,cx 22 21,I 23 22,bO 23 true 24 3,al 23 true (aS 25 .eql 24 0),bO 23 true 26 25,bO 26 false 27 0,bO 26 false 28 3,al 26 false (b2 29 (.sidx (.t 27) (.t 28))),al 26 false (b2 30 (.bin .neq false (.t 29) (.c (.int .u8 45)))),bO 26 false 31 30,bO 31 true 32 0,bO 31 true 33 3,al 31 true (b2 34 (.sidx (.t 32) (.t 33))),al 31 true (b2 35 (.conv .i64 (.t 34))),al 31 true (c2 36 141 [.t 35,(dS 48),(dS 57)]),al 31 true (cx 37 36),al 26 false (de 38 31 37),al 23 true (cV 39 26 38),de 40 23 39] (aZ 40 (aa [bh 2 false] .ret) .skip)))) (.region [I 9 3,aS 10 .add 9 1,I 3 10])))))) (aa [I 41 0,b2 42 (.slen (.t 41)),c2 43 141 [.t 42,(dS 1),(dS 12)],I 2 43] .ret)))
@[simp] def BM:List bW:=[.tmp 2]
def SE:C:=(aa [eA 4 5,bh 5 false] (aa [dI 10 4 32 [],I 6 10] (aa [dI 11 4 32 [],I 7 11] (.seq (aa [I 12 1,ct 13 12,b6 14 0] (eZ 15 14 13 (.seq (.block 1 (aa [cw 16 5 12 14,aV 17 5 16,cL 9 ib,bu 5 9 17] (aa [I 18 6,aI 19 0 1 9,az 20 1 19,cG 21 91 20,dI 22 4 32 [.t 21],gf 23 4 32 18 22,I 6 23] (.region [I 24 7,hp 25 1 4 9,aV 26 4 25,dI 27 4 32 [.t 26],gf 28 4 32 24 27,I 7 28])))) (.region [aS 29 .add 14 1,I 14 29])))) (aa [I 30 0,I 31 6,I 32 7,c2 33 268 [.t 30,.t 31,.t 32],cj 34 0 33,cj 35 1 33,I 4 34,I 5 35] .ret)))))
@[simp] def Y6:List bW:=[.tmp 4,.tmp 5]
def Sr:C:=(aa [eA 4 1] (aa [I 7 0,ct 8 7,I 5 8] (.seq (.block 0 (.loop (.seq (aa [I 9 5,aS 10 .gtr 9 0,I 11 10,bO 11 true 12 0,bO 11 true 13 5,al 11 true (aS 14 .sub 13 1),al 11 true (cw 15 1 12 14),al 11 true (az 16 1 15),bO 11 true 17 1,al 11 true (bq 18 .geq 16 17),de 19 11 18] (aZ 19 .skip (.exit 0))) (.block 1 (.region [I 20 5,aS 21 .sub 20 1,I 5 21]))))) (.seq (aa [I 22 5,I 23 0,ct 24 23,bq 25 .lss 22 24,I 26 25,bO 26 true 27 0,bO 26 true 28 5,al 26 true (cw 29 1 27 28),al 26 true (az 30 1 29),bO 26 true 31 1,al 26 true (bq 32 .eql 30 31),de 33 26 32] (aZ 33 (aa [I 34 0,I 4 34] .ret) .skip)) (aa [dI 35 1 3 [],I 36 0,I 37 5,b2 38 (.lsl 1 (.t 36) none (some (.t 37))),gf 39 1 3 35 38,I 6 39] (aa [I 40 6,I 41 1,dI 42 1 3 [.t 41],gf 43 1 3 40 42,I 6 43] (aa [I 44 6,I 45 0,I 46 5,b2 47 (.lsl 1 (.t 45) (some (.t 46)) none),gf 48 1 3 44 47,I 4 48] .ret)))))))
@[simp] def zf:List bW:=[.tmp 4]
def SB:C:=(aa [cU 3 1,eA 4 5] (aa [I 7 0,ct 8 7,I 5 8] (.seq (.block 0 (.loop (.seq (.seq (.drawn true 38 [I 9 5,aS 10 .gtr 9 0,I 11 10,bO 11 true 12 0,bO 11 true 13 5,al 11 true (aS 14 .sub 13 1),al 11 true (cw 15 5 12 14),al 11 true (aI 16 0 1 15),al 11 true (az 17 1 16),al 11 true (aI 18 0 1 3),al 11 true (az 19 1 18),al 11 true (bq 20 .gtr 17 19),de 21 11 20]) (aZ 21 .skip (.exit 0))) (.block 1 (.region [I 22 5,aS 23 .sub 22 1,I 5 23]))))) (aa [dI 24 5 61 [],I 25 0,I 26 5,b2 27 (.lsl 5 (.t 25) none (some (.t 26))),gf 28 5 61 24 27,I 6 28] (aa [I 29 6,aV 30 5 3,dI 31 5 61 [.t 30],gf 32 5 61 29 31,I 6 32] (aa [I 33 6,I 34 0,I 35 5,b2 36 (.lsl 5 (.t 34) (some (.t 35)) none),gf 37 5 61 33 36,I 4 37] .ret))))))
@[simp] def Ox:List bW:=[.tmp 4]
def Gg:C:=(aa [cU 3 1,cL 4 da] (.seq (aa [aI 7 0 1 3,az 8 1 7,aS 9 .eql 8 1] (aZ 9 (aa [I 11 0,aI 12 1 1 3,az 13 1 12,b5 14 161 11 13,I 10 14,cj 15 0 10,cj 16 1 10,cL 5 da,bu 4 5 15,I 6 16] (aa [I 17 6] (aZ 17 (aa [aV 18 4 5,bu 4 4 18] .ret) .skip))) .skip)) (aa [aV 19 4 3,bu 4 4 19] .ret)))
@[simp] def IJ:List bW:=[.cell 4 true 4]
def CI:C:=(aa [cU 5 2,eA 6 5,bh 7 false] (aa [I 15 0,aV 16 4 5,b5 17 166 15 16,I 14 17,cj 18 0 14,cj 19 1 14,cL 8 da,bu 4 8 18,I 9 19] (.seq (aa [I 20 9,cx 21 20,I 22 21,bO 22 false 23 1,al 22 false (aV 24 4 8),al 22 false (b5 25 270 23 24),cV 26 22 25,I 27 26,bO 27 false 28 0,al 27 false (ct 29 28),al 27 false (aS 30 .geq 29 400),cV 31 27 30] (aZ 31 (aa [eA 6 5,bh 7 false] .ret) .skip)) (aa [dI 32 5 61 [],I 10 32] (.seq (aa [I 33 0,ct 34 33,b6 35 0] (eZ 36 35 34 (.seq (.block 1 (aa [cw 37 5 33 35,aV 38 5 37,cL 12 ib,bu 5 12 38] (aa [hp 39 1 4 12,aV 40 4 39,I 41 1,aV 42 4 8,c2 43 271 [.t 40,.t 41,.t 42],cL 13 da,bu 4 13 43] (.seq (aa [aV 44 4 13,cG 45 92 44,cx 46 45] (aZ 46 (aa [eA 6 5,bh 7 false] .ret) .skip)) (.region [I 47 10,aI 48 0 1 12,az 49 1 48,aV 50 4 13,gv 51 ib [(0,1,(.t 49)),(1,4,(.t 50))],dI 52 5 61 [.t 51],gf 53 5 61 47 52,I 10 53]))))) (.region [aS 54 .add 35 1,I 35 54])))) (aa [I 55 10,I 56 1,aV 57 4 8,gv 58 ib [(0,1,(.t 56)),(1,4,(.t 57))],b5 59 234 55 58,I 6 59,bh 7 true] .ret))))))
@[simp] def BQ:List bW:=[.tmp 6,.tmp 7]
def SD:C:=(aa [eA 6 5,bh 7 false] (.seq (aa [I 12 1,ct 13 12,b6 14 0] (eZ 15 14 13 (.seq (.block 1 (aa [I 16 14,cw 17 4 12 14,aV 18 4 17,cL 9 da,I 8 16,bu 4 9 18] (.seq (.drawn true 34 [I 20 0,aV 21 4 9,I 22 2,I 23 8,cw 24 4 22 23,aV 25 4 24,c2 26 176 [.t 20,.t 21,.t 25],I 19 26,cj 27 0 19,cj 28 1 19,I 10 27,I 11 28]) (.seq (aa [I 29 11,cx 30 29] (aZ 30 (aa [eA 6 5,bh 7 false] .ret) .skip)) (.region [I 31 10,I 0 31]))))) (.region [aS 32 .add 14 1,I 14 32])))) (aa [I 33 0,I 6 33,bh 7 true] .ret)))
@[simp] def Oz:List bW:=[.tmp 6,.tmp 7]
def St:C:=(aa [cU 3 1,bh 4 false] (.seq (aa [aI 7 3 1 3,az 8 1 7,ct 9 8,b6 10 0] (eZ 11 10 9 (.seq (.block 1 (aa [cw 12 4 8 10,aV 13 4 12,cL 6 da,bu 4 6 13] (aa [I 14 0,aV 15 4 6,b5 16 270 14 15] (aZ 16 (aa [bh 4 true] .ret) .skip)))) (.region [aS 17 .add 10 1,I 10 17])))) (aa [aI 18 0 1 3,az 19 1 18,aS 20 .eql 19 1,I 21 20,al 21 true (aI 22 1 1 3),al 21 true (az 23 1 22),bO 21 true 24 0,al 21 true (bq 25 .eql 23 24),de 26 21 25,I 4 26] .ret)))
@[simp] def Ov:List bW:=[.tmp 4]
def Ge:C:=(aa [cU 3 0,cU 5 2,cL 6 da] (.seq (aa [aI 7 0 1 3,az 8 1 7,aS 9 .eql 8 1,I 10 9,al 10 true (aI 11 1 1 3),al 10 true (az 12 1 11),bO 10 true 13 1,al 10 true (bq 14 .eql 12 13),de 15 10 14] (aZ 15 (aa [aV 16 4 5,bu 4 6 16] .ret) .skip)) (.seq (aa [aI 17 0 1 3,az 18 1 17,aS 19 .eql 18 4] (aZ 19 (.seq (.drawn true 36 [aI 20 3 1 3,az 21 1 20,j9 22 4 21 0,aV 23 4 22,I 24 1,aV 25 4 5,c2 26 271 [.t 23,.t 24,.t 25],aI 27 3 1 3,az 28 1 27,j9 29 4 28 1,aV 30 4 29,I 31 1,aV 32 4 5,c2 33 271 [.t 30,.t 31,.t 32],b5 34 114 26 33,bu 4 6 34]) .ret) .skip)) (aa [aV 35 4 3,bu 4 6 35] .ret))))
@[simp] def IG:List bW:=[.cell 6 true 4]
def lC:List (Nat×dB):=[
 (3,⟨1,8,.int .i64,.int .i64 0⟩),
 (5,⟨1,1,.int .u8,.int .u8 0⟩),
 (9,⟨1,16,.str,.str []⟩),
 (23,⟨1,24,.slice 61,.slice 5 .nil []⟩),
 (30,⟨1,24,.slice 32,.slice 4 .nil []⟩),
 (32,⟨4,56,.struct [(0,3),(1,3),(2,9),(3,30)],.agg [.int .i64 0,.int .i64 0,.str [],.slice 4 .nil []]⟩),
 (61,⟨5,64,.struct [(0,3),(1,32)],.agg [.int .i64 0,.int .i64 0,.int .i64 0,.str [],.slice 4 .nil []]⟩),
 (112,⟨1,24,.slice 3,.slice 1 .nil []⟩)]
theorem eN:fM ax lC=true:=by kernel_rfl
theorem NU:b3 lC Gf IH 2 Tryz.f75=true:=by kernel_rfl
theorem Lb:ax.funcs[(75:Nat)]? =some Tryz.f75:=Tryz.func75
theorem amB:b3 lC Sg aod 1 Tryz.f76=true:=by kernel_rfl
theorem afx:ax.funcs[(76:Nat)]? =some Tryz.f76:=Tryz.func76
theorem amK:b3 lC Sq YY 1 Tryz.f92=true:=by kernel_rfl
theorem afG:ax.funcs[(92:Nat)]? =some Tryz.f92:=Tryz.func92
theorem amE:b3 lC Sj YU 3 Tryz.f141=true:=by kernel_rfl
theorem afA:ax.funcs[(141:Nat)]? =some Tryz.f141:=Tryz.func141
theorem XR:b3 lC Kv Oo 1 Tryz.f142=true:=by kernel_rfl
theorem TR:ax.funcs[(142:Nat)]? =some Tryz.f142:=Tryz.func142
theorem amU:b3 lC SA Ow 2 Tryz.f161=true:=by kernel_rfl
theorem afQ:ax.funcs[(161:Nat)]? =some Tryz.f161:=Tryz.func161
theorem amI:b3 lC Sn Ou 2 Tryz.f162=true:=by kernel_rfl
theorem afE:ax.funcs[(162:Nat)]? =some Tryz.f162:=Tryz.func162
theorem nA:b3 lC mx mn 1 Tryz.f163=true:=by kernel_rfl
theorem nh:ax.funcs[(163:Nat)]? =some Tryz.f163:=Tryz.func163
theorem amW:b3 lC SC Oy 1 Tryz.f164=true:=by kernel_rfl
theorem afS:ax.funcs[(164:Nat)]? =some Tryz.f164:=Tryz.func164
theorem Er:b3 lC z6 BP 2 Tryz.f165=true:=by kernel_rfl
theorem CT:ax.funcs[(165:Nat)]? =some Tryz.f165:=Tryz.func165
theorem amS:b3 lC Sy Y5 2 Tryz.f166=true:=by kernel_rfl
theorem afO:ax.funcs[(166:Nat)]? =some Tryz.f166:=Tryz.func166
theorem vN:b3 lC tK tc 3 Tryz.f176=true:=by kernel_rfl
theorem vc:ax.funcs[(176:Nat)]? =some Tryz.f176:=Tryz.func176
theorem ams:b3 lC R7 BM 1 Tryz.f216=true:=by kernel_rfl
theorem afo:ax.funcs[(216:Nat)]? =some Tryz.f216:=Tryz.func216
theorem amY:b3 lC SE Y6 2 Tryz.f219=true:=by kernel_rfl
theorem afU:ax.funcs[(219:Nat)]? =some Tryz.f219:=Tryz.func219
theorem amL:b3 lC Sr zf 2 Tryz.f230=true:=by kernel_rfl
theorem afH:ax.funcs[(230:Nat)]? =some Tryz.f230:=Tryz.func230
theorem amV:b3 lC SB Ox 2 Tryz.f234=true:=by kernel_rfl
theorem afR:ax.funcs[(234:Nat)]? =some Tryz.f234:=Tryz.func234
theorem NV:b3 lC Gg IJ 2 Tryz.f236=true:=by kernel_rfl
theorem Lc:ax.funcs[(236:Nat)]? =some Tryz.f236:=Tryz.func236
theorem Ig:b3 lC CI BQ 3 Tryz.f237=true:=by kernel_rfl
theorem Gz:ax.funcs[(237:Nat)]? =some Tryz.f237:=Tryz.func237
theorem amX:b3 lC SD Oz 3 Tryz.f268=true:=by kernel_rfl
theorem afT:ax.funcs[(268:Nat)]? =some Tryz.f268:=Tryz.func268
theorem amN:b3 lC St Ov 2 Tryz.f270=true:=by kernel_rfl
theorem afJ:ax.funcs[(270:Nat)]? =some Tryz.f270:=Tryz.func270
theorem NT:b3 lC Ge IG 3 Tryz.f271=true:=by kernel_rfl
theorem La:ax.funcs[(271:Nat)]? =some Tryz.f271:=Tryz.func271
mutual
def l0:bU->Int->Int
 | .mk _ _ _ args,m=>pa args 1 m
def pa:List bU->Int->Int->Int
 |[],n,_=>n
 |x::xs,n,m=>if m<n then n else pa xs (n+l0 x (m-n)) m
end
mutual
theorem KC:∀(t:bU) (m:Int),0<=m->1<=l0 t m/\l0 t m<=m+1
 | .mk _ _ _ args,m,h=>by simp only[l0];exact S4 args 1 m h Ω Ω
theorem S4:∀(l:List bU) (n m:Int),0<=m->1<=n->n<=m+1->1<=pa l n m/\pa l n m<=m+1
 |[],n,m,_,J,U=>by simp only[pa];exact⟨J,U⟩
 |x::xs,n,m,bE,J,U=>by
  simp only[pa];split
  ·exact⟨J,U⟩
  ·have:=KC x (m-n) Ω;exact S4 xs _ m bE Ω Ω
end
theorem Gk:∀(t:T) (m:Int),0<=m->(l0 t.tm m<=m↔(t.size:Int)<=m)/\((t.size:Int)<=m->l0 t.tm m=t.size)
 | .pair a b,m,h=>by
  have bm:=T.size_pos a;have ab:=T.size_pos b;simp only[T.tm,l0,pa,T.size];by_cases J:m<1
  ·rw[if_pos J];exact⟨Ω,fun h=>Ω⟩
  ·rw[if_neg J];obtain⟨bC,a2⟩:=Gk a (m-1) Ω;have a3:=KC a.tm (m-1) Ω;by_cases U:(a.size:Int)<=m-1
   ·have e:=a2 U;rw[e];by_cases ao:m<1+(a.size:Int)
    ·omega
    ·rw[if_neg ao];obtain⟨cg,cc⟩:=Gk b (m-(1+a.size)) Ω;refine⟨Ω,fun h=>?_⟩;rw[cc Ω];omega
   ·have:¬l0 a.tm (m-1)<=m-1:=fun h=>U (bC.1 h);rw[if_pos Ω];exact⟨Ω,fun h=>Ω⟩
 | .nil,m,h=>by simp[T.tm,l0,pa,T.size]
 | .var _,m,h=>by simp[T.tm,l0,pa,T.size]
 | .sym _,m,h=>by simp[T.tm,l0,pa,T.size]
 | .num _,m,h=>by simp[T.tm,l0,pa,T.size]
theorem acR(t:bU)(m:Int):l0 t m=pa t.args 1 m:=by cases t;rfl
theorem aax(t:bU):∀m:Int,0<=m->m<=1000000->bQ ax 162 [enc t,.int .i64 m] (.int .i64 (l0 t m)):=by
 suffices H:∀(k:Nat) (t:bU),t.sz<=k->∀m:Int,0<=m->m<=1000000->bQ ax 162 [enc t,.int .i64 m] (.int .i64 (l0 t m))from H _ t (eu _)
 intro k;induction k with
 |zero=>intro t aH;cases t;simp[bU.sz]at aH
 |succ k bR=>
  intro t aH m bE J;refine bj eN afE amI fun aR=>?_;unfold Sn;have h1:t.args.length<=68719476736:=by rw[CN]at aR;simp[gI,fZ,gz,lim]at aR;omega
  simp;refine dT [1,9,10] (fun i (n:Int)=>[(5,.int .i64 n),(11,.int .i64 i)]) t.args.length (fun i n=>(1<=n/\n<=m+1)/\pa (t.args.drop i) n m=l0 t m) 1 bT ⟨Ω,by simp[acR]⟩ (fun n af _=>?_) (fun i n hi af _=>?_)
  ·simp;(with_reducible repeat' first|refine aj ?_|simp);simp[bk,Ou,aU,aW,aT];have:=af.2;simp[pa]at this;exact this
  ·obtain⟨⟨qf,qg⟩,af⟩:=af;obtain⟨x,ad,c6⟩:=ej hi;have aF:t.args.drop i=x::t.args.drop (i+1):=by rw[k8 hi,c6]
   have ep:x.sz<=k:=by have:=apm (dP ad);omega
   rw[aF]at af;simp only[pa]at af;simp[hi,c6];by_cases ab:m<n
   ·rw[if_pos ab]at af;(with_reducible repeat' first|refine aj ?_|simp[ab]);simp[bk,Ou,aU,aW,aT];exact af
   ·rw[if_neg ab]at af;have ar:=KC x (m-n) Ω;((with_reducible repeat' first|refine aj ?_|refine aA (bR x ep (m-n) Ω Ω) ?_|refine aB (bR x ep (m-n) Ω Ω) ?_|simp[ab]|((first|apply bL|apply bN|apply bM)<;>intro h<;>try simp at h))<;>(try exact cm));exact bP.rng (n+l0 x (m-n)) hi ⟨Ω,af⟩ bT
theorem Ce(t:T):bQ ax 92 [t.e] (.bool (decide (t.size<=5000))):=by
 have ar:=(Gk t 5000 Ω).1;have key:=aax t.tm 5000 Ω Ω;rw[lj]at key;refine bj eN afG amK fun aR=>?_;unfold Sq;simp;(with_reducible repeat' first|refine aj ?_|refine aA key ?_|refine aB key ?_|simp);simp[bk,YY,aU,aW,aT];have:(l0 t.tm 5000<=5000)=(t.size<=5000):=by rw[ar];simp;omega
 simp[this]
def ajE(l:List ai)(v:Int)(k:Nat)(st:br):Prop:=∃i:Nat,i<=l.length/\k=l.length-i/\df l v=df (l.drop i) v/\st=⟨[(1,.int .i64 v),(4,.ptr (.loc 0) 0),(8,.slice 5 .no (l.map ai.e)),(9,.int .i64 l.length),(10,.int .i64 i)],[(.loc 0,[.int .i64 0,.int .i64 0,.str [],.slice 4 .nil []])],[],1,[]⟩
theorem r1(l:List ai)(v:Int)(av:l.length<=1000000):bQ ax 161 [.slice 5 .no (l.map ai.e),.int .i64 v] (.tuple [((df l v).getD .nil).e,.bool (df l v).isSome]):=by
 refine bj eN afQ amU fun aR=>?_;unfold SA;simp;refine nJ (ajE l v) l.length _ bT ⟨0,Ω,rfl,Ψ,rfl⟩ ?_;rintro k st ⟨i,hi,ae,aX,rfl⟩ ju cI;clear ju cI;by_cases bz:i<l.length
 ·obtain⟨b,ab⟩:∃b,l[i]? =some b:=⟨_,bY bz⟩;have UX:l.drop i=b::l.drop (i+1):=by rw[k8 bz];rw[bY bz]at ab;simp at ab;rw[ab]
  have cD:∀h,l[i]'h=b:=fun h=>by rw[bY h]at ab;simpa using ab
  simp[cD,bz];(with_reducible repeat' first|((first|apply bL|apply bN|apply bM)<;>intro h<;>try simp at h)|refine aj ?_|simp[cD])
  ·have:df l v=some b.t:=by rw[aX,UX];simp[df,h]
   simp[bk,Ow,aU,aW,aT];simp[this]
  ·refine bP.next (l.length-(i+1)) Ω ⟨i+1,Ω,rfl,?_,rfl⟩ bT;rw[aX,UX];simp[df,h]
 ·have:df l v=none:=by rw[aX,List.drop_of_length_le Ω];simp[df]
  simp[bz];(with_reducible repeat' first|((first|apply bL|apply bN|apply bM)<;>intro h<;>try simp at h)|refine aj ?_|simp);simp[bk,Ow,aU,aW,aT];simp[this]
theorem PF(l:List ai)(av:l.length<=1000000)(t:T):bQ ax 75 [.slice 5 .no (l.map ai.e),t.e] (t.sub (df l)).e:=by
 induction t with
 |pair a b dJ dK=>
  refine bj eN Lb NU fun aR=>?_;unfold Gf;simp;(with_reducible repeat' first|refine aj ?_|refine aA dJ ?_|refine aB dJ ?_|refine aA dK ?_|refine aB dK ?_|refine aA (Cf _ _) ?_|refine aB (Cf _ _) ?_|simp);all_goals simp[bk,IH,aU,aW,aT]
  all_goals simp[T.sub]
 |var n=>
  refine bj eN Lb NU fun aR=>?_;unfold Gf;simp;((with_reducible repeat' first|refine aj ?_|refine aA (r1 l n av) ?_|refine aB (r1 l n av) ?_|simp|((first|apply bL|apply bN|apply bM)<;>intro h<;>try simp at h))<;>(try exact cm));all_goals simp[bk,IH,aU,aW,aT]
  all_goals cases ab:df l n<;>simp_all[T.sub]
 |_=>
  refine bj eN Lb NU fun aR=>?_;unfold Gf;simp;(with_reducible repeat' first|refine aj ?_|simp);all_goals simp[bk,IH,aU,aW,aT]
  all_goals simp[T.sub]
theorem aaC(l:List ai)(av:l.length<=1000000)(t:T):bQ ax 75 [.slice 5 .no (l.map ai.e),t.e] (t.ap (aY l)).e:=by have:=PF l av t;rw[Pm]at this;exact this
theorem zB(l:List ai)(av:l.length<=1000000)(t:T):bQ ax 166 [.slice 5 .no (l.map ai.e),t.e] (.tuple [(t.ap (aY l)).e,.bool (decide ((t.ap (aY l)).size<=5000))]):=by refine bj eN afO amS fun aR=>?_;unfold Sy;simp;(with_reducible repeat' first|refine aj ?_|refine aA (aaC l av t) ?_|refine aB (aaC l av t) ?_|refine aA (Ce _) ?_|refine aB (Ce _) ?_|simp);simp[bk,Y5,aU,aW,aT]
def xl(v:Int)(l:List T):Bool:=l.any (T.occ v)
theorem XB(v:Int)(t:T):t.occ v=(xl v t.args||(t.kind==1&&t.int==v)):=by cases t<;>simp[T.occ,xl]
theorem xO(v:Int)(t:T):bQ ax 270 [.int .i64 v,t.e] (.bool (t.occ v)):=by
 suffices H:∀(k:Nat) (t:T),t.size<=k->bQ ax 270 [.int .i64 v,t.e] (.bool (t.occ v))from H _ t (eu _)
 intro k;induction k with
 |zero=>intro t aH;have:=T.size_pos t;omega
 |succ k bR=>
  intro t aH;have qd:t.args.length<=2:=by cases t<;>simp
  refine bj eN afJ amN fun aR=>?_;unfold St;simp;refine dT [0,3,8,9] (fun i (_:Unit)=>[(10,.int .i64 i)]) t.args.length (fun i _=>xl v (t.args.drop i)=xl v t.args) () bT Ψ (fun _ af _=>?_) (fun i _ hi af _=>?_)
  ·have bE:xl v t.args=false:=by rw[<-af];simp[xl]
   rw[XB,bE];simp;((with_reducible repeat' first|refine aj ?_|simp|((first|apply bL|apply bN|apply bM)<;>intro h<;>try simp at h))<;>(try exact cm));all_goals simp[bk,Ov,aU,aW,aT]
   all_goals simp_all
  ·obtain⟨x,ad,c6⟩:=ej hi;have aF:t.args.drop i=x::t.args.drop (i+1):=by rw[k8 hi,c6]
   have ep:x.size<=k:=by have hm:=dP ad;have:=T.size_pos x;cases t<;>simp at hm;rcases hm with rfl|rfl<;>simp[T.size]at aH<;>omega
   simp only[aF,xl,List.any_cons]at af;simp[hi,c6];cases aw:x.occ v with
   |true=>
    rw[aw]at af;simp at af;have bE:t.occ v=true:=by rw[XB];simp[xl];left;simpa using af
    (with_reducible repeat' first|refine aj ?_|refine aA (bR x ep) ?_|refine aB (bR x ep) ?_|simp[aw]);simp[bk,Ov,aU,aW,aT];simp[bE]
   |false=>rw[aw]at af;have aki:=bR x ep;exact gX
theorem Jt(v:Int)(x t:T):bQ ax 271 [t.e,.int .i64 v,x.e] (t.ap (Go.Pv.one v x)).e:=by
 induction t with
 |pair a b dJ dK=>
  refine bj eN La NT fun aR=>?_;unfold Ge;simp;(with_reducible repeat' first|refine aj ?_|refine aA dJ ?_|refine aB dJ ?_|refine aA dK ?_|refine aB dK ?_|refine aA (Cf _ _) ?_|refine aB (Cf _ _) ?_|simp);all_goals simp[bk,IG,aU,aW,aT]
  all_goals simp[T.ap]
 |var n=>
  refine bj eN La NT fun aR=>?_;unfold Ge;simp;((with_reducible repeat' first|refine aj ?_|simp|((first|apply bL|apply bN|apply bM)<;>intro h<;>try simp at h))<;>(try exact cm));all_goals simp[bk,IG,aU,aW,aT]
  all_goals simp_all[T.ap,Go.Pv.one]
 |_=>
  refine bj eN La NT fun aR=>?_;unfold Ge;simp;(with_reducible repeat' first|refine aj ?_|simp);all_goals simp[bk,IG,aU,aW,aT]
  all_goals simp[T.ap]
theorem Ju(s:List ai)(av:s.length<=1000000)(t:T):bQ ax 236 [.slice 5 .no (s.map ai.e),t.e] (hE s t).e:=by
 cases t with
 |var n=>
  cases ab:df s n with
  |none=>refine bj eN Lc NV fun aR=>?_;unfold Gg;simp;(with_reducible repeat' first|refine aj ?_|refine aA (r1 s n av) ?_|refine aB (r1 s n av) ?_|simp[ab]);simp[bk,IJ,aU,aW,aT];simp[hE,aY,ab]
  |some x=>refine bj eN Lc NV fun aR=>?_;unfold Gg;simp;(with_reducible repeat' first|refine aj ?_|refine aA (r1 s n av) ?_|refine aB (r1 s n av) ?_|simp[ab]);simp[bk,IJ,aU,aW,aT];simp[hE,aY,ab]
 |_=>refine bj eN Lc NV fun aR=>?_;unfold Gg;simp;(with_reducible repeat' first|refine aj ?_|simp);simp[bk,IJ,aU,aW,aT];simp[hE]
theorem VW(b:ai):∀(s:List ai) (k:Nat),(∀i c,i<k->s[i]? =some c->c.v<=b.v)->(∀c,s[k]? =some c->b.v<c.v)->k<=s.length->pF b s=s.take k++b::s.drop k
 |[],k,_,_,ae=>by simp at ae;subst ae;rfl
 |c::s,0,_,U,_=>by have:=U c rfl;simp[pF,this]
 |c::s,k+1,J,U,ae=>by have:=J 0 c Ω rfl;simp only[pF,if_neg (by omega:¬b.v<c.v),List.take_succ_cons,List.drop_succ_cons,bZ];rw[VW b s k (fun i d hi aF=>J (i+1) d Ω (by simpa using aF)) (fun d aF=>U d (by simpa using aF)) (by simpa using ae)]
theorem aqa(s:List ai)(b:ai)(av:s.length<=1000000)(bm:hf s):bQ ax 234 [.slice 5 .no (s.map ai.e),b.e] (.slice 5 .no ((pF b s).map ai.e)):=by
 refine bj eN afR amV fun aR=>?_;unfold SB;simp;refine u9 [0,3] (fun(k:Nat)=>[(5,.int .i64 k)]) (fun k=>k) (fun k=>k<=s.length/\∀c,s[k]? =some c->b.v<c.v) s.length bT ⟨Ω,fun c h=>by simp at h⟩ (fun k af _=>?_);obtain⟨ae,af⟩:=af;have tY:(∀c,0<k->s[k-1]? =some c->c.v<=b.v)->pF b s=s.take k++b::s.drop k:=fun h=>VW b s k (fun i c hi ar=>by
  obtain⟨d,aF⟩:∃d,s[k-1]? =some d:=⟨_,bY Ω⟩;have J:=h d Ω aF;rcases Nat.lt_or_ge i (k-1)with U|U
  ·have ua:=(eS.1 ar);have nk:=(eS.1 aF);have:=o2.1 bm i (k-1) ua.1 nk.1 U;rw[ua.2,nk.2]at this;omega
  ·have:i=k-1:=Ω
   subst this;rw[aF]at ar;cases ar;exact J) af ae
 rcases Nat.eq_zero_or_pos k with rfl|eW
 ·have e:=tY fun c h=>Ω
  rw[e];simp;(with_reducible repeat' first|refine aj ?_|simp);simp[bk,Ox,aU,aW,aT];try simp[gw]
 ·obtain⟨d,aF⟩:∃d,s[k-1]? =some d:=⟨_,bY Ω⟩;have aq:((k:Int)-1).toNat=k-1:=Ω
  have aG:∀h,(s[k-1]'h)=d:=fun h=>by rw[bY h]at aF;exact eH aF
  have jg:(0:Int)<k:=Ω
  by_cases ab:b.v<d.v
  ·simp[eW,jg,aq,aG,ab,aF];(with_reducible repeat' first|refine aj ?_|simp[eW,jg,aq,aG,ab,aF]);refine bP.whl (k-1) Ω ⟨Ω,fun c ar=>by rw[aF]at ar;cases ar;exact ab⟩ ?_;have bG:((k-1:Nat):Int)=(k:Int)-1:=Ω
   simp[bG];exact bT
  ·have e:=tY fun c _ ar=>by rw[aF]at ar;cases ar;omega
   rw[e];simp[eW,jg,aq,aG,ab,aF];(with_reducible repeat' first|refine aj ?_|simp[eW,jg,aq,aG,ab,aF]);simp[bk,Ox,aU,aW,aT];have di:pU s.length (s.map ai.e)=s.map ai.e:=gw Ψ;rw[di,<-List.map_take,<-List.map_drop,<-ht,<-r6];exact ZS _
def Pf(v:Int)(x:T)(b:ai):ai:=⟨b.v,b.t.ap (Go.Pv.one v x)⟩
def ajR(s:List ai)(v:Int)(x:T)(i:Nat)(out:List ai):Prop:=out=(s.take i).map (Pf v x)/\∀b∈s.take i,(b.t.ap (Go.Pv.one v x)).size<=5000
theorem aqc(s:List ai)(v:Int)(t:T)(av:s.length<=1000000)(bm:hf s):bQ ax 237 [.slice 5 .no (s.map ai.e),.int .i64 v,t.e] (fh (oy s v t)):=by
 obtain⟨x,ad⟩:∃x,x=t.ap (aY s):=⟨_,rfl⟩;have sy:=zB s av t;rw[<-ad]at sy;obtain⟨o,aw⟩:∃o,o=oy s v t:=⟨_,rfl⟩;have gQ:x.size<=5000->x.occ v=false->s.length<400->(∀b∈s,(b.t.ap (Go.Pv.one v x)).size<=5000)->o=some (na s v x):=fun a1 bp bV cQ=>by rw[aw,oy,<-ad,if_pos ⟨a1,bp,bV,cQ⟩]
 have cB:¬(x.size<=5000/\x.occ v=false/\s.length<400/\∀b∈s,(b.t.ap (Go.Pv.one v x)).size<=5000)->o=none:=fun q=>by rw[aw,oy,<-ad,if_neg q]
 rw[<-aw];clear aw;by_cases J:x.size<=5000;rotate_left
 ·rw[cB fun h=>J h.1];refine bj eN Gz Ig fun aR=>?_;unfold CI;simp;(with_reducible repeat' first|refine aj ?_|refine aA sy ?_|refine aB sy ?_|refine aA (xO _ _) ?_|refine aB (xO _ _) ?_|simp[J]);simp[bk,BQ,aU,aW,aT];simp[fh]
 cases U:x.occ v with
 |true=>rw[cB fun h=>by rw[U]at h;cases h.2.1];refine bj eN Gz Ig fun aR=>?_;unfold CI;simp;(with_reducible repeat' first|refine aj ?_|refine aA sy ?_|refine aB sy ?_|refine aA (xO _ _) ?_|refine aB (xO _ _) ?_|simp[J,U]);simp[bk,BQ,aU,aW,aT];simp[fh]
 |false=>
 by_cases ao:s.length<400;rotate_left
 ·rw[cB fun h=>ao h.2.2.1];have tS:(400:Int)<=s.length:=Ω
  refine bj eN Gz Ig fun aR=>?_;unfold CI;simp;(with_reducible repeat' first|refine aj ?_|refine aA sy ?_|refine aB sy ?_|refine aA (xO _ _) ?_|refine aB (xO _ _) ?_|simp[J,U,tS]);simp[bk,BQ,aU,aW,aT];simp[fh]
 have tS:¬(400:Int)<=s.length:=Ω
 refine bj eN Gz Ig fun aR=>?_;unfold CI;simp;(with_reducible repeat' first|refine aj ?_|refine aA sy ?_|refine aB sy ?_|refine aA (xO _ _) ?_|refine aB (xO _ _) ?_|simp[J,U,tS]);refine h0 (α:=List ai) (fun i out=>⟨[(1,.int .i64 v),(8,.ptr (.loc 1) 0),(33,.slice 5 .no (s.map ai.e)),(34,.int .i64 s.length),(10,.slice 5 (.own (.loc 2)) (out.map ai.e)),(35,.int .i64 i)],[(.loc 1,[.int .i64 x.kind,.int .i64 x.int,.str x.name,.slice 4 .no (x.args.map T.e)])],[(.loc 2,⟨out.length,61,5,none⟩)],3,[]⟩) s.length (ajR s v x) [] bT ⟨Ψ,Ψ⟩ (fun out af _=>?_) (fun i out hi af _=>?_)
 ·obtain⟨dF,lq⟩:=af;rw[gw (eu _)]at dF lq;have ahB:hf out:=by rw[dF,hf,List.pairwise_map];exact bm
  have AR:out.length<=1000000:=by rw[dF];simpa using av
  rw[gQ J U ao lq];have key:=aqa out ⟨v,x⟩ AR ahB;simp;(with_reducible repeat' first|refine aj ?_|refine aA key ?_|refine aB key ?_|simp);simp[bk,BQ,aU,aW,aT];simp[fh,na,dF];rfl
 ·obtain⟨dF,lq⟩:=af;obtain⟨b,ay,fV⟩:=ej hi;have oI:s.take (i+1)=s.take i++[b]:=by rw[q6,ay];rfl
  have AR:out.length<=1000000:=by rw[dF];simp;omega
  simp[hi,fV];by_cases ba:(b.t.ap (Go.Pv.one v x)).size<=5000
  ·(with_reducible repeat' first|refine aj ?_|refine aA (Jt _ _ _) ?_|refine aB (Jt _ _ _) ?_|refine aA (Ce _) ?_|refine aB (Ce _) ?_|simp[fV,hi,ba]);all_goals first|(refine⟨by unfold lim;omega,?_⟩)|skip
   (with_reducible repeat' first|refine aj ?_|simp);refine bP.rng (out++[Pf v x b]) hi ⟨by rw[oI,dF,r6];rfl,fun c ar=>?_⟩ ?_
   ·rw[oI]at ar;rcases iz.1 ar with ar|ar
    ·exact lq c ar
    ·simp at ar;subst ar;exact ba
   ·simp[Pf];exact⟨by simp[fresh,aN,aJ,cz,inObs,Pv.look,jA],eD (by simp[fresh,aN,aJ,cz,inObs,Pv.look,jA]),eE (by simp[fresh,aN,aJ,eg,inObs,Pv.look,jA]),Ψ⟩
  ·rw[cB fun h=>ba (h.2.2.2 b (dP ay))];(with_reducible repeat' first|refine aj ?_|refine aA (Jt _ _ _) ?_|refine aB (Jt _ _ _) ?_|refine aA (Ce _) ?_|refine aB (Ce _) ?_|simp[fV,hi,ba]);simp[bk,BQ,aU,aW,aT];simp[fh]
theorem apD{s:List ai}(ag:eT s)(aQ:fP s){n:Nat}{a b:T}{o:Option (List ai)}(h:k4 n s a b=some o):jb s [(a,b)] o:=by obtain⟨n',o',J,U⟩:=Jr ag aQ a b;have aq:=Fc (Nat.le_max_left n n') h;have aG:=Fc (Nat.le_max_right n n') J;rw[aq]at aG;cases aG;exact U
def Ca(n:Nat):List (T×T)->List ai->Option (Option (List ai))
 |[],s=>some (some s)
 |e::r,s=>match k4 n s e.1 e.2 with
  |none=>none
  |some none=>some none
  |some (some s1)=>Ca n r s1
def yU(x y:T):Bool:=x.kind==y.kind&&x.int==y.int&&x.name==y.name
theorem apA(n:Nat)(s:List ai){x y:T}(ad:x.kind≠1)(aC:y.kind≠1):kq (k4 n) s x y=if yU x y then Ca n (x.args.zip y.args) s else some none:=by
 cases x<;>cases y<;>simp[kq,yU,Ca]at ad aC⊢
 ·rename_i a b;split<;>simp_all
 ·rename_i a b;split<;>simp_all
 ·rename_i bC a2 cg cc;cases k4 n s bC cg with
  |none=>rfl
  |some o=>cases o with
   |none=>rfl
   |some s1=>
    simp only
    cases k4 n s1 a2 cc with
    |none=>rfl
    |some o=>cases o<;>rfl
theorem akl{x y:T}(h:yU x y=true):x.args.length=y.args.length:=by cases x<;>cases y<;>simp[yU]at h⊢
@[simp]theorem ar9(o:Option (List ai)):Ai 0 (fh o)=some (True,.slice 5 .no ((o.getD []).map ai.e)):=rfl
@[simp]theorem asa(o:Option (List ai)):Ai 1 (fh o)=some (True,.bool o.isSome):=rfl
theorem aqf(n:Nat):∀(s:List ai) (a b:T) (o:Option (List ai)),eT s->fP s->k4 n s a b=some o->bQ ax 176 [.slice 5 .no (s.map ai.e),a.e,b.e] (fh o):=by
 induction n with
 |zero=>intro s a b o _ _ h;simp[k4]at h
 |succ n bR=>
  intro s a b o ag aQ he;have av:s.length<=1000000:=by have:=aQ.1;omega
  have fx:=Ju s av a;have ee:=Ju s av b;simp only[k4]at he;generalize hE s a=x at he fx;generalize hE s b=y at he ee;have ab:=fun v t=>aqc s v t av ag.asc;have rv:∀z:T,¬z.kind=1->(z.kind==1)=false:=fun z h=>by simp[h]
  by_cases ad:x.kind=1
  ·obtain⟨i,rfl⟩:∃i,x= .var i:=by cases x<;>simp at ad;exact⟨_,rfl⟩
   by_cases aC:y.kind=1
   ·obtain⟨j,rfl⟩:∃j,y= .var j:=by cases y<;>simp at aC;exact⟨_,rfl⟩
    simp only[kq,dE]at he;subst he;rcases Int.lt_trichotomy i j with h|h|h
    ·rw[if_pos h];have key:=ab j (.var i);refine bj eN vc vN fun aR=>?_;unfold tK;simp;(with_reducible repeat' first|refine aj ?_|refine aA fx ?_|refine aB fx ?_|refine aA ee ?_|refine aB ee ?_|refine aA key ?_|refine aB key ?_|simp[h]);simp[bk,tc,aU,aW,aT];simp[fh]
    ·subst h;rw[if_neg Ω,if_pos rfl];have bE:¬i<i:=Ω
     refine bj eN vc vN fun aR=>?_;unfold tK;simp;(with_reducible repeat' first|refine aj ?_|refine aA fx ?_|refine aB fx ?_|refine aA ee ?_|refine aB ee ?_|simp[bE]);simp[bk,tc,aU,aW,aT];simp[fh]
    ·rw[if_neg Ω,if_neg Ω];have key:=ab i (.var j);have bE:¬i<j:=Ω
     have U:¬i=j:=Ω
     refine bj eN vc vN fun aR=>?_;unfold tK;simp;((with_reducible repeat' first|refine aj ?_|refine aA fx ?_|refine aB fx ?_|refine aA ee ?_|refine aB ee ?_|refine aA key ?_|refine aB key ?_|simp[bE,U]|((first|apply bL|apply bN|apply bM)<;>intro h<;>try simp at h))<;>(try exact cm));simp[bk,tc,aU,aW,aT];simp[fh]
   ·have wI:oy s i y=o:=by cases y<;>first|(simp at aC;done)|exact eH he
    subst wI;have key:=ab i y;refine bj eN vc vN fun aR=>?_;unfold tK;simp;(with_reducible repeat' first|refine aj ?_|refine aA fx ?_|refine aB fx ?_|refine aA ee ?_|refine aB ee ?_|refine aA key ?_|refine aB key ?_|simp[rv y aC]);simp[bk,tc,aU,aW,aT];simp[fh]
  ·by_cases aC:y.kind=1
   ·obtain⟨j,rfl⟩:∃j,y= .var j:=by cases y<;>simp at aC;exact⟨_,rfl⟩
    have wI:oy s j x=o:=by cases x<;>first|(simp at ad;done)|exact eH he
    subst wI;have key:=ab j x;refine bj eN vc vN fun aR=>?_;unfold tK;simp;(with_reducible repeat' first|refine aj ?_|refine aA fx ?_|refine aB fx ?_|refine aA ee ?_|refine aB ee ?_|refine aA key ?_|refine aB key ?_|simp[rv x ad]);simp[bk,tc,aU,aW,aT];simp[fh]
   ·rw[apA n s ad aC]at he;cases hle:yU x y with
    |false=>
     rw[hle]at he;simp at he;subst he;have L0:(x.kind !=y.kind)=true\/((x.kind !=y.kind)=false/\((x.int !=y.int)=true\/((x.int !=y.int)=false/\(x.name !=y.name)=true))):=by simp only[yU]at hle;simp only[bne];cases aq:(x.kind==y.kind)<;>cases aG:(x.int==y.int)<;>cases bG:(x.name==y.name)<;>simp_all
     rcases L0 with a1|⟨a1,bp|⟨bp,bV⟩⟩
     ·refine bj eN vc vN fun aR=>?_;unfold tK;simp;(with_reducible repeat' first|refine aj ?_|refine aA fx ?_|refine aB fx ?_|refine aA ee ?_|refine aB ee ?_|simp[rv x ad,rv y aC,a1]);simp[bk,tc,aU,aW,aT];simp[fh]
     ·refine bj eN vc vN fun aR=>?_;unfold tK;simp;(with_reducible repeat' first|refine aj ?_|refine aA fx ?_|refine aB fx ?_|refine aA ee ?_|refine aB ee ?_|simp[rv x ad,rv y aC,a1,bp]);simp[bk,tc,aU,aW,aT];simp[fh]
     ·refine bj eN vc vN fun aR=>?_;unfold tK;simp;have Ir:¬x.name=y.name:=by simpa using bV
      have anB:decide (x.name=y.name)=false:=by simp[Ir]
      ((with_reducible repeat' first|refine aj ?_|refine aA fx ?_|refine aB fx ?_|refine aA ee ?_|refine aB ee ?_|simp[rv x ad,rv y aC,a1,bp,bV,Ir,anB]|((first|apply bL|apply bN|apply bM)<;>intro h<;>try simp at h))<;>(try exact cm));simp[bk,tc,aU,aW,aT];simp[fh]
    |true=>
     rw[hle,if_pos rfl]at he;have L0:(x.kind !=y.kind)=false/\(x.int !=y.int)=false/\(x.name !=y.name)=false:=by simp only[yU]at hle;simp only[bne];cases aq:(x.kind==y.kind)<;>cases aG:(x.int==y.int)<;>cases bG:(x.name==y.name)<;>simp_all
     obtain⟨a1,bp,bV⟩:=L0;have hlen:=akl hle;have Ir:x.name=y.name:=by simpa using bV
     have qd:x.args.length<=2:=by cases x<;>simp
     refine bj eN vc vN fun aR=>?_;unfold tK;simp;(with_reducible repeat' first|refine aj ?_|refine aA fx ?_|refine aB fx ?_|refine aA ee ?_|refine aB ee ?_|simp[rv x ad,rv y aC,a1,bp,Ir]);refine h0 (α:=List ai) (fun i ah=>⟨[(5,.ptr (.loc 1) 0),(96,.slice 4 .no (x.args.map T.e)),(97,.int .i64 x.args.length),(0,.slice 5 .no (ah.map ai.e)),(98,.int .i64 i)],[(.loc 1,[.int .i64 y.kind,.int .i64 y.int,.str y.name,.slice 4 .no (y.args.map T.e)])],[],2,[]⟩) x.args.length (fun i ah=>(eT ah/\fP ah)/\Ca n ((x.args.zip y.args).drop i) ah=some o) s bT ⟨⟨ag,aQ⟩,by simpa using he⟩ (fun ah af _=>?_) (fun i ah hi af _=>?_)
     ·obtain⟨_,af⟩:=af;rw[List.drop_eq_nil_of_le (by simp[hlen])]at af;simp[Ca]at af;subst af;simp;(with_reducible repeat' first|refine aj ?_|simp);simp[bk,tc,aU,aW,aT];simp[fh]
     ·obtain⟨⟨g1,g2⟩,af⟩:=af;obtain⟨bC,bm⟩:∃a,x.args[i]? =some a:=⟨_,bY hi⟩;obtain⟨cg,gk⟩:∃b,y.args[i]? =some b:=⟨_,bY Ω⟩;have nQ:∀h,(x.args[i]'h)=bC:=fun h=>by rw[bY hi]at bm;exact eH bm
      have cD:∀h,(y.args[i]'h)=cg:=fun h=>by rw[bY h]at gk;exact eH gk
      have sF:i<y.args.length:=Ω
      have aF:(x.args.zip y.args).drop i=(bC,cg)::(x.args.zip y.args).drop (i+1):=by rw[k8 (by simp;omega)];simp[nQ,cD]
      rw[aF]at af;simp only[Ca]at af;simp[hi,nQ,cD,sF];cases hu:k4 n ah bC cg with
      |none=>rw[hu]at af;cases af
      |some gW=>
       have key:=bR ah bC cg gW g1 g2 hu;rw[hu]at af;cases gW with
       |none=>simp at af;subst af;(with_reducible repeat' first|refine aj ?_|refine aA key ?_|refine aB key ?_|simp[nQ,cD,hi,sF]);simp[bk,tc,aU,aW,aT];simp[fh]
       |some s1=>have ai7:=apD g1 g2 hu;(with_reducible repeat' first|refine aj ?_|refine aA key ?_|refine aB key ?_|simp[nQ,cD,hi,sF]);refine bP.rng s1 hi ⟨ai7.1,af⟩ ?_;exact bT
theorem PH(s:List ai)(a b:T)(ag:eT s)(aQ:fP s):bQ ax 176 [.slice 5 .no (s.map ai.e),a.e,b.e] (fh (mgu s [(a,b)])):=by obtain⟨n,o,J,U⟩:=Jr ag aQ a b;rw[qn U];exact aqf n s a b o ag aQ J
def ajQ(s:List ai)(E:List (T×T))(i:Nat)(ah:List ai):Prop:=(eT ah/\fP ah)/\mgu ah (E.drop i)=mgu s E
theorem aqb(s:List ai)(l r:List T)(av:l.length=r.length)(ag:eT s)(aQ:fP s)(yy:l.length<=1000000):bQ ax 268 [.slice 5 .no (s.map ai.e),.slice 4 .no (l.map T.e),.slice 4 .no (r.map T.e)] (fh (mgu s (l.zip r))):=by
 refine bj eN afT amX fun aR=>?_;unfold SD;simp;refine h0 (α:=List ai) (fun i ah=>⟨[(2,.slice 4 .no (r.map T.e)),(12,.slice 4 .no (l.map T.e)),(13,.int .i64 l.length),(0,.slice 5 .no (ah.map ai.e)),(14,.int .i64 i)],[],[],0,[]⟩) l.length (ajQ s (l.zip r)) s bT ⟨⟨ag,aQ⟩,Ψ⟩ (fun ah af _=>?_) (fun i ah hi af _=>?_)
 ·obtain⟨⟨g1,g2⟩,af⟩:=af;rw[List.drop_eq_nil_of_le (by simp[av]),Ei g1 g2]at af;rw[<-af];simp;(with_reducible repeat' first|refine aj ?_|simp);simp[bk,Oz,aU,aW,aT];simp[fh]
 ·obtain⟨⟨g1,g2⟩,af⟩:=af;obtain⟨a,bm⟩:∃a,l[i]? =some a:=⟨_,bY hi⟩;obtain⟨b,gk⟩:∃b,r[i]? =some b:=⟨_,bY Ω⟩;have nQ:∀h,(l[i]'h)=a:=fun h=>by rw[bY hi]at bm;exact eH bm
  have cD:∀h,(r[i]'h)=b:=fun h=>by rw[bY h]at gk;exact eH gk
  have sF:i<r.length:=Ω
  have aF:(l.zip r).drop i=(a,b)::(l.zip r).drop (i+1):=by rw[k8 (by simp;omega)];simp[nQ,cD]
  rw[aF,Ns g1 g2]at af;simp[hi,nQ,cD,sF];have key:=PH ah a b g1 g2;cases hu:mgu ah [(a,b)]with
  |none=>rw[hu]at af key;simp only at af;rw[<-af];(with_reducible repeat' first|refine aj ?_|refine aA key ?_|refine aB key ?_|simp[nQ,cD,hi,sF]);simp[bk,Oz,aU,aW,aT];simp[fh]
  |some s1=>have qi:=sY g1 g2 hu;rw[hu]at af key;(with_reducible repeat' first|refine aj ?_|refine aA key ?_|refine aB key ?_|simp[nQ,cD,hi,sF]);refine bP.rng s1 hi ⟨qi,af⟩ ?_;exact bT
theorem ks(n:Int):bQ ax 91 [.int .i64 n] (T.var n).e:=by refine bj fN TT XT fun aR=>?_;unfold Kx;exact cp
def ajV(t:List ai)(i:Nat)(p:List T×List T):Prop:=p.1=(t.take i).map (fun b=>T.var b.v)/\p.2=(t.take i).map (·.t)
theorem aqd(s t:List ai)(ag:eT s)(aQ:fP s)(aH:t.length<=1000000):bQ ax 219 [.slice 5 .no (s.map ai.e),.slice 5 .no (t.map ai.e)] (fh (mgu s (ga t))):=by
 have ba:(t.map fun b=>T.var b.v).zip (t.map (·.t))=ga t:=by rw[ga,List.zip_map']
 refine bj eN afU amY fun aR=>?_;unfold SE;simp;refine h0 (α:=List T×List T) (fun i p=>⟨[(0,.slice 5 .no (s.map ai.e)),(12,.slice 5 .no (t.map ai.e)),(13,.int .i64 t.length),(6,.slice 4 (.own (.loc 0)) (p.1.map T.e)),(7,.slice 4 (.own (.loc 1)) (p.2.map T.e)),(14,.int .i64 i)],[],[(.loc 0,⟨p.1.length,32,4,none⟩),(.loc 1,⟨p.2.length,32,4,none⟩)],2,[]⟩) t.length (ajV t) ([],[]) bT ⟨Ψ,Ψ⟩ (fun p af _=>?_) (fun i p hi af _=>?_)
 ·obtain⟨A,B⟩:=p;obtain⟨bg,iR⟩:=af;simp only at bg iR⊢;rw[gw (eu _)]at bg iR;have key:=aqb s A B (by rw[bg,iR];simp) ag aQ (by rw[bg];simpa using aH);rw[bg,iR,ba,<-bg,<-iR]at key;simp;(with_reducible repeat' first|refine aj ?_|refine aA key ?_|refine aB key ?_|simp);simp[bk,Y6,aU,aW,aT];simp[fh]
 ·obtain⟨A,B⟩:=p;obtain⟨bg,iR⟩:=af;simp only at bg iR⊢;obtain⟨b,ay,fV⟩:=ej hi;have oI:t.take (i+1)=t.take i++[b]:=by rw[q6,ay];rfl
  have Lz:A.length<=1000000:=by rw[bg];simp;omega
  have ahp:B.length<=1000000:=by rw[iR];simp;omega
  simp[hi,fV];(with_reducible repeat' first|refine aj ?_|refine aA (ks _) ?_|refine aB (ks _) ?_|simp[fV,hi]);all_goals first|(refine⟨by unfold lim;omega,?_⟩)|skip
  (with_reducible repeat' first|refine aj ?_|simp);all_goals first|(refine⟨by unfold lim;omega,?_⟩)|skip
  (with_reducible repeat' first|refine aj ?_|simp);refine bP.rng (A++[.var b.v],B++[b.t]) hi ⟨by rw[oI,bg];simp,by rw[oI,iR];simp⟩ ?_;simp;exact⟨by simp[fresh,aN,aJ,cz,inObs,Pv.look,jA],eD (by simp[fresh,aN,aJ,cz,inObs,Pv.look,jA]),eE (by simp[fresh,aN,aJ,eg,inObs,Pv.look,jA]),Ψ⟩
theorem dx(n lo hi:Int):bQ ax 141 [.int .i64 n,.int .i64 lo,.int .i64 hi] (.bool (decide (lo<=n/\n<=hi))):=by
 refine bj eN afA amE fun aR=>?_;unfold Sj;simp;((with_reducible repeat' first|refine aj ?_|simp|((first|apply bL|apply bN|apply bM)<;>intro h<;>try simp at h))<;>(try exact cm));all_goals simp[bk,YU,aU,aW,aT]
 all_goals first|omega|(simp;done)|(simp;omega)
def shp:bU->Bool
 | .mk k n s [a,b]=>k==4&&n==0&&s==[]&&shp a&&shp b
 | .mk k n s []=>lQ k n s
 |_=>false
theorem Jf:∀x:T,shp x.tm=x.ok
 | .nil=>by simp[T.tm,shp,lQ,T.ok]
 | .var _=>by simp[T.tm,shp,lQ,T.ok]
 | .sym _=>by simp[T.tm,shp,lQ,T.ok]
 | .num _=>by simp[T.tm,shp,lQ,T.ok]
 | .pair a b=>by simp[T.tm,shp,T.ok,Jf a,Jf b]
theorem aoU:∀(m:Nat) (t:bU),t.sz<=m->shp t=true->∃x:T,x.tm=t:=by
 intro m;induction m with
 |zero=>intro t aH;cases t;simp[bU.sz]at aH
 |succ m bR=>
  rintro⟨k,n,s,args⟩ aH h;match args with
  |[a,b]=>
   simp[bU.sz,bU.szL]at aH;simp only[shp,cr,dQ]at h;obtain⟨⟨⟨⟨rfl,rfl⟩,ao⟩,J⟩,U⟩:=h;obtain⟨x,rfl⟩:=bR a Ω J;obtain⟨y,rfl⟩:=bR b Ω U;have:s=[]:=by simpa using ao
   subst this;exact⟨.pair x y,rfl⟩
  |[]=>
   simp only[shp,lQ]at h;split at h
   ·subst_vars;simp at h;exact⟨.nil,by simp[T.tm,h]⟩
   split at h
   ·subst_vars;simp at h;exact⟨.var n,by simp[T.tm,h]⟩
   split at h
   ·subst_vars;simp at h;exact⟨.sym s,by simp[T.tm,h]⟩
   split at h
   ·subst_vars;simp at h;exact⟨.num n,by simp[T.tm,h]⟩
   ·simp at h
  |[_]=>simp[shp]at h
  |_::_::_::_=>simp[shp]at h
theorem agf(t:bU):t.fits=(decide (l0 t 5000<=5000)&&shp t):=by
 by_cases h:shp t=true
 ·obtain⟨x,rfl⟩:=aoU _ t (eu _) h;have:=(Gk x 5000 Ω).1;rw[bU.fits_T,T.fit,h];rw[Jf]at h;simp[h,this];omega
 ·have bE:t.fits=false:=by
   cases aQ:t.fits with
   |false=>rfl
   |true=>obtain⟨x,rfl,ad⟩:=bU.fits_ex aQ;rw[Jf]at h;simp[T.fit]at ad;exact absurd ad.1 h
  simp at h;rw[bE,h];simp
def MK(s:List c0)(i:Nat):Prop:=i<=s.length/\∀k,k<i->nm (s.getD k 0)=true/\(k=0->low (s.getD k 0)=true)
theorem ajN{s:List c0}(h:MK s s.length):ix s=decide (1<=s.length/\s.length<=12):=by
 unfold ix;by_cases av:1<=s.length
 ·have J:=(h.2 0 Ω).2 rfl;have U:(s.drop 1).all nm=true:=by rw[fy];intro b ab;obtain⟨i,hi,e⟩:=oi ab;simp at hi e;have:=(h.2 (i+1) Ω).1;rw[List.getD_eq_getElem?_getD,bY Ω]at this;simp only[jo]at this;rw[<-e];exact this
  rw[J,U];simp
 ·have:decide (1<=s.length/\s.length<=12)=false:=by simp;omega
  rw[this];simp
theorem ajM{s:List c0}{i:Nat}(hi:i<s.length)(h:nm (s.getD i 0)=false\/(i=0/\low (s.getD i 0)=false)):ix s=false:=by
 cases e:ix s with
 |false=>rfl
 |true=>
  exfalso;simp only[ix,cr,fy]at e;obtain⟨⟨_,aq⟩,aG⟩:=e;rcases h with h|⟨rfl,h⟩
  ·by_cases bE:i=0
   ·subst bE;rw[nm,aq]at h;simp at h
   ·have:=aG (s.getD i 0) (by rw[List.getD_eq_getElem?_getD,bY hi];simp only[jo];refine List.mem_iff_getElem.2 ⟨i-1,by simp;omega,?_⟩;simp[show i-1+1=i from by omega])
    rw[this]at h;cases h
  ·rw[aq]at h;cases h
theorem hq(s:List c0):bQ ax 216 [.str s] (.bool (ix s)):=by
 generalize bA:ix s=R;refine bj eN afo ams fun aR=>?_;unfold R7;have h1:s.length<=68719476736:=by simp[gI,fZ,gz,lim]at aR;omega
 simp;refine u9 [0] (fun(i:Nat)=>[(3,.int .i64 i)]) (fun i=>s.length-i) (MK s) 0 bT ⟨Ω,fun k ae=>Ω⟩ (fun i af _=>?_);have dF:=af.1;by_cases hi:i<s.length
 ·have cB:=ajM hi;rw[bA]at cB;obtain⟨c,ar,iv⟩:=ej hi;have UQ:s.getD i 0=c:=by simp[List.getD_eq_getElem?_getD,ar]
  rw[UQ]at cB;have dh:nm c=true->(i=0->low c=true)->MK s (i+1):=fun J U=>⟨Ω,fun k ae=>by
   rcases(by omega:k<i\/k=i)with h|rfl
   ·exact af.2 k h
   ·rw[UQ];exact⟨J,U⟩⟩
  have hw:nD.wrap (c.toNat:Int)=c.toNat:=mT _ (by have:=c.toNat_lt;omega);simp[hi,iv,ar];by_cases a1:(97:Int)<=c.toNat
  ·by_cases bp:(c.toNat:Int)<=122
   ·have av:low c=true:=by simp[low];omega
    (with_reducible repeat' first|refine aj ?_|refine aA (dx _ _ _) ?_|refine aB (dx _ _ _) ?_|simp[hi,iv,ar,a1,bp]);exact bP.whl (i+1) Ω (dh (by simp[nm,av]) (fun _=>av)) bT
   ·have av:low c=false:=by simp[low];omega
    by_cases bE:i=0
    ·rw[cB (.inr ⟨bE,av⟩)];have su:((i:Int)==0)=true:=by simp[bE]
     (with_reducible repeat' first|refine aj ?_|refine aA (dx _ _ _) ?_|refine aB (dx _ _ _) ?_|simp[hi,iv,ar,a1,bp,su,hw]);simp[bk,BM,aU,aW,aT]
    ·have su:((i:Int)==0)=false:=by simp[bE]
     by_cases bV:(c.toNat:Int)=45
     ·have tb:((c.toNat:Int) !=45)=false:=by simp[bV]
      (with_reducible repeat' first|refine aj ?_|refine aA (dx _ _ _) ?_|refine aB (dx _ _ _) ?_|simp[hi,iv,ar,a1,bp,su,hw,bV,tb]);all_goals exact bP.whl (i+1) Ω (dh (by simp[nm];omega) (fun h=>absurd h bE)) bT
     ·have tb:((c.toNat:Int) !=45)=true:=by simp[bV]
      by_cases cQ:(48:Int)<=c.toNat/\(c.toNat:Int)<=57
      ·(with_reducible repeat' first|refine aj ?_|refine aA (dx _ _ _) ?_|refine aB (dx _ _ _) ?_|simp[hi,iv,ar,a1,bp,su,hw,bV,tb,cQ]);all_goals exact bP.whl (i+1) Ω (dh (by simp[nm];omega) (fun h=>absurd h bE)) bT
      ·rw[cB (.inl (by simp[nm,av];omega))];(with_reducible repeat' first|refine aj ?_|refine aA (dx _ _ _) ?_|refine aB (dx _ _ _) ?_|simp[hi,iv,ar,a1,bp,su,hw,bV,tb,cQ]);simp[bk,BM,aU,aW,aT]
  ·have av:low c=false:=by simp[low];omega
   by_cases bE:i=0
   ·rw[cB (.inr ⟨bE,av⟩)];have su:((i:Int)==0)=true:=by simp[bE]
    (with_reducible repeat' first|refine aj ?_|refine aA (dx _ _ _) ?_|refine aB (dx _ _ _) ?_|simp[hi,iv,ar,a1,su,hw]);simp[bk,BM,aU,aW,aT]
   ·have su:((i:Int)==0)=false:=by simp[bE]
    by_cases bV:(c.toNat:Int)=45
    ·have tb:((c.toNat:Int) !=45)=false:=by simp[bV]
     (with_reducible repeat' first|refine aj ?_|refine aA (dx _ _ _) ?_|refine aB (dx _ _ _) ?_|simp[hi,iv,ar,a1,su,hw,bV,tb]);all_goals exact bP.whl (i+1) Ω (dh (by simp[nm];omega) (fun h=>absurd h bE)) bT
    ·have tb:((c.toNat:Int) !=45)=true:=by simp[bV]
     by_cases cQ:(48:Int)<=c.toNat/\(c.toNat:Int)<=57
     ·(with_reducible repeat' first|refine aj ?_|refine aA (dx _ _ _) ?_|refine aB (dx _ _ _) ?_|simp[hi,iv,ar,a1,su,hw,bV,tb,cQ]);all_goals exact bP.whl (i+1) Ω (dh (by simp[nm];omega) (fun h=>absurd h bE)) bT
     ·rw[cB (.inl (by simp[nm,av];omega))];(with_reducible repeat' first|refine aj ?_|refine aA (dx _ _ _) ?_|refine aB (dx _ _ _) ?_|simp[hi,iv,ar,a1,su,hw,bV,tb,cQ]);simp[bk,BM,aU,aW,aT]
 ·have:i=s.length:=Ω
  subst this;rw[ajN af]at bA;simp[hi];(with_reducible repeat' first|refine aj ?_|refine aA (dx _ _ _) ?_|refine aB (dx _ _ _) ?_|simp[hi]);simp[bk,BM,aU,aW,aT];rw[<-bA,q4];simp;omega
def v8:List bU->Bool
 |[a,b]=>shp a&&shp b
 |_=>false
theorem aoT(k n:Int)(s:List c0)(args:List bU):shp ⟨k,n,s,args⟩=if k≠1/\k≠3/\n≠0 then false else if k≠2/\s≠[]then false else if k≠4/\args≠[]then false else if k=0 then true else if k=1 then decide (0<=n/\n<=100000)else if k=2 then ix s else if k=3 then decide (-1000000000<=n/\n<=1000000000)else if k=4 then v8 args else false:=by
 by_cases hk:k=0
 ·subst hk;match args with
  |[]=>by_cases au:n=0<;>by_cases ag:s=[]<;>simp[shp,lQ,au,ag]
  |[a]=>simp[shp]
  |[a,b]=>simp[shp]
  |_::_::_::_=>simp[shp]
 by_cases aP:k=1
 ·subst aP;match args with
  |[]=>by_cases ag:s=[]<;>simp[shp,lQ,ag]
  |[a]=>simp[shp]
  |[a,b]=>simp[shp]
  |_::_::_::_=>simp[shp]
 by_cases bd:k=2
 ·subst bd;match args with
  |[]=>by_cases au:n=0<;>simp[shp,lQ,au]
  |[a]=>simp[shp]
  |[a,b]=>simp[shp]
  |_::_::_::_=>simp[shp]
 by_cases bS:k=3
 ·subst bS;match args with
  |[]=>by_cases ag:s=[]<;>simp[shp,lQ,ag]
  |[a]=>simp[shp]
  |[a,b]=>simp[shp]
  |_::_::_::_=>simp[shp]
 by_cases ea:k=4
 ·subst ea;match args with
  |[]=>simp[shp,lQ,v8]
  |[a]=>simp[shp,v8]
  |[a,b]=>by_cases au:n=0<;>by_cases ag:s=[]<;>simp[shp,v8,au,ag]
  |_::_::_::_=>simp[shp,v8]
 ·match args with
  |[]=>simp[shp,lQ,hk,aP,bd,bS,ea]
  |[a]=>simp[shp,hk,aP,bd,bS,ea]
  |[a,b]=>simp[shp,hk,aP,bd,bS,ea]
  |_::_::_::_=>simp[shp,hk,aP,bd,bS,ea]
set_option maxRecDepth 8000 in
theorem ap8(m:Nat):∀(t:bU),t.sz<=m->bQ ax 163 [enc t] (.bool (shp t)):=by
 induction m with
 |zero=>intro t aH;cases t;simp[bU.sz]at aH
 |succ m bR=>
 rintro⟨k,n,s,args⟩ aH;generalize bA:shp ⟨k,n,s,args⟩=R;have c8:=aoT k n s args;rw[bA]at c8;by_cases cg:k≠1/\k≠3/\n≠0
 ·rw[if_pos cg]at c8;obtain⟨aP,bS,n0⟩:=cg;have A7:(k !=1)=true:=by simp[aP]
  have A8:(k !=3)=true:=by simp[bS]
  have Nw:(n !=0)=true:=by simp[n0]
  subst c8;refine bj eN nh nA fun aR=>?_;unfold mx;simp[bU.kind,bU.num,bU.name,bU.args];(with_reducible repeat' first|refine aj ?_|refine aA (dx _ _ _) ?_|refine aB (dx _ _ _) ?_|refine aA (hq _) ?_|refine aB (hq _) ?_|simp[A7,A8,Nw]);all_goals simp[bk,mn,aU,aW,aT]
 rw[if_neg cg]at c8;have CA:(if k !=1 then k !=3 else false)=true->(n !=0)=false:=by intro h;simp at h⊢;exact Classical.byContradiction fun au=>cg ⟨h.1,h.2,au⟩
 by_cases cc:k≠2/\s≠[]
 ·rw[if_pos cc]at c8;have HH:(k !=2)=true:=by simp[cc.1]
  have OS:s.isEmpty=false:=by simp[cc.2]
  by_cases aP:k=1
  ·subst aP;subst c8;refine bj eN nh nA fun aR=>?_;unfold mx;simp[bU.kind,bU.num,bU.name,bU.args];(with_reducible repeat' first|refine aj ?_|refine aA (dx _ _ _) ?_|refine aB (dx _ _ _) ?_|refine aA (hq _) ?_|refine aB (hq _) ?_|simp[OS]);all_goals simp[bk,mn,aU,aW,aT]
  by_cases bS:k=3
  ·subst bS;subst c8;refine bj eN nh nA fun aR=>?_;unfold mx;simp[bU.kind,bU.num,bU.name,bU.args];(with_reducible repeat' first|refine aj ?_|refine aA (dx _ _ _) ?_|refine aB (dx _ _ _) ?_|refine aA (hq _) ?_|refine aB (hq _) ?_|simp[OS]);all_goals simp[bk,mn,aU,aW,aT]
  have A7:(k !=1)=true:=by simp[aP]
  have A8:(k !=3)=true:=by simp[bS]
  have Nw:(n !=0)=false:=CA (by simp[aP,bS]);subst c8;refine bj eN nh nA fun aR=>?_;unfold mx;simp[bU.kind,bU.num,bU.name,bU.args];(with_reducible repeat' first|refine aj ?_|refine aA (dx _ _ _) ?_|refine aB (dx _ _ _) ?_|refine aA (hq _) ?_|refine aB (hq _) ?_|simp[A7,A8,Nw,HH,OS]);all_goals simp[bk,mn,aU,aW,aT]
 rw[if_neg cc]at c8;by_cases hk:k=0
 ·subst hk;have n0:n=0:=by simpa using CA (by decide)
  have s0:s=[]:=Classical.byContradiction fun h=>cc ⟨Ω,h⟩;subst n0 s0;by_cases a0:args=[];rotate_left
  ·rw[if_pos ⟨Ω,a0⟩]at c8;have uY:(0:Int)<args.length:=by have:=List.length_pos_iff.2 a0;omega
   subst c8;refine bj eN nh nA fun aR=>?_;unfold mx;simp[bU.kind,bU.num,bU.name,bU.args];((with_reducible repeat' first|refine aj ?_|refine aA (dx _ _ _) ?_|refine aB (dx _ _ _) ?_|refine aA (hq _) ?_|refine aB (hq _) ?_|simp[r4,uY]|((first|apply bL|apply bN|apply bM)<;>intro h<;>try simp at h))<;>(try exact cm));all_goals simp[bk,mn,aU,aW,aT]
  rw[if_neg (by simp[a0])]at c8;subst a0;simp at c8;subst c8;refine bj eN nh nA fun aR=>?_;unfold mx;simp[bU.kind,bU.num,bU.name,bU.args];(with_reducible repeat' first|refine aj ?_|refine aA (dx _ _ _) ?_|refine aB (dx _ _ _) ?_|refine aA (hq _) ?_|refine aB (hq _) ?_|simp[r4]);all_goals simp[bk,mn,aU,aW,aT]
 by_cases aP:k=1
 ·subst aP;have s0:s=[]:=Classical.byContradiction fun h=>cc ⟨Ω,h⟩;subst s0;by_cases a0:args=[];rotate_left
  ·rw[if_pos ⟨Ω,a0⟩]at c8;have uY:(0:Int)<args.length:=by have:=List.length_pos_iff.2 a0;omega
   subst c8;refine bj eN nh nA fun aR=>?_;unfold mx;simp[bU.kind,bU.num,bU.name,bU.args];((with_reducible repeat' first|refine aj ?_|refine aA (dx _ _ _) ?_|refine aB (dx _ _ _) ?_|refine aA (hq _) ?_|refine aB (hq _) ?_|simp[r4,uY]|((first|apply bL|apply bN|apply bM)<;>intro h<;>try simp at h))<;>(try exact cm));all_goals simp[bk,mn,aU,aW,aT]
  rw[if_neg (by simp[a0])]at c8;subst a0;simp at c8;subst c8;refine bj eN nh nA fun aR=>?_;unfold mx;simp[bU.kind,bU.num,bU.name,bU.args];(with_reducible repeat' first|refine aj ?_|refine aA (dx _ _ _) ?_|refine aB (dx _ _ _) ?_|refine aA (hq _) ?_|refine aB (hq _) ?_|simp[r4]);all_goals simp[bk,mn,aU,aW,aT]
 by_cases bd:k=2
 ·subst bd;have n0:n=0:=by simpa using CA (by decide)
  subst n0;by_cases a0:args=[];rotate_left
  ·rw[if_pos ⟨Ω,a0⟩]at c8;have uY:(0:Int)<args.length:=by have:=List.length_pos_iff.2 a0;omega
   subst c8;refine bj eN nh nA fun aR=>?_;unfold mx;simp[bU.kind,bU.num,bU.name,bU.args];((with_reducible repeat' first|refine aj ?_|refine aA (dx _ _ _) ?_|refine aB (dx _ _ _) ?_|refine aA (hq _) ?_|refine aB (hq _) ?_|simp[r4,uY]|((first|apply bL|apply bN|apply bM)<;>intro h<;>try simp at h))<;>(try exact cm));all_goals simp[bk,mn,aU,aW,aT]
  rw[if_neg (by simp[a0])]at c8;subst a0;simp at c8;subst c8;refine bj eN nh nA fun aR=>?_;unfold mx;simp[bU.kind,bU.num,bU.name,bU.args];(with_reducible repeat' first|refine aj ?_|refine aA (dx _ _ _) ?_|refine aB (dx _ _ _) ?_|refine aA (hq _) ?_|refine aB (hq _) ?_|simp[r4]);all_goals simp[bk,mn,aU,aW,aT]
 by_cases bS:k=3
 ·subst bS;have s0:s=[]:=Classical.byContradiction fun h=>cc ⟨Ω,h⟩;subst s0;by_cases a0:args=[];rotate_left
  ·rw[if_pos ⟨Ω,a0⟩]at c8;have uY:(0:Int)<args.length:=by have:=List.length_pos_iff.2 a0;omega
   subst c8;refine bj eN nh nA fun aR=>?_;unfold mx;simp[bU.kind,bU.num,bU.name,bU.args];((with_reducible repeat' first|refine aj ?_|refine aA (dx _ _ _) ?_|refine aB (dx _ _ _) ?_|refine aA (hq _) ?_|refine aB (hq _) ?_|simp[r4,uY]|((first|apply bL|apply bN|apply bM)<;>intro h<;>try simp at h))<;>(try exact cm));all_goals simp[bk,mn,aU,aW,aT]
  rw[if_neg (by simp[a0])]at c8;subst a0;simp at c8;subst c8;refine bj eN nh nA fun aR=>?_;unfold mx;simp[bU.kind,bU.num,bU.name,bU.args];(with_reducible repeat' first|refine aj ?_|refine aA (dx _ _ _) ?_|refine aB (dx _ _ _) ?_|refine aA (hq _) ?_|refine aB (hq _) ?_|simp[r4]);all_goals simp[bk,mn,aU,aW,aT]
 by_cases ea:k=4
 ·subst ea;have n0:n=0:=by simpa using CA (by decide)
  have s0:s=[]:=Classical.byContradiction fun h=>cc ⟨Ω,h⟩;subst n0 s0;simp at c8;match args,c8 with
  |[a,b],c8=>
   simp[bU.sz,bU.szL]at aH;have bm:=bR a Ω;have ab:=bR b Ω;simp only[v8]at c8;subst c8;refine bj eN nh nA fun aR=>?_;unfold mx;simp[bU.kind,bU.num,bU.name,bU.args];cases q:shp a with
   |true=>rw[q]at bm;(with_reducible repeat' first|refine aj ?_|refine aA bm ?_|refine aB bm ?_|refine aA ab ?_|refine aB ab ?_|simp[r4]);all_goals simp[bk,mn,aU,aW,aT]
   |false=>rw[q]at bm;(with_reducible repeat' first|refine aj ?_|refine aA bm ?_|refine aB bm ?_|refine aA ab ?_|refine aB ab ?_|simp[r4]);all_goals simp[bk,mn,aU,aW,aT]
  |[],c8=>simp only[v8]at c8;subst c8;refine bj eN nh nA fun aR=>?_;unfold mx;simp[bU.kind,bU.num,bU.name,bU.args];(with_reducible repeat' first|refine aj ?_|refine aA (dx _ _ _) ?_|refine aB (dx _ _ _) ?_|refine aA (hq _) ?_|refine aB (hq _) ?_|simp[r4]);all_goals simp[bk,mn,aU,aW,aT]
  |[_],c8=>simp only[v8]at c8;subst c8;refine bj eN nh nA fun aR=>?_;unfold mx;simp[bU.kind,bU.num,bU.name,bU.args];(with_reducible repeat' first|refine aj ?_|refine aA (dx _ _ _) ?_|refine aB (dx _ _ _) ?_|refine aA (hq _) ?_|refine aB (hq _) ?_|simp[r4]);all_goals simp[bk,mn,aU,aW,aT]
  |_::_::_::l,c8=>
   simp only[v8]at c8;have av:((l.length:Int)+1+1+1==2)=false:=by simp;omega
   subst c8;refine bj eN nh nA fun aR=>?_;unfold mx;simp[bU.kind,bU.num,bU.name,bU.args];(with_reducible repeat' first|refine aj ?_|refine aA (dx _ _ _) ?_|refine aB (dx _ _ _) ?_|refine aA (hq _) ?_|refine aB (hq _) ?_|simp[av]);all_goals simp[bk,mn,aU,aW,aT]
 have n0:(n !=0)=false:=CA (by simp[aP,bS]);have s0:s=[]:=Classical.byContradiction fun h=>cc ⟨bd,h⟩;subst s0;have We:(k==0)=false:=by simp[hk]
 have A7:(k==1)=false:=by simp[aP]
 have HH:(k==2)=false:=by simp[bd]
 have A8:(k==3)=false:=by simp[bS]
 have Wi:(k==4)=false:=by simp[ea]
 have Wf:(k !=1)=true:=by simp[aP]
 have Wg:(k !=2)=true:=by simp[bd]
 have Wh:(k !=3)=true:=by simp[bS]
 have Wj:(k !=4)=true:=by simp[ea]
 by_cases a0:args=[]
 ·subst a0;simp[hk,aP,bd,bS,ea]at c8;subst c8;refine bj eN nh nA fun aR=>?_;unfold mx;simp[bU.kind,bU.num,bU.name,bU.args];(with_reducible repeat' first|refine aj ?_|refine aA (dx _ _ _) ?_|refine aB (dx _ _ _) ?_|refine aA (hq _) ?_|refine aB (hq _) ?_|simp[We,A7,HH,A8,Wi,Wf,Wg,Wh,Wj,n0]);all_goals simp[bk,mn,aU,aW,aT]
 ·rw[if_pos ⟨ea,a0⟩]at c8;have uY:(0:Int)<args.length:=by have:=List.length_pos_iff.2 a0;omega
  subst c8;refine bj eN nh nA fun aR=>?_;unfold mx;simp[bU.kind,bU.num,bU.name,bU.args];((with_reducible repeat' first|refine aj ?_|refine aA (dx _ _ _) ?_|refine aB (dx _ _ _) ?_|refine aA (hq _) ?_|refine aB (hq _) ?_|simp[uY,We,A7,HH,A8,Wi,Wf,Wg,Wh,Wj,n0]|((first|apply bL|apply bN|apply bM)<;>intro h<;>try simp at h))<;>(try exact cm));all_goals simp[bk,mn,aU,aW,aT]
theorem Fk(t:bU):bQ ax 76 [enc t] (.bool t.fits):=by
 rw[agf];have ar:=aax t 5000 Ω Ω;have ag:=ap8 t.sz t (eu _);refine bj eN afx amB fun aR=>?_;unfold Sg;simp;by_cases q:l0 t 5000<=5000
 ·exact cp
 ·exact cp
def Wb(l:List dL)(i:Nat)(_:Unit):Prop:= ∀j,j<i->Bv l j
open Classical in
theorem aaD(l:List dL):bQ ax 164 [.slice 5 .no (l.map dL.e)] (.bool (decide (uX l))):=by
 generalize bA:decide (uX l)=R;refine bj eN afS amW fun aR=>?_;unfold SC;have h1:l.length<=68719476736:=by simp[gI,fZ,gz,lim]at aR;omega
 simp;refine dT [0,5,6] (fun i (_:Unit)=>[(7,.int .i64 i)]) l.length (Wb l) () bT (fun k ae=>Ω) (fun _ af _=>?_) (fun i _ hi af _=>?_)
 ·have:R=decide (l.length<=400):=by rw[<-bA,decide_eq_decide];exact⟨fun h=>h.1,fun h=>⟨h,fun j jL=>af j jL⟩⟩
  rw[this];simp;(with_reducible repeat' first|refine aj ?_|simp);simp[bk,Oy,aU,aW,aT];all_goals(first|done|omega|(simp;done)|(simp;omega))
 ·obtain⟨b,ab⟩:∃b,l[i]? =some b:=⟨_,bY hi⟩;obtain⟨c,ar⟩:∃c,l[i-1]? =some c:=⟨_,bY Ω⟩;have cD:∀h,(l[i]'h)=b:=fun h=>by rw[bY hi]at ab;exact eH ab
  have cB:¬Bv l i->R=false:=fun h=>by rw[<-bA,gn];exact fun cd=>h (cd.2 i hi)
  have dh:Bv l i->Wb l (i+1) ():=fun h j jL=>by
   by_cases e:j=i
   ·rw[e];exact h
   ·exact af j Ω
  simp[hi,cD,ar];((with_reducible repeat' first|refine aj ?_|refine aA (dx _ _ _) ?_|refine aB (dx _ _ _) ?_|refine aA (Fk _) ?_|refine aB (Fk _) ?_|simp[cD,ar,hi]|((first|apply bL|apply bN|apply bM)<;>intro h<;>try simp at h))<;>(try exact cm));all_goals first
   |(have au:¬Bv l i:=by(intro cd;have J:=cd b ab;have U:=J.2.1 c;have ao:=J.2.2;first|omega|(have a6:=U Ω ar;omega)|(rw[ao]at h;cases h)|(simp_all;done)|(simp_all;omega))
     rw[cB au]
     simp[bk,Oy,aU,aW,aT]
     done)
   |(refine bP.rng () hi (dh fun b1 gk=>?_) ?_
     ·rw[ab]at gk;cases gk
      refine⟨?_,fun cq bE hy=>?_,?_⟩
      ·omega
      ·rw[ar]at hy;cases hy;omega
      ·first|assumption|simp_all
     ·exact bT)
def np(n:Int):List Int->List Int
 |[]=>[n]
 |c::l=>if c<n then c::np n l else if c=n then c::l else n::c::l
def tD(l:List Int):Prop:=l.Pairwise (· < ·)
theorem VY(n:Int):∀(l:List Int) (k:Nat),(∀i c,i<k->l[i]? =some c->c<n)->(∀c,l[k]? =some c->n<=c)->k<=l.length->np n l=if l[k]? =some n then l else l.take k++n::l.drop k
 |[],k,_,_,ae=>by simp at ae;subst ae;rfl
 |c::l,0,_,U,_=>by
  have:=U c rfl;by_cases e:c=n
  ·simp[np,e]
  ·have ao:¬c<n:=Ω
   simp[np,ao,e]
 |c::l,k+1,J,U,ae=>by have bE:=J 0 c Ω rfl;simp only[np,if_pos bE,List.take_succ_cons,List.drop_succ_cons,bZ,List.getElem?_cons_succ];rw[VY n l k (fun i d hi aF=>J (i+1) d Ω (by simpa using aF)) (fun d aF=>U d (by simpa using aF)) (by simpa using ae)];split<;>rfl
theorem Nn{n m:Int}:∀{l:List Int},m∈np n l↔m=n\/m∈l
 |[]=>by simp[np]
 |c::l=>by
  simp only[np];split
  ·simp only[e7,Nn (l:=l)];constructor
   ·rintro(h|h|h)
    ·exact .inr (.inl h)
    ·exact .inl h
    ·exact .inr (.inr h)
   ·rintro(h|h|h)
    ·exact .inr (.inl h)
    ·exact .inl h
    ·exact .inr (.inr h)
  ·split
   ·rename_i h;subst h;simp
   ·simp
theorem VX{n:Int}:∀{l:List Int},tD l->tD (np n l)
 |[],_=>by simp[np,tD]
 |c::l,h=>by
  obtain⟨J,U⟩:=mU.1 h;simp only[np];split
  ·rename_i ao;refine mU.2 ⟨fun m hm=>?_,VX U⟩;rcases Nn.1 hm with rfl|hm
   ·exact ao
   ·exact J m hm
  ·split
   ·exact h
   ·refine mU.2 ⟨fun m hm=>?_,h⟩;rcases e7.1 hm with rfl|hm
    ·omega
    ·have:=J m hm;omega
theorem VZ(n:Int):∀l:List Int,(np n l).length<=l.length+1
 |[]=>by simp[np]
 |c::l=>by
  have:=VZ n l;simp only[np];split
  ·simp;omega
  ·split<;>simp
theorem DR(l:List Int)(i:Nat):(dV l)[i]? =(l[i]?).map (ak.int .i64):=by simp[dV]
theorem e5(l:List Int):(dV l).length=l.length:=by simp[dV]
theorem zv:∀l:List Int,c7 (dV l)=dV l
 |[]=>by simp[dV,c7]
 |a::l=>by have:=zv l;simp only[dV,ht,c7,eb]at this⊢;rw[this]
theorem HC(l:List Int)(n:Int)(k:Nat):c7 (pU k (dV l)++ak.int .i64 n::List.drop k (pU l.length (dV l)))=dV (pU k l++n::List.drop k l):=by
 have e:pU l.length (dV l)=dV l:=gw (by simp[dV]);have aG:pU k (dV l)++ak.int .i64 n::List.drop k (dV l)=dV (pU k l++n::List.drop k l):=by simp only[dV,r6,ht,List.map_take,List.map_drop]
 rw[e,aG];exact zv _
theorem ap7(l:List Int)(n:Int)(av:l.length<=1000000)(bm:tD l):bQ ax 230 [.slice 1 .no (dV l),.int .i64 n] (.slice 1 .no (dV (np n l))):=by
 refine bj eN afH amL fun aR=>?_;unfold Sr;simp;refine u9 [0,1] (fun(k:Nat)=>[(5,.int .i64 k)]) (fun k=>k) (fun k=>k<=l.length/\∀c,l[k]? =some c->n<=c) l.length bT ⟨Ω,fun c h=>by simp at h⟩ (fun k af _=>?_);obtain⟨ae,af⟩:=af;have tY:(∀c,0<k->l[k-1]? =some c->c<n)->np n l=if l[k]? =some n then l else l.take k++n::l.drop k:=fun h=>VY n l k (fun i c hi ar=>by
  obtain⟨d,aF⟩:∃d,l[k-1]? =some d:=⟨_,bY Ω⟩;have J:=h d Ω aF;rcases Nat.lt_or_ge i (k-1)with U|U
  ·have ua:=(eS.1 ar);have nk:=(eS.1 aF);have:=o2.1 bm i (k-1) ua.1 nk.1 U;rw[ua.2,nk.2]at this;omega
  ·have:i=k-1:=Ω
   subst this;rw[aF]at ar;cases ar;exact J) af ae
 have kR:∀c,l[k]? =some c->∀h,((dV l)[k]'h)= .int .i64 c:=fun c h cd=>by have:=DR l k;rw[h,bY cd]at this;exact eH this
 have dz:(0<k->∃d,l[k-1]? =some d/\d<n)->∀P:Prop,(np n l=(if l[k]? =some n then l else l.take k++n::l.drop k)->P)->P:=fun h P ahy=>ahy (tY fun c bE ar=>by obtain⟨d,aF,J⟩:=h bE;rw[aF]at ar;cases ar;exact J)
 rcases Nat.eq_zero_or_pos k with bE|eW
 ·have ba:decide ((0:Int)<k)=false:=by simp;omega
  refine dz (fun h=>Ω) _ fun e=>?_;by_cases gl:k<l.length
  ·obtain⟨c,ar⟩:∃c,l[k]? =some c:=⟨_,bY gl⟩;have hy:=kR c ar;rw[ar]at e;by_cases q:c=n
   ·have fX:(c==n)=true:=by simp[q]
    rw[if_pos (by rw[q])]at e;rw[e];simp[ba,gl];((with_reducible repeat' first|refine aj ?_|simp[ba,gl,hy,fX]|((first|apply bL|apply bN|apply bM)<;>intro h<;>try simp at h))<;>(try exact cm));all_goals simp[bk,zf,aU,aW,aT]
   ·have fX:(c==n)=false:=by simp[q]
    rw[if_neg (by simp[q])]at e;rw[e];simp[ba,gl];((with_reducible repeat' first|refine aj ?_|simp[ba,gl,hy,fX]|((first|apply bL|apply bN|apply bM)<;>intro h<;>try simp at h))<;>(try exact cm));all_goals simp[bk,zf,aU,aW,aT]
    all_goals exact HC l n k
  ·rw[pT Ω]at e;simp only[reduceCtorEq,if_false]at e;rw[e];simp[ba,gl];((with_reducible repeat' first|refine aj ?_|simp[ba,gl]|((first|apply bL|apply bN|apply bM)<;>intro h<;>try simp at h))<;>(try exact cm));all_goals simp[bk,zf,aU,aW,aT]
   all_goals exact HC l n k
 ·obtain⟨d,aF⟩:∃d,l[k-1]? =some d:=⟨_,bY Ω⟩;have aq:((k:Int)-1).toNat=k-1:=Ω
  have aG:∀h,((dV l)[k-1]'h)= .int .i64 d:=fun cd=>by have:=DR l (k-1);rw[aF,bY cd]at this;exact eH this
  have jg:(0:Int)<k:=Ω
  have mF:k-1<l.length:=Ω
  by_cases ab:n<=d
  ·simp[eW,jg,aq,aG,ab,mF];(with_reducible repeat' first|refine aj ?_|simp[eW,jg,aq,aG,ab,mF]);refine bP.whl (k-1) Ω ⟨Ω,fun c ar=>by rw[aF]at ar;cases ar;exact ab⟩ ?_;have bG:((k-1:Nat):Int)=(k:Int)-1:=Ω
   simp[bG];exact bT
  ·refine dz (fun _=>⟨d,aF,Ω⟩) _ fun e=>?_;by_cases gl:k<l.length
   ·obtain⟨c,ar⟩:∃c,l[k]? =some c:=⟨_,bY gl⟩;have hy:=kR c ar;rw[ar]at e;by_cases q:c=n
    ·have fX:(c==n)=true:=by simp[q]
     rw[if_pos (by rw[q])]at e;rw[e];simp[eW,jg,aq,aG,ab,mF,gl];((with_reducible repeat' first|refine aj ?_|simp[eW,jg,aq,aG,ab,mF,gl,hy,fX]|((first|apply bL|apply bN|apply bM)<;>intro h<;>try simp at h))<;>(try exact cm));all_goals simp[bk,zf,aU,aW,aT]
    ·have fX:(c==n)=false:=by simp[q]
     rw[if_neg (by simp[q])]at e;rw[e];simp[eW,jg,aq,aG,ab,mF,gl];(with_reducible repeat' first|refine aj ?_|simp[eW,jg,aq,aG,ab,mF,gl,hy,fX]);all_goals simp[bk,zf,aU,aW,aT]
     all_goals exact HC l n k
   ·rw[pT Ω]at e;simp only[reduceCtorEq,if_false]at e;rw[e];simp[eW,jg,aq,aG,ab,mF,gl];(with_reducible repeat' first|refine aj ?_|simp[eW,jg,aq,aG,ab,mF,gl]);all_goals simp[bk,zf,aU,aW,aT]
    all_goals exact HC l n k
end
end Go.Proofs.YtohaalphocaebaaGreat
