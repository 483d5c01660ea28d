/- Contracts: marks that are valid; names that occur. -/
import Derived.Shelf.Sort.Plain
import Derived.Ground.NamesProg
import Derived.Test.YtohaalphocaebaaGreatDoorProg
import Derived.Sort.OwnSortedInts
import Derived.Lib.OwnBridge
import Derived.Test.YtohaalphocaebaaGreatDoorE2
set_option linter.all false
set_option maxHeartbeats 4000000
set_option maxRecDepth 4000
open Bool renaming and_eq_true->cv,eq_iff_iff->qP,false_eq_true->hk,not_eq_true'->oJ,or_eq_true->mg
open Go.Op renaming bytesLess->h2
open Go.Proofs.Tryz renaming prog->aA
open Go.Value renaming cells->p5
open List renaming all_eq_true->fi,cons_append->bQ,drop_eq_getElem_cons->lA,getElem?_eq_getElem->cm,getElem?_eq_none->rq,getElem?_eq_some_iff->fG,getElem_of_mem->oL,length_append->pn,length_drop->tN,map_cons->hc,mem_append->h3,mem_cons->eU,mem_cons_of_mem->mh,mem_filter->hD,mem_map->hU,mem_of_getElem?->ek,mem_singleton->iG,nil_append->bU,pairwise_cons->nm,pairwise_iff_getElem->p6,take_of_length_le->hV
open List.Nodup renaming length_le_of_subset->Gb
open List.Pairwise renaming filter->Ku,imp_of_mem->arI,nil->av8,sublist->av9
open List.Perm renaming eq_of_pairwise->Q6,swap->awa
open List.cons renaming injEq->yn
open Nat renaming le_refl->eo,le_trans->hn,strongRecOn->qQ
open Ne renaming symm->lY
open Option renaming bind_eq_some_iff->hr,bind_some->hE,getD_none->jy,getD_some->ib,map_eq_some_iff->gB,map_some->nT
open Option.some renaming inj->eV,injEq->dD
open Prod.mk renaming injEq->kl
open _root_ renaming DecidableEq->nk,False->eI,beq_iff_eq->dO,congrArg->eW,decide_eq_false->jf,decide_eq_false_iff_not->gJ,decide_eq_true->hd,decide_eq_true_eq->eA
namespace Go.Pv
section
open Go
theorem acH{E:Int->Int->Prop}{x:Int}{r:Int->Nat}{M:Nat}(h:∀z u,z≠x->E z u->r u<r z)(ga:∀u,E x u->r u<M)(au:∀u,E x u->¬nU E u x):∃e2:Int->Nat,∀z u,E z u->e2 u<e2 z:=by
 classical
 refine⟨fun z=>if nU E z x then r z+M else r z,fun z u he=>?_⟩;show(if nU E u x then r u+M else r u)<(if nU E z x then r z+M else r z);by_cases a8:z=x
 ·subst a8;have I:=au u he;have U:=ga u he;rw[if_neg I,if_pos (nU.refl z)];omega
 ·have I:=h z u a8 he;by_cases hu:nU E u x
  ·rw[if_pos hu,if_pos (nU.step he hu)];omega
  ·rw[if_neg hu];split<;>omega
def n3(ph:Int->Option T)(ρ:Int->Int):Nat->Int->T
 |0,v=>.var (ρ v)
 |n+1,v=>match ph (ρ v)with
  |none=>.var (ρ v)
  |some t=>t.ap (n3 ph ρ n)
section
variable {ph:Int->Option T} {ρ:Int->Int} {r:Int->Nat}
theorem aeJ(ff:∀v,ρ (ρ v)=ρ v):∀(n:Nat) (v:Int),n3 ph ρ n v=n3 ph ρ n (ρ v)
 |0,v=>by simp[n3,ff]
 |n+1,v=>by simp[n3,ff]
theorem UG(ff:∀v,ρ (ρ v)=ρ v)(aN:∀z u,jP ph ρ z u->r u<r z):∀(n:Nat) (v:Int),r (ρ v)<n->n3 ph ρ n v=n3 ph ρ (n+1) v
 |0,_,h=>Ω
 |n+1,v,h=>by
  show(match ph (ρ v)with|none=>T.var (ρ v)|some t=>t.ap (n3 ph ρ n))=(match ph (ρ v)with|none=>T.var (ρ v)|some t=>t.ap (n3 ph ρ (n+1)));cases e:ph (ρ v)with
  |none=>rfl
  |some t=>refine mP fun w hw=>UG ff aN n w ?_;have:=aN (ρ v) (ρ w) ⟨ff v,t,w,e,hw,rfl⟩;omega
theorem UF(ff:∀v,ρ (ρ v)=ρ v)(aN:∀z u,jP ph ρ z u->r u<r z){n:Nat}{v:Int}(h:r (ρ v)<n):∀k,n3 ph ρ (n+k) v=n3 ph ρ n v
 |0=>rfl
 |k+1=>by rw[<-UF ff aN h k];exact(UG ff aN (n+k) v Ω).symm
def hx(ph:Int->Option T)(ρ:Int->Int)(r:Int->Nat)(v:Int):T:=n3 ph ρ (r (ρ v)+1) v
theorem A3(ff:∀v,ρ (ρ v)=ρ v)(v:Int):hx ph ρ r v=hx ph ρ r (ρ v):=by unfold hx;rw[aeJ ff,ff]
theorem DG{v:Int}(h:ph (ρ v)=none):hx ph ρ r v= .var (ρ v):=by simp[hx,n3,h]
theorem A4(ff:∀v,ρ (ρ v)=ρ v)(aN:∀z u,jP ph ρ z u->r u<r z){v:Int}{t:T}(h:ph (ρ v)=some t):hx ph ρ r v=t.ap (hx ph ρ r):=by show n3 ph ρ (r (ρ v)+1) v=_;simp only[n3,h];refine mP fun w hw=>?_;have I:=aN (ρ v) (ρ w) ⟨ff v,t,w,h,hw,rfl⟩;have:=UF ff aN (n:=r (ρ w)+1) (v:=w) Ω (r (ρ v)-(r (ρ w)+1));rw[show r (ρ w)+1+(r (ρ v)-(r (ρ w)+1))=r (ρ v)from by omega]at this;exact this
theorem ahQ(ff:∀v,ρ (ρ v)=ρ v)(aN:∀z u,jP ph ρ z u->r u<r z):kU ph ρ (hx ph ρ r):=⟨A3 ff,fun x t ab h=>A4 ff aN (by rw[ab];exact h)⟩
theorem J2{V:List Int}(hf:pw V ph){θ:Int->T}(h:kU ph ρ θ){z u:Int}(he:jP ph ρ z u):(θ u).size<(θ z).size:=by obtain⟨I,t,w,U,ao,rfl⟩:=he;rw[h.2 z t I U,<-h.1 w];exact(zC θ ao).2 (hf z t U).1
theorem J3{V:List Int}(hf:pw V ph){θ:Int->T}(h:kU ph ρ θ){z u:Int}(he:nU (jP ph ρ) z u):(θ u).size<=(θ z).size:=by
 induction he with
 |refl=>exact eo _
 |step I _ bK=>have:=J2 hf h I;omega
end
theorem adh(r:Int->Nat)(t:T):∃M,∀w,t.occ w=true->r w<M:=by
 induction t with
 |var n=>exact⟨r n+1,fun w hw=>by simp[T.occ]at hw;subst hw;omega⟩
 |pair a b dQ dR=>
  obtain⟨acr,I⟩:=dQ;obtain⟨acs,U⟩:=dR;refine⟨acr+acs,fun w hw=>?_⟩;simp only[T.occ,mg]at hw;rcases hw with hw|hw
  ·have:=I w hw;omega
  ·have:=U w hw;omega
 |_=>exact⟨0,fun w hw=>by simp[T.occ]at hw⟩
theorem Fz{ph:Int->Option T}{ρ:Int->Int}(ff:∀v,ρ (ρ v)=ρ v){x:Int}{r:Int->Nat}(h:∀z u,z≠x->jP ph ρ z u->r u<r z)(au:∀u,jP ph ρ x u->¬nU (jP ph ρ) u x):∃θ,kU ph ρ θ:=by
 have ga:∃M,∀u,jP ph ρ x u->r u<M:=by
  cases e:ph x with
  |none=>exact⟨0,fun u ⟨_,t,w,I,_⟩=>by rw[e]at I;cases I⟩
  |some t=>obtain⟨M,ga⟩:=adh (fun w=>r (ρ w)) t;refine⟨M,fun u ⟨_,dH,w,I,U,ao⟩=>?_⟩;rw[e]at I;cases I;subst ao;exact ga w U
 obtain⟨M,ga⟩:=ga;obtain⟨e2,dq⟩:=acH h ga au;exact⟨_,ahQ ff dq⟩
structure mO (c:bE) (ρ:Int->Int):Prop where
 ru:ko c.up ρ
 sh:pw (cz c.up) c.ph
 sat:∃θ,kU c.ph ρ θ
theorem mO.sm{c cr:bE}{ρ:Int->Int}(h:mO c ρ)(k:jB ρ c cr):mO cr ρ:=⟨k.ru,by rw[k.keys,k.ph];exact h.sh,by rw[k.ph];exact h.sat⟩
def jh(c:bE)(ρ:Int->Int):Nat:=((cz c.up).filter fun v=>decide (ρ v=v)).length+((cz c.up).filter fun v=>decide (ρ v=v)&& !(c.ph v).isSome).length
theorem yp{c cr:bE}{ρ:Int->Int}(k:jB ρ c cr):jh cr ρ=jh c ρ:=by unfold jh;rw[k.keys,k.ph]
structure jQ (c:bE) (ρ:Int->Int) (p:(Int->T)->Prop) (o:Bool×bE):Prop where
 keys:cz o.2.up=cz c.up
 rest:o.2.color=c.color/\o.2.size=c.size/\o.2.full=c.full
 yes:o.1=true->∃ρ',mO o.2 ρ'/\(∀θ,kU o.2.ph ρ' θ↔kU c.ph ρ θ/\p θ)/\((ρ'=ρ/\o.2.ph=c.ph)\/jh o.2 ρ'<jh c ρ)
 no:o.1=false->∀θ,kU c.ph ρ θ->¬p θ
theorem jB.rest{ρ:Int->Int}{c cr:bE}(h:jB ρ c cr):cr.color=c.color/\cr.size=c.size/\cr.full=c.full:=by rw[h.eq];exact⟨rfl,rfl,rfl⟩
theorem jQ.sm{c cr:bE}{ρ:Int->Int}{p:(Int->T)->Prop}{o:Bool×bE}(k:jB ρ c cr)(h:jQ cr ρ p o):jQ c ρ p o:=⟨h.keys.trans k.keys,by rw[h.rest.1,h.rest.2.1,h.rest.2.2];exact k.rest,fun e=>by rw[<-yp k,<-k.ph];exact h.yes e,by rw[<-k.ph];exact h.no⟩
theorem jQ.congr{c:bE}{ρ:Int->Int}{p q:(Int->T)->Prop}{o:Bool×bE}(kc:∀θ,kU c.ph ρ θ->(p θ↔q θ))(h:jQ c ρ p o):jQ c ρ q o:=⟨h.keys,h.rest,fun e=>by obtain⟨ρ',I,U,ao⟩:=h.yes e;exact⟨ρ',I,fun θ=>(U θ).trans (and_congr_right fun af=>kc θ af),ao⟩,fun e θ af bs=>h.no e θ af ((kc θ af).2 bs)⟩
theorem xU(c:bE)(x:Int)(t:T)(z:Int):(c.know x t).ph z=if z=x then some t else c.ph z:=by
 simp only[bE.ph,bE.know,bE.shd,bE.shp,nQ];by_cases h:z=x
 ·simp[h]
 ·simp only[if_neg h];exact ite_congr rfl (fun _=>rfl) fun _=>rfl
theorem XF{c:bE}{ρ:Int->Int}(hi:mO c ρ){x:Int}(ab:ρ x=x)(ae:x∈cz c.up)(ka:c.ph x=none){t:T}(aC:t.kind≠1)(az:∀w,t.occ w=true->w∈cz c.up):
  ∃N o,(∀n,N<=n->vZ n x t c=some o)/\jQ c ρ (fun θ=>θ x=t.ap θ) o:=by
 have hf:pw (cz (c.know x t).up) (c.know x t).ph:=by
  intro z u a8;rw[xU]at a8;split at a8
  ·rename_i e;cases a8;subst e;exact⟨aC,az,ae⟩
  ·exact hi.sh z u a8
 have iM:∀θ,kU (c.know x t).ph ρ θ↔kU c.ph ρ θ/\θ x=t.ap θ:=by
  intro θ;constructor
  ·rintro⟨I,U⟩;refine⟨⟨I,fun z u a8 hu=>U z u a8 ?_⟩,U x t ab (by rw[xU];simp)⟩;rw[xU];split
   ·rename_i e;subst e;rw[ka]at hu;cases hu
   ·exact hu
  ·rintro⟨⟨I,U⟩,ao⟩;refine⟨I,fun z u a8 hu=>?_⟩;rw[xU]at hu;split at hu
   ·rename_i e;subst e;cases hu;exact ao
   ·exact U z u a8 hu
 obtain⟨N,a,I,U,ao⟩:=JA (x:=x) (c:=c.know x t) (t:=t) hi.ru hf az;refine⟨N,(!a.found,a.c),fun n au=>by simp[vZ,I n au],U.keys,U.rest,fun aO=>?_,fun aO θ af he=>?_⟩
 ·simp only[oJ]at aO;have ajj:∀u,jP (c.know x t).ph ρ x u->¬nU (jP (c.know x t).ph ρ) u x:=by rintro u ⟨_,dH,w,aW,bj,rfl⟩ aN;rw[xU,if_pos rfl]at aW;cases aW;have:=ao.2 ⟨w,bj,aN⟩;rw[aO]at this;cases this
  obtain⟨jx,vS⟩:=hi.sat
  have ajy:=Fz (ph:=(c.know x t).ph) (ρ:=ρ) hi.ru.idem (x:=x) (r:=fun z=>(jx z).size) (fun z u a8 he=>by refine J2 hi.sh vS ?_;obtain⟨ar,dH,w,aE,bA⟩:=he;rw[xU,if_neg a8]at aE;exact⟨ar,dH,w,aE,bA⟩) ajj
  refine⟨ρ,⟨U.ru,?_,?_⟩,fun θ=>?_,.inr ?_⟩
  ·simp only[U.keys,U.ph];exact hf
  ·simp only[U.ph];exact ajy
  ·simp only[U.ph];exact iM θ
  ·simp only[yp U];unfold jh;have ar:cz (c.know x t).up=cz c.up:=rfl;rw[ar];have:=Hk (V:=cz c.up) (v:=x) (p:=fun v=>decide (ρ v=v)&& !(c.ph v).isSome) (q:=fun v=>decide (ρ v=v)&& !((c.know x t).ph v).isSome) (fun z _ a8=>by
    rw[xU]at a8;split at a8
    ·simp at a8
    ·exact a8) ae (by simp[ab,ka]) (by simp[xU])
   omega
 ·simp only[Bool.not_eq_false']at aO;obtain⟨w,aW,bj⟩:=ao.1 aO;have gb:=(iM θ).2 ⟨af,he⟩;have:=J3 hf gb bj;have a7:=(zC θ aW).2 aC;rw[<-he]at a7;rw[<-af.1 w]at this;omega
def jW(ρ:Int->Int)(x y:Int)(v:Int):Int:=if ρ v=y then x else ρ v
section
variable {c:bE} {ρ:Int->Int} {x y:Int}
theorem q9(ab:ρ x=x)(aB:ρ y=y)(ha:x≠y){z:Int}:jW ρ x y z=z↔ρ z=z/\z≠y:=by
 unfold jW;split
 ·rename_i e;constructor
  ·intro h;subst h;rw[ab]at e;exact absurd e ha
  ·rintro⟨I,U⟩;rw[I]at e;exact absurd e U
 ·rename_i e;constructor
  ·intro h;exact⟨h,fun aE=>e (by rw[aE,aB])⟩
  ·exact fun h=>h.1
theorem ko.join(h:ko c.up ρ)(ab:ρ x=x)(aB:ρ y=y)(ha:x<y)(EE:x∈cz c.up)(v7:y∈cz c.up):ko (c.join x y).up (jW ρ x y):=by
 have ae:cz (c.join x y).up=cz c.up:=ED v7;refine⟨fun v u az=>?_,fun v az=>?_⟩
 ·rw[ae];have lM:tg v (e8 y x c.up)=some u:=az;rw[nQ]at lM;by_cases e:v=y
  ·subst e;rw[if_pos rfl]at lM;cases lM;have bB:=(h.mem EE).2;rw[ab]at bB;refine⟨⟨bB,Ω,EE⟩,?_,⟨fun e=>?_,fun e=>Ω⟩⟩
   ·unfold jW;rw[ab,aB,if_pos rfl,if_neg Ω]
   ·have:=((q9 ab aB Ω).1 e).2;exact absurd rfl this
  ·rw[if_neg e]at lM;obtain⟨bF,a2,a3⟩:=h.up v u lM;refine⟨bF,by unfold jW;rw[a2],?_⟩;rw[q9 ab aB Ω,a3];exact⟨fun h=>h.1,fun h=>⟨h,e⟩⟩
 ·rw[ae]at az;have:=h.no v az;unfold jW;rw[this,if_neg fun e=>az (by rw[e];exact v7)]
theorem apN{ph:Int->Option T}(ab:ρ x=x)(aB:ρ y=y)(ha:x≠y)(θ:Int->T):(kU ph (jW ρ x y) θ/\∀t,ph y=some t->θ x=t.ap θ)↔(kU ph ρ θ/\θ x=θ y):=by
 constructor
 ·rintro⟨⟨I,U⟩,ao⟩;have Nv:θ y=θ x:=by have:=I y;simpa[jW,aB]using this
  refine⟨⟨fun v=>?_,fun z t a8 aC=>?_⟩,Nv.symm⟩
  ·have:=I v;unfold jW at this;split at this
   ·rename_i e;rw[e,this,Nv]
   ·exact this
  ·by_cases e:z=y
   ·subst e;rw[Nv];exact ao t aC
   ·exact U z t ((q9 ab aB ha).2 ⟨a8,e⟩) aC
 ·rintro⟨⟨I,U⟩,ao⟩;refine⟨⟨fun v=>?_,fun z t a8 aC=>U z t ((q9 ab aB ha).1 a8).1 aC⟩,fun t aC=>by rw[ao];exact U y t aB aC⟩;unfold jW;split
  ·rename_i e;rw[I v,e,ao]
  ·exact I v
theorem aoW{V:List Int}{ph:Int->Option T}(hf:pw V ph)(ab:ρ x=x)(aB:ρ y=y)(ha:x≠y){θ:Int->T}(h:kU ph ρ θ){z u:Int}(a8:z≠x)(he:jP ph (jW ρ x y) z u):(if u=x then 0 else(θ u).size)<(if z=x then 0 else(θ z).size):=by
 obtain⟨I,t,w,U,ao,rfl⟩:=he;have aN:=(q9 ab aB ha).1 I;rw[if_neg a8];split
 ·exact T.size_pos _
 ·rename_i cG;have:jW ρ x y w=ρ w:=by
   unfold jW at cG⊢;split
   ·rename_i e;rw[if_pos e]at cG;exact absurd rfl cG
   ·rfl
  rw[this];exact J2 hf h ⟨aN.1,t,w,U,ao,rfl⟩
theorem aco(ab:ρ x=x)(aB:ρ y=y)(ha:x≠y)(v7:y∈cz c.up):jh (c.join x y) (jW ρ x y)<jh c ρ:=by have ae:cz (c.join x y).up=cz c.up:=ED v7;have bG:(c.join x y).ph=c.ph:=rfl;unfold jh;rw[ae,bG];have I:=Hk (V:=cz c.up) (v:=y) (p:=fun v=>decide (ρ v=v)) (q:=fun v=>decide (jW ρ x y v=v)) (fun z _ a8=>by simp only[eA]at a8⊢;exact((q9 ab aB ha).1 a8).1) v7 (by simp[aB]) (by simp only[gJ];exact fun h=>((q9 ab aB ha).1 h).2 rfl);have U:=Hj (V:=cz c.up) (p:=fun v=>decide (ρ v=v)&& !(c.ph v).isSome) (q:=fun v=>decide (jW ρ x y v=v)&& !(c.ph v).isSome) (fun z _ a8=>by simp only[cv,eA]at a8⊢;exact⟨((q9 ab aB ha).1 a8.1).1,a8.2⟩);omega
end
theorem Cf{c:bE}{x:Int}(h:c.shd x=false):c.ph x=none:=by simp[bE.ph,h]
theorem Cg{c:bE}{x:Int}(h:¬c.shd x=false):c.ph x=some (c.shp x):=by simp[bE.ph];simpa using h
theorem Uv{c:bE}{ρ:Int->Int}(hi:mO c ρ){x y:Int}(ab:ρ x=x)(aB:ρ y=y)(ha:x<y)(EE:x∈cz c.up)(v7:y∈cz c.up)
  (rec:∀(bY:bE) (mf:Int->Int),mO bY mf->cz bY.up=cz c.up->jh bY mf<jh c ρ->∀a b:T,(∀w,a.occ w=true->w∈cz c.up)->(∀w,b.occ w=true->w∈cz c.up)->∃N o,(∀n,N<=n->gV n a b bY=some o)/\jQ bY mf (fun θ=>a.ap θ=b.ap θ) o):
  ∃N o,(∀n,N<=n->sA (gV n) n x y (c.join x y)=some o)/\jQ c ρ (fun θ=>θ x=θ y) o:=by
 have cG:x≠y:=Ω
 have ae:cz (c.join x y).up=cz c.up:=ED v7;have bG:(c.join x y).ph=c.ph:=rfl;have mY:=hi.ru.join ab aB ha EE v7;have de:=aco (c:=c) ab aB cG v7;have hf:pw (cz (c.join x y).up) (c.join x y).ph:=by rw[ae,bG];exact hi.sh
 obtain⟨jx,vS⟩:=hi.sat
 have H6:∀z u,z≠x->jP c.ph (jW ρ x y) z u->(fun z=>if z=x then 0 else(jx z).size) u<(fun z=>if z=x then 0 else(jx z).size) z:=fun z u a8 he=>aoW hi.sh ab aB cG vS a8 he;have iM:=fun θ=>apN (ph:=c.ph) ab aB cG θ;have WH:∀{cr:bE},jB (jW ρ x y) (c.join x y) cr->(∃θ,kU c.ph (jW ρ x y) θ)->c.ph y=none->jQ c ρ (fun θ=>θ x=θ y) (true,cr):=by intro cr k af au;refine⟨k.keys.trans ae,k.rest,fun _=>⟨jW ρ x y,⟨k.ru,by simp only[k.keys,k.ph];exact hf,by simp only[k.ph];exact af⟩,fun θ=>?_,.inr (by simp only[yp k];exact de)⟩,fun e=>by cases e⟩;simp only[k.ph,bG];rw[<-iM θ];exact⟨fun h=>⟨h,fun t aC=>by rw[au]at aC;cases aC⟩,fun h=>h.1⟩
 by_cases I:(c.join x y).shd y=false
 ·have Wt:c.ph y=none:=Cf I;by_cases U:(c.join x y).shd x=false
  ·have hy:c.ph x=none:=Cf U;refine⟨0,(true,c.join x y),fun n _=>by simp only[sA,if_pos I,if_pos U],WH (jB.refl mY) ?_ Wt⟩;exact Fz mY.idem (x:=x) H6 fun u ⟨_,t,w,q,_⟩=>by rw[hy]at q;cases q
  ·have o1:c.ph x=some ((c.join x y).shp x):=Cg U;obtain⟨N,a,ar,aE,bA⟩:=JA (x:=x) (c:=c.join x y) (t:=(c.join x y).shp x) mY hf (by rw[ae];exact(hi.sh _ _ o1).2.1);refine⟨N,(!a.found,a.c),fun n au=>by simp only[sA,if_pos I,if_neg U,ar n au,nT],?_⟩;cases aO:a.found with
   |false=>refine WH aE (Fz mY.idem (x:=x) H6 fun u ⟨_,t,w,aW,bj,bM⟩ aN=>?_) Wt;rw[o1]at aW;cases aW;subst bM;have:=bA.2 ⟨w,bj,aN⟩;rw[aO]at this;cases this
   |true=>refine⟨aE.keys.trans ae,aE.rest,(fun e=>by cases e),fun _ θ af he=>?_⟩;obtain⟨w,aW,bj⟩:=bA.1 aO;have gb:=((iM θ).2 ⟨af,he⟩).1;have ao:=J3 hi.sh gb bj;have a7:=(zC θ aW).2 (hi.sh _ _ o1).1;rw[<-gb.2 x _ ((q9 ab aB cG).2 ⟨ab,cG⟩) o1]at a7;rw[<-gb.1 w]at ao;omega
 ·have o2:c.ph y=some ((c.join x y).shp y):=Cg I;by_cases U:(c.join x y).shd x=false
  ·have hy:c.ph x=none:=Cf U;have mW:mO (c.join x y) (jW ρ x y):=⟨mY,hf,Fz mY.idem (x:=x) H6 fun u ⟨_,t,w,q,_⟩=>by rw[bG,hy]at q;cases q⟩;obtain⟨N,o,ar,aE⟩:=XF mW (x:=x) ((q9 ab aB cG).2 ⟨ab,cG⟩) (by rw[ae];exact EE) hy (t:=(c.join x y).shp y) (hi.sh _ _ o2).1 (by rw[ae];exact(hi.sh _ _ o2).2.1);refine⟨N,o,fun n au=>by simp only[sA,if_neg I,if_pos U,ar n au],aE.keys.trans ae,aE.rest,fun aO=>?_,fun aO θ af he=>?_⟩
   ·obtain⟨ρ',g1,g2,g3⟩:=aE.yes aO;refine⟨ρ',g1,fun θ=>?_,.inr ?_⟩
    ·rw[g2 θ,<-iM θ];refine and_congr_right fun _=>⟨fun h t aC=>by rw[o2]at aC;cases aC;exact h,fun h=>h _ o2⟩
    ·rcases g3 with⟨rfl,g3⟩|g3
     ·have:jh o.2 (jW ρ x y)=jh (c.join x y) (jW ρ x y):=by unfold jh;rw[aE.keys,g3]
      omega
     ·omega
   ·obtain⟨s1,s2⟩:=(iM θ).2 ⟨af,he⟩;exact aE.no aO θ s1 (s2 _ o2)
  ·have o1:c.ph x=some ((c.join x y).shp x):=Cg U;obtain⟨ic,a,ar,aE,bA⟩:=JA (x:=x) (c:=c.join x y) (t:=(c.join x y).shp y) mY hf (by rw[ae];exact(hi.sh _ _ o2).2.1);cases aO:a.found with
   |true=>refine⟨ic,(false,a.c),fun n au=>by simp only[sA,if_neg I,if_neg U,ar n au,hE,aO,if_true],aE.keys.trans ae,aE.rest,(fun e=>by cases e),fun _ θ af he=>?_⟩;obtain⟨w,aW,bj⟩:=bA.1 aO;obtain⟨gb,qt⟩:=(iM θ).2 ⟨af,he⟩;have ao:=J3 hi.sh gb bj;have a7:=(zC θ aW).2 (hi.sh _ _ o2).1;rw[<-qt _ o2]at a7;rw[<-gb.1 w]at ao;omega
   |false=>
    have WK:a.c.shp x=(c.join x y).shp x:=aE.shp x;obtain⟨jS,b,f1,f2,f3⟩:=JA (x:=x) (c:=a.c) (t:=(c.join x y).shp x) aE.ru (by rw[aE.keys,aE.ph];exact hf) (by rw[aE.keys,ae];exact(hi.sh _ _ o1).2.1);have dU:=aE.trans f2;cases aT:b.found with
    |true=>refine⟨max ic jS,(false,b.c),fun n au=>by simp only[sA,if_neg I,if_neg U,ar n Ω,hE,aO,WK,f1 n Ω,aT,if_true,hk,if_false],dU.keys.trans ae,dU.rest,(fun e=>by cases e),fun _ θ af he=>?_⟩;obtain⟨w,aW,bj⟩:=f3.1 aT;obtain⟨gb,_⟩:=(iM θ).2 ⟨af,he⟩;rw[aE.ph]at bj;have ao:=J3 hi.sh gb bj;have a7:=(zC θ aW).2 (hi.sh _ _ o1).1;rw[<-gb.2 x _ ((q9 ab aB cG).2 ⟨ab,cG⟩) o1]at a7;rw[<-gb.1 w]at ao;omega
    |false=>
     have Bg:mO b.c (jW ρ x y):=by refine⟨dU.ru,by rw[dU.keys,dU.ph];exact hf,?_⟩;rw[dU.ph];refine Fz mY.idem (x:=x) H6 fun u ⟨_,t,w,aW,bj,bM⟩ aN=>?_;rw[bG,o1]at aW;cases aW;subst bM;have:=f3.2 ⟨w,bj,by rw[aE.ph];exact aN⟩;rw[aT]at this;cases this
     obtain⟨Ar,o,g1,g2⟩:=rec b.c (jW ρ x y) Bg (dU.keys.trans ae) (by rw[yp dU];exact de) ((c.join x y).shp x) ((c.join x y).shp y) (hi.sh _ _ o1).2.1 (hi.sh _ _ o2).2.1;refine⟨max (max ic jS) Ar,o,fun n au=>?_,g2.keys.trans (dU.keys.trans ae),?_,fun cA=>?_,fun cA θ af he=>?_⟩
     ·simp only[sA,if_neg I,if_neg U,ar n Ω,hE,aO,WK,f1 n Ω,aT,hk,if_false,dU.shp];exact g1 n Ω
     ·rw[g2.rest.1,g2.rest.2.1,g2.rest.2.2];exact dU.rest
     ·obtain⟨ρ',aW,bj,bM⟩:=g2.yes cA;refine⟨ρ',aW,fun θ=>?_,.inr ?_⟩
      ·rw[bj θ,dU.ph,bG,<-iM θ];refine and_congr_right fun h=>?_;have:=h.2 x _ ((q9 ab aB cG).2 ⟨ab,cG⟩) o1;rw[<-this];exact⟨fun h t aC=>by rw[o2]at aC;cases aC;exact h,fun h=>h _ o2⟩
      ·have:jh b.c (jW ρ x y)<jh c ρ:=by rw[yp dU];exact de
       rcases bM with⟨rfl,bM⟩|bM
       ·have:jh o.2 (jW ρ x y)=jh b.c (jW ρ x y):=by unfold jh;rw[g2.keys,bM]
        omega
       ·omega
     ·obtain⟨s1,s2⟩:=(iM θ).2 ⟨af,he⟩;refine g2.no cA θ (by rw[dU.ph];exact s1) ?_;have:=s1.2 x _ ((q9 ab aB cG).2 ⟨ab,cG⟩) o1;rw[<-this];exact s2 _ o2
def vr:T->T->Nat
 | .var _,_=>1
 |_,.var _=>2
 |_,_=>0
theorem adN(K:Nat):∀(m:Nat) (c:bE) (ρ:Int->Int) (a b:T) (jx:Int->T),mO c ρ->kU c.ph ρ jx->(∀w,a.occ w=true->w∈cz c.up)->(∀w,b.occ w=true->w∈cz c.up)->jh c ρ=K->((a.ap jx).size+(b.ap jx).size)*3+vr a b=m->
  ∃N o,(∀n,N<=n->gV n a b c=some o)/\jQ c ρ (fun θ=>a.ap θ=b.ap θ) o:=by
 induction K using qQ with
 |ind K ajZ=>
 have WW:∀(bY:bE) (mf:Int->Int),mO bY mf->jh bY mf<K->∀a b:T,(∀w,a.occ w=true->w∈cz bY.up)->(∀w,b.occ w=true->w∈cz bY.up)->∃N o,(∀n,N<=n->gV n a b bY=some o)/\jQ bY mf (fun θ=>a.ap θ=b.ap θ) o:=by
  intro bY mf I U a b bk ad;obtain⟨θ,fl⟩:=I.sat
  exact ajZ _ U _ bY mf a b θ I fl bk ad rfl rfl
 intro m;induction m using qQ with
 |ind m BD=>
 intro c ρ a b jx hi vS bk ad de hm;have ai1:∀{a b:T},(∀n,gV (n+1) a b c=some (decide (a=b),c))->(∀θ,a.ap θ=a)->(∀θ,b.ap θ=b)->∃N o,(∀n,N<=n->gV n a b c=some o)/\jQ c ρ (fun θ=>a.ap θ=b.ap θ) o:=by
  intro a b I U ao;refine⟨1,(decide (a=b),c),fun n au=>?_,rfl,⟨rfl,rfl,rfl⟩,fun h=>?_,fun h θ _ he=>?_⟩
  ·obtain⟨n',rfl⟩:∃n',n=n'+1:=⟨n-1,Ω⟩;exact I n'
  ·simp only[eA]at h;subst h;exact⟨ρ,hi,fun θ=>⟨fun h=>⟨h,rfl⟩,fun h=>h.1⟩,.inl ⟨rfl,rfl⟩⟩
  ·simp only[gJ]at h;rw[U,ao]at he;exact h he
 have VZ:∀{a b:T},(∀n,gV (n+1) a b c=some (decide (a=b),c))->(∀θ,a.ap θ≠b.ap θ)->a≠b->∃N o,(∀n,N<=n->gV n a b c=some o)/\jQ c ρ (fun θ=>a.ap θ=b.ap θ) o:=by intro a b I U ao;refine⟨1,(false,c),fun n au=>?_,rfl,⟨rfl,rfl,rfl⟩,(fun h=>by cases h),fun _ θ _ he=>U θ he⟩;obtain⟨n',rfl⟩:∃n',n=n'+1:=⟨n-1,Ω⟩;rw[I n',jf ao]
 have s5:∀(i:Int) (b:T),b.kind≠1->(∀n,gV (n+1) (.var i) b c=(rt c i).bind fun p=>if p.2.shd p.1=false then vZ n p.1 b p.2 else gV n (p.2.shp p.1) b p.2)->i∈cz c.up->(∀w,b.occ w=true->w∈cz c.up)->((jx i).size+(b.ap jx).size)*3<m->∃N o,(∀n,N<=n->gV n (.var i) b c=some o)/\jQ c ρ (fun θ=>θ i=b.ap θ) o:=by
  intro i b pH V2 xG ad bD;obtain⟨bY,ar,aS⟩:=uZ hi.ru xG;have mW:=hi.sm aS;by_cases af:bY.shd (ρ i)=false
  ·obtain⟨N,o,aE,dm⟩:=XF mW (x:=ρ i) (hi.ru.idem i) (by rw[aS.keys];exact(hi.ru.mem xG).1) (Cf af) pH (by rw[aS.keys];exact ad);refine⟨N+1,o,fun n au=>?_,jQ.sm aS (jQ.congr (fun θ h=>?_) dm)⟩
   ·obtain⟨n',rfl⟩:∃n',n=n'+1:=⟨n-1,Ω⟩;rw[V2,ar];simp only[hE,if_pos af];exact aE n' Ω
   ·rw[<-h.1 i]
  ·have o1:bY.ph (ρ i)=some (bY.shp (ρ i)):=Cg af;have iM:∀θ,kU bY.ph ρ θ->θ i=(bY.shp (ρ i)).ap θ:=fun θ h=>by rw[h.1 i];exact h.2 _ _ (hi.ru.idem i) o1
   have hZ:=(mW.sh _ _ o1).1;have aiA:vr (bY.shp (ρ i)) b=0:=by cases e:bY.shp (ρ i)<;>cases b<;>simp_all[vr,T.kind]
   have WV:kU bY.ph ρ jx:=by rw[aS.ph];exact vS
   obtain⟨N,o,aE,dm⟩:=BD (((bY.shp (ρ i)).ap jx).size*3+(b.ap jx).size*3) (by rw[<-iM jx WV];omega) bY ρ (bY.shp (ρ i)) b jx mW WV (mW.sh _ _ o1).2.1 (by rw[aS.keys];exact ad) (by rw[yp aS];exact de) (by rw[aiA];omega);refine⟨N+1,o,fun n au=>?_,jQ.sm aS (jQ.congr (fun θ h=>?_) dm)⟩
   ·obtain⟨n',rfl⟩:∃n',n=n'+1:=⟨n-1,Ω⟩;rw[V2,ar];simp only[hE,if_neg af];exact aE n' Ω
   ·rw[iM θ h]
 have El:∀(i j:Int),i∈cz c.up->j∈cz c.up->∃N o,(∀n,N<=n->gV n (.var i) (.var j) c=some o)/\jQ c ρ (fun θ=>θ i=θ j) o:=by
  intro i j xG IE;obtain⟨bY,ar,aS⟩:=uZ hi.ru xG;obtain⟨cB,aE,bh⟩:=uZ aS.ru (by rw[aS.keys];exact IE:j∈cz bY.up);have uH:=aS.trans bh;have h9:=hi.sm uH;have vM:ρ i∈cz cB.up:=by rw[uH.keys];exact(hi.ru.mem xG).1
  have We:ρ j∈cz cB.up:=by rw[uH.keys];exact(hi.ru.mem IE).1
  have xw:∀(bY:bE) (mf:Int->Int),mO bY mf->cz bY.up=cz cB.up->jh bY mf<jh cB ρ->∀a b:T,(∀w,a.occ w=true->w∈cz cB.up)->(∀w,b.occ w=true->w∈cz cB.up)->∃N o,(∀n,N<=n->gV n a b bY=some o)/\jQ bY mf (fun θ=>a.ap θ=b.ap θ) o:=fun dE ρ3 I U ao a b bk ad=>WW dE ρ3 I (by rw[yp uH,de]at ao;exact ao) a b (by rw[U];exact bk) (by rw[U];exact ad);rcases Int.lt_trichotomy (ρ i) (ρ j)with h|h|h
  ·obtain⟨N,o,bA,iO⟩:=Uv h9 (hi.ru.idem i) (hi.ru.idem j) h vM We xw;refine⟨N+1,o,fun n au=>?_,jQ.sm uH (jQ.congr (fun θ h=>?_) iO)⟩
   ·obtain⟨n',rfl⟩:∃n',n=n'+1:=⟨n-1,Ω⟩;simp only[gV,ar,aE,hE];rw[if_neg Ω,if_neg Ω];exact bA n' Ω
   ·rw[h.1 i,h.1 j]
  ·refine⟨1,(true,cB),fun n au=>?_,uH.keys,uH.rest,fun _=>⟨ρ,h9,fun θ=>?_,.inl ⟨rfl,uH.ph⟩⟩,fun e=>by cases e⟩
   ·obtain⟨n',rfl⟩:∃n',n=n'+1:=⟨n-1,Ω⟩;simp only[gV,ar,aE,hE,if_pos h]
   ·simp only[uH.ph];exact⟨fun af=>⟨af,by rw[af.1 i,af.1 j,h]⟩,fun af=>af.1⟩
  ·obtain⟨N,o,bA,iO⟩:=Uv h9 (hi.ru.idem j) (hi.ru.idem i) h We vM xw;refine⟨N+1,o,fun n au=>?_,jQ.sm uH (jQ.congr (fun θ h=>?_) iO)⟩
   ·obtain⟨n',rfl⟩:∃n',n=n'+1:=⟨n-1,Ω⟩;simp only[gV,ar,aE,hE];rw[if_neg Ω,if_pos h];exact bA n' Ω
   ·rw[h.1 i,h.1 j];exact⟨Eq.symm,Eq.symm⟩
 have Bv:∀(a:T) (j:Int),a.kind≠1->(∀n,gV (n+1) a (.var j) c=gV n (.var j) a c)->(∀n,gV (n+1) (.var j) a c=(rt c j).bind fun p=>if p.2.shd p.1=false then vZ n p.1 a p.2 else gV n (p.2.shp p.1) a p.2)->j∈cz c.up->(∀w,a.occ w=true->w∈cz c.up)->((jx j).size+(a.ap jx).size)*3<m->∃N o,(∀n,N<=n->gV n a (.var j) c=some o)/\jQ c ρ (fun θ=>a.ap θ=θ j) o:=by intro a j I U ao IE bk bD;obtain⟨N,o,ar,cT⟩:=s5 j a I ao IE bk bD;refine⟨N+1,o,fun n au=>?_,jQ.congr (fun θ _=>⟨Eq.symm,Eq.symm⟩) cT⟩;obtain⟨n',rfl⟩:∃n',n=n'+1:=⟨n-1,Ω⟩;rw[U];exact ar n' Ω
 cases a with
 |var i=>
  have xG:i∈cz c.up:=bk i (by simp[T.occ]);cases b with
  |var j=>exact El i j xG (ad j (by simp[T.occ]))
  |_=>exact s5 i _ (by simp[T.kind]) (fun n=>rfl) xG ad (by simp only[T.ap,vr]at hm⊢;omega)
 |pair bF a2=>
  cases b with
  |var j=>exact Bv _ j (by simp[T.kind]) (fun n=>rfl) (fun n=>rfl) (ad j (by simp[T.occ])) bk (by simp only[T.ap,vr]at hm⊢;omega)
  |pair b1 b2=>
   have q0:∀p q:T,vr p q<=2:=fun p q=>by cases p<;>cases q<;>simp[vr]
   have l5:∀w,bF.occ w=true->w∈cz c.up:=fun w hw=>bk w (by simp[T.occ,hw]);have qY:∀w,a2.occ w=true->w∈cz c.up:=fun w hw=>bk w (by simp[T.occ,hw]);have kC:∀w,b1.occ w=true->w∈cz c.up:=fun w hw=>ad w (by simp[T.occ,hw]);have od:∀w,b2.occ w=true->w∈cz c.up:=fun w hw=>ad w (by simp[T.occ,hw]);simp only[T.ap,T.size,vr]at hm;have f1:=q0 bF b1;have f2:=q0 a2 b2;obtain⟨ic,hh,ar,cT⟩:=BD _ (by rw[<-hm];omega) c ρ bF b1 jx hi vS l5 kC de rfl;obtain⟨alK,bY⟩:=hh;cases alK with
   |false=>refine⟨ic+1,(false,bY),fun n au=>?_,cT.keys,cT.rest,(fun e=>by cases e),fun _ θ af he=>cT.no rfl θ af (by simp only[T.ap,T.pair.injEq]at he;exact he.1)⟩;obtain⟨n',rfl⟩:∃n',n=n'+1:=⟨n-1,Ω⟩;simp only[gV,ar n' Ω,hE,hk,if_false]
   |true=>
    obtain⟨mf,aW,bj,bM⟩:=cT.yes rfl;simp only at aW bj bM;have y3:cz bY.up=cz c.up:=cT.keys;have Ef:∃jS hb,(∀n,jS<=n->gV n a2 b2 bY=some hb)/\jQ bY mf (fun θ=>a2.ap θ=b2.ap θ) hb:=by
     rcases bM with⟨rfl,bM⟩|bM
     ·exact BD _ (by rw[<-hm];omega) bY mf a2 b2 jx aW (by rw[bM];exact vS) (by rw[y3];exact qY) (by rw[y3];exact od) (by unfold jh;rw[y3,bM];exact de) rfl
     ·exact WW bY mf aW Ω a2 b2 (by rw[y3];exact qY) (by rw[y3];exact od)
    obtain⟨jS,hb,aE,dm⟩:=Ef;refine⟨max ic jS+1,hb,fun n au=>?_,dm.keys.trans y3,?_,fun aO=>?_,fun aO θ af he=>?_⟩
    ·obtain⟨n',rfl⟩:∃n',n=n'+1:=⟨n-1,Ω⟩;simp only[gV,ar n' Ω,hE,if_true];exact aE n' Ω
    ·rw[dm.rest.1,dm.rest.2.1,dm.rest.2.2];exact cT.rest
    ·obtain⟨ρ2,s1,s2,s3⟩:=dm.yes aO;refine⟨ρ2,s1,fun θ=>?_,?_⟩
     ·rw[s2 θ,bj θ];simp only[T.ap,T.pair.injEq,and_assoc]
     ·rcases bM with⟨rfl,bM⟩|bM
      ·rcases s3 with⟨rfl,s3⟩|s3
       ·exact .inl ⟨rfl,s3.trans bM⟩
       ·have:jh bY mf=jh c mf:=by unfold jh;rw[y3,bM]
        exact .inr Ω
      ·rcases s3 with⟨rfl,s3⟩|s3
       ·have:jh hb.2 ρ2=jh bY ρ2:=by unfold jh;rw[dm.keys,s3]
        exact .inr Ω
       ·exact .inr Ω
    ·simp only[T.ap,T.pair.injEq]at he;exact dm.no aO θ ((bj θ).2 ⟨af,he.1⟩) he.2
  |_=>exact VZ (fun n=>rfl) (fun θ=>by simp[T.ap]) Ψ
 |_=>
  cases b with
  |var j=>exact Bv _ j (by simp[T.kind]) (fun n=>rfl) (fun n=>rfl) (ad j (by simp[T.occ])) bk (by simp only[T.ap,vr]at hm⊢;omega)
  |_=>first|exact ai1 (fun n=>rfl) (fun θ=>rfl) (fun θ=>rfl)|exact VZ (fun n=>rfl) (fun θ=>by simp[T.ap]) Ψ
end
section
open Go
def Aj(rec:Int->bE->Option (Bool×bE))(v:Int)(a:bE×Bool):Option (bE×Bool):=if a.2=true then(rt a.1 v).bind fun p=>(rec p.1 p.2).map fun q=>(q.2,q.1)else some a
def z7(v:Int)(c:bE):Option (Int×bE):=(rt c v).map fun p=>(p.2.sz p.1,p.2)
def bE.grey(c:bE)(x:Int):bE:={c with color:=e8 x 1 c.color,size:=e8 x 1 c.size}
def bE.black(c:bE)(x:Int):bE:={c with color:=e8 x 2 c.color}
def rp:Nat->Int->bE->Option (Bool×bE)
 |0,_,_=>none
 |n+1,x,c=>if c.col x=2 then some (true,c)else if c.col x=1 then some (false,c)else
   if(c.grey x).shd x=false then some (true,(c.grey x).black x)else
   (((c.grey x).shp x).foldO (Aj (rp n)) (c.grey x,true)).bind fun a=>if a.2=false then some (false,a.1)else
   (((a.1.shp x).sizeO z7 a.1).map fun p=>(true,{p.2 with size:=e8 x p.1 p.2.size}.black x))
def CS(rec:Int->bE->Option (T×bE))(v:Int)(c:bE):Option (T×bE):=(rt c v).bind fun p=>rec p.1 p.2
def rn:Nat->Int->bE->Option (T×bE)
 |0,_,_=>none
 |n+1,x,c=>match tg x c.full with
  |some t=>some (t,c)
  |none=>if c.shd x=false then some (.var x,{c with full:=e8 x (.var x) c.full})else
   ((c.shp x).mapO (CS (rn n)) c).map fun p=>(p.1,{p.2 with full:=e8 x p.1 p.2.full})
def tD(n:Nat):List Int->bE->List Int->Option (Option (List Int)×bE)
 |[],c,out=>some (some out,c)
 |v::bc,c,out=>(rt c v).bind fun p=>(rp n p.1 p.2).bind fun q=>if q.1=false then some (none,q.2)else
   if p.1=v/\q.2.shd p.1=false then tD n bc q.2 out else
   if 5000<q.2.sz p.1\/400<out.length+1 then some (none,q.2)else tD n bc q.2 (out++[v])
def z8(n:Nat):List Int->bE->Option (List ah×bE)
 |[],c=>some ([],c)
 |v::bc,c=>(rt c v).bind fun p=>(rn n p.1 p.2).bind fun q=>(z8 n bc q.2).map fun r=>(⟨v,q.1⟩::r.1,r.2)
def FK(n:Nat)(bc:List Int)(c:bE):Option (Option (List ah)):=(tD n bc c []).bind fun a=>match a.1 with
 |none=>some none
 |some out=>(z8 n out a.2).map fun r=>some r.1
def qV(n:Nat):List (T×T)->bE->Option (Bool×bE)
 |[],c=>some (true,c)
 |e::es,c=>(BT e.1 c).bind fun bY=>(BT e.2 bY).bind fun cB=>(gV n e.1 e.2 cB).bind fun p=>if p.1=true then qV n es p.2 else some (false,p.2)
theorem mO.rank{c:bE}{ρ:Int->Int}(h:mO c ρ):∃r:Int->Nat,∀z u,jP c.ph ρ z u->r u<r z:=by
 obtain⟨θ,fl⟩:=h.sat
 exact⟨fun z=>(θ z).size,fun z u he=>J2 h.sh fl he⟩
structure ve (V:List Int) (ph:Int->Option T) (ρ:Int->Int) (c:bE):Prop where
 ru:ko c.up ρ
 keys:cz c.up=V
 ph:c.ph=ph
theorem ve.sm{V:List Int}{ph:Int->Option T}{ρ:Int->Int}{c cr:bE}(h:ve V ph ρ c)(k:jB ρ c cr):ve V ph ρ cr:=⟨k.ru,k.keys.trans h.keys,k.ph.trans h.ph⟩
def cut(n:Nat):Int:=if 5001<(n:Int)then 5001 else n
section
variable {V:List Int} {ph:Int->Option T} {ρ:Int->Int} {r:Int->Nat}
theorem apC(F9:Int->T):∀(t:T) (c:bE),ve V ph ρ c->(∀w,t.occ w=true->w∈V/\c.sz (ρ w)=cut (F9 w).size)->∃cr,t.sizeO z7 c=some (cut (t.ap F9).size,cr)/\jB ρ c cr:=by
 intro t;induction t with
 |var v=>
  intro c h aC;obtain⟨az,a8⟩:=aC v (by simp[T.occ]);obtain⟨bY,I,U⟩:=uZ h.ru (by rw[h.keys];exact az:v∈cz c.up);refine⟨bY,?_,U⟩;have:bY.sz (ρ v)=cut (F9 v).size:=by rw[<-a8,U.eq];rfl
  simp only[T.sizeO,z7,I,nT,this,T.ap,dD,kl,and_true];unfold cut;split<;>omega
 |pair a b dQ dR=>
  intro c h aC;obtain⟨bY,I,aS⟩:=dQ c h fun w hw=>aC w (by simp[T.occ,hw]);obtain⟨cB,U,bh⟩:=dR bY (h.sm aS) fun w hw=>⟨(aC w (by simp[T.occ,hw])).1,by rw[<-(aC w (by simp[T.occ,hw])).2,aS.eq];rfl⟩;have ad:=T.size_pos (b.ap F9);simp only[T.sizeO,I,hE,T.ap,T.size];by_cases aq:5000<cut (a.ap F9).size
  ·rw[if_pos aq];refine⟨bY,?_,aS⟩;simp only[dD,kl,and_true];unfold cut at aq⊢;split at aq<;>split<;>(try split)<;>omega
  ·rw[if_neg aq,U];refine⟨cB,?_,aS.trans bh⟩;simp only[nT,dD,kl,and_true];unfold cut at aq⊢;split at aq<;>(repeat' split)<;>omega
 |_=>intro c h aC;exact⟨c,by simp[T.sizeO,T.ap,T.size,cut],jB.refl h.ru⟩
structure rA (V:List Int) (ph:Int->Option T) (ρ:Int->Int) (r:Int->Nat) (d:Nat) (c:bE):Prop where
 fin:ve V ph ρ c
 col:∀z,r z<d->c.col z=0\/(c.col z=2/\c.sz z=cut (hx ph ρ r z).size)
structure nX (ph:Int->Option T) (ρ:Int->Int) (r:Int->Nat) (d:Nat) (c cr:bE):Prop where
 full:cr.full=c.full
 hi:∀z,d<=r z->cr.col z=c.col z/\cr.sz z=c.sz z
 lo:∀z,c.col z=2->cr.col z=2/\cr.sz z=c.sz z
theorem nX.refl{c:bE}{d:Nat}:nX ph ρ r d c c:=⟨rfl,fun _ _=>⟨rfl,rfl⟩,fun _ h=>⟨h,rfl⟩⟩
theorem nX.trans{a b c:bE}{d:Nat}(h:nX ph ρ r d a b)(k:nX ph ρ r d b c):nX ph ρ r d a c:=⟨k.full.trans h.full,fun z a8=>⟨(k.hi z a8).1.trans (h.hi z a8).1,(k.hi z a8).2.trans (h.hi z a8).2⟩,fun z a8=>⟨(k.lo z (h.lo z a8).1).1,(k.lo z (h.lo z a8).1).2.trans (h.lo z a8).2⟩⟩
theorem nX.mono{a b:bE}{d cn:Nat}(aD:d<=cn)(h:nX ph ρ r d a b):nX ph ρ r cn a b:=⟨h.full,fun z a8=>h.hi z Ω,h.lo⟩
theorem nX.sm{c cr:bE}{d:Nat}(k:jB ρ c cr):nX ph ρ r d c cr:=by
 have ar:∀z,cr.col z=c.col z:=fun z=>by rw[k.eq];rfl
 have aE:∀z,cr.sz z=c.sz z:=fun z=>by rw[k.eq];rfl
 exact⟨k.rest.2.2,fun z _=>⟨ar z,aE z⟩,fun z h=>⟨by rw[ar];exact h,aE z⟩⟩
theorem rA.sm{c cr:bE}{d:Nat}(h:rA V ph ρ r d c)(k:jB ρ c cr):rA V ph ρ r d cr:=by
 have ar:∀z,cr.col z=c.col z:=fun z=>by rw[k.eq];rfl
 have aE:∀z,cr.sz z=c.sz z:=fun z=>by rw[k.eq];rfl
 exact⟨h.fin.sm k,fun z a8=>by rw[ar,aE];exact h.col z a8⟩
theorem art(hf:pw V ph)(ff:∀v,ρ (ρ v)=ρ v)(aN:∀z u,jP ph ρ z u->r u<r z)(d:Nat):∀(x:Int) (c:bE),r x<d->ρ x=x->x∈V->rA V ph ρ r d c->
  ∃N cr,(∀n,N<=n->rp n x c=some (true,cr))/\rA V ph ρ r d cr/\nX ph ρ r (r x+1) c cr/\cr.col x=2/\cr.sz x=cut (hx ph ρ r x).size:=by
 induction d using qQ with
 |ind d bK=>
 intro x c aD ab gX hw;rcases hw.col x aD with bB|⟨U,ao⟩;rotate_left
 ·refine⟨1,c,fun n au=>?_,hw,nX.refl,U,ao⟩;obtain⟨n',rfl⟩:∃n',n=n'+1:=⟨n-1,Ω⟩;simp only[rp,if_pos U]
 have yQ:∀z,(c.grey x).col z=if z=x then 1 else c.col z:=fun z=>by simp only[bE.grey,bE.col,nQ];split<;>rfl
 have DH:∀z,(c.grey x).sz z=if z=x then 1 else c.sz z:=fun z=>by simp only[bE.grey,bE.sz,nQ];split<;>rfl
 have A2:ve V ph ρ (c.grey x):=⟨hw.fin.ru,hw.fin.keys,hw.fin.ph⟩;have ajP:rA V ph ρ r (r x) (c.grey x):=⟨A2,fun z a8=>by
  have cG:z≠x:=fun e=>by subst e;omega
  rw[yQ,DH,if_neg cG,if_neg cG];exact hw.col z Ω⟩
 have D7:¬c.col x=2:=Ω
 have nC:¬c.col x=1:=Ω
 have fA:∀(e:bE) (z:Int),(e.black x).col z=(if z=x then 2 else e.col z):=fun e z=>by simp only[bE.black,bE.col,nQ];split<;>rfl
 by_cases af:(c.grey x).shd x=false
 ·have ka:ph x=none:=by rw[<-A2.ph];exact Cf af
  have aT:hx ph ρ r x= .var x:=by rw[DG (by rw[ab];exact ka),ab]
  have dY:∀z,((c.grey x).black x).sz z=if z=x then 1 else c.sz z:=DH
  refine⟨1,(c.grey x).black x,fun n au=>?_,⟨⟨A2.ru,A2.keys,A2.ph⟩,fun z a8=>?_⟩,⟨rfl,fun z a8=>?_,fun z a8=>?_⟩,?_,?_⟩
  ·obtain⟨n',rfl⟩:∃n',n=n'+1:=⟨n-1,Ω⟩;simp only[rp,if_neg D7,if_neg nC,if_pos af]
  ·rw[fA,dY,yQ];by_cases e:z=x
   ·subst e;simp only[if_true,aT];exact .inr ⟨trivial,by simp[T.size,cut]⟩
   ·simp only[if_neg e];exact hw.col z a8
  ·have e:z≠x:=fun e=>by subst e;omega
   rw[fA,dY,yQ];simp only[if_neg e];exact⟨trivial,trivial⟩
  ·have e:z≠x:=fun e=>by subst e;omega
   rw[fA,dY,yQ];simp only[if_neg e];exact⟨a8,trivial⟩
  ·rw[fA,if_pos rfl]
  ·rw[dY,if_pos rfl,aT];simp[T.size,cut]
 ·have ka:ph x=some ((c.grey x).shp x):=by rw[<-A2.ph];exact Cg af
  obtain⟨g1,g2,g3⟩:=hf _ _ ka;have aiC:∀(t:T) (e:bE),(∀w,t.occ w=true->((c.grey x).shp x).occ w=true)->rA V ph ρ r (r x) e->∃N fJ,(∀n,N<=n->t.foldO (Aj (rp n)) (e,true)=some (fJ,true))/\rA V ph ρ r (r x) fJ/\nX ph ρ r (r x) e fJ/\∀w,t.occ w=true->fJ.col (ρ w)=2/\fJ.sz (ρ w)=cut (hx ph ρ r w).size:=by
   intro t;induction t with
   |var v=>intro e mZ he;have az:=g2 v (mZ v (by simp[T.occ]));have xx:r (ρ v)<r x:=aN x (ρ v) ⟨ab,_,v,ka,mZ v (by simp[T.occ]),rfl⟩;obtain⟨ar,aW,aS⟩:=uZ he.fin.ru (by rw[he.fin.keys];exact az:v∈cz e.up);obtain⟨N,aE,bj,dV,dm,cB,s2⟩:=bK (r x) aD (ρ v) ar xx (ff v) (by rw[<-he.fin.keys];exact(he.fin.ru.mem (by rw[he.fin.keys];exact az)).1) (he.sm aS);refine⟨N,aE,fun n au=>by simp[T.foldO,Aj,aW,bj n au],dV,(nX.sm aS).trans (dm.mono Ω),fun w hw=>?_⟩;simp[T.occ]at hw;subst hw;exact⟨cB,by rw[s2,<-A3 ff]⟩
   |pair a b dQ dR=>
    intro e mZ he;obtain⟨ic,ar,aW,fP,cT,s1⟩:=dQ e (fun w hw=>mZ w (by simp[T.occ,hw])) he;obtain⟨jS,aE,bj,dV,dm,s2⟩:=dR ar (fun w hw=>mZ w (by simp[T.occ,hw])) fP;refine⟨max ic jS,aE,fun n au=>by simp only[T.foldO];rw[aW n Ω];exact bj n Ω,dV,cT.trans dm,fun w hw=>?_⟩;simp only[T.occ,mg]at hw;rcases hw with hw|hw
    ·obtain⟨lX,z2⟩:=s1 w hw;exact⟨(dm.lo _ lX).1,by rw[(dm.lo _ lX).2];exact z2⟩
    ·exact s2 w hw
   |_=>intro e _ he;exact⟨0,e,fun n _=>rfl,he,nX.refl,fun w hw=>by simp[T.occ]at hw⟩
  obtain⟨N,e,aW,fP,cT,s1⟩:=aiC ((c.grey x).shp x) (c.grey x) (fun w h=>h) ajP;have ajz:e.shp x=(c.grey x).shp x:=by
   have I:e.ph x=some ((c.grey x).shp x):=by rw[fP.fin.ph];exact ka
   unfold bE.ph at I;split at I
   ·exact eV I
   ·cases I
  obtain⟨aE,bj,bh⟩:=apC (V:=V) (ph:=ph) (ρ:=ρ) (hx ph ρ r) ((c.grey x).shp x) e fP.fin (fun w hw=>⟨g2 w hw,(s1 w hw).2⟩);have oj:hx ph ρ r x=((c.grey x).shp x).ap (hx ph ρ r):=A4 ff aN (by rw[ab];exact ka);have HZ:=cT.trans (nX.sm (ph:=ph) (r:=r) (d:=r x) bh);have dV:=fP.sm bh;let bA:bE:={aE with size:=e8 x (cut (hx ph ρ r x).size) aE.size}.black x
  have dE:∀z,bA.col z=if z=x then 2 else aE.col z:=fun z=>fA _ z
  have s3:∀z,bA.sz z=if z=x then cut (hx ph ρ r x).size else aE.sz z:=fun z=>by show(tg z (e8 x _ aE.size)).getD 0=_;rw[nQ];split<;>rfl
  refine⟨N+1,bA,fun n au=>?_,⟨⟨dV.fin.ru,dV.fin.keys,dV.fin.ph⟩,fun z a8=>?_⟩,⟨HZ.full,fun z a8=>?_,fun z a8=>?_⟩,by rw[dE,if_pos rfl],by rw[s3,if_pos rfl]⟩
  ·obtain⟨n',rfl⟩:∃n',n=n'+1:=⟨n-1,Ω⟩;simp only[rp,if_neg D7,if_neg nC,if_neg af,aW n' Ω,hE,Bool.true_eq_false,if_false,ajz,bj,nT,oj,bA]
  ·rw[dE,s3];by_cases oU:z=x
   ·subst oU;simp only[if_true];exact .inr ⟨trivial,trivial⟩
   ·simp only[if_neg oU];by_cases bD:r z<r x
    ·exact dV.col z bD
    ·obtain⟨bF,a2⟩:=HZ.hi z Ω;rw[bF,a2,yQ,DH,if_neg oU,if_neg oU];exact hw.col z a8
  ·have oU:z≠x:=fun e=>by subst e;omega
   obtain⟨bF,a2⟩:=HZ.hi z Ω;rw[dE,s3,if_neg oU,if_neg oU,bF,a2,yQ,DH,if_neg oU,if_neg oU];exact⟨rfl,rfl⟩
  ·have oU:z≠x:=fun e=>by subst e;omega
   obtain⟨bF,a2⟩:=HZ.lo z (by rw[yQ,if_neg oU];exact a8);rw[dE,s3,if_neg oU,if_neg oU,bF,a2,DH,if_neg oU];exact⟨rfl,rfl⟩
structure ss (V:List Int) (ph:Int->Option T) (ρ:Int->Int) (r:Int->Nat) (c:bE):Prop where
 fin:ve V ph ρ c
 full:∀x t,tg x c.full=some t->t=hx ph ρ r x
theorem ss.sm{c cr:bE}(h:ss V ph ρ r c)(k:jB ρ c cr):ss V ph ρ r cr:=⟨h.fin.sm k,by rw[k.rest.2.2];exact h.full⟩
theorem arq(hf:pw V ph)(ff:∀v,ρ (ρ v)=ρ v)(aN:∀z u,jP ph ρ z u->r u<r z)(d:Nat):∀(x:Int) (c:bE),r x<d->ρ x=x->x∈V->ss V ph ρ r c->
  ∃N cr,(∀n,N<=n->rn n x c=some (hx ph ρ r x,cr))/\ss V ph ρ r cr:=by
 induction d with
 |zero=>intro x c h;omega
 |succ d bK=>
 intro x c aD ab gX az;cases aO:tg x c.full with
 |some t=>refine⟨1,c,fun n au=>?_,az⟩;obtain⟨n',rfl⟩:∃n',n=n'+1:=⟨n-1,Ω⟩;simp only[rn,aO,az.full x t aO]
 |none=>
  have WA:∀(e:bE),ss V ph ρ r e->ss V ph ρ r {e with full:=e8 x (hx ph ρ r x) e.full}:=fun e he=>⟨⟨he.fin.ru,he.fin.keys,he.fin.ph⟩,fun z t a8=>by
   have o4:tg z (e8 x (hx ph ρ r x) e.full)=some t:=a8;rw[nQ]at o4;split at o4
   ·rename_i e;subst e;cases o4;rfl
   ·exact he.full z t o4⟩
  by_cases af:c.shd x=false
  ·have ka:ph x=none:=by rw[<-az.fin.ph];exact Cf af
   have aT:hx ph ρ r x= .var x:=by rw[DG (by rw[ab];exact ka),ab]
   refine⟨1,_,fun n au=>?_,WA c az⟩;obtain⟨n',rfl⟩:∃n',n=n'+1:=⟨n-1,Ω⟩;simp only[rn,aO,if_pos af,aT]
  ·have ka:ph x=some (c.shp x):=by rw[<-az.fin.ph];exact Cg af
   obtain⟨g1,g2,g3⟩:=hf _ _ ka;have ai6:∀(t:T) (e:bE),(∀w,t.occ w=true->(c.shp x).occ w=true)->ss V ph ρ r e->∃N fJ,(∀n,N<=n->t.mapO (CS (rn n)) e=some (t.ap (hx ph ρ r),fJ))/\ss V ph ρ r fJ:=by
    intro t;induction t with
    |var v=>intro e mZ he;have xB:=g2 v (mZ v (by simp[T.occ]));have xx:r (ρ v)<r x:=aN x (ρ v) ⟨ab,_,v,ka,mZ v (by simp[T.occ]),rfl⟩;obtain⟨ar,aW,aS⟩:=uZ he.fin.ru (by rw[he.fin.keys];exact xB:v∈cz e.up);obtain⟨N,aE,bj,dV⟩:=bK (ρ v) ar Ω (ff v) (by rw[<-he.fin.keys];exact(he.fin.ru.mem (by rw[he.fin.keys];exact xB)).1) (he.sm aS);exact⟨N,aE,fun n au=>by simp only[T.mapO,CS,aW,hE,bj n au,T.ap];rw[<-A3 ff],dV⟩
    |pair a b dQ dR=>intro e mZ he;obtain⟨ic,ar,aW,fP⟩:=dQ e (fun w hw=>mZ w (by simp[T.occ,hw])) he;obtain⟨jS,aE,bj,dV⟩:=dR ar (fun w hw=>mZ w (by simp[T.occ,hw])) fP;exact⟨max ic jS,aE,fun n au=>by simp only[T.mapO,aW n Ω,hE,bj n Ω,nT,T.ap],dV⟩
    |_=>intro e _ he;exact⟨0,e,fun n _=>rfl,he⟩
   obtain⟨N,e,aW,fP⟩:=ai6 (c.shp x) c (fun w h=>h) az;have oj:hx ph ρ r x=(c.shp x).ap (hx ph ρ r):=A4 ff aN (by rw[ab];exact ka);refine⟨N+1,_,fun n au=>?_,WA e fP⟩;obtain⟨n',rfl⟩:∃n',n=n'+1:=⟨n-1,Ω⟩;simp only[rn,aO,if_neg af,aW n' Ω,nT,oj]
def oR(ph:Int->Option T)(ρ:Int->Int)(v:Int):Bool:= !(decide (ρ v=v)&&(ph v).isNone)
theorem apF(hf:pw V ph)(ff:∀v,ρ (ρ v)=ρ v)(aN:∀z u,jP ph ρ z u->r u<r z)(h0:∀v∈V,ρ v∈V):∀(bc:List Int) (c:bE) (out:List Int),(∀v∈bc,v∈V)->(∀d,rA V ph ρ r d c)->out.length<=400->(∀v∈out,(hx ph ρ r v).size<=5000)->
  ∃N cr o,(∀n,N<=n->tD n bc c out=some (o,cr))/\ve V ph ρ cr/\cr.full=c.full/\(∀l,o=some l->l=out++bc.filter (oR ph ρ)/\l.length<=400/\∀v∈l,(hx ph ρ r v).size<=5000)/\(o=none->¬((out++bc.filter (oR ph ρ)).length<=400/\∀v∈out++bc.filter (oR ph ρ),(hx ph ρ r v).size<=5000)):=by
 intro bc;induction bc with
 |nil=>intro c out _ hw I U;exact⟨0,c,some out,fun n _=>rfl,(hw 0).fin,rfl,fun l e=>by cases e;simp;exact⟨I,U⟩,fun e=>by cases e⟩
 |cons v bc bK=>
  intro c out az hw I U;have xB:=az v Ψ;obtain⟨bY,aW,aS⟩:=uZ (hw 0).fin.ru (by rw[(hw 0).fin.keys];exact xB:v∈cz c.up);have zi:∀d,rA V ph ρ r d bY:=fun d=>(hw d).sm aS;obtain⟨ic,cB,bj,dV,dm,aE,s2⟩:=art hf ff aN (r (ρ v)+1) (ρ v) bY Ω (ff v) (h0 v xB) (zi _);have nF:∀d,rA V ph ρ r d cB:=fun d=>⟨dV.fin,fun z a8=>by
   by_cases bD:r z<r (ρ v)+1
   ·exact dV.col z bD
   ·obtain⟨bF,a2⟩:=dm.hi z Ω;rw[bF,a2];exact(zi d).col z a8⟩
  have MQ:cB.full=c.full:=dm.full.trans aS.rest.2.2;have WI:(cB.shd (ρ v)=false)=((ph (ρ v)).isNone=true):=by rw[<-dV.fin.ph];unfold bE.ph;cases cB.shd (ρ v)<;>simp
  have ku:∀n,ic<=n->tD n (v::bc) c out=(if ρ v=v/\cB.shd (ρ v)=false then tD n bc cB out else if 5000<cB.sz (ρ v)\/400<out.length+1 then some (none,cB)else tD n bc cB (out++[v])):=fun n au=>by simp only[tD,aW,hE,bj n au,Bool.true_eq_false,if_false]
  have Wa:hx ph ρ r (ρ v)=hx ph ρ r v:=(A3 ff v).symm;by_cases aq:ρ v=v/\cB.shd (ρ v)=false
  ·have ad:oR ph ρ v=false:=by have ao:=aq.2;rw[WI]at ao;rw[aq.1]at ao;simp[oR,aq.1,ao]
   obtain⟨jS,dE,o,bM,f3,rl,Ks,jZ⟩:=bK cB out (fun w hw=>az w (by simp[hw])) nF I U;refine⟨max ic jS,dE,o,fun n au=>by rw[ku n Ω,if_pos aq];exact bM n Ω,f3,rl.trans MQ,?_,?_⟩
   ·simp only[List.filter_cons,ad,hk,if_false];exact Ks
   ·simp only[List.filter_cons,ad,hk,if_false];exact jZ
  ·have ad:oR ph ρ v=true:=by
    cases e:oR ph ρ v with
    |true=>rfl
    |false=>simp only[oR,Bool.not_eq_false',cv,eA]at e;exact absurd ⟨e.1,by rw[WI,e.1];exact e.2⟩ aq
   by_cases aw:5000<cB.sz (ρ v)\/400<out.length+1
   ·refine⟨ic,cB,none,fun n au=>by rw[ku n au,if_neg aq,if_pos aw],dV.fin,MQ,(fun l e=>by cases e),fun _=>?_⟩;simp only[List.filter_cons,ad,if_true];rintro⟨bF,a2⟩;rcases aw with aw|aw
    ·rw[s2,Wa]at aw;have:=a2 v Ψ;unfold cut at aw;split at aw<;>omega
    ·simp at bF;omega
   ·have a8:(hx ph ρ r v).size<=5000:=by have:¬5000<cB.sz (ρ v):=fun h=>aw (.inl h);rw[s2,Wa]at this;unfold cut at this;split at this<;>omega
    obtain⟨jS,dE,o,bM,f3,rl,Ks,jZ⟩:=bK cB (out++[v]) (fun w hw=>az w (by simp[hw])) nF d7 (fun w hw=>by
     rcases h3.1 hw with hw|hw
     ·exact U w hw
     ·simp at hw;subst hw;exact a8)
    refine⟨max ic jS,dE,o,fun n au=>by rw[ku n Ω,if_neg aq,if_neg aw];exact bM n Ω,f3,rl.trans MQ,?_,?_⟩
    ·simp only[List.filter_cons,ad,if_true];simpa using Ks
    ·simp only[List.filter_cons,ad,if_true];simpa using jZ
theorem apG(hf:pw V ph)(ff:∀v,ρ (ρ v)=ρ v)(aN:∀z u,jP ph ρ z u->r u<r z)(h0:∀v∈V,ρ v∈V):∀(bc:List Int) (c:bE),(∀v∈bc,v∈V)->ss V ph ρ r c->∃N cr,∀n,N<=n->z8 n bc c=some (bc.map fun v=>⟨v,hx ph ρ r v⟩,cr):=by
 intro bc;induction bc with
 |nil=>intro c _ _;exact⟨0,c,fun n _=>rfl⟩
 |cons v bc bK=>intro c az hw;have xB:=az v Ψ;obtain⟨bY,aW,aS⟩:=uZ hw.fin.ru (by rw[hw.fin.keys];exact xB:v∈cz c.up);obtain⟨ic,cB,bj,dV⟩:=arq hf ff aN (r (ρ v)+1) (ρ v) bY Ω (ff v) (h0 v xB) (hw.sm aS);obtain⟨jS,dE,bM⟩:=bK cB (fun w hw=>az w (by simp[hw])) dV;refine⟨max ic jS,dE,fun n au=>?_⟩;simp only[z8,aW,hE,bj n Ω,bM n Ω,nT,hc];rw[<-A3 ff]
end
end
section
open Go
def bE.new:bE:=⟨[],[],[],[],[],[]⟩
def sc(l:List Int):List Int:=l.mergeSort fun x y=>decide (x<=y)
def CE(n:Nat)(E:List (T×T)):Option (Option (List ah)):=(qV n E bE.new).bind fun p=>if p.1=false then some none else FK n (sc (cz p.2.up)) p.2
theorem FN(l:List Int):(sc l).Perm l:=List.mergeSort_perm l _
theorem apT{l:List Int}(h:l.Nodup):(sc l).Pairwise (· < ·):=by have I:(sc l).Pairwise fun x y=>decide (x<=y)=true:=List.pairwise_mergeSort (fun a b c=>by simp;omega) (fun a b=>by simp;omega) l;have U:(sc l).Pairwise (· ≠ ·):=List.nodup_iff_pairwise_ne.1 ((FN l).nodup_iff.2 h);exact(I.and U).imp fun h=>by simp at h;omega
structure acu (c:bE) (ρ:Int->Int) (cr:bE) (YE:Int->Prop):Prop where
 inv:mO cr ρ
 ph:cr.ph=c.ph
 nd:(cz cr.up).Nodup
 sub:∀v∈cz c.up,v∈cz cr.up
 occ:∀v,YE v->v∈cz cr.up
 rest:cr.color=c.color/\cr.size=c.size/\cr.full=c.full
 new:∀v∈cz cr.up,v∈cz c.up\/YE v
theorem X2{ρ:Int->Int}(t:T):∀(c:bE),mO c ρ->(cz c.up).Nodup->(∀v,t.occ v=true->0<=v)->∃cr,BT t c=some cr/\acu c ρ cr fun v=>t.occ v=true:=by
 unfold BT;induction t with
 |var v=>
  intro c hi au bB;by_cases az:v∈cz c.up
  ·obtain⟨bY,aW,aS⟩:=uZ hi.ru az;refine⟨bY,by simp[T.foldO,aW],hi.sm aS,aS.ph,by rw[aS.keys];exact au,fun w hw=>by rw[aS.keys];exact hw,fun w hw=>?_,aS.rest,fun w hw=>.inl (by rw[aS.keys]at hw;exact hw)⟩;simp[T.occ]at hw;subst hw;rw[aS.keys];exact az
  ·obtain⟨aW,bj,bM⟩:=ao8 hi.ru (bB v (by simp[T.occ])) az;refine⟨{c with up:=e8 v v c.up},by simp only[T.foldO,aW,nT],⟨bj,?_,hi.sat⟩,rfl,?_,fun w hw=>by rw[bM];simp[hw],fun w hw=>?_,⟨rfl,rfl,rfl⟩,fun w hw=>?_⟩
   ·intro x u ab;obtain⟨bF,a2,a3⟩:=hi.sh x u ab;refine⟨bF,fun w hw=>?_,?_⟩
    ·show w∈cz (e8 v v c.up);rw[bM];simp[a2 w hw]
    ·show x∈cz (e8 v v c.up);rw[bM];simp[a3]
   ·rw[bM];rw[List.nodup_append];exact⟨au,Ψ,fun a bk b ad e=>by simp at ad;subst ad;subst e;exact az bk⟩
   ·simp[T.occ]at hw;subst hw;rw[bM];simp
   ·rw[bM]at hw;simp at hw;rcases hw with hw|rfl;exact .inl hw;exact .inr (by simp[T.occ])
 |pair a b dQ dR=>
  intro c hi au bB;obtain⟨bY,aW,m1⟩:=dQ c hi au fun v az=>bB v (by simp[T.occ,az]);obtain⟨cB,bj,m2⟩:=dR bY m1.inv m1.nd fun v az=>bB v (by simp[T.occ,az]);refine⟨cB,by simp only[T.foldO,aW,hE,bj],m2.inv,m2.ph.trans m1.ph,m2.nd,fun v az=>m2.sub v (m1.sub v az),fun v az=>?_,?_,fun v az=>?_⟩
  ·simp only[T.occ,mg]at az;rcases az with az|az
   ·exact m2.sub v (m1.occ v az)
   ·exact m2.occ v az
  ·rw[m2.rest.1,m2.rest.2.1,m2.rest.2.2];exact m1.rest
  ·rcases m2.new v az with h|h
   ·rcases m1.new v h with h|h
    ·exact .inl h
    ·exact .inr (by simp[T.occ,h])
   ·exact .inr (by simp[T.occ,h])
 |_=>intro c hi au bB;exact⟨c,rfl,hi,rfl,au,fun v az=>az,fun v az=>by simp[T.occ]at az,⟨rfl,rfl,rfl⟩,fun v az=>.inl az⟩
def OF(E:List (T×T)):Prop:= ∀e∈E,∀v,(e.1.occ v=true\/e.2.occ v=true)->0<=v
theorem Dr:∀(E:List (T×T)) (c:bE) (ρ:Int->Int),mO c ρ->(cz c.up).Nodup->OF E->∃N o,(∀n,N<=n->qV n E c=some o)/\((o.2.color=c.color/\o.2.size=c.size/\o.2.full=c.full)/\∀v∈cz o.2.up,v∈cz c.up\/ ∃e∈E,e.1.occ v=true\/e.2.occ v=true)/\(o.1=true->∃ρ',mO o.2 ρ'/\(cz o.2.up).Nodup/\∀θ,kU o.2.ph ρ' θ↔kU c.ph ρ θ/\iu E θ)/\(o.1=false->∀θ,kU c.ph ρ θ->¬iu E θ):=by
 intro E;induction E with
 |nil=>intro c ρ hi au _;exact⟨0,(true,c),fun n _=>rfl,⟨⟨rfl,rfl,rfl⟩,fun v az=>.inl az⟩,fun _=>⟨ρ,hi,au,fun θ=>⟨fun h=>⟨h,FM θ⟩,fun h=>h.1⟩⟩,fun e=>by cases e⟩
 |cons e E bK=>
  intro c ρ hi au bB;obtain⟨bY,aW,m1⟩:=X2 e.1 c hi au fun v az=>bB e Ψ v (.inl az);obtain⟨cB,bj,m2⟩:=X2 e.2 bY m1.inv m1.nd fun v az=>bB e Ψ v (.inr az);obtain⟨jx,vS⟩:=m2.inv.sat
  obtain⟨ic,hh,bM,iO⟩:=adN _ _ cB ρ e.1 e.2 jx m2.inv vS (fun w hw=>m2.sub w (m1.occ w hw)) (fun w hw=>m2.occ w hw) rfl rfl;have ka:cB.ph=c.ph:=m2.ph.trans m1.ph;have nE:hh.2.color=c.color/\hh.2.size=c.size/\hh.2.full=c.full:=by rw[iO.rest.1,iO.rest.2.1,iO.rest.2.2,m2.rest.1,m2.rest.2.1,m2.rest.2.2];exact m1.rest
  have HR:∀v∈cz hh.2.up,v∈cz c.up\/e.1.occ v=true\/e.2.occ v=true:=fun v az=>by
   rw[iO.keys]at az;rcases m2.new v az with h|h
   ·rcases m1.new v h with h|h
    ·exact .inl h
    ·exact .inr (.inl h)
   ·exact .inr (.inr h)
  obtain⟨f,dE⟩:=hh;cases f with
  |false=>refine⟨ic,(false,dE),fun n au=>?_,⟨nE,fun v az=>(HR v az).imp id fun h=>⟨e,Ψ,h⟩⟩,(fun e=>by cases e),fun _ θ af he=>iO.no rfl θ (by rw[ka];exact af) (sa.1 he).1⟩;simp only[qV,aW,bj,hE,bM n au,hk,if_false]
  |true=>
   obtain⟨mf,bF,a2,_⟩:=iO.yes rfl;simp only at bF a2;obtain⟨jS,hb,b1,b2,fy,np⟩:=bK dE mf bF (by have:=iO.keys;simp only at this;rw[this];exact m2.nd) fun fJ he=>bB fJ (by simp[he]);refine⟨max ic jS,hb,fun n au=>?_,?_,fun aO=>?_,fun aO θ af he=>?_⟩
   ·simp only[qV,aW,bj,hE,bM n Ω,if_true];exact b1 n Ω
   ·refine⟨by rw[b2.1.1,b2.1.2.1,b2.1.2.2];exact nE,fun v az=>?_⟩;rcases b2.2 v az with h|⟨fJ,I,U⟩
    ·exact(HR v h).imp id fun h=>⟨e,Ψ,h⟩
    ·exact .inr ⟨fJ,by simp[I],U⟩
   ·obtain⟨ρ2,d1,d2,d3⟩:=fy aO;exact⟨ρ2,d1,d2,fun θ=>by rw[d3 θ,a2 θ,ka,sa,and_assoc]⟩
   ·exact np aO θ ((a2 θ).2 ⟨by rw[ka];exact af,(sa.1 he).1⟩) (sa.1 he).2
theorem GA{ph:Int->Option T}{ρ:Int->Int}{v:Int}:oR ph ρ v=false↔ρ v=v/\ph v=none:=by simp[oR]
theorem VD{ph:Int->Option T}{ρ:Int->Int}{r:Int->Nat}(ff:∀v,ρ (ρ v)=ρ v):∀(n:Nat) (v w:Int),(n3 ph ρ n v).occ w=true->(∀z u,jP ph ρ z u->r u<r z)->r (ρ v)<n->ρ w=w/\ph w=none
 |0,v,w,_,_,h=>Ω
 |n+1,v,w,h,aN,au=>by
  simp only[n3]at h;cases e:ph (ρ v)with
  |none=>rw[e]at h;simp[T.occ]at h;subst h;exact⟨ff v,e⟩
  |some t=>rw[e]at h;obtain⟨u,I,U⟩:=B5.1 h;have:=aN (ρ v) (ρ u) ⟨ff v,t,u,e,I,rfl⟩;exact VD ff n u w U aN Ω
section
variable {V:List Int} {ph:Int->Option T} {ρ:Int->Int} {r:Int->Nat}
def u0(ph:Int->Option T)(ρ:Int->Int)(r:Int->Nat)(V:List Int):List ah:=((sc V).filter (oR ph ρ)).map fun v=>⟨v,hx ph ρ r v⟩
theorem P7(au:V.Nodup):gD (u0 ph ρ r V):=by unfold u0;rw[gD,List.pairwise_map];exact((apT au).filter _)
theorem aaF(au:V.Nodup)(hf:pw V ph)(cW:∀v,v∉V->ρ v=v)(v:Int):cO (u0 ph ρ r V) v=if oR ph ρ v then some (hx ph ρ r v)else none:=by
 by_cases ad:oR ph ρ v=true
 ·rw[if_pos ad];have az:v∈V:=by
   refine Classical.byContradiction fun h=>?_;have I:=cW v h;have U:ph v=none:=by cases e:ph v with
    |none=>rfl
    |some t=>exact absurd (hf v t e).2.2 h
   rw[GA.2 ⟨I,U⟩]at ad;cases ad
  have:(⟨v,hx ph ρ r v⟩:ah)∈u0 ph ρ r V:=hU.2 ⟨v,hD.2 ⟨(FN V).mem_iff.2 az,ad⟩,rfl⟩;exact oP (P7 au) this
 ·rw[if_neg ad];refine wX.2 fun b gn e=>?_;obtain⟨u,I,rfl⟩:=hU.1 gn;simp only at e;subst e;exact ad (hD.1 I).2
theorem apI(au:V.Nodup)(hf:pw V ph)(cW:∀v,v∉V->ρ v=v)(ff:∀v,ρ (ρ v)=ρ v)(hle:∀v,ρ v<=v)(aN:∀z u,jP ph ρ z u->r u<r z):eQ (u0 ph ρ r V):=by
 refine⟨P7 au,fun b ad w hw=>?_,fun b ad w hw=>?_⟩
 ·obtain⟨u,I,rfl⟩:=hU.1 ad;rw[aaF au hf cW];have:=VD ff _ u w hw aN Ω;rw[GA.2 this];rfl
 ·obtain⟨u,I,rfl⟩:=hU.1 ad;have od:=(hD.1 I).2;simp only at hw⊢;cases e:ph (ρ u)with
  |none=>
   rw[DG e]at hw;cases hw;have U:=hle u;have ao:ρ u≠u:=fun h=>by rw[GA.2 ⟨h,by rw[h]at e;exact e⟩]at od;cases od
   omega
  |some t=>rw[A4 ff aN e]at hw;have:=(hf _ _ e).1;cases t<;>simp[T.ap,T.kind]at hw this
theorem ahP(ff:∀v,ρ (ρ v)=ρ v)(aN:∀z u,jP ph ρ z u->r u<r z)(θ:Int->T):kU ph ρ θ↔∀v,θ v=(hx ph ρ r v).ap θ:=by
 constructor
 ·intro h;have:∀(n:Nat) (v:Int),r (ρ v)<n->θ v=(hx ph ρ r v).ap θ:=by
   intro n;induction n with
   |zero=>intro v h;omega
   |succ n bK=>
    intro v az;cases e:ph (ρ v)with
    |none=>rw[DG e];exact h.1 v
    |some t=>rw[A4 ff aN e,yz,h.1 v,h.2 _ t (ff v) e];refine mP fun w hw=>bK w ?_;have:=aN (ρ v) (ρ w) ⟨ff v,t,w,e,hw,rfl⟩;omega
  exact fun v=>this _ v (Nat.lt_succ_self _)
 ·intro h;refine⟨fun v=>by rw[h v,h (ρ v),<-A3 ff],fun x t ab aC=>?_⟩;rw[h x,A4 ff aN (by rw[ab];exact aC),yz];exact mP fun w _=>(h w).symm
theorem apH(au:V.Nodup)(hf:pw V ph)(cW:∀v,v∉V->ρ v=v)(ff:∀v,ρ (ρ v)=ρ v)(aN:∀z u,jP ph ρ z u->r u<r z)(θ:Int->T):df (u0 ph ρ r V) θ↔kU ph ρ θ:=by
 rw[ahP ff aN,Qa (P7 au)];refine forall_congr' fun v=>?_;rw[aV,aaF au hf cW];cases e:oR ph ρ v with
 |true=>simp
 |false=>obtain⟨I,U⟩:=GA.1 e;rw[DG (by rw[I];exact U),I];simp
end
theorem apO(E:List (T×T))(bB:OF E):∃n o,CE n E=some o/\jC [] E o/\∀c,qV n E bE.new=some (true,c)->(cz c.up).Nodup/\(∀v∈cz c.up,∃e∈E,e.1.occ v=true\/e.2.occ v=true)/\c.size=[]:=by
 have hi:mO bE.new id:=⟨⟨fun v u h=>by simp[bE.new,tg]at h,fun v _=>rfl⟩,fun x t h=>by simp[bE.new,bE.ph,bE.shd,tg]at h,⟨.var,fun v=>rfl,fun x t _ h=>by simp[bE.new,bE.ph,bE.shd,tg]at h⟩⟩;have qq:∀θ,kU bE.new.ph id θ:=fun θ=>⟨fun v=>rfl,fun x t _ h=>by simp[bE.new,bE.ph,bE.shd,tg]at h⟩;obtain⟨ic,hh,aW,cT,dm,iO⟩:=Dr E bE.new id hi (by simp[bE.new,cz]) bB;obtain⟨cT,Ch⟩:=cT;obtain⟨f,c⟩:=hh;cases f with
 |false=>refine⟨ic,none,by simp[CE,aW ic (eo _)],Gn fun θ _ he=>iO rfl θ (qq θ) he,fun c h=>?_⟩;rw[aW ic (eo _)]at h;cases h
 |true=>
  obtain⟨ρ,bF,a2,a3⟩:=dm rfl;simp only at bF a2 a3 cT Ch;have V6:∀n,ic<=n->∀cr,qV n E bE.new=some (true,cr)->(cz cr.up).Nodup/\(∀v∈cz cr.up,∃e∈E,e.1.occ v=true\/e.2.occ v=true)/\cr.size=[]:=fun n au cr h=>by rw[aW n au]at h;cases h;exact⟨a2,fun v az=>(Ch v az).resolve_left (by simp[bE.new,cz]),cT.2.1⟩
  obtain⟨r,aN⟩:=bF.rank;have ff:=bF.ru.idem;have h0:∀v∈cz c.up,ρ v∈cz c.up:=fun v az=>(bF.ru.mem az).1;have ds:ve (cz c.up) c.ph ρ c:=⟨bF.ru,rfl,rfl⟩;have hw:∀d,rA (cz c.up) c.ph ρ r d c:=fun d=>⟨ds,fun z _=>.inl (by simp[bE.col,cT.1,bE.new,tg])⟩;obtain⟨jS,cB,o,b1,b2,fy,np,b5⟩:=apF bF.sh ff aN h0 (sc (cz c.up)) c [] (fun v az=>(FN _).mem_iff.1 az) hw Ψ (fun v az=>by simp at az);have c9:=apI (r:=r) a2 bF.sh bF.ru.no ff bF.ru.le aN;have iM:∀θ,df (u0 c.ph ρ r (cz c.up)) θ↔df [] θ/\iu E θ:=fun θ=>by rw[apH a2 bF.sh bF.ru.no ff aN,a3 θ];exact⟨fun h=>⟨fun b ad=>by simp at ad,h.2⟩,fun h=>⟨qq θ,h.2⟩⟩
  have V8:fT (u0 c.ph ρ r (cz c.up))↔(([]++(sc (cz c.up)).filter (oR c.ph ρ)).length<=400/\∀v∈[]++(sc (cz c.up)).filter (oR c.ph ρ),(hx c.ph ρ r v).size<=5000):=by unfold fT u0;simp only[List.length_map,bU,hU,forall_exists_index,and_imp,forall_apply_eq_imp_iff₂]
  cases o with
  |none=>refine⟨max ic jS,none,by simp[CE,aW (max ic jS) Ω,FK,b1 (max ic jS) Ω],?_,V6 _ Ω⟩;exact fun ai I U ao=>b5 rfl (V8.1 (U4 c9 I (fun θ fl=>(iM θ).2 (U θ fl)) ao))
  |some l=>
   obtain⟨ar,aE,bA⟩:=np l rfl;have ajM:ss (cz c.up) c.ph ρ r cB:=⟨b2,fun x t h=>by rw[fy,cT.2.2]at h;simp[bE.new,tg]at h⟩;simp only[bU]at ar;obtain⟨Ar,dE,d1⟩:=apG bF.sh ff aN h0 l cB (fun v az=>by rw[ar]at az;exact(FN _).mem_iff.1 (hD.1 az).1) ajM;refine⟨max (max ic jS) Ar,some (u0 c.ph ρ r (cz c.up)),?_,⟨⟨c9,V8.2 ?_⟩,iM⟩,V6 _ Ω⟩
   ·simp only[CE,aW (max (max ic jS) Ar) Ω,hE,Bool.true_eq_false,if_false,FK,b1 (max (max ic jS) Ar) Ω,d1 (max (max ic jS) Ar) Ω,nT];rw[ar];rfl
   ·rw[bU,<-ar];exact⟨aE,bA⟩
def e0(s:List ah):List (T×T):=s.map fun b=>(.var b.v,b.t)
theorem u1{s:List ah}{θ:Int->T}:iu (e0 s) θ↔df s θ:=by simp[iu,e0,df,T.ap]
theorem acE{s:List ah}{E:List (T×T)}{o:Option (List ah)}:jC [] (e0 s++E) o↔jC s E o:=by
 have h:∀θ,(df [] θ/\iu (e0 s++E) θ)↔(df s θ/\iu E θ):=fun θ=>by rw[FL,u1];exact⟨fun h=>h.2,fun h=>⟨fun b ad=>by simp at ad,h⟩⟩
 exact⟨Aw h,Aw fun θ=>(h θ).symm⟩
end
section
open Go
open Classical in
noncomputable def mgu(s:List ah)(E:List (T×T)):Option (List ah):=if h:∃o,jC s E o then h.choose else none
theorem qz{s:List ah}{E:List (T×T)}{o:Option (List ah)}(h:jC s E o):mgu s E=o:=by have ab:∃o,jC s E o:=⟨o,h⟩;unfold mgu;rw[dif_pos ab];exact acF ab.choose_spec h
def k2(s:List ah):Prop:= ∀b∈s,(0<=b.v/\b.v<=100000)/\b.t.ok=true
theorem KU{θ:Int->T}{t:T}(aC:t.ok=true)(h:∀v,t.occ v=true->(θ v).ok=true):(t.ap θ).ok=true:=by
 induction t with
 |var n=>exact h n (by simp[T.occ])
 |pair a b dQ dR=>simp only[T.ok,cv]at aC;simp only[T.ap,T.ok,cv];exact⟨dQ aC.1 fun v az=>h v (by simp[T.occ,az]),dR aC.2 fun v az=>h v (by simp[T.occ,az])⟩
 |_=>exact aC
theorem yg{t:T}(aC:t.ok=true){v:Int}(h:t.occ v=true):0<=v/\v<=100000:=by
 induction t with
 |var n=>simp[T.occ]at h;subst h;simpa[T.ok]using aC
 |pair a b dQ dR=>
  simp only[T.ok,cv]at aC;simp only[T.occ,mg]at h;rcases h with h|h
  ·exact dQ aC.1 h
  ·exact dR aC.2 h
 |_=>simp[T.occ]at h
theorem FG{s:List ah}(af:k2 s){t:T}(aC:t.ok=true):(t.ap (aV s)).ok=true:=KU aC fun v az=>by
 unfold aV;cases e:cO s v with
 |none=>have:=yg aC az;simpa[T.ok]using this
 |some x=>exact(af _ (iX e)).2
theorem Db{s:List ah}(af:k2 s){v:Int}{t:T}(az:0<=v/\v<=100000)(aC:t.ok=true){ai:List ah}(h:oQ s v t=some ai):k2 ai:=by
 unfold oQ at h;split at h
 ·cases h;intro b ad;rcases rf.1 ad with rfl|⟨c,aq,rfl⟩
  ·exact⟨az,FG af aC⟩
  ·refine⟨(af c aq).1,KU (af c aq).2 fun w hw=>?_⟩;unfold one;split
   ·exact FG af aC
   ·have:=yg (af c aq).2 hw;simpa[T.ok]using this
 ·cases h
theorem abW{s:List ah}(af:k2 s){t:T}(aC:t.ok=true):(hS s t).ok=true:=by
 cases t with
 |var n=>have:=FG af aC;simpa[hS,T.ap]using this
 |_=>exact aC
theorem Qr:∀(n:Nat) (s:List ah) (a b:T) (ai:List ah),k2 s->a.ok=true->b.ok=true->ly n s a b=some (some ai)->k2 ai
 |0,_,_,_,_,_,_,_,h=>by simp[ly]at h
 |n+1,s,a,b,ai,af,bk,ad,h=>by
  have ab:=abW af bk;have aB:=abW af ad;simp only[ly]at h;generalize hS s a=x at h ab;generalize hS s b=y at h aB;have s5:∀{i:Int},(T.var i).ok=true->0<=i/\i<=100000:=fun h=>yg h (by simp[T.occ]);cases x with
  |var i=>
   cases y with
   |var j=>
    simp only[kQ,dD]at h;split at h
    ·exact Db af (s5 aB) ab h
    ·split at h
     ·cases h;exact af
     ·exact Db af (s5 ab) aB h
   |_=>simp only[kQ,dD]at h;exact Db af (s5 ab) aB h
  |pair bF a2=>
   cases y with
   |var j=>simp only[kQ,dD]at h;exact Db af (s5 aB) ab h
   |pair b1 b2=>
    simp only[T.ok,cv]at ab aB;simp only[kQ]at h;split at h
    ·cases h
    ·cases h
    ·rename_i s1 ar;exact Qr n s1 a2 b2 ai (Qr n s bF b1 s1 af ab.1 aB.1 ar) ab.2 aB.2 h
   |_=>simp[kQ]at h
  |_=>
   cases y with
   |var j=>simp only[kQ,dD]at h;exact Db af (s5 aB) ab h
   |_=>
    simp only[kQ,dD]at h;split at h
    ·cases h;exact af
    ·cases h
def oI:T->List Int
 | .var n=>[n]
 | .pair a b=>oI a++oI b
 |_=>[]
theorem zy{t:T}{v:Int}(h:t.occ v=true):v∈oI t:=by
 induction t with
 |var n=>simp[T.occ]at h;subst h;simp[oI]
 |pair a b dQ dR=>simp only[T.occ,mg]at h;simp only[oI,h3];exact h.imp dQ dR
 |_=>simp[T.occ]at h
theorem Kc{s:List ah}(af:eQ s)(aO:fT s)(a b:T):∃n o,ly n s a b=some o/\jC s [(a,b)] o:=by obtain⟨n,o,I,U⟩:=aa5 (s.flatMap (fun b=>b.v::oI b.t)++oI a++oI b) _ _ s a b af aO (fun c aq=>⟨by simp only[h3,List.mem_flatMap];exact .inl (.inl ⟨c,aq,Ψ⟩),fun w hw=>by simp only[h3,List.mem_flatMap];exact .inl (.inl ⟨c,aq,by simp[zy hw]⟩)⟩) (fun w hw=>by simp[zy hw]) (fun w hw=>by simp[zy hw]) rfl rfl;exact⟨n,o,I,U.1⟩
theorem Ri{s:List ah}{e:T×T}{E:List (T×T)}{s1:List ah}(h:jC s [e] (some s1)){o:Option (List ah)}(U:jC s1 E o):jC s (e::E) o:=KH (E:=[e]) h U
theorem wi{s:List ah}(af:eQ s)(aO:fT s)(E:List (T×T)):jC s E (mgu s E):=by
 induction E generalizing s with
 |nil=>rw[qz (KI af aO)];exact KI af aO
 |cons e E bK=>
  obtain⟨n,o,_,U⟩:=Kc af aO e.1 e.2;cases o with
  |none=>have ao:jC s (e::E) none:=Gp E U;rw[qz ao];exact ao
  |some s1=>have ao:=Ri U (bK U.1.1 U.1.2);rw[qz ao];exact ao
theorem ES{s:List ah}(af:eQ s)(aO:fT s):mgu s []=some s:=qz (KI af aO)
theorem Ou{s:List ah}(af:eQ s)(aO:fT s)(e:T×T)(E:List (T×T)):mgu s (e::E)=match mgu s [e]with|some s1=>mgu s1 E|none=>none:=by
 have I:=wi af aO [e];cases h:mgu s [e]with
 |none=>rw[h]at I;have ao:jC s (e::E) none:=Gp E I;exact qz ao
 |some s1=>rw[h]at I;exact qz (Ri I (wi I.1.1 I.1.2 E))
theorem pU{s:List ah}(af:eQ s)(aO:fT s){E:List (T×T)}{ai:List ah}(h:mgu s E=some ai):eQ ai/\fT ai:=by have I:=wi af aO E;rw[h]at I;exact I.1
theorem alo{s:List ah}(af:eQ s)(aO:fT s)(ax:k2 s){E:List (T×T)}(c3:∀e∈E,e.1.ok=true/\e.2.ok=true){ai:List ah}(h:mgu s E=some ai):k2 ai:=by
 induction E generalizing s with
 |nil=>rw[ES af aO]at h;cases h;exact ax
 |cons e E bK=>
  rw[Ou af aO]at h;split at h
  ·rename_i s1 I;obtain⟨n,o,U,ao⟩:=Kc af aO e.1 e.2;have a7:=qz ao;rw[I]at a7;subst a7;exact bK ao.1.1 ao.1.2 (Qr n s e.1 e.2 s1 ax (c3 e Ψ).1 (c3 e Ψ).2 U) (fun fJ he=>c3 fJ (by simp[he])) h
  ·cases h
theorem Xs{l:List Int}(au:l.Nodup)(h:∀v∈l,0<=v/\v<=100000):l.length<=100001:=by
 have I:(l.map Int.toNat).Nodup:=by rw[List.nodup_iff_pairwise_ne,List.pairwise_map];exact arI (fun{a b} bk ad cG e=>cG (by have:=h a bk;have:=h b ad;omega)) au
 have:=Gb I (l₂:=List.range 100001) (fun x ab=>by obtain⟨v,az,rfl⟩:=hU.1 ab;have:=h v az;simp;omega)
 simpa using this
end
end Go.Pv
namespace Go.Proofs.YtohaalphocaebaaGreatDoor
section
open Go Go.Pv
theorem Qc(p:Nat->Bool)(n:Nat)(hm:∀k bJ,k<=bJ->bJ<n->p k=true->p bJ=true):∀(m i j:Nat),j-i<=m->i<=j->j<=n->(∀k,k<i->p k=false)->(∀k,j<=k->k<n->p k=true)->
  (i<=ng p i j/\ng p i j<=j)/\(∀k,k<ng p i j->p k=false)/\(∀k,ng p i j<=k->k<n->p k=true)
 |m,i,j,aD,mv,ag,I,U=>by
  rw[ng];split
  ·rename_i bD;obtain⟨m,rfl⟩:∃iD,m=iD+1:=⟨m-1,Ω⟩;split
   ·rename_i bG;have:=Qc p n hm m i ((i+j)/2) Ω Ω Ω I (fun k ae HR=>hm _ k ae HR bG);exact⟨⟨this.1.1,Ω⟩,this.2⟩
   ·rename_i bG;have:=Qc p n hm m ((i+j)/2+1) j Ω Ω ag (fun k ae=>by
     by_cases mx:p k=true
     ·exact absurd (hm k ((i+j)/2) Ω Ω mx) bG
     ·simpa using mx) U
    exact⟨⟨Ω,this.1.2⟩,this.2⟩
  ·obtain rfl:i=j:=Ω
   exact⟨⟨eo _,eo _⟩,I,U⟩
theorem Jc{l:List ah}(af:gD l)(v:Int):r6 l v=cO l v:=by
 have bD:∀(i j:Nat) (x y:ah),i<j->l[i]? =some x->l[j]? =some y->x.v<y.v:=by intro i j x y mv ab aB;obtain⟨I,rfl⟩:=fG.1 ab;obtain⟨U,rfl⟩:=fG.1 aB;exact p6.1 af i j I U mv
 obtain⟨p,bG⟩:∃p:Nat->Bool,p=(fun i=>match l[i]? with|some b=>decide (v<=b.v)|none=>false):=⟨_,rfl⟩;have H0:∀i b,l[i]? =some b->p i=decide (v<=b.v):=fun i b ad=>by rw[bG];simp[ad]
 have hm:∀k bJ,k<=bJ->bJ<l.length->p k=true->p bJ=true:=by
  intro k bJ ae mx h;have ar:l[k]? =some l[k]:=cm Ω;have aE:l[bJ]? =some l[bJ]:=cm mx;rw[H0 k _ ar]at h;rw[H0 bJ _ aE];simp only[eA]at h⊢;rcases Nat.lt_or_eq_of_le ae with xt|rfl
  ·have:=bD k bJ _ _ xt ar aE;omega
  ·exact h
 obtain⟨⟨_,hle⟩,hbef,haft⟩:=Qc p l.length hm l.length 0 l.length Ω Ω (eo _) (fun k ae=>Ω) (fun k I U=>Ω);have MO:kB l v=(match l[ng p 0 l.length]? with|some b=>if b.v=v then((ng p 0 l.length:Nat):Int)else-1|none=> -1):=by rw[bG];rfl
 generalize ng p 0 l.length=r at hle hbef haft MO;by_cases hex:∃(k:Nat) (b:ah),l[k]? =some b/\b.v=v
 ·obtain⟨k,b,ad,VT⟩:=hex;have iz:k<l.length:=(fG.1 ad).1;have gQ:r<=k:=by
   rcases Nat.lt_or_ge k r with h|h
   ·have:=hbef k h;rw[H0 k b ad]at this;simp at this;omega
   ·exact h
  have aN:l[r]? =some l[r]:=cm Ω;have Bs:=haft r (eo _) Ω;rw[H0 r _ aN]at Bs;simp only[eA]at Bs;have ajv:r=k:=by
   rcases Nat.lt_or_eq_of_le gQ with h|h
   ·have:=bD r k _ _ h aN ad;omega
   ·exact h
  subst ajv;have MR:kB l v=r:=by rw[MO,ad];simp[VT]
  have I:r6 l v=some b.t:=by unfold r6;rw[MR,if_neg Ω];simp[ad]
  have U:l.find? (fun b=>b.v==v)=some b:=by
   rw[List.find?_eq_some_iff_getElem];refine⟨by simp[VT],r,iz,?_,fun j ag=>?_⟩
   ·rw[cm iz]at ad;simpa using ad
   ·have:=bD j r l[j] b ag (cm Ω) ad;simp;omega
  rw[I];simp[cO,U]
 ·have U:l.find? (fun b=>b.v==v)=none:=by rw[List.find?_eq_none];intro b ad;obtain⟨k,ae,rfl⟩:=List.mem_iff_getElem.1 ad;simp;intro e;exact hex ⟨k,l[k],cm ae,e⟩
  have MR:kB l v= -1:=by
   rw[MO];split
   ·rename_i b ad;rw[if_neg (fun e=>hex ⟨r,b,ad,e⟩)]
   ·rfl
  unfold r6;rw[MR];simp[cO,U]
theorem A0{l:List ah}(af:gD l)(v:Int):kB l v<0↔cO l v=none:=by
 rw[<-Jc af v];unfold r6;have I:=Mc l v;by_cases h:kB l v<0
 ·simp[h]
 ·simp only[h,if_false,false_iff];intro e;rw[Option.map_eq_none_iff,List.getElem?_eq_none_iff]at e;omega
def w7(s:List ah):Prop:= ∀b∈s,b.t.fit=true
theorem ag0{l:List ah}(af:gD l)(h:w7 l)(v:Int):vB l v=(aV l v).size:=by
 unfold vB aV;rw[Jc af];cases ad:cO l v with
 |none=>simp[T.size]
 |some x=>have:=h _ (iX ad);simp only[T.fit,cv,eA]at this;simp only[ib];rw[I2,if_pos ⟨this.1,Ω⟩]
theorem apD{l:List ah}(af:gD l)(h:w7 l)(t:T):ma (vB l) t=cut (t.ap (aV l)).size:=by
 induction t with
 |var n=>simp only[ma,ag0 af h,T.ap];rfl
 |pair a b dQ dR=>have ad:=T.size_pos (b.ap (aV l));simp only[ma,dQ,dR,T.ap,T.size];unfold cut;(repeat' split)<;>omega
 |_=>simp[ma,T.ap,T.size,cut]
theorem an0{l:List ah}(af:gD l)(h:w7 l)(t:T):uV l t=decide ((t.ap (aV l)).size<=5000):=by unfold uV;rw[apD af h];unfold cut;split<;>simp<;>omega
theorem an1{l:List ah}(af:gD l)(t:T):Fg l t=t.ap (aV l):=by unfold Fg;rw[aaT];exact mP fun v _=>by rw[Jc af];rfl
theorem FX(l:List ah)(t:T)(aw:l.length<=1000000)(af:gD l)(h:w7 l):bR aA 29 [.slice 5 .no (l.map ah.e),t.e] (.tuple [(if(t.ap (aV l)).size<=5000 then t.ap (aV l)else .nil).e,.bool (decide ((t.ap (aV l)).size<=5000))]):=by have:=aq7 l t aw;rw[an0 af h,an1 af]at this;simpa using this
def XU(l:List (Int×T)):List aj:=kv (l.map fun x=>(x.1,x.2.e))
@[simp]theorem auw:XU []=kv []:=rfl
@[simp]theorem au4(l:List (Int×T)):iq (XU l)=false:=rfl
def aaB(x:Int×T):Bool:= !(decide (x.2= .var x.1))
end
end Go.Proofs.YtohaalphocaebaaGreatDoor
namespace Go.Proofs
section
open Go.Shelf
def Tryz.lays191_ren:Go.Shelf.Ren:=⟨fun|191=>190|189=>208|125=>169|257=>217|128=>194|129=>195|294=>219|295=>220|296=>221|297=>222|298=>223|299=>224|216=>225|300=>226|301=>227|328=>228|329=>229|330=>230|331=>231|332=>232|215=>233|343=>234|n=>n,fun|28=>97|0=>0|3=>3|46=>117|51=>181|53=>170|4=>4|183=>204|182=>203|131=>161|5=>5|9=>9|218=>209|222=>194|228=>212|229=>198|n=>n,fun|n=>n⟩
theorem Tryz.lays191:Go.Proofs.Lays.n191 aA Tryz.lays191_ren:={
 mixed:=by kernel_rfl
 f125:=Tryz.func169.trans (eW some ci)
 f128:=Tryz.func194.trans (eW some ci)
 f129:=Tryz.func195.trans (eW some ci)
 f189:=Tryz.func208.trans (eW some ci)
 f191:=Tryz.func190.trans (eW some ci)
 f215:=Tryz.func233.trans (eW some ci)
 f216:=Tryz.func225.trans (eW some ci)
 f257:=Tryz.func217.trans (eW some ci)
 f294:=Tryz.func219.trans (eW some ci)
 f295:=Tryz.func220.trans (eW some ci)
 f296:=Tryz.func221.trans (eW some ci)
 f297:=Tryz.func222.trans (eW some ci)
 f298:=Tryz.func223.trans (eW some ci)
 f299:=Tryz.func224.trans (eW some ci)
 f300:=Tryz.func226.trans (eW some ci)
 f301:=Tryz.func227.trans (eW some ci)
 f328:=Tryz.func228.trans (eW some ci)
 f329:=Tryz.func229.trans (eW some ci)
 f330:=Tryz.func230.trans (eW some ci)
 f331:=Tryz.func231.trans (eW some ci)
 f332:=Tryz.func232.trans (eW some ci)
 f343:=Tryz.func234.trans (eW some ci)
 t0:=Tryz.underlying0
 a0:=Tryz.isAgg0
 z0:=Tryz.sizeOf0
 v0:=Tryz.zeroValue0
 t3:=Tryz.underlying3
 a3:=Tryz.isAgg3
 z3:=Tryz.sizeOf3
 v3:=Tryz.zeroValue3
 t4:=Tryz.underlying4
 a4:=Tryz.isAgg4
 z4:=Tryz.sizeOf4
 v4:=Tryz.zeroValue4
 t5:=Tryz.underlying5
 a5:=Tryz.isAgg5
 z5:=Tryz.sizeOf5
 v5:=Tryz.zeroValue5
 t9:=Tryz.underlying9
 a9:=Tryz.isAgg9
 z9:=Tryz.sizeOf9
 v9:=Tryz.zeroValue9
 t28:=Tryz.underlying97
 a28:=Tryz.isAgg97
 z28:=Tryz.sizeOf97
 v28:=Tryz.zeroValue97
 t46:=Tryz.underlying117
 a46:=Tryz.isAgg117
 z46:=Tryz.sizeOf117
 v46:=Tryz.zeroValue117
 t51:=Tryz.underlying181
 a51:=Tryz.isAgg181
 z51:=Tryz.sizeOf181
 v51:=Tryz.zeroValue181
 t53:=Tryz.underlying170
 a53:=Tryz.isAgg170
 z53:=Tryz.sizeOf170
 v53:=Tryz.zeroValue170
 t131:=Tryz.underlying161
 a131:=Tryz.isAgg161
 z131:=Tryz.sizeOf161
 v131:=Tryz.zeroValue161
 t182:=Tryz.underlying203
 a182:=Tryz.isAgg203
 z182:=Tryz.sizeOf203
 v182:=Tryz.zeroValue203
 t183:=Tryz.underlying204
 a183:=Tryz.isAgg204
 z183:=Tryz.sizeOf204
 v183:=Tryz.zeroValue204
 t218:=Tryz.underlying209
 a218:=Tryz.isAgg209
 z218:=Tryz.sizeOf209
 v218:=Tryz.zeroValue209
 t222:=Tryz.underlying194
 a222:=Tryz.isAgg194
 z222:=Tryz.sizeOf194
 v222:=Tryz.zeroValue194
 t228:=Tryz.underlying212
 a228:=Tryz.isAgg212
 z228:=Tryz.sizeOf212
 v228:=Tryz.zeroValue212
 t229:=Tryz.underlying198
 a229:=Tryz.isAgg198
 z229:=Tryz.sizeOf198
 v229:=Tryz.zeroValue198}
end
end Go.Proofs

namespace Go.Proofs.YtohaalphocaebaaGreatDoor
section
open Go Go.Pv
def eE(xs:List Int):List aj:=xs.map (aj.int .i64)
theorem aaj{w:World}{Z:bg}:∀{xs:List Int} {us:List Value},dK w Z 1 (eE xs) us->us=xs.map (Value.int .i64)
 |[],us,h=>by simpa[eE,dK]using h
 |x::xs,us,h=>by simp only[eE,hc,dK]at h;obtain⟨u,ck,rfl,⟨I,_,_⟩,U⟩:=h;simp only[be]at I;subst I;rw[aaj U];rfl
theorem W8(w:World)(Z:bg):∀xs:List Int,dK w Z 1 (eE xs) (xs.map (Value.int .i64))
 |[]=>by simp[eE,dK]
 |x::xs=>by simp only[eE,hc,dK];exact⟨.int .i64 x,_,rfl,⟨by simp[be],rfl,by intro c aq;simp[p5]at aq;subst aq;rfl⟩,W8 w Z xs⟩
def nV(K:Nat)(xs:List Int):cU:=⟨[],[(.obj K,⟨xs.length,3,1,some (eE xs)⟩)]⟩
theorem uM(S:aM->Prop)(xs:List Int):aP S (eE xs):=by
 induction xs with
 |nil=>simp[eE,aP]
 |cons x r bK=>simp only[eE,hc,aP,aK];exact⟨trivial,bK⟩
theorem KB(K:Nat)(xs:List Int):dP (nV K xs):=by unfold nV;refine dP.of ⟨by intro m;simp[Pv.look],by intro m;simp[Pv.look]⟩ Ψ ?_;intro x ab ys aB;simp at ab;subst ab;simp at aB;subst aB;exact uM _ xs
def sb(xs:List Int):List Int:=xs.mergeSort fun x y=>decide (x<=y)
theorem aaM(xs:List Int):(sb xs).length=xs.length:=List.length_mergeSort xs
theorem ahE(K:Nat)(xs:List Int)(aw:xs.length<=1000000):bL aA 190 [.row 1 (.obj K) xs.length] (nV K xs) fun r ai=>r= .tuple []/\ai=nV K (sb xs):=by
 refine bL.sem (KB K xs).obj fun w Z bc lh aN=>?_;refine .inl ⟨⟨Tryz.f190,Tryz.func190,by kernel_rfl,by kernel_rfl⟩,?_⟩;have sY:=aN.slot 0;simp only[kg,Pv.get,if_true]at sY;have lJ:Pv.look (.obj K) (nV K xs).e=some ⟨xs.length,3,1,some (eE xs)⟩:=by simp[nV,Pv.look]
 obtain⟨v,us,aW,bj,bM,cL⟩:=aN.good.own (.obj K) _ lJ;obtain⟨c2,mG,wA⟩:=cL _ rfl;have rS:=aaj mG;subst rS;simp only[be]at sY;obtain⟨⟨qf,adl,sN⟩,_,n',u,ar,aE,bA⟩:=sY;rw[aW]at ar;simp only[dD,kl]at ar;obtain⟨rfl,rfl⟩:=ar;have az:=bA rfl;have ajK:bc= #[v]:=by
  have I:bc.size=1:=by simpa using lh
  apply Array.ext (by simpa using I);intro i U ao;simp at ao;subst ao;rw[<-az];simp[Array.getD,I]
 have cG:v≠ .slice none 0 0:=by rw[<-az,sN];simp
 obtain⟨g,cap,rfl,_,rO,pJ,aiE,D0,DM⟩:=Lib.holds_of_ownsRow bj cG;have aq:=Any.sort_Ints Tryz.lays191 g 0 cap xs w DM rO Ω;subst ajK;refine aq.mono ?_;rintro e w' ⟨rfl,n,os,rfl⟩;have q4:=aaM xs;have mz:=Lib.ownsRow_putRow (q:=n) (k:=xs.length) (ys:=sb xs) bj q4 (eo _);rw[hV Ω]at mz;obtain⟨cT,dm,_⟩:=aN.setRowM (w':=Sort.putRow (Value.int .i64) (Sort.ahead w n) g 0 (sb xs).toArray) lJ rfl aW (bl:=g) rfl (v':= .slice (some ⟨g,0,none⟩) xs.length cap) rfl (xs':=eE (sb xs)) (us:=(sb xs).map (Value.int .i64)) (.inl ⟨by simp[eE,q4],rfl⟩) rfl rfl rfl
  (fun j ag=>by simp[Sort.putRow,Sort.mapBlock,Sort.ahead,Array.getElem?_modify,lY ag]) (by simp[Sort.putRow,Sort.mapBlock,Sort.ahead]) (by simpa[eE,q4]using mz) (W8 _ _ _)
 have iO:=cT.grown (w':=Sort.grow (Sort.putRow (Value.int .i64) (Sort.ahead w n) g 0 (sb xs).toArray) os) ⟨rfl,rfl,rfl,Ψ,fun k ae _=>Sort.heap_grow_old _ _ ae⟩;refine⟨_,_,_,_,.tuple [],nV K (sb xs),rfl,iO,by simp[be,cZ],by simp[nV,kI],?_,?_,?_,(KB K _).obj,by simp[aK,aP],rfl,rfl⟩
 ·simp[nV,kI,inObs,Pv.look]
 ·intro k cs ae;simp[nV,Pv.look]at ae
 ·intro k o ae;have hm:=uN ae;simp[nV]at hm;obtain⟨rfl,rfl⟩:=hm;refine⟨by simp[nV,Pv.look,cI,eE,q4],.inr (by simp[ae]),fun ys aB=>?_⟩;simp at aB;subst aB;exact uM _ _
def ml(l:List Int):List aj:=kv (l.map fun x=>(x,.bool true))
theorem nb(S:aM->Prop)(l:List Int):aP S (ml l):=by
 have:∀l:List Int,aP S (la (l.map fun x=>(x,.bool true))):=by
  intro l;induction l with
  |nil=>simp[la,aP]
  |cons x r bK=>simp[la,aP,bK,aK]
 simp[ml,kv,aP,this,aK]
def Gs(v:Int)(l:List Int):List Int:=if v∈l then l else l++[v]
theorem RB(k:Int):∀l:List Int,qd k (.bool true) (l.map fun x=>(x,aj.bool true))=if k∈l then some (l.map fun x=>(x,aj.bool true))else none
 |[]=>rfl
 |i::r=>by
  by_cases h:k=i
  ·simp[qd,h]
  ·by_cases U:k∈r<;>simp[qd,h,U,RB k r]
@[simp]theorem auP(k:Int)(l:List Int):ov .i (.int .i64 k) (.bool true) (ml l)=some (ml (Gs k l)):=by
 simp only[ml,Yp,Gw,RB,Gs];split<;>rename_i h
 ·split at h
  ·simp at h;subst h;simp[*]
  ·cases h
 ·split at h
  ·cases h
  ·simp[*]
@[simp]theorem arW:ml []=kv []:=rfl
@[simp]theorem au2(l:List Int):iq (ml l)=false:=rfl
@[simp]theorem avc(m:aM)(l:List Int):zP m (ml l)=some (cq l.length [] m):=by simp[ml]
theorem alb(f:aM->Option (List aj))(fL mk:aM)(n:Nat)(seen:List Nat)(b:Nat)(l:List Int)(x:Int)(hi:f fL=some (cq n (seen++[b]) mk))(hm:f mk=some (ml l))(au:n=l.length)(ab:l[b]? =some x):qy f (.ptr fL 0)=some (True,.tuple [.int .i64 x,.bool true]):=by rw[X4 f fL mk n seen b _ hi hm (by simpa using au)];simp[ab]
theorem adU{st:bt}{d:Nat}{K:bt->Prop}{fL mk:aM}{n:Nat}{seen:List Nat}{l:List Int}(hi:Pv.look fL st.b=some (cq n seen mk))(hm:Pv.look mk st.b=some (ml l))(au:n=l.length)
  (I:(∀b,b<l.length->b∈seen)->K {st with t:=Pv.put d (.tuple [.bool false]) st.t}) (U:∀b x,l[b]? =some x->b∉seen->K {st with t:=Pv.put d (.tuple [.bool true,.int .i64 x,.bool true]) st.t,b:=cI fL (cq n (seen++[b]) mk) st.b}):
  uf st d (.ptr fL 0) K:=by
 refine UC hi hm (by simpa using au) (fun h=>I fun b ad=>h b Ω) (fun b k v ad af=>?_);simp only[List.getElem?_map,gB]at ad;obtain⟨x,ar,aE⟩:=ad;simp only[kl]at aE;obtain⟨rfl,rfl⟩:=aE;exact U b x ar af
def _root_.Go.Pv.T.fold{α:Type}(f:Int->α->α):T->α->α
 | .var n,a=>f n a
 | .pair x y,a=>y.fold f (x.fold f a)
 |_,a=>a
theorem Vl{α:Type}(S:α->cU)(c9:∀a,dP (S a))(dU:∀a b,Same (S a) (S b))(g:Nat)(dv:List aj)(aq:∀a,aP (inObs (S a)) dv)(da:du dv=dv)(f:Int->α->α)(aO:∀v a,bL aA g (.int .i64 v::dv) (S a) fun r ai=>r= .tuple []/\ai=S (f v a))(t:T):
  ∀a,bL aA 107 [t.e,.func g dv] (S a) fun r ai=>r= .tuple []/\ai=S (t.fold f a):=by
 have au:∀a m,Pv.look (.loc m) (S a).b=none:=fun a=>(c9 a).obj.1;have hu:∀a m cs,cI (.loc m) cs (S a).b=(S a).b++[(.loc m,cs)]:=fun a m cs=>kR (au a m);have ax:∀a m,aM.loc m∉dc (S a):=fun a=>kM (c9 a).obj;induction t with
 |pair x y qv ta=>intro a;have af:=c9 a;refine bL.mk mixed fY Tryz.func107 B7 Ψ af.obj fun aR cN=>?_;unfold yC;simp[hu,ax,cX,au,da];(with_reducible repeat' first|refine ak ?_|simp[hu,ax,cX,au]);refine cY.ob (qv a) af aL aL g9 ?_;rintro r ai ⟨rfl,rfl⟩;refine⟨dU _ _,?_⟩;simp[hC,jw,cc,au];(with_reducible repeat' first|refine ak ?_|simp[hu,ax,cX,au]);rw[da];refine cY.ob (ta (x.fold f a)) (c9 (x.fold f a)) aL aL g9 ?_;rintro r ai ⟨rfl,rfl⟩;refine⟨dU _ _,?_⟩;simp[hC,jw,cc,au];refine cR.at (S (y.fold f (x.fold f a))) (.inr rfl) (c9 _) (dU _ _) aL aL ?_;simp[cV,aY,a6,aX];simp[T.fold]
 |var n=>intro a;have af:=c9 a;refine bL.mk mixed fY Tryz.func107 B7 Ψ af.obj fun aR cN=>?_;unfold yC;simp[hu,ax,cX,au,da];(with_reducible repeat' first|refine ak ?_|simp[hu,ax,cX,au]);refine cY.ob (aO n a) af aL aL g9 ?_;rintro r ai ⟨rfl,rfl⟩;refine⟨dU _ _,?_⟩;simp[hC,jw,cc,au,cX];refine cR.at (S (f n a)) (.inr rfl) (c9 _) (dU _ _) aL aL ?_;simp[cV,aY,a6,aX];simp[T.fold]
 |_=>intro a;have af:=c9 a;refine bL.mk mixed fY Tryz.func107 B7 Ψ af.obj fun aR cN=>?_;unfold yC;simp[hu,ax,cX,au,da];(with_reducible repeat' first|refine ak ?_|simp[hu,ax,cX,au]);refine cR.at (S a) (.inr rfl) af (Same.refl _) aL aL ?_;simp[cV,aY,a6,aX];simp[T.fold]
def vh(l:List Int):cU:=⟨[(.obj 304,ml l)],[]⟩
theorem Rg(l:List Int):dP (vh l):=by unfold vh;exact dP.of ⟨by intro m;simp[Pv.look],by intro m;simp[Pv.look]⟩ (by simp[nb,aP,aK,inObs,Pv.look]) Ψ
def K6:C:=(aa [c0 1 0,bp 2 false] (.seq (.seq (.fz false 1 (.region [ay 6 1 1,cD 7 62 6,ct 8 7])) (a1 8 (aa [bp 2 false] .ret) .skip)) (.seq (aa [ay 9 1 1,cH 10 9,cb 11 0] (fm 12 11 10 (.seq (.block 1 (aa [cE 13 5 9 11,aZ 14 5 13,cP 4 iC,bu 5 4 14] (aa [cS (.alloc 5 (some 731) (.bool false)),cS (.store 1 (.t 5) (.c (.bool true)))] (aa [hN 15 1 4 4,aZ 16 4 15,bT 17 (.mkf 108 [.t 1,.t 5]),ch 18 107 16 17] (aa [ay 19 1 5,ct 20 19,J 21 20,av 21 false (hN 22 1 4 4),av 21 false (aJ 23 0 1 22),av 21 false (ay 24 1 23),av 21 false (aU 25 .eql 24 1),b6 21 false 26 25,av 26 true (hN 27 1 4 4),av 26 true (aJ 28 1 1 27),av 26 true (ay 29 1 28),av 26 true (aJ 30 0 1 4),av 26 true (ay 31 1 30),av 26 true (bC 32 .geq 29 31),av 21 false (dB 33 26 32),c8 34 21 33] (a1 34 (aa [bp 2 false] .ret) .skip)))))) (.region [aU 35 .add 11 1,J 11 35])))) (aa [bp 2 true] .ret))))
def Ss:C:=(aa [eO 2 5] (aa [ea 6 5 54 [],J 3 6] (.seq (aa [J 7 0,cH 8 7,cb 9 0] (fm 10 9 8 (.seq (.block 1 (aa [cE 11 5 7 9,aZ 12 5 11,cP 5 iC,bu 5 5 12] (.drawn true 24 [J 13 3,aJ 14 0 1 5,ay 15 1 14,hN 16 1 4 5,aZ 17 4 16,cD 18 136 17,gr 19 iC [(0,1,(.t 15)),(1,4,(.t 18))],ea 20 5 54 [.t 19],gT 21 5 54 13 20,J 3 21]))) (.region [aU 22 .add 9 1,J 9 22])))) (aa [J 23 3,J 2 23] .ret))))
def R3:C:=(aa [eO 4 5,bp 5 false] (.seq (aa [J 8 0,cD 9 53 8,ct 10 9,J 11 10,b6 11 false 12 1,av 11 false (cD 13 53 12),av 11 false (ct 14 13),c8 15 11 14] (a1 15 (aa [eO 4 5,bp 5 false] .ret) .skip)) (aa [J 17 1,cD 18 137 17,J 16 18,cg 19 0 16,cg 20 1 16,J 6 19,J 7 20] (aa [J 21 0,J 22 6,J 23 7,c4 24 97 [.t 21,.t 22,.t 23],cg 25 0 24,cg 26 1 24,J 4 25,J 5 26] .ret))))
def R8:C:=(aa [eO 4 5] (.seq (aa [J 8 0,cD 9 53 8,ct 10 9,J 11 10,b6 11 false 12 1,av 11 false (cD 13 53 12),av 11 false (ct 14 13),c8 15 11 14] (a1 15 (aa [eO 4 5] .ret) .skip)) (aa [ea 16 5 54 [],J 5 16] (.seq (aa [J 17 1,cH 18 17,cb 19 0] (fm 20 19 18 (.seq (.block 1 (aa [cE 21 5 17 19,aZ 22 5 21,cP 7 iC,bu 5 7 22] (aa [J 23 0,aJ 24 0 1 7,ay 25 1 24,ch 26 24 23 25,aU 27 .lss 26 0] (a1 27 (.drawn true 39 [J 28 5,aJ 29 0 1 7,ay 30 1 29,hN 31 1 4 7,aZ 32 4 31,cD 33 136 32,gr 34 iC [(0,1,(.t 30)),(1,4,(.t 33))],ea 35 5 54 [.t 34],gT 36 5 54 28 35,J 5 36]) .skip)))) (.region [aU 37 .add 19 1,J 19 37])))) (aa [J 38 5,J 4 38] .ret)))))
def Lc:C:=(aa [bp 4 false] (.seq (aa [J 6 0,cH 7 6,J 8 1,cH 9 8,bC 10 .neq 7 9] (a1 10 (aa [bp 4 false] .ret) .skip)) (.seq (aa [J 11 0,cH 12 11,cb 13 0] (fm 14 13 12 (.seq (.block 1 (aa [J 15 13,J 5 15] (.seq (.drawn true 42 [J 16 0,J 17 5,cE 18 5 16 17,aJ 19 0 1 18,ay 20 1 19,J 21 1,J 22 5,cE 23 5 21 22,aJ 24 0 1 23,ay 25 1 24,bC 26 .neq 20 25,J 27 26,b6 27 false 28 0,b6 27 false 29 5,av 27 false (cE 30 5 28 29),av 27 false (hN 31 1 4 30),av 27 false (aZ 32 4 31),b6 27 false 33 1,b6 27 false 34 5,av 27 false (cE 35 5 33 34),av 27 false (hN 36 1 4 35),av 27 false (aZ 37 4 36),av 27 false (ch 38 64 32 37),av 27 false (ct 39 38),c8 40 27 39]) (a1 40 (aa [bp 4 false] .ret) .skip)))) (.region [aU 41 .add 13 1,J 13 41])))) (aa [bp 4 true] .ret))))
def K7:C:=(aa [ay 4 1 1,J 5 0,ch 6 24 4 5,aU 7 .geq 6 0] (a1 7 (.region [cS (.store 1 (.t 2) (.c (.bool false)))]) .skip))
def Su:C:=(aa [eO 2 4,eO 3 4] (aa [ea 8 4 36 [],J 4 8] (aa [ea 9 4 36 [],J 5 9] (.seq (aa [J 10 0,cH 11 10,cb 12 0] (fm 13 12 11 (.seq (.block 1 (aa [cE 14 5 10 12,aZ 15 5 14,cP 7 iC,bu 5 7 15] (aa [J 16 4,aJ 17 0 1 7,ay 18 1 17,cD 19 28 18,ea 20 4 36 [.t 19],gT 21 4 36 16 20,J 4 21] (.region [J 22 5,hN 23 1 4 7,aZ 24 4 23,ea 25 4 36 [.t 24],gT 26 4 36 22 25,J 5 26])))) (.region [aU 27 .add 12 1,J 12 27])))) (aa [J 28 4,J 29 5,J 2 28,J 3 29] .ret)))))
def SB:C:=(aa [cb 4 0] (.seq (aa [cb 5 0] (.block 0 (.loop (.seq (aa [J 8 5,J 9 0,cH 10 9,bC 11 .lss 8 10,J 12 11,b6 12 true 13 5,b6 12 true 14 1,av 12 true (cH 15 14),av 12 true (bC 16 .lss 13 15),dB 17 12 16] (a1 17 .skip (.exit 0))) (.seq (.block 1 (.seq (.seq (.drawn true 53 [J 20 0,J 21 5,cE 22 5 20 21,aJ 23 0 1 22,ay 24 1 23,J 25 1,J 26 5,cE 27 5 25 26,aJ 28 0 1 27,ay 29 1 28,ch 30 155 24 29,J 6 30]) (aa [J 31 6,aU 32 .neq 31 0] (a1 32 (aa [J 33 6,J 4 33] .ret) .skip))) (.seq (.drawn true 53 [J 34 0,J 35 5,cE 36 5 34 35,hN 37 1 4 36,aZ 38 4 37,J 39 1,J 40 5,cE 41 5 39 40,hN 42 1 4 41,aZ 43 4 42,ch 44 117 38 43,J 7 44]) (aa [J 45 7,aU 46 .neq 45 0] (a1 46 (aa [J 47 7,J 4 47] .ret) .skip))))) (.region [J 18 5,aU 19 .add 18 1,J 5 19])))))) (aa [J 48 0,cH 49 48,J 50 1,cH 51 50,ch 52 155 49 51,J 4 52] .ret)))
def Sx:C:=(aa [bp 4 false] (.seq (aa [J 11 0,cH 12 11,cb 13 0] (fm 14 13 12 (.seq (.block 1 (aa [cE 15 5 11 13,aZ 16 5 15,cP 6 iC,bu 5 6 16] (aa [J 18 1,aJ 19 0 1 6,ay 20 1 19,cD 21 28 20,ch 22 29 18 21,J 17 22,cg 23 0 17,cg 24 1 17,cP 7 dk,bu 4 7 23,J 8 24] (aa [J 26 1,hN 27 1 4 6,aZ 28 4 27,ch 29 29 26 28,J 25 29,cg 30 0 25,cg 31 1 25,cP 9 dk,bu 4 9 30,J 10 31] (aa [J 32 8,ct 33 32,J 34 33,b6 34 false 35 10,av 34 false (ct 36 35),c8 37 34 36,J 38 37,av 38 false (aZ 39 4 7),av 38 false (aZ 40 4 9),av 38 false (ch 41 64 39 40),av 38 false (ct 42 41),c8 43 38 42] (a1 43 (aa [bp 4 false] .ret) .skip)))))) (.region [aU 44 .add 13 1,J 13 44])))) (aa [bp 4 true] .ret)))
def u4:List (Nat×dG):=[
 (3,⟨1,8,.int .i64,.int .i64 0⟩),
 (4,⟨1,1,.bool,.bool false⟩),
 (23,⟨1,24,.slice 54,.slice 5 .nil []⟩),
 (34,⟨1,24,.slice 36,.slice 4 .nil []⟩),
 (36,⟨4,56,.struct [(0,3),(1,3),(2,9),(3,34)],.agg [.int .i64 0,.int .i64 0,.str [],.slice 4 .nil []]⟩),
 (54,⟨5,64,.struct [(0,3),(1,36)],.agg [.int .i64 0,.int .i64 0,.int .i64 0,.str [],.slice 4 .nil []]⟩)]
theorem sf:fX aA u4=true:=by kernel_rfl
theorem YK:b7 u4 K6 [.tmp 2] 1 Tryz.f53=true:=by kernel_rfl
theorem amg:b7 u4 Ss [.tmp 2] 1 Tryz.f91=true:=by kernel_rfl
theorem alS:b7 u4 R3 [.tmp 4,.tmp 5] 2 Tryz.f94=true:=by kernel_rfl
theorem alX:b7 u4 R8 [.tmp 4] 2 Tryz.f95=true:=by kernel_rfl
theorem YQ:b7 u4 Lc [.tmp 4] 2 Tryz.f99=true:=by kernel_rfl
theorem YL:b7 u4 K7 [] 3 Tryz.f108=true:=by kernel_rfl
theorem ami:b7 u4 Su [.tmp 2,.tmp 3] 1 Tryz.f137=true:=by kernel_rfl
theorem amp:b7 u4 SB [.tmp 4] 2 Tryz.f140=true:=by kernel_rfl
theorem aml:b7 u4 Sx [.tmp 4] 2 Tryz.f141=true:=by kernel_rfl
def SL:C:=(aa [cP 2 dk] (aa [J 3 0,gr 4 dk [(0,1,(ef 1)),(1,1,(.t 3))],bu 4 2 4] .ret))
def Sy:C:=(aa [bT 0 (.mov (.c (.nilp)))] (aa [cS (.mkmap 1 (some 702)),cS (.mkmap 2 (some 703)),cS (.mkmap 3 (some 704)),cS (.mkmap 4 (some 705)),cS (.mkmap 5 (some 706)),cS (.mkmap 6 (some 707)),bT 7 (.build [.junk,.junk,.junk,.junk,.junk,.junk] [(0,1,(.t 1)),(1,1,(.t 2)),(2,1,(.t 3)),(3,1,(.t 4)),(4,1,(.t 5)),(5,1,(.t 6))]),c0 8 7,J 0 8] (.fz true 0 .ret)))
def Sn:C:=(aa [cb 4 0] (.seq (aa [J 8 0,eZ 9 8,aJ 10 0 1 9,ay 11 1 10,J 12 1,bT 13 (.mget .i (.int .i64 0) true (.t 11) (.t 12)),J 7 13,cg 14 0 7,cg 15 1 7,J 5 14,J 6 15] (aa [J 16 6,ct 17 16] (a1 17 (.region [J 18 0,eZ 19 18,aJ 20 0 1 19,ay 21 1 20,J 22 1,J 23 1,cS (.mput .i (.t 21) (.t 22) (.t 23))]) .skip))) (.seq (.block 0 (.loop (.seq (aa [J 24 0,eZ 25 24,aJ 26 0 1 25,ay 27 1 26,J 28 1,bT 29 (.mget .i (.int .i64 0) false (.t 27) (.t 28)),J 30 1,bC 31 .neq 29 30] (a1 31 .skip (.exit 0))) (.block 1 (.seq (.drawn true 55 [J 32 0,eZ 33 32,aJ 34 0 1 33,ay 35 1 34,J 36 1,J 37 0,eZ 38 37,aJ 39 0 1 38,ay 40 1 39,J 41 0,eZ 42 41,aJ 43 0 1 42,ay 44 1 43,J 45 1,bT 46 (.mget .i (.int .i64 0) false (.t 44) (.t 45)),bT 47 (.mget .i (.int .i64 0) false (.t 40) (.t 46)),cS (.mput .i (.t 35) (.t 36) (.t 47))]) (.region [J 48 0,eZ 49 48,aJ 50 0 1 49,ay 51 1 50,J 52 1,bT 53 (.mget .i (.int .i64 0) false (.t 51) (.t 52)),J 1 53])))))) (aa [J 54 1,J 4 54] .ret))))
def Sj:C:=(aa [c0 2 0,c0 3 1] (.fz false 2 (.region [aZ 4 4 3,bT 5 (.mkf 163 [.t 2]),ch 6 107 4 5])))
def w1:C:=(aa [c0 4 1,c0 5 2,bp 6 false] (.seq (.block 0 (aa [aJ 12 0 1 4,ay 13 1 12,aU 14 .eql 13 1,J 15 14,av 15 true (aJ 16 0 1 5),av 15 true (ay 17 1 16),av 15 true (aU 18 .eql 17 1),dB 19 15 18,J 11 19] (a1 11 (aa [J 20 0,aJ 21 1 1 4,ay 22 1 21,ch 23 143 20 22,J 7 23] (aa [J 24 0,aJ 25 1 1 5,ay 26 1 25,ch 27 143 24 26,J 8 27] (.seq (aa [J 28 7,J 29 8,bC 30 .eql 28 29] (a1 30 (aa [bp 6 true] .ret) .skip)) (.seq (aa [J 31 8,J 32 7,bC 33 .lss 31 32] (a1 33 (.region [J 34 8,J 35 7,J 7 34,J 8 35]) .skip)) (aa [J 36 0,eZ 37 36,aJ 38 0 1 37,ay 39 1 38,J 40 8,J 41 7,cS (.mput .i (.t 39) (.t 40) (.t 41))] (.seq (aa [J 42 0,eZ 43 42,aJ 44 2 1 43,ay 45 1 44,J 46 8,bT 47 (.mget .i (.bool false) false (.t 45) (.t 46)),ct 48 47] (a1 48 (aa [J 49 0,eZ 50 49,aJ 51 2 1 50,ay 52 1 51,J 53 7,bT 54 (.mget .i (.bool false) false (.t 52) (.t 53)),ct 55 54,J 56 55,b6 56 false 57 0,b6 56 false 58 0,av 56 false (eZ 59 58),av 56 false (aJ 60 1 1 59),av 56 false (ay 61 1 60),b6 56 false 62 7,yk 56 false 63 (.mget .i (.agg dk) false (.t 61) (.t 62)),b6 56 false 64 7,ys 56 false (.mkmap 65 (some 715)),av 56 false (c4 66 164 [.t 57,.t 63,.t 64,.t 65]),av 56 false (ct 67 66),c8 68 56 67,J 6 68] .ret) .skip)) (aa [J 69 0,eZ 70 69,aJ 71 1 1 70,ay 72 1 71,J 73 8,bT 74 (.mget .i (.agg dk) false (.t 72) (.t 73)),cP 9 dk,bu 4 9 74] (.seq (aa [J 75 0,eZ 76 75,aJ 77 2 1 76,ay 78 1 77,J 79 7,bT 80 (.mget .i (.bool false) false (.t 78) (.t 79)),ct 81 80] (a1 81 (aa [J 82 0,J 83 7,aZ 84 4 9,c4 85 165 [.t 82,.t 83,.t 84],J 6 85] .ret) .skip)) (.seq (.drawnW [715,716] 198 [J 86 0,aZ 87 4 9,J 88 7,cS (.mkmap 89 (some 715)),c4 90 164 [.t 86,.t 87,.t 88,.t 89],ct 91 90,J 92 91,b6 92 true 93 0,b6 92 true 94 0,av 92 true (eZ 95 94),av 92 true (aJ 96 1 1 95),av 92 true (ay 97 1 96),b6 92 true 98 7,yk 92 true 99 (.mgetB .i (.agg dk) false (.t 97) (.t 98)),b6 92 true 100 7,ys 92 true (.mkmap 101 (some 716)),av 92 true (c4 102 164 [.t 93,.t 99,.t 100,.t 101]),av 92 true (ct 103 102),dB 104 92 103,J 105 104,b6 105 true 106 0,b6 105 true 107 0,av 105 true (eZ 108 107),av 105 true (aJ 109 1 1 108),av 105 true (ay 110 1 109),b6 105 true 111 7,yk 105 true 112 (.mgetB .i (.agg dk) false (.t 110) (.t 111)),av 105 true (aZ 113 4 9),av 105 true (c4 114 145 [.t 106,.t 112,.t 113]),dB 115 105 114,J 6 115]) .ret))))))))) (aa [aJ 117 0 1 4,ay 118 1 117,aU 119 .eql 118 1,J 116 119] (a1 116 (aa [J 120 0,aJ 121 1 1 4,ay 122 1 121,ch 123 143 120 122,J 10 123] (.seq (aa [J 124 0,eZ 125 124,aJ 126 2 1 125,ay 127 1 126,J 128 10,bT 129 (.mget .i (.bool false) false (.t 127) (.t 128)),ct 130 129] (a1 130 (aa [J 131 0,J 132 10,aZ 133 4 5,c4 134 165 [.t 131,.t 132,.t 133],J 6 134] .ret) .skip)) (.seq (.drawn false 198 [J 135 0,J 136 0,eZ 137 136,aJ 138 1 1 137,ay 139 1 138,J 140 10,bT 141 (.mgetB .i (.agg dk) false (.t 139) (.t 140)),aZ 142 4 5,c4 143 145 [.t 135,.t 141,.t 142],J 6 143]) .ret))) (aa [aJ 145 0 1 5,ay 146 1 145,aU 147 .eql 146 1,J 144 147] (a1 144 (aa [J 148 0,aZ 149 4 5,aZ 150 4 4,c4 151 145 [.t 148,.t 149,.t 150],J 6 151] .ret) (aa [aJ 153 0 1 4,ay 154 1 153,aJ 155 0 1 5,ay 156 1 155,bC 157 .neq 154 156,J 158 157,av 158 false (aJ 159 1 1 4),av 158 false (ay 160 1 159),av 158 false (aJ 161 1 1 5),av 158 false (ay 162 1 161),av 158 false (bC 163 .neq 160 162),c8 164 158 163,J 165 164,av 165 false (aJ 166 2 1 4),av 165 false (ay 167 1 166),av 165 false (aJ 168 2 1 5),av 165 false (ay 169 1 168),av 165 false (bC 170 .neq 167 169),c8 171 165 170,J 152 171] (a1 152 (aa [bp 6 false] .ret) (aa [aJ 173 0 1 4,ay 174 1 173,aU 175 .eql 174 4,J 172 175] (a1 172 (.seq (.drawn false 198 [J 176 0,aJ 177 3 1 4,ay 178 1 177,j5 179 4 178 0,aZ 180 4 179,aJ 181 3 1 5,ay 182 1 181,j5 183 4 182 0,aZ 184 4 183,c4 185 145 [.t 176,.t 180,.t 184],J 186 185,b6 186 true 187 0,av 186 true (aJ 188 3 1 4),av 186 true (ay 189 1 188),av 186 true (j5 190 4 189 1),av 186 true (aZ 191 4 190),av 186 true (aJ 192 3 1 5),av 186 true (ay 193 1 192),av 186 true (j5 194 4 193 1),av 186 true (aZ 195 4 194),av 186 true (c4 196 145 [.t 187,.t 191,.t 195]),dB 197 186 196,J 6 197]) .ret) .skip))))))))))) (aa [bp 6 true] .ret)))
def Sk:C:=(.region [ay 3 1 1,J 4 0,ch 5 143 3 4])
def Sl:C:=(aa [c0 4 0,c0 5 1,c0 6 2,c0 7 3,bp 8 false] (aa [cS (.alloc 9 (some 712) (.bool false)),cS (.store 1 (.t 9) (.c (.bool false)))] (.seq (.fz false 7 (.fz false 6 (.fz false 4 (.region [aZ 10 4 5,bT 11 (.mkf 189 [.t 4,.t 9,.t 6,.t 7]),ch 12 107 10 11])))) (aa [ay 13 1 9,J 8 13] .ret))))
def Si:C:=(aa [c0 5 2,bp 6 false] (.seq (.drawn true 24 [J 7 0,eZ 8 7,aJ 9 1 1 8,ay 10 1 9,J 11 1,aZ 12 4 5,cS (.mput .i (.t 10) (.t 11) (.t 12))]) (aa [J 13 0,eZ 14 13,aJ 15 2 1 14,ay 16 1 15,J 17 1,cS (.mput .i (.t 16) (.t 17) (.c (.bool true)))] (aa [J 18 0,aZ 19 4 5,J 20 1,cS (.mkmap 21 (some 715)),c4 22 164 [.t 18,.t 19,.t 20,.t 21],ct 23 22,J 6 23] .ret))))
def AG:C:=(aa [c0 2 0,bp 4 false] (.seq (.seq (.fz false 2 (.region [ay 6 1 2,eZ 7 6,aJ 8 3 1 7,ay 9 1 8,J 10 1,bT 11 (.mget .i (.int .i64 0) false (.t 9) (.t 10)),aU 12 .eql 11 2])) (a1 12 (aa [bp 4 true] .ret) .skip)) (.seq (aa [ay 13 1 2,eZ 14 13,aJ 15 3 1 14,ay 16 1 15,J 17 1,bT 18 (.mget .i (.int .i64 0) false (.t 16) (.t 17)),aU 19 .eql 18 1] (a1 19 (aa [bp 4 false] .ret) .skip)) (aa [ay 20 1 2,eZ 21 20,aJ 22 3 1 21,ay 23 1 22,J 24 1,cS (.mput .i (.t 23) (.t 24) (ef 1))] (aa [ay 25 1 2,eZ 26 25,aJ 27 4 1 26,ay 28 1 27,J 29 1,cS (.mput .i (.t 28) (.t 29) (ef 1))] (.seq (aa [ay 30 1 2,eZ 31 30,aJ 32 2 1 31,ay 33 1 32,J 34 1,bT 35 (.mget .i (.bool false) false (.t 33) (.t 34))] (a1 35 (aa [cS (.alloc 5 (some 712) (.bool false)),cS (.store 1 (.t 5) (.c (.bool true)))] (aa [ay 36 1 2,eZ 37 36,aJ 38 1 1 37,ay 39 1 38,J 40 1,bT 41 (.mget .i (.agg dk) false (.t 39) (.t 40)),bT 42 (.mkf 191 [.t 5,.t 2]),ch 43 107 41 42] (.seq (aa [ay 44 1 5,ct 45 44] (a1 45 (aa [bp 4 false] .ret) .skip)) (.drawn false 64 [ay 46 1 2,eZ 47 46,aJ 48 4 1 47,ay 49 1 48,J 50 1,ay 51 1 2,eZ 52 51,aJ 53 1 1 52,ay 54 1 53,J 55 1,bT 56 (.mgetB .i (.agg dk) false (.t 54) (.t 55)),bT 57 (.mkf 192 [.t 2]),ch 58 112 56 57,cS (.mput .i (.t 49) (.t 50) (.t 58))])))) .skip)) (aa [ay 59 1 2,eZ 60 59,aJ 61 3 1 60,ay 62 1 61,J 63 1,cS (.mput .i (.t 62) (.t 63) (ef 2))] (aa [bp 4 true] .ret))))))))
def GK:C:=(aa [c0 2 0,cP 4 dk] (.seq (.seq (.fz false 2 (.region [ay 9 1 2,eZ 10 9,aJ 11 5 1 10,ay 12 1 11,J 13 1,bT 14 (.mget .i (.agg dk) true (.t 12) (.t 13)),J 8 14,cg 15 0 8,cg 16 1 8,cP 5 dk,bu 4 5 15,J 6 16])) (aa [J 17 6] (a1 17 (aa [aZ 18 4 5,bu 4 4 18] .ret) .skip))) (aa [J 19 1,cD 20 28 19,cP 7 dk,bu 4 7 20] (.seq (aa [ay 21 1 2,eZ 22 21,aJ 23 2 1 22,ay 24 1 23,J 25 1,bT 26 (.mget .i (.bool false) false (.t 24) (.t 25))] (a1 26 (.region [ay 27 1 2,eZ 28 27,aJ 29 1 1 28,ay 30 1 29,J 31 1,bT 32 (.mget .i (.agg dk) false (.t 30) (.t 31)),bT 33 (.mkf 193 [.t 2]),ch 34 115 32 33,bu 4 7 34]) .skip)) (.seq (.drawn true 42 [ay 35 1 2,eZ 36 35,aJ 37 5 1 36,ay 38 1 37,J 39 1,aZ 40 4 7,cS (.mput .i (.t 38) (.t 39) (.t 40))]) (aa [aZ 41 4 7,bu 4 4 41] .ret))))))
def Sm:C:=(aa [ay 7 1 1,J 8 0,ch 9 143 7 8,J 6 9] (.seq (aa [ay 10 1 2,J 11 10,b6 11 false 12 6,av 11 false (ay 13 1 3),av 11 false (bC 14 .eql 12 13),c8 15 11 14] (a1 15 (aa [cS (.store 1 (.t 2) (.c (.bool true)))] .ret) .skip)) (aa [ay 16 1 4,J 17 6,bT 18 (.mget .i (.bool false) false (.t 16) (.t 17)),ct 19 18,J 20 19,av 20 true (ay 21 1 1),av 20 true (eZ 22 21),av 20 true (aJ 23 2 1 22),av 20 true (ay 24 1 23),b6 20 true 25 6,av 20 true (bT 26 (.mget .i (.bool false) false (.t 24) (.t 25))),dB 27 20 26] (a1 27 (aa [ay 28 1 4,J 29 6,cS (.mput .i (.t 28) (.t 29) (.c (.bool true)))] (.drawn false 40 [ay 30 1 1,ay 31 1 1,eZ 32 31,aJ 33 1 1 32,ay 34 1 33,J 35 6,bT 36 (.mgetB .i (.agg dk) false (.t 34) (.t 35)),ay 37 1 3,ay 38 1 4,c4 39 164 [.t 30,.t 36,.t 37,.t 38],bu 1 2 39])) .skip))))
def K9:C:=(.seq (.drawn false 13 [bT 4 (.loadB false 1 (.t 1)),J 5 4,av 5 true (ay 6 1 2),av 5 true (ay 7 1 2),b6 5 true 8 0,av 5 true (ch 9 143 7 8),av 5 true (ch 10 167 6 9),av 5 true (ct 11 10),dB 12 5 11]) (a1 12 (.region [cS (.store 1 (.t 1) (.c (.bool false)))]) .skip))
def Sr:C:=(aa [cb 3 0] (.seq (.drawn false 12 [ay 4 1 1,eZ 5 4,aJ 6 4 1 5,ay 7 1 6,ay 8 1 1,J 9 0,ch 10 143 8 9,bT 11 (.mgetB .i (.int .i64 0) false (.t 7) (.t 10)),J 3 11]) .ret))
def Sq:C:=(aa [cP 3 dk,bp 4 false] (.seq (.drawn false 10 [ay 5 1 1,ay 6 1 1,J 7 0,ch 8 143 6 7,ch 9 168 5 8,bu 4 3 9,bp 4 true]) .ret))
def pZ:List (Nat×dG):=[
 (3,⟨1,8,.int .i64,.int .i64 0⟩),
 (4,⟨1,1,.bool,.bool false⟩),
 (9,⟨1,16,.str,.str []⟩),
 (34,⟨1,24,.slice 36,.slice 4 .nil []⟩),
 (36,⟨4,56,.struct [(0,3),(1,3),(2,9),(3,34)],.agg [.int .i64 0,.int .i64 0,.str [],.slice 4 .nil []]⟩),
 (51,⟨1,8,.map 3 4,.junk⟩),
 (57,⟨1,8,.map 3 3,.junk⟩),
 (139,⟨1,8,.other,.nilp⟩),
 (158,⟨1,8,.map 3 36,.junk⟩),
 (160,⟨6,48,.struct [(0,57),(1,158),(2,51),(3,57),(4,57),(5,158)],.agg [.junk,.junk,.junk,.junk,.junk,.junk]⟩)]
theorem kh:fX aA pZ=true:=by kernel_rfl
theorem amz:b7 pZ SL [.cell 2 true 4] 1 Tryz.f28=true:=by kernel_rfl
theorem amm:b7 pZ Sy [.tmp 0] 0 Tryz.f142=true:=by kernel_rfl
theorem amc:b7 pZ Sn [.tmp 4] 2 Tryz.f143=true:=by kernel_rfl
theorem al8:b7 pZ Sj [] 2 Tryz.f144=true:=by kernel_rfl
theorem zF:b7 pZ w1 [.tmp 6] 3 Tryz.f145=true:=by kernel_rfl
theorem al9:b7 pZ Sk [] 2 Tryz.f163=true:=by kernel_rfl
theorem ama:b7 pZ Sl [.tmp 8] 4 Tryz.f164=true:=by kernel_rfl
theorem al7:b7 pZ Si [.tmp 6] 3 Tryz.f165=true:=by kernel_rfl
theorem E0:b7 pZ AG [.tmp 4] 2 Tryz.f167=true:=by kernel_rfl
theorem OL:b7 pZ GK [.cell 4 true 4] 2 Tryz.f168=true:=by kernel_rfl
theorem amb:b7 pZ Sm [] 5 Tryz.f189=true:=by kernel_rfl
theorem YN:b7 pZ K9 [] 3 Tryz.f191=true:=by kernel_rfl
theorem amf:b7 pZ Sr [.tmp 3] 2 Tryz.f192=true:=by kernel_rfl
theorem ame:b7 pZ Sq [.cell 3 true 4,.tmp 4] 2 Tryz.f193=true:=by kernel_rfl
end
section
open Go Go.Pv
section
variable {α:Type} (S:α->cU) (c9:∀a,dP (S a)) (dU:∀a b,Same (S a) (S b)) (g:Nat) (dv:List aj) (aq:∀a,aP (inObs (S a)) dv) (da:du dv=dv)
include c9 dU aq da in
theorem Vm(hF:α->Prop)(f:Int->α->Option α)(aO:∀v a bq,hF a->f v a=some bq->hF bq/\bL aA g (.int .i64 v::dv) (S a) fun r ai=>r= .tuple []/\ai=S bq)(t:T):
  ∀a bq,hF a->t.foldO f a=some bq->hF bq/\bL aA 107 [t.e,.func g dv] (S a) fun r ai=>r= .tuple []/\ai=S bq:=by
 have au:∀a m,Pv.look (.loc m) (S a).b=none:=fun a=>(c9 a).obj.1;have hu:∀a m cs,cI (.loc m) cs (S a).b=(S a).b++[(.loc m,cs)]:=fun a m cs=>kR (au a m);have ax:∀a m,aM.loc m∉dc (S a):=fun a=>kM (c9 a).obj;induction t with
 |pair x y qv ta=>intro a bq hi he;have af:=c9 a;simp only[T.foldO,hr]at he;obtain⟨bF,I,U⟩:=he;obtain⟨i1,g1⟩:=qv a bF hi I;obtain⟨i2,g2⟩:=ta bF bq i1 U;refine⟨i2,?_⟩;refine bL.mk mixed fY Tryz.func107 B7 Ψ af.obj fun aR cN=>?_;unfold yC;simp[hu,ax,cX,au,da];(with_reducible repeat' first|refine ak ?_|simp[hu,ax,cX,au]);refine cY.ob g1 af aL aL g9 ?_;rintro r ai ⟨rfl,rfl⟩;refine⟨dU _ _,?_⟩;simp[hC,jw,cc,au];(with_reducible repeat' first|refine ak ?_|simp[hu,ax,cX,au]);rw[da];refine cY.ob g2 (c9 bF) aL aL g9 ?_;rintro r ai ⟨rfl,rfl⟩;refine⟨dU _ _,?_⟩;simp[hC,jw,cc,au];refine cR.at (S bq) (.inr rfl) (c9 _) (dU _ _) aL aL ?_;simp[cV,aY,a6,aX]
 |var n=>intro a bq hi he;have af:=c9 a;simp only[T.foldO]at he;obtain⟨i1,g1⟩:=aO n a bq hi he;refine⟨i1,?_⟩;refine bL.mk mixed fY Tryz.func107 B7 Ψ af.obj fun aR cN=>?_;unfold yC;simp[hu,ax,cX,au,da];(with_reducible repeat' first|refine ak ?_|simp[hu,ax,cX,au]);refine cY.ob g1 af aL aL g9 ?_;rintro r ai ⟨rfl,rfl⟩;refine⟨dU _ _,?_⟩;simp[hC,jw,cc,au,cX];refine cR.at (S bq) (.inr rfl) (c9 _) (dU _ _) aL aL ?_;simp[cV,aY,a6,aX]
 |_=>intro a bq hi he;have af:=c9 a;simp only[T.foldO,dD]at he;subst he;refine⟨hi,?_⟩;refine bL.mk mixed fY Tryz.func107 B7 Ψ af.obj fun aR cN=>?_;unfold yC;simp[hu,ax,cX,au,da];(with_reducible repeat' first|refine ak ?_|simp[hu,ax,cX,au]);refine cR.at (S a) (.inr rfl) af (Same.refl _) aL aL ?_;simp[cV,aY,a6,aX]
include c9 dU aq da in
theorem Mi(f:Int->α->Option α)(aO:∀v a bq,f v a=some bq->bL aA g (.int .i64 v::dv) (S a) fun r ai=>r= .tuple []/\ai=S bq)(t:T)(a bq:α)(h:t.foldO f a=some bq):bL aA 107 [t.e,.func g dv] (S a) fun r ai=>r= .tuple []/\ai=S bq:=(Vm S c9 dU g dv aq da (fun _=>True) f (fun v a bq _ h=>⟨trivial,aO v a bq h⟩) t a bq trivial h).2
include c9 dU aq da in
theorem ahn(f:Int->α->Option (T×α))(aO:∀v a p,f v a=some p->bL aA g (.int .i64 v::dv) (S a) fun r ai=>r= .tuple [p.1.e,.bool true]/\ai=S p.2)(t:T):
  ∀a p,t.mapO f a=some p->bL aA 115 [t.e,.func g dv] (S a) fun r ai=>r=p.1.e/\ai=S p.2:=by
 have au:∀a m,Pv.look (.loc m) (S a).b=none:=fun a=>(c9 a).obj.1;have cG:∀a m,Pv.look (.loc m) (S a).e=none:=fun a=>(c9 a).obj.2;have hu:∀a m cs,cI (.loc m) cs (S a).b=(S a).b++[(.loc m,cs)]:=fun a m cs=>kR (au a m);have ax:∀a m,aM.loc m∉dc (S a):=fun a=>kM (c9 a).obj;have mC:∀a m p r,cI (.loc m) p ((S a).b++r)=(S a).b++cI (.loc m) p r:=fun a m p r=>CL (au a m);induction t with
 |pair x y qv ta=>intro a p he;have af:=c9 a;simp only[T.mapO,hr,gB]at he;obtain⟨cT,I,dm,U,rfl⟩:=he;refine bL.mk mixed fY Tryz.func115 B8 Ψ af.obj fun aR cN=>?_;unfold yD;simp[hu,ax,cX,au,cG,da,mC];(with_reducible repeat' first|refine ak ?_|simp[hu,ax,cX,au,cG,mC]);refine hs.ob (qv a cT I) af (c9 cT.2) (dU _ _) aL aL g9 ?_;simp[hC,jw,cc,au,da];(with_reducible repeat' first|refine ak ?_|simp[hu,ax,cX,au,cG,mC]);refine hs.ob (ta cT.2 dm U) (c9 cT.2) (c9 dm.2) (dU _ _) aL aL (by simp[aq,da]) ?_;simp[hC,jw,cc,au,da];(with_reducible repeat' first|refine ak ?_|refine aF (Kn _ _) ?_|refine aG (Kn _ _) ?_|simp[cX,au,mC]);refine cR.at (S dm.2) (.inl rfl) (c9 _) (dU _ _) aL aL ?_;simp[cV,aY,a6,aX,cX,au]
 |var n=>
  intro a p he;have af:=c9 a;simp only[T.mapO]at he;refine bL.mk mixed fY Tryz.func115 B8 Ψ af.obj fun aR cN=>?_;unfold yD;simp[hu,ax,cX,au,da,mC];(with_reducible repeat' first|refine ak ?_|simp[hu,ax,cX,au,mC]);refine cY.ob (aO n a p he) af aL aL g9 ?_;rintro r ai ⟨rfl,rfl⟩;refine⟨dU _ _,?_⟩;simp[hC,jw,cc,au,hu,ax,cX];(with_reducible repeat' first|refine ak ?_|refine aF (u9 _) ?_|refine aG (u9 _) ?_|simp[hu,ax,cX,au,mC]);all_goals refine cR.at (S p.2) (.inl rfl) (c9 _) (dU _ _) aL aL ?_
  all_goals simp[cV,aY,a6,aX,cX,au]
 |_=>intro a p he;have af:=c9 a;simp only[T.mapO,dD]at he;subst he;refine bL.mk mixed fY Tryz.func115 B8 Ψ af.obj fun aR cN=>?_;unfold yD;simp[hu,ax,cX,au,da,mC];(with_reducible repeat' first|refine ak ?_|simp[hu,ax,cX,au,mC]);refine cR.at (S a) (.inl rfl) af (Same.refl _) aL aL ?_;simp[cV,aY,a6,aX,cX,au]
include c9 dU aq da in
theorem ahA(hF:α->Prop)(f:Int->α->Option (Int×α))(DY:∀v a p,hF a->f v a=some p->hF p.2/\0<=p.1/\p.1<=1000000)(aO:∀v a p,hF a->f v a=some p->bL aA g (.int .i64 v::dv) (S a) fun r ai=>r= .int .i64 p.1/\ai=S p.2)(t:T):
  ∀a p,hF a->t.sizeO f a=some p->hF p.2/\(0<=p.1/\p.1<=5001)/\bL aA 112 [t.e,.func g dv] (S a) fun r ai=>r= .int .i64 p.1/\ai=S p.2:=by
 have au:∀a m,Pv.look (.loc m) (S a).b=none:=fun a=>(c9 a).obj.1;have hu:∀a m cs,cI (.loc m) cs (S a).b=(S a).b++[(.loc m,cs)]:=fun a m cs=>kR (au a m);have ax:∀a m,aM.loc m∉dc (S a):=fun a=>kM (c9 a).obj;induction t with
 |pair x y qv ta=>
  intro a p hi he;have af:=c9 a;simp only[T.sizeO,hr]at he;obtain⟨cT,I,U⟩:=he;obtain⟨i1,b1,g1⟩:=qv a cT hi I;by_cases DT:5000<cT.1
  ·rw[if_pos DT]at U;cases U;refine⟨i1,b1,?_⟩;refine bL.mk mixed fY Tryz.func112 zG Ψ af.obj fun aR cN=>?_;unfold w2;simp[hu,ax,cX,au,da];(with_reducible repeat' first|refine ak ?_|simp[hu,ax,cX,au]);refine cY.ob g1 af aL aL g9 ?_;rintro r ai ⟨rfl,rfl⟩;refine⟨dU _ _,?_⟩;simp[hC,jw,cc,au];((with_reducible repeat' first|((first|apply bN|apply bP|apply bO)<;>intro h<;>try simp at h)|refine ak ?_|simp[hu,ax,cX,au])<;>(try contradiction));all_goals first|omega|(refine cR.at (S p.2) (.inl rfl) (c9 _) (dU _ _) aL aL ?_;simp[cV,aY,a6,aX])
  ·rw[if_neg DT,gB]at U;obtain⟨dm,U,rfl⟩:=U;obtain⟨i2,b2,g2⟩:=ta cT.2 dm i1 U;refine⟨i2,by simp only;split<;>omega,?_⟩;refine bL.mk mixed fY Tryz.func112 zG Ψ af.obj fun aR cN=>?_;unfold w2;simp[hu,ax,cX,au,da];(with_reducible repeat' first|((first|apply bN|apply bP|apply bO)<;>intro h<;>try simp at h)|refine ak ?_|simp[hu,ax,cX,au]);refine cY.ob g1 af aL aL g9 ?_;rintro r ai ⟨rfl,rfl⟩;refine⟨dU _ _,?_⟩;simp[hC,jw,cc,au];((with_reducible repeat' first|refine ak ?_|simp[hu,ax,cX,au]|((first|apply bN|apply bP|apply bO)<;>intro h<;>try simp at h))<;>(try exact cf));all_goals first|omega|skip
   rw[da];refine cY.ob g2 (c9 cT.2) aL aL g9 ?_;rintro r s2 ⟨rfl,rfl⟩;refine⟨dU _ _,?_⟩;simp[hC,jw,cc,au];(with_reducible repeat' first|refine ak ?_|simp[hu,ax,cX,au]);refine cR.at (S dm.2) (.inl rfl) (c9 _) (dU _ _) aL aL ?_;simp[cV,aY,a6,aX]
 |var n=>intro a p hi he;have af:=c9 a;simp only[T.sizeO,gB]at he;obtain⟨cT,I,rfl⟩:=he;have ad:=DY n a cT hi I;refine⟨ad.1,by simp only;split<;>omega,?_⟩;refine bL.mk mixed fY Tryz.func112 zG Ψ af.obj fun aR cN=>?_;unfold w2;simp[hu,ax,cX,au,da];(with_reducible repeat' first|refine ak ?_|simp[hu,ax,cX,au]);refine cY.ob (aO n a cT hi I) af aL aL g9 ?_;rintro r ai ⟨rfl,rfl⟩;refine⟨dU _ _,?_⟩;simp[hC,jw,cc,au];refine cR.at (S cT.2) (.inl rfl) (c9 _) (dU _ _) aL aL ?_;simp[cV,aY,a6,aX]
 |_=>intro a p hi he;have af:=c9 a;simp only[T.sizeO,dD]at he;subst he;refine⟨hi,Ψ,?_⟩;refine bL.mk mixed fY Tryz.func112 zG Ψ af.obj fun aR cN=>?_;unfold w2;simp[hu,ax,cX,au,da];(with_reducible repeat' first|refine ak ?_|simp[hu,ax,cX,au]);refine cR.at (S a) (.inl rfl) af (Same.refl _) aL aL ?_;simp[cV,aY,a6,aX]
end
end
section
open Go Go.Pv
theorem N6{α β:Type}(k:aM):∀{l:List (aM×α)} {ba:List (aM×β)},l.map (·.1)=ba.map (·.1)->(Pv.look k l).isSome=(Pv.look k ba).isSome
 |[],[],_=>rfl
 |[],_::_,h=>by simp at h
 |_::_,[],h=>by simp at h
 |(i,x)::r,(j,y)::e2,h=>by
  simp only[hc,yn]at h;simp only[Pv.look];obtain⟨rfl,h⟩:=h;split
  ·rfl
  ·exact N6 k h
theorem _root_.Go.Pv.Same.keys{s ai:cU}(ad:s.b.map (·.1)=ai.b.map (·.1))(he:s.e.map (·.1)=ai.e.map (·.1)):Same s ai:=⟨fun k=>N6 k ad,fun k=>N6 k he⟩
section
variable {α:Type} (e:α->aj)
def te(l:List (Int×α)):List aj:=kv (l.map fun x=>(x.1,e x.2))
theorem Rw(k:Int):∀l:List (Int×α),tV k (l.map fun x=>(x.1,e x.2))=(tg k l).map e
 |[]=>rfl
 |(i,v)::r=>by
  simp only[hc,tV,tg];split
  ·rfl
  ·exact Rw k r
theorem RD(k:Int)(v:α):∀l:List (Int×α),qd k (e v) (l.map fun x=>(x.1,e x.2))=if(tg k l).isSome then some ((e8 k v l).map fun x=>(x.1,e x.2))else none
 |[]=>rfl
 |(i,w)::r=>by
  simp only[hc,qd,tg,e8];by_cases h:k=i
  ·subst h;simp
  ·simp only[h,if_false,RD k v r];cases (tg k r).isSome<;>simp
theorem aa1{k:Int}{v:α}:∀{l:List (Int×α)},tg k l=none->e8 k v l=l++[(k,v)]
 |[],_=>rfl
 |(i,w)::r,h=>by
  simp only[tg]at h;split at h
  ·cases h
  ·rename_i cG;simp[e8,cG,aa1 h]
theorem Oy(k:Int)(v:α)(l:List (Int×α)):ov .i (.int .i64 k) (e v) (te e l)=some (te e (e8 k v l)):=by
 simp only[te,Yp,Gw,RD];cases h:tg k l with
 |some w=>simp
 |none=>simp[aa1 h]
theorem Oq(f:aM->Option (List aj))(m:aM)(l:List (Int×α))(z:aj)(ok:Bool)(k:Int)(hm:f m=some (te e l)):nN f .i z ok (.gmap m) (.int .i64 k)=some (True,if ok then .tuple [((tg k l).map e).getD z,.bool (tg k l).isSome]else((tg k l).map e).getD z):=by rw[X9 f m _ z ok k hm,Rw];cases tg k l<;>rfl
@[simp]theorem au8(l:List (Int×α)):iq (te e l)=false:=rfl
theorem NS(S:aM->Prop)(he:∀x,aK S (e x))(l:List (Int×α)):aP S (te e l):=by
 have:∀l:List (Int×α),aP S (la (l.map fun x=>(x.1,e x.2))):=by
  intro l;induction l with
  |nil=>simp[la,aP]
  |cons x r bK=>simp[la,aP,bK,he]
 simp[te,kv,aP,this,aK]
end
def lN:List (Int×Int)->List aj:=te (aj.int .i64)
def re:List (Int×Bool)->List aj:=te aj.bool
def uP:List (Int×T)->List aj:=te T.e
@[simp]theorem au5(l):iq (lN l)=false:=rfl
@[simp]theorem au3(l):iq (re l)=false:=rfl
@[simp]theorem au7(l):iq (uP l)=false:=rfl
@[simp]theorem atZ(S:aM->Prop)(l):aP S (lN l)=True:=eq_true (NS _ S (fun _=>by simp) l)
@[simp]theorem atY(S:aM->Prop)(l):aP S (re l)=True:=eq_true (NS _ S (fun _=>by simp) l)
@[simp]theorem at0(S:aM->Prop)(l):aP S (uP l)=True:=eq_true (NS _ S (fun _=>by simp) l)
@[simp]theorem auR(k v:Int)(l):ov .i (.int .i64 k) (.int .i64 v) (lN l)=some (lN (e8 k v l)):=Oy _ k v l
@[simp]theorem auQ(k:Int)(v:Bool)(l):ov .i (.int .i64 k) (.bool v) (re l)=some (re (e8 k v l)):=Oy _ k v l
@[simp]theorem auT(k:Int)(v:T)(l):ov .i (.int .i64 k) v.e (uP l)=some (uP (e8 k v l)):=Oy _ k v l
def zz(cj:kn)(z:aj)(ok:Bool)(o:Option (List aj))(k:aj):Option (Prop×aj):=nN (fun _=>o) cj z ok (.gmap (.loc 0)) k
@[simp]theorem auO(f:aM->Option (List aj))(cj:kn)(z:aj)(ok:Bool)(m:aM)(k:aj):nN f cj z ok (.gmap m) k=zz cj z ok (f m) k:=by simp only[zz,Ot]
theorem alj(f:aM->Option (List aj))(m:aM)(l:List (Int×Int))(ok:Bool)(k:Int)(hm:f m=some (lN l)):nN f .i (.int .i64 0) ok (.gmap m) (.int .i64 k)=some (True,if ok then .tuple [.int .i64 (hO l k),.bool (tg k l).isSome]else .int .i64 (hO l k)):=by rw[Oq _ f m l _ ok k hm];unfold hO;cases tg k l<;>rfl
theorem ali(f:aM->Option (List aj))(m:aM)(l:List (Int×Bool))(ok:Bool)(k:Int)(hm:f m=some (re l)):nN f .i (.bool false) ok (.gmap m) (.int .i64 k)=some (True,if ok then .tuple [.bool ((tg k l).getD false),.bool (tg k l).isSome]else .bool ((tg k l).getD false)):=by rw[Oq _ f m l _ ok k hm];cases tg k l<;>rfl
def aaW:aj:= .agg [.int .i64 0,.int .i64 0,.str [],.slice 4 .nil []]
def ya(o:Option T):aj:=(o.map T.e).getD aaW
theorem alk(f:aM->Option (List aj))(m:aM)(l:List (Int×T))(ok:Bool)(k:Int)(hm:f m=some (uP l)):nN f .i (.agg [.int .i64 0,.int .i64 0,.str [],.slice 4 .nil []]) ok (.gmap m) (.int .i64 k)=some (True,if ok then .tuple [ya (tg k l),.bool (tg k l).isSome]else ya (tg k l)):=by rw[Oq _ f m l _ ok k hm];rfl
@[simp]theorem auL(l:List (Int×Int))(ok:Bool)(k:Int):zz .i (.int .i64 0) ok (some (lN l)) (.int .i64 k)=some (True,if ok then .tuple [.int .i64 (hO l k),.bool (tg k l).isSome]else .int .i64 (hO l k)):=alj _ _ l ok k rfl
@[simp]theorem auK(l:List (Int×Bool))(ok:Bool)(k:Int):zz .i (.bool false) ok (some (re l)) (.int .i64 k)=some (True,if ok then .tuple [.bool ((tg k l).getD false),.bool (tg k l).isSome]else .bool ((tg k l).getD false)):=ali _ _ l ok k rfl
@[simp]theorem auM(l:List (Int×T))(ok:Bool)(k:Int):zz .i (.agg [.int .i64 0,.int .i64 0,.str [],.slice 4 .nil []]) ok (some (uP l)) (.int .i64 k)=some (True,if ok then .tuple [ya (tg k l),.bool (tg k l).isSome]else ya (tg k l)):=alk _ _ l ok k rfl
@[simp]theorem avV(o:Option T):ej (ya o)=(o.getD .nil).e:=by cases o<;>simp[ya,aaW,ej,du]
@[simp]theorem auy:[aj.hdm 0 []]=kv []:=rfl
def aI:aj:= .eptr (.agg [.gmap (.obj 702),.gmap (.obj 703),.gmap (.obj 704),.gmap (.obj 705),.gmap (.obj 706),.gmap (.obj 707)])
def aH(c:bE):List (aM×List aj):=[(.obj 702,lN c.up),(.obj 703,uP c.shape),(.obj 704,re c.shaped),(.obj 705,lN c.color),(.obj 706,lN c.size),(.obj 707,uP c.full)]
def aQ(c:bE):cU:=⟨aH c,[]⟩
theorem cl(c:bE):dP (aQ c):=by unfold aQ aH;exact dP.of ⟨by intro m;simp[Pv.look],by intro m;simp[Pv.look]⟩ Ψ Ψ
theorem Gi(c cr:bE):Same (aQ c) (aQ cr):=by
 refine⟨fun k=>?_,fun k=>rfl⟩;simp only[aQ,aH,Pv.look];repeat' split
 all_goals rfl
theorem sF(c:bE)(v r:Int)(cr:bE)(he:rt c v=some (r,cr)):bL aA 143 [aI,.int .i64 v] (aQ c) fun e2 ai=>e2= .int .i64 r/\ai=aQ cr:=by
 have af:=cl c;have gb:=cl cr;have dU:=Gi c cr;simp only[rt,gB,kl]at he;obtain⟨⟨fc,m1⟩,he,rfl,rfl⟩:=he;unfold aQ aH at af gb dU⊢;simp only at gb dU⊢;unfold aI;refine bL.mk mixed kh Tryz.func143 amc Ψ af.obj fun aR cN=>?_;unfold Sn;simp;(with_reducible repeat' first|((first|apply bN|apply bP|apply bO)<;>intro h<;>try simp at h)|refine ak ?_|simp);all_goals
  refine n2 (α:=Nat×Int×List (Int×Int)) (fun a=>⟨[(0,aI),(1,.int .i64 a.2.1)],[(.obj 702,lN a.2.2),(.obj 703,uP c.shape),(.obj 704,re c.shaped),(.obj 705,lN c.color),(.obj 706,lN c.size),(.obj 707,uP c.full)],[],0,[.obj 702,.obj 703,.obj 704,.obj 705,.obj 706,.obj 707]⟩) (fun a=>a.1) (fun a=>x1 a.1 a.2.2 a.2.1=some (fc,m1)) (v.toNat+1,v,Ax v c.up) (by simp[Ax,h,aI];exact⟨by simp[fresh,aP,aK,cq,inObs,Pv.look,aI],et (by simp[fresh,aP,aK,cq,inObs,Pv.look,aI]),eu (by simp[fresh,aP,aK,ee,inObs,Pv.look,aI]),Ψ⟩) he ?_
  rintro⟨n,u,m⟩ ag ad
  simp only at ag ad⊢
  cases n with
  |zero=>simp[x1]at ag
  |succ n=>
   simp only[x1]at ag
   simp[aI]
   (with_reducible repeat' first|((first|apply bN|apply bP|apply bO)<;>intro h<;>try simp at h)|refine ak ?_|simp)
   ·rw[if_neg h]at ag
    refine bS.whl (n,hO (e8 u (hO m (hO m u)) m) u,e8 u (hO m (hO m u)) m) (Nat.lt_succ_self n) ag ?_
    simp[aI]
    exact⟨by simp[fresh,aP,aK,cq,inObs,Pv.look,aI],et (by simp[fresh,aP,aK,cq,inObs,Pv.look,aI]),eu (by simp[fresh,aP,aK,ee,inObs,Pv.look,aI]),Ψ⟩
   ·rw[if_pos h]at ag
    cases ag
    refine cR.at _ (.inl rfl) gb dU aL aL ?_
    simp[cV,aY,a6,aX]
end
section
open Go Go.Pv
theorem aho(c:bE)(v r:Int)(cr:bE)(he:rt c v=some (r,cr)):bL aA 163 [.int .i64 v,.eptr aI] (aQ c) fun e2 ai=>e2= .tuple []/\ai=aQ cr:=by have af:=cl c;simp only[aQ,aH]at af⊢;refine bL.mk mixed kh Tryz.func163 al9 Ψ af.obj fun aR cN=>?_;unfold Sk;simp[aI];(refine cY.ob (sF c v r cr he) bi bf bf dl ?_;rintro r ai ⟨rfl,rfl⟩;refine⟨(Same.keys bv bv),?_⟩;simp[cc,aQ,aH,aI]);(refine cR.at (aQ cr) Ψ bi (Same.keys bv bv) bf bf ?_;simp[cV,aY,a6,aX,inObs,Pv.look,aQ,aH,aI])
theorem Mn(c:bE)(t:T)(cr:bE)(he:BT t c=some cr):bL aA 144 [aI,t.e] (aQ c) fun e2 ai=>e2= .tuple []/\ai=aQ cr:=by
 have af:=cl c;have key:=Mi aQ cl Gi 163 [.eptr aI] (fun a=>by simp[aQ,aH,aI,inObs,Pv.look]) rfl (fun(v:Int) (c:bE)=>(rt c v).map Prod.snd) (fun v a bq h=>by rw[gB]at h;obtain⟨⟨r,bY⟩,I,rfl⟩:=h;exact aho a v r bY I) t c cr he
 simp only[aQ,aH]at af⊢;refine bL.mk mixed kh Tryz.func144 al8 Ψ af.obj fun aR cN=>?_;unfold Sj;simp[aI];(refine cY.ob (key) bi bf bf dl ?_;rintro r ai ⟨rfl,rfl⟩;refine⟨(Same.keys bv bv),?_⟩;simp[cc,aQ,aH,aI]);(refine cR.at (aQ cr) Ψ bi (Same.keys bv bv) bf bf ?_;simp[cV,aY,a6,aX,inObs,Pv.look,aQ,aH,aI])
def eP(K:Nat)(a:bE×List (Int×Bool)):cU:=⟨aH a.1++[(.obj K,re a.2)],[]⟩
def gu(K:Nat)(a:vg):cU:=⟨aH a.c++[(.obj K,re a.seen),(.obj 712,[.bool a.found])],[]⟩
def zD(K:Nat):Prop:=K=715\/K=716
theorem iU{K:Nat}(de:zD K)(a):dP (eP K a):=by unfold eP aH;rcases de with rfl|rfl;all_goals exact dP.of ⟨by intro m;simp[Pv.look],by intro m;simp[Pv.look]⟩ Ψ Ψ
theorem qS{K:Nat}(de:zD K)(a):dP (gu K a):=by unfold gu aH;rcases de with rfl|rfl;all_goals exact dP.of ⟨by intro m;simp[Pv.look],by intro m;simp[Pv.look]⟩ Ψ Ψ
theorem KA{K:Nat}(a b):Same (gu K a) (gu K b):=by
 refine⟨fun k=>?_,fun k=>rfl⟩;simp only[gu,aH,bQ,bU,Pv.look];repeat' split
 all_goals rfl
theorem ahu{K:Nat}(de:zD K)(n:Nat)(x:Int)(xw:∀t c seen a,qD n x t c seen=some a->bL aA 164 [aI,t.e,.int .i64 x,.gmap (.obj K)] (eP K (c,seen)) fun r ai=>r= .bool a.found/\ai=eP K (a.c,a.seen))
  (v:Int) (a bq:vg) (he:x0 (qD n x) x v a=some bq):bL aA 189 [.int .i64 v,.eptr aI,.ptr (.obj 712) 0,.eptr (.int .i64 x),.eptr (.gmap (.obj K))] (gu K a) fun r ai=>r= .tuple []/\ai=gu K bq:=by
 have af:=qS de a;simp only[x0,hr]at he;obtain⟨⟨r,bY⟩,I,U⟩:=he;simp only at U;have ae:=de;rcases ae with rfl|rfl;all_goals
  simp only[gu,aH,bQ,bU]at af⊢
  refine bL.mk mixed kh Tryz.func189 amb Ψ af.obj fun aR cN=>?_;unfold Sm
  simp[aI]
  (refine cY.ob (sF a.c v r bY I) bi bf bf dl ?_;rintro r ai ⟨rfl,rfl⟩;refine⟨(Same.keys bv bv),?_⟩;simp[cc,aQ,aH,aI])
  obtain⟨ac,r9,KO⟩:=a
  cases KO with
  |true=>
   simp at U;subst U
   (with_reducible repeat' first|refine ak ?_|simp)
   (refine cR.at (gu _ ⟨bY,r9,true⟩) Ψ (by first|exact qS _|exact qS ‹_› _) (Same.keys (by simp[gu,aH,aI]) (by simp[gu,aH,aI])) f8 f8 ?_;simp[cV,aY,a6,aX,inObs,Pv.look,gu,aH,aI])
  |false=>
   by_cases ab:r=x
   ·simp[ab]at U;subst U
    (with_reducible repeat' first|refine ak ?_|simp[ab])
    (refine cR.at (gu _ ⟨bY,r9,true⟩) Ψ (by first|exact qS _|exact qS ‹_› _) (Same.keys (by simp[gu,aH,aI]) (by simp[gu,aH,aI])) f8 f8 ?_;simp[cV,aY,a6,aX,inObs,Pv.look,gu,aH,aI])
   ·have iZ:(r==x)=false:=by simp[ab]
    simp only[ab,hk,or_self,if_false]at U
    cases jr:(tg r r9).getD false with
    |true=>
     simp[jr]at U;subst U
     (with_reducible repeat' first|refine ak ?_|simp[iZ,jr])
     (refine cR.at (gu _ ⟨bY,r9,false⟩) Ψ (by first|exact qS _|exact qS ‹_› _) (Same.keys (by simp[gu,aH,aI]) (by simp[gu,aH,aI])) f8 f8 ?_;simp[cV,aY,a6,aX,inObs,Pv.look,gu,aH,aI])
    |false=>
     cases hf:bY.shd r with
     |false=>
      have Nf:(tg r bY.shaped).getD false=false:=hf
      simp[jr,hf]at U;subst U
      (with_reducible repeat' first|refine ak ?_|simp[iZ,jr,Nf])
      (refine cR.at (gu _ ⟨bY,r9,false⟩) Ψ (by first|exact qS _|exact qS ‹_› _) (Same.keys (by simp[gu,aH,aI]) (by simp[gu,aH,aI])) f8 f8 ?_;simp[cV,aY,a6,aX,inObs,Pv.look,gu,aH,aI])
     |true=>
      have Nf:(tg r bY.shaped).getD false=true:=hf
      simp[jr,hf]at U
      have aN:=xw _ _ _ _ U
      (with_reducible repeat' first|refine ak ?_|simp[iZ,jr,Nf])
      (refine hs.ob (aN) d8 d8 (Same.keys (by simp[eP,aH,aI]) (by simp[eP,aH,aI])) (by simp only[eP,aH,aI,bQ,bU];exact aL) (by simp only[eP,aH,aI,bQ,bU];exact aL) (by simp[inObs,Pv.look,eP,aH,aI]) ?_;simp[cc,eP,aH,aI])
      (with_reducible repeat' first|refine ak ?_|simp)
      (refine cR.at (gu _ bq) Ψ (by first|exact qS _|exact qS ‹_› _) (Same.keys (by simp[gu,aH,aI]) (by simp[gu,aH,aI])) f8 f8 ?_;simp[cV,aY,a6,aX,inObs,Pv.look,gu,aH,aI])
theorem Hq{K:Nat}(de:zD K)(x:Int)(n:Nat):∀(t:T) (c:bE) (seen:List (Int×Bool)) (a:vg),qD n x t c seen=some a->bL aA 164 [aI,t.e,.int .i64 x,.gmap (.obj K)] (eP K (c,seen)) fun r ai=>r= .bool a.found/\ai=eP K (a.c,a.seen):=by
 induction n with
 |zero=>intro t c seen a h;simp[qD]at h
 |succ n bK=>
  intro t c seen a h;simp only[qD]at h;have af:=iU de (c,seen);have key:=Mi (gu K) (qS de) KA 189 [.eptr aI,.ptr (.obj 712) 0,.eptr (.int .i64 x),.eptr (.gmap (.obj K))] (fun a=>by rcases de with rfl|rfl<;>simp[gu,aH,aI,inObs,Pv.look]) rfl (x0 (qD n x) x) (fun v a bq h=>ahu de n x bK v a bq h) t ⟨c,seen,false⟩ a h;have ae:=de;rcases ae with rfl|rfl;all_goals
   simp only[eP,aH,bQ,bU]at af⊢
   refine bL.mk mixed kh Tryz.func164 ama Ψ af.obj fun aR cN=>?_;unfold Sl
   simp[aI]
   refine cY.new key (qS de _) f8 f8 (by simp[inObs,Pv.look,gu,aH,aI]) ?_
   rintro r ai ⟨rfl,rfl⟩
   refine⟨fun m hm=>.inl ⟨?_,KA _ _⟩,?_⟩
   ·exact((KA _ _).inObs _).2 hm
   simp[cc,gu,aH]
   (with_reducible repeat' first|refine ak ?_|simp)
   (refine cR.at (eP _ (a.c,a.seen)) Ψ d8 (Same.keys (by simp[eP,aH,aI]) (by simp[eP,aH,aI])) (by simp only[eP,aH,aI,bQ,bU];exact aL) (by simp only[eP,aH,aI,bQ,bU];exact aL) ?_;simp[cV,aY,a6,aX,inObs,Pv.look,eP,aH,aI])
@[simp]theorem N8:re []=kv []:=rfl
@[simp]theorem avX(t:T):ya (some t)=t.e:=rfl
@[simp]theorem avW:ya none= .agg [.int .i64 0,.int .i64 0,.str [],.slice 4 .nil []]:=rfl
theorem Vp(n:Nat)(x:Int)(t:T)(c:bE)(p:Bool×bE)(he:vZ n x t c=some p):bL aA 165 [aI,.int .i64 x,t.e] (aQ c) fun r ai=>r= .bool p.1/\ai=aQ p.2:=by have af:=cl c;simp only[vZ,gB]at he;obtain⟨a,I,rfl⟩:=he;have de:zD 715:= .inl rfl;have key:=Hq de x n t (c.know x t) [] a I;simp only[aQ,aH]at af⊢;refine bL.mk mixed kh Tryz.func165 al7 Ψ af.obj fun aR cN=>?_;unfold Si;simp[aI];(refine cY.ob (key) d8 (by simp only[eP,aH,aI,bE.know,bQ,bU];exact aL) (by simp only[eP,aH,aI,bE.know,bQ,bU];exact aL) (by simp[inObs,Pv.look,eP,aH,aI,bE.know]) ?_;rintro r ai ⟨rfl,rfl⟩;refine⟨(Same.keys (by simp[eP,aH,aI,bE.know]) (by simp[eP,aH,aI,bE.know])),?_⟩;simp[cc,eP,aH,aI,bE.know]);(refine cR.at (aQ a.c) Ψ bi (Same.keys bv bv) bf bf ?_;simp[cV,aY,a6,aX,inObs,Pv.look,aQ,aH,aI])
theorem Vn(n:Nat):∀(a b:T) (c:bE) (p:Bool×bE),gV n a b c=some p->bL aA 145 [aI,a.e,b.e] (aQ c) fun r ai=>r= .bool p.1/\ai=aQ p.2:=by
 induction n with
 |zero=>intro a b c p h;simp[gV]at h
 |succ n bK=>
  intro a b c p he;have af:=cl c;have El:∀i j,a= .var i->b= .var j->bL aA 145 [aI,a.e,b.e] (aQ c) fun r ai=>r= .bool p.1/\ai=aQ p.2:=by
   rintro i j rfl rfl;simp only[gV,hr]at he;obtain⟨⟨x,bY⟩,I,⟨y,cB⟩,U,ao⟩:=he;simp only at U ao;simp only[aQ,aH]at af⊢;refine bL.mk mixed kh Tryz.func145 zF Ψ af.obj fun aR cN=>?_;unfold w1;simp[aI];(refine cY.ob (sF c i x bY I) bi bf bf dl ?_;rintro r ai ⟨rfl,rfl⟩;refine⟨(Same.keys bv bv),?_⟩;simp[cc,aQ,aH,aI]);(with_reducible repeat' first|refine ak ?_|simp);(refine cY.ob (sF bY j y cB U) bi bf bf dl ?_;rintro r ai ⟨rfl,rfl⟩;refine⟨(Same.keys bv bv),?_⟩;simp[cc,aQ,aH,aI]);by_cases ha:x=y
   ·rw[if_pos ha]at ao;cases ao;(with_reducible repeat' first|refine ak ?_|simp[ha]);(refine cR.at (aQ cB) Ψ bi (Same.keys bv bv) bf bf ?_;simp[cV,aY,a6,aX,inObs,Pv.look,aQ,aH,aI])
   ·rw[if_neg ha]at ao;have BB:(x==y)=false:=by simp[ha]
    have VH:zD 715:= .inl rfl;have ah8:zD 716:= .inr rfl;obtain⟨u,v,By,a7⟩:∃u v,((u=y/\v=x/\y<x)\/(u=x/\v=y/\¬y<x))/\sA (gV n) n u v (cB.join u v)=some p:=by
     by_cases bD:y<x
     ·rw[if_pos bD]at ao;exact⟨y,x,.inl ⟨rfl,rfl,bD⟩,ao⟩
     ·rw[if_neg bD]at ao;exact⟨x,y,.inr ⟨rfl,rfl,bD⟩,ao⟩
    clear ao;obtain⟨d,aD⟩:∃d,d=cB.join u v:=⟨_,rfl⟩;have fF:d.up=e8 v u cB.up:=by rw[aD];rfl
    have e5:d.shape=cB.shape:=by rw[aD];rfl
    have gY:d.shaped=cB.shaped:=by rw[aD];rfl
    have h6:d.color=cB.color:=by rw[aD];rfl
    have h7:d.size=cB.size:=by rw[aD];rfl
    have h8:d.full=cB.full:=by rw[aD];rfl
    rw[<-aD]at a7;simp only[sA]at a7;cases az:d.shd v with
    |false=>
     have lM:(tg v cB.shaped).getD false=false:=by rw[<-gY];exact az
     rw[if_pos az]at a7;cases hu:d.shd u with
     |false=>
      have vR:(tg u cB.shaped).getD false=false:=by rw[<-gY];exact hu
      rw[if_pos hu]at a7;cases a7;rcases By with⟨rfl,rfl,bD⟩|⟨rfl,rfl,bD⟩;all_goals
       (with_reducible repeat' first|refine ak ?_|simp[BB,bD,lM,vR])
       (refine cR.at (aQ d) Ψ bi (Same.keys (by simp[aQ,aH,aI,fF,e5,gY,h6,h7,h8]) (by simp[aQ,aH,aI,fF,e5,gY,h6,h7,h8])) (by simp only[aQ,aH,aI,fF,e5,gY,h6,h7,h8,bQ,bU];exact aL) (by simp only[aQ,aH,aI,fF,e5,gY,h6,h7,h8,bQ,bU];exact aL) ?_;simp[cV,aY,a6,aX,inObs,Pv.look,aQ,aH,aI,fF,e5,gY,h6,h7,h8])
     |true=>
      have vR:(tg u cB.shaped).getD false=true:=by rw[<-gY];exact hu
      rw[if_neg (by simp[hu]),gB]at a7;obtain⟨a,b8,rfl⟩:=a7;have key:=Hq VH u n _ _ _ _ b8;rw[show d.shp u=(tg u cB.shape).getD .nil from by rw[<-e5];rfl]at key;rcases By with⟨rfl,rfl,bD⟩|⟨rfl,rfl,bD⟩;all_goals
       (with_reducible repeat' first|refine ak ?_|simp[BB,bD,lM,vR])
       (refine cY.ob (key) d8 gc gc (by simp[inObs,Pv.look,eP,aH,aI,fF,e5,gY,h6,h7,h8]) ?_;rintro r ai ⟨rfl,rfl⟩;refine⟨(Same.keys (by simp[eP,aH,aI,fF,e5,gY,h6,h7,h8]) (by simp[eP,aH,aI,fF,e5,gY,h6,h7,h8])),?_⟩;simp[cc,eP,aH,aI,fF,e5,gY,h6,h7,h8])
       (with_reducible repeat' first|refine ak ?_|simp)
       (refine cR.at (aQ a.c) Ψ bi (Same.keys bv bv) bf bf ?_;simp[cV,aY,a6,aX,inObs,Pv.look,aQ,aH,aI])
    |true=>
     have lM:(tg v cB.shaped).getD false=true:=by rw[<-gY];exact az
     rw[if_neg (by simp[az])]at a7;rw[show d.shp v=(tg v cB.shape).getD .nil from by rw[<-e5];rfl]at a7;cases hu:d.shd u with
     |false=>
      have vR:(tg u cB.shaped).getD false=false:=by rw[<-gY];exact hu
      rw[if_pos hu]at a7;have key:=Vp n u _ d p a7;cases aC:tg v cB.shape;all_goals
       rw[aC]at key
       simp only[ib,jy]at key
       rcases By with⟨rfl,rfl,bD⟩|⟨rfl,rfl,bD⟩
       all_goals
        (with_reducible repeat' first|refine ak ?_|simp[BB,bD,lM,vR,aC])
        (refine cY.ob (key) bi (by simp only[aQ,aH,aI,fF,e5,gY,h6,h7,h8,bQ,bU];exact aL) (by simp only[aQ,aH,aI,fF,e5,gY,h6,h7,h8,bQ,bU];exact aL) (by simp[inObs,Pv.look,aQ,aH,aI,fF,e5,gY,h6,h7,h8]) ?_;rintro r ai ⟨rfl,rfl⟩;refine⟨(Same.keys (by simp[aQ,aH,aI,fF,e5,gY,h6,h7,h8]) (by simp[aQ,aH,aI,fF,e5,gY,h6,h7,h8])),?_⟩;simp[cc,aQ,aH,aI,fF,e5,gY,h6,h7,h8])
        (with_reducible repeat' first|refine ak ?_|simp)
        (refine cR.at (aQ p.2) Ψ bi (Same.keys bv bv) bf bf ?_;simp[cV,aY,a6,aX,inObs,Pv.look,aQ,aH,aI])
     |true=>
      have vR:(tg u cB.shaped).getD false=true:=by rw[<-gY];exact hu
      rw[if_neg (by simp[hu]),hr]at a7;obtain⟨a,b8,c6⟩:=a7;have key:=Hq VH u n _ _ _ _ b8;obtain⟨o,aC⟩:∃o,tg v cB.shape=o:=⟨_,rfl⟩;rw[aC]at key c6;obtain⟨ac,r9,KO⟩:=a;cases KO with
      |true=>
       simp at c6;subst c6;cases o;all_goals
        simp only[ib,jy]at key
        rcases By with⟨rfl,rfl,bD⟩|⟨rfl,rfl,bD⟩
        all_goals
         (with_reducible repeat' first|refine ak ?_|simp[BB,bD,lM,vR,aC])
         (refine hs.ob (key) d8 d8 (Same.keys (by simp[eP,aH,aI,fF,e5,gY,h6,h7,h8]) (by simp[eP,aH,aI,fF,e5,gY,h6,h7,h8])) gc gc (by simp[inObs,Pv.look,eP,aH,aI,fF,e5,gY,h6,h7,h8]) ?_;simp[cc,eP,aH,aI,fF,e5,gY,h6,h7,h8])
         (with_reducible repeat' first|refine ak ?_|simp)
         (refine cR.at (aQ ac) Ψ bi (Same.keys bv bv) bf bf ?_;simp[cV,aY,a6,aX,inObs,Pv.look,aQ,aH,aI])
      |false=>
       simp only[hk,if_false,hr]at c6;obtain⟨b,dM,jm⟩:=c6;have uK:=Hq ah8 u n _ _ _ _ dM;rw[show ac.shp u=(tg u ac.shape).getD .nil from rfl]at uK;obtain⟨KW,ash,ada⟩:=b;cases ada with
       |true=>
        simp at jm;subst jm;cases o;all_goals
         simp only[ib,jy]at key
         rcases By with⟨rfl,rfl,bD⟩|⟨rfl,rfl,bD⟩
         all_goals
          (with_reducible repeat' first|refine ak ?_|simp[BB,bD,lM,vR,aC])
          (refine hs.ob (key) d8 d8 (Same.keys (by simp[eP,aH,aI,fF,e5,gY,h6,h7,h8]) (by simp[eP,aH,aI,fF,e5,gY,h6,h7,h8])) gc gc (by simp[inObs,Pv.look,eP,aH,aI,fF,e5,gY,h6,h7,h8]) ?_;simp[cc,eP,aH,aI,fF,e5,gY,h6,h7,h8])
          (with_reducible repeat' first|refine ak ?_|simp)
          (refine hs.ob (uK) d8 d8 (Same.keys (by simp[eP,aH,aI]) (by simp[eP,aH,aI])) (by simp only[eP,aH,aI,bQ,bU];exact aL) (by simp only[eP,aH,aI,bQ,bU];exact aL) (by simp[inObs,Pv.look,eP,aH,aI]) ?_;simp[cc,eP,aH,aI])
          (with_reducible repeat' first|refine ak ?_|simp)
          (refine cR.at (aQ KW) Ψ bi (Same.keys bv bv) bf bf ?_;simp[cV,aY,a6,aX,inObs,Pv.look,aQ,aH,aI])
       |false=>
        simp only[hk,if_false]at jm;have NP:=bK _ _ _ _ jm;rw[show KW.shp u=(tg u KW.shape).getD .nil from rfl]at NP;cases o;all_goals
         simp only[ib,jy]at key NP
         rcases By with⟨rfl,rfl,bD⟩|⟨rfl,rfl,bD⟩
         all_goals
          (with_reducible repeat' first|refine ak ?_|simp[BB,bD,lM,vR,aC])
          (refine hs.ob (key) d8 d8 (Same.keys (by simp[eP,aH,aI,fF,e5,gY,h6,h7,h8]) (by simp[eP,aH,aI,fF,e5,gY,h6,h7,h8])) gc gc (by simp[inObs,Pv.look,eP,aH,aI,fF,e5,gY,h6,h7,h8]) ?_;simp[cc,eP,aH,aI,fF,e5,gY,h6,h7,h8])
          (with_reducible repeat' first|refine ak ?_|simp)
          (refine hs.ob (uK) d8 d8 (Same.keys (by simp[eP,aH,aI]) (by simp[eP,aH,aI])) (by simp only[eP,aH,aI,bQ,bU];exact aL) (by simp only[eP,aH,aI,bQ,bU];exact aL) (by simp[inObs,Pv.look,eP,aH,aI]) ?_;simp[cc,eP,aH,aI])
          (with_reducible repeat' first|refine ak ?_|simp)
          (refine hs.ob (NP) bi bi (Same.keys bv bv) bf bf dl ?_;simp[cc,aQ,aH,aI])
          (with_reducible repeat' first|refine ak ?_|simp)
          (refine cR.at (aQ p.2) Ψ bi (Same.keys bv bv) bf bf ?_;simp[cV,aY,a6,aX,inObs,Pv.look,aQ,aH,aI])
  have az:∀i,a= .var i->b.kind≠1->bL aA 145 [aI,a.e,b.e] (aQ c) fun r ai=>r= .bool p.1/\ai=aQ p.2:=by
   rintro i rfl ad;have xi:((rt c i).bind fun p=>if p.2.shd p.1=false then vZ n p.1 b p.2 else gV n (p.2.shp p.1) b p.2)=some p:=by cases b<;>first|exact he|simp at ad
   simp only[hr]at xi;obtain⟨⟨x,bY⟩,I,U⟩:=xi;simp only at U;have gn:(b.kind==1)=false:=by simp[ad]
   simp only[aQ,aH]at af⊢;refine bL.mk mixed kh Tryz.func145 zF Ψ af.obj fun aR cN=>?_;unfold w1;simp[aI];(with_reducible repeat' first|refine ak ?_|simp[gn,ad]);(refine cY.ob (sF c i x bY I) bi bf bf dl ?_;rintro r ai ⟨rfl,rfl⟩;refine⟨(Same.keys bv bv),?_⟩;simp[cc,aQ,aH,aI]);cases ab:bY.shd x with
   |false=>have iZ:(tg x bY.shaped).getD false=false:=ab;rw[if_pos ab]at U;(with_reducible repeat' first|refine ak ?_|simp[iZ]);(refine cY.ob (Vp n x b bY p U) bi bf bf dl ?_;rintro r ai ⟨rfl,rfl⟩;refine⟨(Same.keys bv bv),?_⟩;simp[cc,aQ,aH,aI]);(refine cR.at (aQ p.2) Ψ bi (Same.keys bv bv) bf bf ?_;simp[cV,aY,a6,aX,inObs,Pv.look,aQ,aH,aI])
   |true=>have iZ:(tg x bY.shaped).getD false=true:=ab;rw[if_neg (by simp[ab])]at U;have key:=bK _ _ _ _ U;(with_reducible repeat' first|refine ak ?_|simp[iZ]);(refine hs.ob (key) bi bi (Same.keys bv bv) bf bf dl ?_;simp[cc,aQ,aH,aI]);(with_reducible repeat' first|refine ak ?_|simp);(refine cR.at (aQ p.2) Ψ bi (Same.keys bv bv) bf bf ?_;simp[cV,aY,a6,aX,inObs,Pv.look,aQ,aH,aI])
  cases a with
  |var i=>
   cases b with
   |var j=>exact El i j rfl rfl
   |_=>exact az i rfl Ψ
  |pair bF a2=>
   cases b with
   |var j=>simp only[gV]at he;have key:=bK _ _ _ _ he;simp only[aQ,aH]at af⊢;refine bL.mk mixed kh Tryz.func145 zF Ψ af.obj fun aR cN=>?_;unfold w1;simp[aI];(refine cY.ob (key) bi bf bf dl ?_;rintro r ai ⟨rfl,rfl⟩;refine⟨(Same.keys bv bv),?_⟩;simp[cc,aQ,aH,aI]);(refine cR.at (aQ p.2) Ψ bi (Same.keys bv bv) bf bf ?_;simp[cV,aY,a6,aX,inObs,Pv.look,aQ,aH,aI])
   |pair b1 b2=>
    simp only[gV,hr]at he;obtain⟨⟨f1,bY⟩,I,U⟩:=he;have key:=bK _ _ _ _ I;simp only[aQ,aH]at af⊢;refine bL.mk mixed kh Tryz.func145 zF Ψ af.obj fun aR cN=>?_;unfold w1;simp[aI];(with_reducible repeat' first|refine ak ?_|simp);(refine hs.ob (key) bi bi (Same.keys bv bv) bf bf dl ?_;simp[cc,aQ,aH,aI]);cases f1 with
    |false=>simp at U;subst U;(with_reducible repeat' first|refine ak ?_|simp);(refine cR.at (aQ bY) Ψ bi (Same.keys bv bv) bf bf ?_;simp[cV,aY,a6,aX,inObs,Pv.look,aQ,aH,aI])
    |true=>simp at U;have uK:=bK _ _ _ _ U;(with_reducible repeat' first|refine ak ?_|simp);(refine hs.ob (uK) bi bi (Same.keys bv bv) bf bf dl ?_;simp[cc,aQ,aH,aI]);(with_reducible repeat' first|refine ak ?_|simp);(refine cR.at (aQ p.2) Ψ bi (Same.keys bv bv) bf bf ?_;simp[cV,aY,a6,aX,inObs,Pv.look,aQ,aH,aI])
   |_=>simp[gV]at he;subst he;simp only[aQ,aH]at af⊢;refine bL.mk mixed kh Tryz.func145 zF Ψ af.obj fun aR cN=>?_;unfold w1;simp[aI];(refine cR.at (aQ c) Ψ bi (Same.keys bv bv) bf bf ?_;simp[cV,aY,a6,aX,inObs,Pv.look,aQ,aH,aI])
  |_=>
   cases b with
   |var j=>simp only[gV]at he;have key:=bK _ _ _ _ he;simp only[aQ,aH]at af⊢;refine bL.mk mixed kh Tryz.func145 zF Ψ af.obj fun aR cN=>?_;unfold w1;simp[aI];(refine cY.ob (key) bi bf bf dl ?_;rintro r ai ⟨rfl,rfl⟩;refine⟨(Same.keys bv bv),?_⟩;simp[cc,aQ,aH,aI]);(refine cR.at (aQ p.2) Ψ bi (Same.keys bv bv) bf bf ?_;simp[cV,aY,a6,aX,inObs,Pv.look,aQ,aH,aI])
   |_=>
    simp[gV]at he;subst he;simp only[aQ,aH]at af⊢;refine bL.mk mixed kh Tryz.func145 zF Ψ af.obj fun aR cN=>?_;unfold w1;simp[aI];((with_reducible repeat' first|refine ak ?_|simp|((first|apply bN|apply bP|apply bO)<;>intro h<;>try simp at h))<;>(try exact cf));all_goals(refine cR.at (aQ c) Ψ bi (Same.keys bv bv) bf bf ?_;simp[cV,aY,a6,aX,inObs,Pv.look,aQ,aH,aI])
    all_goals simp_all
def nn(c:bE):Prop:= ∀x,0<=c.sz x/\c.sz x<=5001
theorem nn.rt{c:bE}(h:nn c){v r:Int}{cr:bE}(he:rt c v=some (r,cr)):nn cr:=by simp only[Pv.rt,gB,kl]at he;obtain⟨p,_,_,rfl⟩:=he;exact h
theorem nn.put{c:bE}(h:nn c){x k:Int}(ae:0<=k/\k<=5001)(m:List (Int×Int)):nn {c with size:=e8 x k c.size,color:=m}:=fun z=>by
 show 0<=(tg z (e8 x k c.size)).getD 0/\(tg z (e8 x k c.size)).getD 0<=5001;rw[nQ];split
 ·exact ae
 ·exact h z
theorem ahL(c:bE)(v:Int)(p:Int×bE)(he:z7 v c=some p):bL aA 192 [.int .i64 v,.eptr aI] (aQ c) fun r ai=>r= .int .i64 p.1/\ai=aQ p.2:=by have af:=cl c;simp only[z7,gB]at he;obtain⟨⟨r,bY⟩,I,rfl⟩:=he;simp only[aQ,aH]at af⊢;refine bL.mk mixed kh Tryz.func192 amf Ψ af.obj fun aR cN=>?_;unfold Sr;simp[aI];(refine hs.ob (sF c v r bY I) bi bi (Same.keys bv bv) bf bf dl ?_;simp[cc,aQ,aH,aI]);(with_reducible repeat' first|refine ak ?_|simp);(refine cR.at (aQ bY) Ψ bi (Same.keys bv bv) bf bf ?_;simp[cV,aY,a6,aX,inObs,Pv.look,aQ,aH,aI]);all_goals rfl
def gL(a:bE×Bool):cU:=⟨aH a.1++[(.obj 712,[.bool a.2])],[]⟩
theorem rz(a):dP (gL a):=by unfold gL aH;exact dP.of ⟨by intro m;simp[Pv.look],by intro m;simp[Pv.look]⟩ Ψ Ψ
theorem acz(a b):Same (gL a) (gL b):=Same.keys (by simp[gL,aH]) (by simp[gL,aH])
theorem ahK(n:Nat)(xw:∀x c p,rp n x c=some p->nn c->nn p.2/\bL aA 167 [aI,.int .i64 x] (aQ c) fun r ai=>r= .bool p.1/\ai=aQ p.2)
  (v:Int) (a bq:bE×Bool) (a8:nn a.1) (he:Aj (rp n) v a=some bq):nn bq.1/\bL aA 191 [.int .i64 v,.ptr (.obj 712) 0,.eptr aI] (gL a) fun r ai=>r= .tuple []/\ai=gL bq:=by
 have af:=rz a;obtain⟨c,f⟩:=a;cases f with
 |false=>simp[Aj]at he;subst he;refine⟨a8,?_⟩;simp only[gL,aH,bQ,bU]at af⊢;refine bL.mk mixed kh Tryz.func191 YN Ψ af.obj fun aR cN=>?_;unfold K9;simp[aI];(with_reducible repeat' first|refine ak ?_|simp);(refine cR.at (gL (c,false)) Ψ (by first|exact rz _|exact rz ‹_› _) (Same.keys (by simp[gL,aH,aI]) (by simp[gL,aH,aI])) (by simp only[gL,aH,aI,bQ,bU];exact aL) (by simp only[gL,aH,aI,bQ,bU];exact aL) ?_;simp[cV,aY,a6,aX,inObs,Pv.look,gL,aH,aI])
 |true=>
  simp only[Aj,if_true,hr,gB]at he;obtain⟨⟨r,bY⟩,I,⟨f2,cB⟩,U,rfl⟩:=he;obtain⟨z2,key⟩:=xw _ _ _ U (a8.rt I);refine⟨z2,?_⟩;simp only[gL,aH,bQ,bU]at af⊢;refine bL.mk mixed kh Tryz.func191 YN Ψ af.obj fun aR cN=>?_;unfold K9;simp[aI];(with_reducible repeat' first|refine ak ?_|simp);(refine hs.ob (sF c v r bY I) bi bi (Same.keys bv bv) bf bf dl ?_;simp[cc,aQ,aH,aI]);(with_reducible repeat' first|refine ak ?_|simp);(refine hs.ob (key) bi bi (Same.keys bv bv) bf bf dl ?_;simp[cc,aQ,aH,aI]);cases f2 with
  |true=>(with_reducible repeat' first|refine ak ?_|simp);(refine cR.at (gL (cB,true)) Ψ (by first|exact rz _|exact rz ‹_› _) (Same.keys (by simp[gL,aH,aI]) (by simp[gL,aH,aI])) (by simp only[gL,aH,aI,bQ,bU];exact aL) (by simp only[gL,aH,aI,bQ,bU];exact aL) ?_;simp[cV,aY,a6,aX,inObs,Pv.look,gL,aH,aI])
  |false=>(with_reducible repeat' first|refine ak ?_|simp);(refine cR.at (gL (cB,false)) Ψ (by first|exact rz _|exact rz ‹_› _) (Same.keys (by simp[gL,aH,aI]) (by simp[gL,aH,aI])) (by simp only[gL,aH,aI,bQ,bU];exact aL) (by simp only[gL,aH,aI,bQ,bU];exact aL) ?_;simp[cV,aY,a6,aX,inObs,Pv.look,gL,aH,aI])
theorem ahJ(n:Nat):∀(x:Int) (c:bE) (p:Bool×bE),rp n x c=some p->nn c->nn p.2/\bL aA 167 [aI,.int .i64 x] (aQ c) fun r ai=>r= .bool p.1/\ai=aQ p.2:=by
 induction n with
 |zero=>intro x c p h;simp[rp]at h
 |succ n bK=>
  intro x c p he a8;have af:=cl c;simp only[rp]at he;by_cases U:c.col x=2
  ·rw[if_pos U]at he;cases he;have DJ:hO c.color x=2:=U;refine⟨a8,?_⟩;simp only[aQ,aH]at af⊢;refine bL.mk mixed kh Tryz.func167 E0 Ψ af.obj fun aR cN=>?_;unfold AG;simp[aI];(with_reducible repeat' first|refine ak ?_|simp[DJ]);(refine cR.at (aQ c) Ψ bi (Same.keys bv bv) bf bf ?_;simp[cV,aY,a6,aX,inObs,Pv.look,aQ,aH,aI])
  rw[if_neg U]at he;have DJ:(hO c.color x==2)=false:=by simp;exact U
  by_cases I:c.col x=1
  ·rw[if_pos I]at he;cases he;have oV:hO c.color x=1:=I;refine⟨a8,?_⟩;simp only[aQ,aH]at af⊢;refine bL.mk mixed kh Tryz.func167 E0 Ψ af.obj fun aR cN=>?_;unfold AG;simp[aI];(with_reducible repeat' first|refine ak ?_|simp[oV]);(refine cR.at (aQ c) Ψ bi (Same.keys bv bv) bf bf ?_;simp[cV,aY,a6,aX,inObs,Pv.look,aQ,aH,aI])
  rw[if_neg I]at he;have oV:(hO c.color x==1)=false:=by simp;exact I
  have WU:nn (c.grey x):=a8.put Ω _;cases jU:(c.grey x).shd x with
  |false=>rw[if_pos jU]at he;cases he;have uC:(tg x c.shaped).getD false=false:=jU;refine⟨WU,?_⟩;simp only[aQ,aH]at af⊢;refine bL.mk mixed kh Tryz.func167 E0 Ψ af.obj fun aR cN=>?_;unfold AG;simp[aI];(with_reducible repeat' first|refine ak ?_|simp[DJ,oV,uC]);(refine cR.at (aQ ((c.grey x).black x)) Ψ bi (Same.keys (by simp[aQ,aH,aI,bE.grey,bE.black]) (by simp[aQ,aH,aI,bE.grey,bE.black])) (by simp only[aQ,aH,aI,bE.grey,bE.black,bQ,bU];exact aL) (by simp only[aQ,aH,aI,bE.grey,bE.black,bQ,bU];exact aL) ?_;simp[cV,aY,a6,aX,inObs,Pv.look,aQ,aH,aI,bE.grey,bE.black])
  |true=>
   rw[if_neg (by simp[jU]),hr]at he;have uC:(tg x c.shaped).getD false=true:=jU;obtain⟨⟨e,f⟩,ao,a7⟩:=he;simp only at a7;obtain⟨acd,key⟩:=Vm gL rz acz 191 [.ptr (.obj 712) 0,.eptr aI] (fun a=>by simp[gL,aH,aI,inObs,Pv.look]) rfl (fun a=>nn a.1) (Aj (rp n)) (fun v a bq a8 h=>ahK n bK v a bq a8 h) _ _ _ WU ao;rw[show(c.grey x).shp x=(tg x c.shape).getD .nil from rfl]at key;cases f with
   |false=>simp at a7;subst a7;refine⟨acd,?_⟩;simp only[aQ,aH]at af⊢;refine bL.mk mixed kh Tryz.func167 E0 Ψ af.obj fun aR cN=>?_;unfold AG;simp[aI];(with_reducible repeat' first|refine ak ?_|simp[DJ,oV,uC]);(refine cY.ob (key) (by first|exact rz _|exact rz ‹_› _) (by simp only[gL,aH,aI,bE.grey,bQ,bU];exact aL) (by simp only[gL,aH,aI,bE.grey,bQ,bU];exact aL) (by simp[inObs,Pv.look,gL,aH,aI,bE.grey]) ?_;rintro r ai ⟨rfl,rfl⟩;refine⟨(Same.keys (by simp[gL,aH,aI,bE.grey]) (by simp[gL,aH,aI,bE.grey])),?_⟩;simp[cc,gL,aH,aI,bE.grey]);(with_reducible repeat' first|refine ak ?_|simp);(refine cR.at (aQ e) Ψ bi (Same.keys bv bv) bf bf ?_;simp[cV,aY,a6,aX,inObs,Pv.look,aQ,aH,aI])
   |true=>
    rw[if_neg Ψ,gB]at a7;obtain⟨⟨k,aE⟩,b8,rfl⟩:=a7;obtain⟨z2,b2,uK⟩:=ahA aQ cl Gi 192 [.eptr aI] (fun a=>by simp[aQ,aH,aI,inObs,Pv.look]) rfl nn z7 (fun v a p a8 h=>by simp only[z7,gB]at h;obtain⟨⟨r,bY⟩,I,rfl⟩:=h;exact⟨a8.rt I,(a8.rt I r).1,Int.le_trans (a8.rt I r).2 Ω⟩) (fun v a p _ h=>ahL a v p h) _ _ _ acd b8
    rw[show bE.shp e x=(tg x e.shape).getD .nil from rfl]at uK;refine⟨z2.put b2 _,?_⟩;simp only[aQ,aH]at af⊢;refine bL.mk mixed kh Tryz.func167 E0 Ψ af.obj fun aR cN=>?_;unfold AG;simp[aI];(with_reducible repeat' first|refine ak ?_|simp[DJ,oV,uC]);(refine cY.ob (key) (by first|exact rz _|exact rz ‹_› _) (by simp only[gL,aH,aI,bE.grey,bQ,bU];exact aL) (by simp only[gL,aH,aI,bE.grey,bQ,bU];exact aL) (by simp[inObs,Pv.look,gL,aH,aI,bE.grey]) ?_;rintro r ai ⟨rfl,rfl⟩;refine⟨(Same.keys (by simp[gL,aH,aI,bE.grey]) (by simp[gL,aH,aI,bE.grey])),?_⟩;simp[cc,gL,aH,aI,bE.grey]);(with_reducible repeat' first|refine ak ?_|simp);(refine hs.ob (uK) bi bi (Same.keys bv bv) bf bf dl ?_;simp[cc,aQ,aH,aI]);(with_reducible repeat' first|refine ak ?_|simp);(refine cR.at (aQ (({aE with size:=e8 x k aE.size}:bE).black x)) Ψ bi (Same.keys (by simp[aQ,aH,aI,bE.black]) (by simp[aQ,aH,aI,bE.black])) (by simp only[aQ,aH,aI,bE.black,bQ,bU];exact aL) (by simp only[aQ,aH,aI,bE.black,bQ,bU];exact aL) ?_;simp[cV,aY,a6,aX,inObs,Pv.look,aQ,aH,aI,bE.black])
theorem ahI(n:Nat)(xw:∀x c p,rn n x c=some p->bL aA 168 [aI,.int .i64 x] (aQ c) fun r ai=>r=p.1.e/\ai=aQ p.2)
  (v:Int) (c:bE) (p:T×bE) (he:CS (rn n) v c=some p):bL aA 193 [.int .i64 v,.eptr aI] (aQ c) fun r ai=>r= .tuple [p.1.e,.bool true]/\ai=aQ p.2:=by
 have af:=cl c;simp only[CS,hr]at he;obtain⟨⟨r,bY⟩,I,U⟩:=he;have key:=xw _ _ _ U;simp only[aQ,aH]at af⊢;refine bL.mk mixed kh Tryz.func193 ame Ψ af.obj fun aR cN=>?_;unfold Sq;simp[aI];(with_reducible repeat' first|refine ak ?_|simp);(refine hs.ob (sF c v r bY I) bi bi (Same.keys bv bv) bf bf dl ?_;simp[cc,aQ,aH,aI]);(with_reducible repeat' first|refine ak ?_|simp);(refine hs.ob (key) bi bi (Same.keys bv bv) bf bf dl ?_;simp[cc,aQ,aH,aI]);(with_reducible repeat' first|refine ak ?_|simp);(refine cR.at (aQ p.2) Ψ bi (Same.keys bv bv) bf bf ?_;simp[cV,aY,a6,aX,inObs,Pv.look,aQ,aH,aI])
theorem kj(n:Int):bR aA 28 [.int .i64 n] (T.var n).e:=by refine br kh Tryz.func28 amz fun aR=>?_;unfold SL;exact cu
theorem ahH(n:Nat):∀(x:Int) (c:bE) (p:T×bE),rn n x c=some p->bL aA 168 [aI,.int .i64 x] (aQ c) fun r ai=>r=p.1.e/\ai=aQ p.2:=by
 induction n with
 |zero=>intro x c p h;simp[rn]at h
 |succ n bK=>
  intro x c p he;have af:=cl c;simp only[rn]at he;cases aO:tg x c.full with
  |some t=>rw[aO]at he;cases he;simp only[aQ,aH]at af⊢;refine bL.mk mixed kh Tryz.func168 OL Ψ af.obj fun aR cN=>?_;unfold GK;simp[aI];(with_reducible repeat' first|refine ak ?_|simp[aO]);(refine cR.at (aQ c) Ψ bi (Same.keys bv bv) bf bf ?_;simp[cV,aY,a6,aX,inObs,Pv.look,aQ,aH,aI])
  |none=>
   rw[aO]at he;simp only at he;cases jU:c.shd x with
   |false=>have uC:(tg x c.shaped).getD false=false:=jU;rw[if_pos jU]at he;cases he;simp only[aQ,aH]at af⊢;refine bL.mk mixed kh Tryz.func168 OL Ψ af.obj fun aR cN=>?_;unfold GK;simp[aI];(with_reducible repeat' first|refine ak ?_|refine aF (kj _) ?_|refine aG (kj _) ?_|simp[aO,uC]);(refine cR.at (aQ {c with full:=e8 x (.var x) c.full}) Ψ bi (Same.keys bv bv) bf bf ?_;simp[cV,aY,a6,aX,inObs,Pv.look,aQ,aH,aI])
   |true=>have uC:(tg x c.shaped).getD false=true:=jU;rw[if_neg (by simp[jU]),gB]at he;obtain⟨⟨t,bY⟩,I,rfl⟩:=he;have key:=ahn aQ cl Gi 193 [.eptr aI] (fun a=>by simp[aQ,aH,aI,inObs,Pv.look]) rfl (CS (rn n)) (fun v a p h=>ahI n bK v a p h) _ _ _ I;rw[show c.shp x=(tg x c.shape).getD .nil from rfl]at key;simp only[aQ,aH]at af⊢;refine bL.mk mixed kh Tryz.func168 OL Ψ af.obj fun aR cN=>?_;unfold GK;simp[aI];(with_reducible repeat' first|refine ak ?_|refine aF (kj _) ?_|refine aG (kj _) ?_|simp[aO,uC]);(refine cY.ob (key) bi bf bf dl ?_;rintro r ai ⟨rfl,rfl⟩;refine⟨(Same.keys bv bv),?_⟩;simp[cc,aQ,aH,aI]);(with_reducible repeat' first|refine ak ?_|simp);(refine cR.at (aQ {bY with full:=e8 x t bY.full}) Ψ bi (Same.keys bv bv) bf bf ?_;simp[cV,aY,a6,aX,inObs,Pv.look,aQ,aH,aI])
theorem ahp:bL aA 142 [] ⟨[],[]⟩ fun r ai=>r=aI/\ai=aQ bE.new:=by have af:dP ⟨[],[]⟩:=dP.of wk Ψ Ψ;refine bL.mk mixed kh Tryz.func142 amm Ψ af.obj fun aR cN=>?_;unfold Sy;simp;refine cR.new (aQ bE.new) (.inl rfl) (cl _) ⟨trivial,trivial⟩ (by simp only[aQ,aH,bE.new];exact aL) (by simp only[aQ,aH,bE.new];exact aL) ?_;simp[cV,aY,a6,aX,inObs,Pv.look,aQ,aH,aI]
theorem aaN{a b:List Int}(h:a.Perm b):sb a=sb b:=by
 have aC:∀a b c:Int,(decide (a<=b))=true->(decide (b<=c))=true->(decide (a<=c))=true:=by intro a b c;simp;omega
 have Bw:∀a b:Int,(decide (a<=b)||decide (b<=a))=true:=by intro a b;simp;omega
 have I:=List.pairwise_mergeSort aC Bw a;have U:=List.pairwise_mergeSort aC Bw b;refine Q6 (le:=fun x y:Int=>(decide (x<=y))=true) (fun x y _ _ I U=>by simp at I U;omega) I U ?_;exact(List.mergeSort_perm a _).trans (h.trans (List.mergeSort_perm b _).symm)
def akn(l:List Int)(k:Nat)(st:bt):Prop:=∃(seen:List Nat) (xs:List Int),seen.Nodup/\(∀b∈seen,b<l.length)/\k=l.length-seen.length/\xs=seen.filterMap (fun b=>l[b]?)/\xs.length=seen.length/\st=⟨[(3,.row 1 (.obj 306) xs.length),(7,.ptr (.loc 0) 0)],[(.obj 304,ml l),(.loc 0,cq l.length seen (.obj 304))],[(.obj 306,⟨xs.length,3,1,some (eE xs)⟩)],1,[.obj 306,.obj 304]⟩
@[simp]theorem atI(xs:List Int):(eE xs).length=xs.length:=by simp[eE]
@[simp]theorem avS(xs:List Int):du (eE xs)=eE xs:=by
 induction xs with
 |nil=>rfl
 |cons x r bK=>simp only[eE,hc,du,ej]at bK⊢;rw[bK]
@[simp]theorem atJ:eE []=[]:=rfl
theorem akg(xs:List Int)(x:Int):eE xs++[aj.int .i64 x]=eE (xs++[x]):=by simp[eE]
theorem ahG(l:List Int)(aw:l.length<=1000000):bL aA 166 [.gmap (.obj 304)] (vh l) fun r ai=>r= .slice 1 .no (eE (sb l))/\ai=vh l:=by
 have af:=Rg l;unfold vh at af⊢;refine bL.mk mixed fY Tryz.func166 amx Ψ af.obj fun aR cN=>?_;unfold SJ;simp;refine oT (akn l) l.length _ ⟨by simp[fresh,aP,aK,cq,inObs,Pv.look,nb,uM],et (by simp[fresh,aP,aK,cq,inObs,Pv.look,nb,uM]),eu (by simp[fresh,aP,aK,ee,inObs,Pv.look,nb,uM]),Ψ⟩ ⟨[],[],Ψ,Ψ,Ψ,Ψ,Ψ,rfl⟩ ?_;rintro k st ⟨seen,xs,aD,bD,ae,gp,pP,rfl⟩ kr cN;clear kr cN;have hle:=JW aD bD;simp;refine adU (mk:= .obj 304) (seen:=seen) (l:=l) Ψ Ψ rfl (fun lI=>?_) (fun b x ab ad=>?_)
 ·simp;have xv:=P1 aD bD lI;rw[<-gp]at xv;refine cY.ob (ahE 306 xs Ω) (KB 306 xs) (by unfold nV;exact aL) (by unfold nV;exact aL) (by simp[nV,inObs,Pv.look]) ?_;rintro r ai ⟨rfl,rfl⟩;refine⟨⟨fun _=>rfl,fun k=>by simp only[nV,Pv.look];split<;>rfl⟩,?_⟩;unfold nV;simp[cc,aaM];refine cR.at _ (.inl rfl) af (Same.refl _) aL aL ?_;simp[cV,aY,a6,aX];rw[aaN xv];simp[aK,uM]
 ·have Bl:∀f:aM->Option (List aj),f (.loc 0)=some (cq l.length (seen++[b]) (.obj 304))->f (.obj 304)=some (ml l)->qy f (.ptr (.loc 0) 0)=some (True,.tuple [.int .i64 x,.bool true]):=fun f I U=>alb f (.loc 0) (.obj 304) l.length seen b l x I U rfl ab;have fA:b<l.length:=(fG.1 ab).1;have q4:=P2 aD bD fA ad;simp[Bl,akg];refine⟨by unfold lim;omega,?_⟩;refine bS.next (l.length-(seen.length+1)) Ω ⟨seen++[b],xs++[x],OE aD ad,(by simp;intro c aq;rcases aq with aq|rfl;exact bD c aq;exact fA),Ψ,by rw[List.filterMap_append,<-gp];simp[ab],by simp[pP],rfl⟩ ⟨by simp[fresh,aP,aK,cq,inObs,Pv.look,nb,uM],et (by simp[fresh,aP,aK,cq,inObs,Pv.look,nb,uM]),eu (by simp[fresh,aP,aK,ee,inObs,Pv.look,nb,uM]),Ψ⟩
@[simp]theorem atX(S:aM->Prop)(xs:List Int):aP S (eE xs)=True:=eq_true (uM S xs)
@[simp]theorem asz:cells .junk=[.junk]:=rfl
def SI:C:=(aa [eO 6 5,bp 7 false] (aa [c4 12 142 [],J 8 12] (.seq (aa [J 13 0,cH 14 13,cb 15 0] (fm 16 15 14 (.seq (.block 1 (aa [cE 17 5 13 15,aZ 18 5 17,cP 10 iC,bu 5 10 18] (aa [J 19 8,aJ 20 0 1 10,ay 21 1 20,ch 22 143 19 21] (aa [J 23 8,hN 24 1 4 10,aZ 25 4 24,ch 26 144 23 25] (.seq (.drawn false 69 [J 27 8,aJ 28 0 1 10,ay 29 1 28,cD 30 28 29,hN 31 1 4 10,aZ 32 4 31,c4 33 145 [.t 27,.t 30,.t 32],ct 34 33]) (a1 34 (aa [eO 6 5,bp 7 false] .ret) .skip)))))) (.region [aU 35 .add 15 1,J 15 35])))) (.seq (aa [J 36 1,cH 37 36,cb 38 0] (.block 2 (.loop (aa [bC 39 .lss 38 37] (.seq (a1 39 .skip (.exit 2)) (.seq (.block 3 (aa [J 40 38,J 11 40] (aa [J 41 8,J 42 1,J 43 11,cE 44 4 42 43,aZ 45 4 44,ch 46 144 41 45] (aa [J 47 8,J 48 2,J 49 11,cE 50 4 48 49,aZ 51 4 50,ch 52 144 47 51] (.seq (.drawn false 69 [J 53 8,J 54 1,J 55 11,cE 56 4 54 55,aZ 57 4 56,J 58 2,J 59 11,cE 60 4 58 59,aZ 61 4 60,c4 62 145 [.t 53,.t 57,.t 61],ct 63 62]) (a1 63 (aa [eO 6 5,bp 7 false] .ret) .skip)))))) (.region [aU 64 .add 38 1,J 38 64]))))))) (aa [J 65 8,cD 66 146 65,cg 67 0 66,cg 68 1 66,J 6 67,J 7 68] .ret)))))
def Sp:C:=(aa [eO 2 5,bp 3 false] (aa [cS (.mkmap 12 (some 304)),J 4 12] (.seq (aa [J 13 0,eZ 14 13,aJ 15 0 1 14,ay 16 1 15,cS (.range 17 none (.t 16))] (.block 0 (.loop (aa [⟨none,.next 18 (.t 17)⟩,cg 19 0 18] (.seq (a1 19 .skip (.exit 0)) (.block 1 (aa [bT 20 (.ment (.t 17)),cg 21 0 20,J 5 21] (.region [J 22 4,J 23 5,cS (.mput .i (.t 22) (.t 23) (.c (.bool true)))])))))))) (aa [J 24 4,cD 25 166 24,J 6 25] (aa [cS (.bslm 26 none 5 54 []),J 7 26] (.seq (aa [J 27 6,cH 28 27,cb 29 0] (.block 2 (.loop (aa [bC 30 .lss 29 28] (.seq (a1 30 .skip (.exit 2)) (.seq (.block 3 (aa [cE 31 1 27 29,ay 32 1 31,J 9 32] (aa [J 33 0,J 34 9,ch 35 143 33 34,J 10 35] (.seq (aa [J 36 0,J 37 10,ch 38 167 36 37,ct 39 38] (a1 39 (aa [eO 2 5,bp 3 false] .ret) .skip)) (.seq (aa [J 40 10,J 41 9,bC 42 .eql 40 41,J 43 42,b6 43 true 44 0,av 43 true (eZ 45 44),av 43 true (aJ 46 2 1 45),av 43 true (ay 47 1 46),b6 43 true 48 10,av 43 true (bT 49 (.mget .i (.bool false) false (.t 47) (.t 48))),av 43 true (ct 50 49),dB 51 43 50] (a1 51 (.exit 3) .skip)) (aa [J 52 7,J 53 9,gr 54 iC [(0,1,(.t 53))],ea 55 5 54 [.t 54],cS (.appm 56 none 5 54 (.t 52) (.t 55)),J 7 56] (aa [J 57 0,eZ 58 57,aJ 59 4 1 58,ay 60 1 59,J 61 10,bT 62 (.mget .i (.int .i64 0) false (.t 60) (.t 61)),aU 63 .gtr 62 5000,J 64 63,b6 64 false 65 7,av 64 false (cH 66 65),av 64 false (aU 67 .gtr 66 400),c8 68 64 67] (a1 68 (aa [eO 2 5,bp 3 false] .ret) .skip)))))))) (.region [aU 69 .add 29 1,J 29 69]))))))) (.seq (aa [J 70 7,cH 71 70,cb 72 0] (.block 4 (.loop (aa [bC 73 .lss 72 71] (.seq (a1 73 .skip (.exit 4)) (.seq (.block 5 (aa [J 74 72,J 11 74] (.region [J 75 7,J 76 11,J 77 0,J 78 0,J 79 7,J 80 11,cE 81 5 79 80,aJ 82 0 1 81,ay 83 1 82,ch 84 143 78 83,ch 85 168 77 84,cD 86 136 85,cE 87 5 75 76,hN 88 1 4 87,bu 4 88 86]))) (.region [aU 89 .add 72 1,J 72 89]))))))) (.seq (.pub 7 (.region [J 90 7,J 2 90,bp 3 true])) .ret))))))))
def Qp:List (Nat×dG):=[
 (3,⟨1,8,.int .i64,.int .i64 0⟩),
 (4,⟨1,1,.bool,.bool false⟩),
 (23,⟨1,24,.slice 54,.slice 5 .nil []⟩),
 (34,⟨1,24,.slice 36,.slice 4 .nil []⟩),
 (36,⟨4,56,.struct [(0,3),(1,3),(2,9),(3,34)],.agg [.int .i64 0,.int .i64 0,.str [],.slice 4 .nil []]⟩),
 (51,⟨1,8,.map 3 4,.junk⟩),
 (54,⟨5,64,.struct [(0,3),(1,36)],.agg [.int .i64 0,.int .i64 0,.int .i64 0,.str [],.slice 4 .nil []]⟩),
 (57,⟨1,8,.map 3 3,.junk⟩),
 (97,⟨1,24,.slice 3,.slice 1 .nil []⟩),
 (160,⟨6,48,.struct [(0,57),(1,158),(2,51),(3,57),(4,57),(5,158)],.agg [.junk,.junk,.junk,.junk,.junk,.junk]⟩)]
theorem aa3:fX aA Qp=true:=by kernel_rfl
theorem amw:b7 Qp SI [.tmp 6,.tmp 7] 3 Tryz.f97=true:=by kernel_rfl
theorem amd:b7 Qp Sp [.tmp 2,.tmp 3] 1 Tryz.f146=true:=by kernel_rfl
def ft(o:Option (List ah)):aj:= .tuple [.slice 5 .no ((o.getD []).map ah.e),.bool o.isSome]
theorem ald(f:aM->Option (List aj))(fL mk:aM)(n:Nat)(seen:List Nat)(b:Nat)(l:List (Int×Int))(x:Int×Int)(hi:f fL=some (cq n (seen++[b]) mk))(hm:f mk=some (lN l))(au:n=l.length)(ab:l[b]? =some x):qy f (.ptr fL 0)=some (True,.tuple [.int .i64 x.1,.int .i64 x.2]):=by rw[X4 f fL mk n seen b _ hi hm (by simpa using au)];simp[ab]
theorem adV{st:bt}{d:Nat}{K:bt->Prop}{fL mk:aM}{n:Nat}{seen:List Nat}{l:List (Int×Int)}(hi:Pv.look fL st.b=some (cq n seen mk))(hm:Pv.look mk st.b=some (lN l))(au:n=l.length)
  (I:(∀b,b<l.length->b∈seen)->K {st with t:=Pv.put d (.tuple [.bool false]) st.t}) (U:∀b x,l[b]? =some x->b∉seen->K {st with t:=Pv.put d (.tuple [.bool true,.int .i64 x.1,.int .i64 x.2]) st.t,b:=cI fL (cq n (seen++[b]) mk) st.b}):
  uf st d (.ptr fL 0) K:=by
 refine UC hi hm (by simpa using au) (fun h=>I fun b ad=>h b Ω) (fun b k v ad af=>?_);simp only[List.getElem?_map,gB]at ad;obtain⟨x,ar,aE⟩:=ad;simp only[kl]at aE;obtain⟨rfl,rfl⟩:=aE;exact U b x ar af
@[simp]theorem avd(m:aM)(l:List (Int×Int)):zP m (lN l)=some (cq l.length [] m):=by simp[lN,te]
def lE(v:Int):aj:= .agg [.int .i64 v,.int .i64 0,.int .i64 0,.str [],.slice 4 .nil []]
@[simp]theorem akJ(S:aM->Prop)(l:List Int):aP S (l.map lE)=True:=by
 apply eq_true;induction l with
 |nil=>simp[aP]
 |cons x r bK=>simp only[hc,aP];exact⟨by simp[lE,aK,aP],bK⟩
@[simp]theorem aua(S:aM->Prop)(v:Int):aK S (lE v)=True:=by simp[lE,aK,aP]
@[simp]theorem avo(v:Int):e7 (lE v)=true:=rfl
@[simp]theorem asm(v:Int):cells (lE v)=[.int .i64 v,.int .i64 0,.int .i64 0,.str [],.slice 4 .nil []]:=rfl
theorem ao5(v:Int)(f:Nat)(cs:List aj):qG (lE v) f cs= .agg (pa [.int .i64 v,.int .i64 0,.int .i64 0,.str [],.slice 4 .nil []] f cs):=rfl
theorem jY{S:aM->Prop}:∀{a b:List aj},aP S (a++b)↔(aP S a/\aP S b)
 |[],b=>by simp[aP]
 |x::a,b=>by simp[aP,jY (a:=a),and_assoc]
@[simp]theorem atU(S:aM->Prop)(k:Nat)(l:List Int):aP S (List.drop k (l.map lE))=True:=by rw[<-List.map_drop];exact akJ S _
@[simp]theorem aui(S:aM->Prop)(o:Option (List ah)):aK S (ft o)=True:=by simp[ft]
theorem KV(l:List Int)(v:Int):l.map lE++[.agg [.int .i64 v,.int .i64 0,.int .i64 0,.str [],.slice 4 .nil []]]=(l++[v]).map lE:=by simp[lE]
def aki(c:bE)(k:Nat)(st:bt):Prop:=∃(seen:List Nat) (xs:List Int),seen.Nodup/\(∀b∈seen,b<c.up.length)/\k=c.up.length-seen.length/\xs=seen.filterMap (fun b=>(c.up[b]?).map (·.1))/\xs.length=seen.length/\st=⟨[(0,aI),(4,.gmap (.obj 304)),(17,.ptr (.loc 0) 0)],aH c++[(.obj 304,ml xs),(.loc 0,cq c.up.length seen (.obj 702))],[],1,[.obj 304,.obj 702,.obj 703,.obj 704,.obj 705,.obj 706,.obj 707]⟩
theorem apn{c:bE}{seen:List Nat}(aD:seen.Nodup)(bD:∀b∈seen,b<c.up.length)(lI:∀b,b<c.up.length->b∈seen):(seen.filterMap fun b=>(c.up[b]?).map (·.1)).Perm (cz c.up):=by have:=P1 (l:=cz c.up) aD (by simpa[cz]using bD) (by simpa[cz]using lI);simpa[cz]using this
theorem apq{c:bE}(au:(cz c.up).Nodup){seen:List Nat}{b:Nat}(ad:b∉seen){x:Int×Int}(ab:c.up[b]? =some x):x.1∉seen.filterMap fun b=>(c.up[b]?).map (·.1):=by
 intro hm;rw[List.mem_filterMap]at hm;obtain⟨b3,I,U⟩:=hm;obtain⟨y,ao,a7⟩:=gB.1 U;have ar:(cz c.up)[b]? =some x.1:=by simp[cz,ab]
 have aE:(cz c.up)[b3]? =some x.1:=by simp[cz,ao,a7]
 have bD:=(fG.1 ar).1;have xt:=(fG.1 aE).1;have f1:=(fG.1 ar).2;have f2:=(fG.1 aE).2;rcases Nat.lt_trichotomy b b3 with h|h|h
 ·exact p6.1 au b b3 bD xt h (f1.trans f2.symm)
 ·subst h;exact ad I
 ·exact p6.1 au b3 b xt bD h (f2.trans f1.symm)
theorem ahC(n:Nat)(c:bE)(o:Option (List ah))(he:FK n (sc (cz c.up)) c=some o)(D8:(cz c.up).Nodup)(hlen:c.up.length<=1000000)(a8:nn c):bL aA 146 [aI] (aQ c) fun r ai=>r=ft o/\∃cr,ai=aQ cr:=by
 have af:=cl c;simp only[aQ,aH]at af⊢;refine bL.mk mixed aa3 Tryz.func146 amd Ψ af.obj fun aR cN=>?_;unfold Sp;simp[aI];have y2:∀S:aM->Prop,aP S (kv []):=fun S=>nb S [];refine oT (aki c) c.up.length _ ⟨by simp[fresh,aP,aK,cq,inObs,Pv.look,nb,aI,aH,y2],et (by simp[fresh,aP,aK,cq,inObs,Pv.look,nb,aI,aH,y2]),eu (by simp[fresh,aP,aK,ee,inObs,Pv.look,nb,aI,aH,y2]),Ψ⟩ ⟨[],[],Ψ,Ψ,Ψ,Ψ,Ψ,rfl⟩ ?_;rintro k st ⟨seen,xs,aD,bD,ae,gp,pP,rfl⟩ kr cN;clear kr cN;have hle:=JW aD bD;simp[aH,aI];refine adV (mk:= .obj 702) (seen:=seen) (l:=c.up) Ψ Ψ rfl (fun lI=>?_) (fun b x ab ad=>?_);rotate_left
 ·have Bl:∀f:aM->Option (List aj),f (.loc 0)=some (cq c.up.length (seen++[b]) (.obj 702))->f (.obj 702)=some (lN c.up)->qy f (.ptr (.loc 0) 0)=some (True,.tuple [.int .i64 x.1,.int .i64 x.2]):=fun f I U=>ald f (.loc 0) (.obj 702) c.up.length seen b c.up x I U rfl ab;have fA:b<c.up.length:=(fG.1 ab).1;have q4:=P2 aD bD fA ad;have kG:=apq D8 ad ab;rw[<-gp]at kG;simp[Bl,Gs,kG];refine bS.next (c.up.length-(seen.length+1)) Ω ⟨seen++[b],xs++[x.1],OE aD ad,(by simp;intro c aq;rcases aq with aq|rfl;exact bD c aq;exact fA),Ψ,by rw[List.filterMap_append,<-gp];simp[ab],by simp[pP],rfl⟩ ⟨by simp[fresh,aP,aK,cq,inObs,Pv.look,nb,aI,aH],et (by simp[fresh,aP,aK,cq,inObs,Pv.look,nb,aI,aH]),eu (by simp[fresh,aP,aK,ee,inObs,Pv.look,nb,aI,aH]),Ψ⟩
 ·simp;have xv:=apn aD bD lI;rw[<-gp]at xv;have ajR:xs.length<=1000000:=Ω
  refine cY.ob (ahG xs ajR) (Rg _) (by simp only[vh];exact aL) (by simp only[vh];exact aL) (by simp[inObs,vh,Pv.look]) ?_;rintro r ai ⟨rfl,rfl⟩;refine⟨Same.refl _,?_⟩;have Bu:sb xs=sc (cz c.up):=aaN xv;rw[Bu];obtain⟨bc,lh⟩:∃bc,bc=sc (cz c.up):=⟨_,rfl⟩;rw[<-lh]at he⊢;simp[vh,cc];simp only[FK,hr]at he;obtain⟨res,xj,pI⟩:=he;have kH:bc.length<=1000000:=by rw[lh,(FN _).length_eq];simpa[cz]using hlen
  refine hH (α:=bE×List Int) (fun i a=>⟨[(0,aI),(27,.slice 1 .no (eE bc)),(28,.int .i64 bc.length),(7,.row 5 (.loc 1) a.2.length),(29,.int .i64 i)],aH a.1,[(.loc 1,⟨a.2.length,54,5,some (a.2.map lE)⟩)],2,[.obj 702,.obj 703,.obj 704,.obj 705,.obj 706,.obj 707]⟩) bc.length (fun i a=>tD n (bc.drop i) a.1 a.2=some res/\nn a.1/\a.2.length<=400) (c,[]) (by simp[aI,aH];exact⟨by simp[fresh,aP,aK,cq,inObs,Pv.look,nb,aI,aH],et (by simp[fresh,aP,aK,cq,inObs,Pv.look,nb,aI,aH]),eu (by simp[fresh,aP,aK,ee,inObs,Pv.look,nb,aI,aH]),Ψ⟩) ⟨by simpa using xj,a8,Ψ⟩ ?_ ?_
  ·rintro⟨bY,out⟩ ⟨I,U,ao⟩ ad;simp only at I U ao ad⊢;simp[tD]at I;subst I;simp only[gB]at pI;obtain⟨⟨L,ado⟩,aiw,rfl⟩:=pI;simp[aI,aH];refine hH (α:=bE×List ah) (fun j a=>⟨[(0,aI),(7,.row 5 (.loc 1) out.length),(71,.int .i64 out.length),(72,.int .i64 j)],aH a.1,[(.loc 1,⟨out.length,54,5,some (a.2.map ah.e++(out.drop j).map lE)⟩)],2,[.obj 702,.obj 703,.obj 704,.obj 705,.obj 706,.obj 707]⟩) out.length (fun j a=>a.2.length=j/\∃rest,z8 n (out.drop j) a.1=some (rest,ado)/\a.2++rest=L) (bY,[]) (by simp[aI,aH];exact⟨by simp[fresh,aP,aK,cq,inObs,Pv.look,aI,aH],et (by simp[fresh,aP,aK,cq,inObs,Pv.look,aI,aH]),eu (by simp[fresh,aP,aK,ee,inObs,Pv.look,aI,aH]),Ψ⟩) ⟨rfl,L,by simpa using aiw,rfl⟩ ?_ ?_
   ·rintro⟨cB,done⟩ ⟨a7,rest,b8,c6⟩ ad;simp only at a7 b8 c6 ad⊢;simp[z8]at b8;obtain⟨rfl,rfl⟩:=b8;simp at c6;subst c6;simp[aI,aH,a7];refine cR.at (aQ cB) Ψ (cl _) (Same.keys (by simp[aQ,aH]) (by simp[aQ,aH])) (by simp only[aQ,aH];exact aL) (by simp only[aQ,aH];exact aL) ?_;simp[cV,aY,a6,aX,aQ,aH,ft];exact⟨cB,Ψ⟩
   ·rintro j ⟨cB,done⟩ ag ⟨a7,rest,b8,c6⟩ ad;simp only at a7 b8 c6 ad⊢;obtain⟨v,az⟩:∃v,out[j]? =some v:=⟨_,cm ag⟩;have aD:out.drop j=v::out.drop (j+1):=by rw[lA ag];rw[cm ag]at az;cases az;rfl
    rw[aD]at b8;simp only[z8,hr,gB,kl]at b8;obtain⟨⟨x,dE⟩,dM,⟨t,kV⟩,jm,⟨ao2,asH⟩,ih,rfl,rfl⟩:=b8;simp only at jm ih;have key:=ahH n x dE _ jm;rw[aD];have ij:∀R,(done.map ah.e++lE v::R)[j]? =some (lE v):=fun R=>by rw[List.getElem?_append_right d7];simp[a7]
    have xy:∀R x,(done.map ah.e++lE v::R).set j x=done.map ah.e++x::R:=fun R x=>by rw[List.set_append_right _ _ d7];simp[a7]
    simp[aI,aH];(with_reducible repeat' first|refine ak ?_|simp[ij,ag]);(refine cY.ob (sF cB v x dE dM) bi bf bf dl ?_;rintro r ai ⟨rfl,rfl⟩;refine⟨(Same.keys bv bv),?_⟩;simp[cc,aQ,aH,aI]);(with_reducible repeat' first|refine ak ?_|simp);(refine cY.ob (key) bi bf bf dl ?_;rintro r ai ⟨rfl,rfl⟩;refine⟨(Same.keys bv bv),?_⟩;simp[cc,aQ,aH,aI]);(with_reducible repeat' first|refine ak ?_|refine aF (u9 _) ?_|refine aG (u9 _) ?_|simp[ij,xy,ag,ao5,-qG]);refine bS.rng (kV,done++[⟨v,t⟩]) ag ⟨by simp[a7],ao2,ih,by simpa using c6⟩ ?_;simp[aI,aH];exact⟨by simp[fresh,aP,aK,cq,inObs,Pv.look,aI,aH,jY],et (by simp[fresh,aP,aK,cq,inObs,Pv.look,aI,aH,jY]),eu (by simp[fresh,aP,aK,ee,inObs,Pv.look,aI,aH,jY]),Ψ⟩
  ·rintro i ⟨bY,out⟩ hi ⟨I,U,ao⟩ ad;simp only at I U ao ad⊢;obtain⟨v,az⟩:∃v,bc[i]? =some v:=⟨_,cm hi⟩;have aD:bc.drop i=v::bc.drop (i+1):=by rw[lA hi];rw[cm hi]at az;cases az;rfl
   rw[aD]at I;simp only[tD,hr]at I;obtain⟨⟨x,cB⟩,a7,⟨f,dE⟩,b8,c6⟩:=I;simp only at b8 c6;obtain⟨z3,key⟩:=ahJ n x cB _ b8 (U.rt a7);have aiM:∀h,(eE bc)[i]'h= .int .i64 v:=fun h=>by rw[cm hi]at az;simp only[dD]at az;simp[eE,az]
   simp[aI,aH];(with_reducible repeat' first|refine ak ?_|simp[aiM,hi]);(refine cY.ob (sF bY v x cB a7) bi bf bf dl ?_;rintro r ai ⟨rfl,rfl⟩;refine⟨(Same.keys bv bv),?_⟩;simp[cc,aQ,aH,aI]);(with_reducible repeat' first|refine ak ?_|simp);(refine cY.ob (key) bi bf bf dl ?_;rintro r ai ⟨rfl,rfl⟩;refine⟨(Same.keys bv bv),?_⟩;simp[cc,aQ,aH,aI]);cases f with
   |false=>simp at c6;subst c6;simp at pI;subst pI;(with_reducible repeat' first|refine ak ?_|simp);refine cR.at (aQ dE) Ψ (cl _) (Same.keys (by simp[aQ,aH]) (by simp[aQ,aH])) (by simp only[aQ,aH];exact aL) (by simp only[aQ,aH];exact aL) ?_;simp[cV,aY,a6,aX,aQ,aH,ft];exact⟨dE,Ψ⟩
   |true=>
    simp only[Bool.true_eq_false,if_false]at c6;by_cases aq:x=v/\dE.shd x=false
    ·rw[if_pos aq]at c6;obtain⟨ajS,jU⟩:=aq;subst ajS;have uC:(tg x dE.shaped).getD false=false:=jU;(with_reducible repeat' first|refine ak ?_|simp[uC]);refine bS.rng (dE,out) hi ⟨c6,z3,ao⟩ ?_;exact⟨by simp[fresh,aP,aK,cq,inObs,Pv.look,aI,aH],et (by simp[fresh,aP,aK,cq,inObs,Pv.look,aI,aH]),eu (by simp[fresh,aP,aK,ee,inObs,Pv.look,aI,aH]),Ψ⟩
    ·rw[if_neg aq]at c6;have Ww:(x==v)=false\/((x==v)=true/\(tg x dE.shaped).getD false=true):=by
      by_cases e:x=v
      ·right;refine⟨by simp[e],?_⟩;cases aE:dE.shd x with
       |false=>exact absurd ⟨e,aE⟩ aq
       |true=>exact aE
      ·left;simp[e]
     by_cases aw:5000<dE.sz x\/400<out.length+1
     ·rw[if_pos aw]at c6;cases c6;simp at pI;subst pI;have oY:(decide (5000<hO dE.size x))=true\/(decide (5000<hO dE.size x)=false/\400<out.length+1):=by
       by_cases e:5000<hO dE.size x
       ·left;simp[e]
       ·right;exact⟨by simp[e],aw.resolve_left e⟩
      have Bp:True:=trivial;have lf:True:=trivial;rcases Ww with bG|⟨bG,Bp⟩;all_goals
       rcases oY with bs|⟨bs,lf⟩
       all_goals
        ((with_reducible repeat' first|refine ak ?_|simp[bG,Bp,bs,lf]|((first|apply bN|apply bP|apply bO)<;>intro h<;>try simp at h))<;>(try exact cf))
        refine cR.at (aQ dE) Ψ (cl _) (Same.keys (by simp[aQ,aH]) (by simp[aQ,aH])) (by simp only[aQ,aH];exact aL) (by simp only[aQ,aH];exact aL) ?_
        simp[cV,aY,a6,aX,aQ,aH,ft]
        exact⟨dE,Ψ⟩
     ·rw[if_neg aw]at c6;have bs:decide (5000<hO dE.size x)=false:=by simp;exact Int.not_lt.1 fun h=>aw (.inl h)
      have lf:¬400<out.length+1:=fun h=>aw (.inr h);have Bp:True:=trivial;rcases Ww with bG|⟨bG,Bp⟩;all_goals
       ((with_reducible repeat' first|refine ak ?_|simp[bG,Bp,bs,lf]|((first|apply bN|apply bP|apply bO)<;>intro h<;>try simp at h))<;>(try exact cf))
       all_goals first|(refine⟨by unfold lim;omega,?_⟩)|skip
       ((with_reducible repeat' first|refine ak ?_|simp[bG,Bp,bs,lf]|((first|apply bN|apply bP|apply bO)<;>intro h<;>try simp at h))<;>(try exact cf))
       refine bS.rng (dE,out++[v]) hi ⟨c6,z3,by simp;omega⟩ ?_
       exact⟨by simp[fresh,aP,aK,cq,inObs,Pv.look,aI,aH,KV,jY],et (by simp[fresh,aP,aK,cq,inObs,Pv.look,aI,aH,KV,jY]),eu (by simp[fresh,aP,aK,ee,inObs,Pv.look,aI,aH,KV,jY]),Ψ⟩
theorem FP:∀{a b:T},a.tm=b.tm->a=b:=by
 intro a;induction a with
 |pair x y qv ta=>intro b h;cases b<;>simp[T.tm]at h;rw[qv h.1,ta h.2]
 |_=>intro b h;cases b<;>simp[T.tm]at h⊢ <;>exact h
def acG(l:List dS):Prop:= ∃s:List ah,l=s.map ah.b/\k2 s/\gD s/\fT s
def KF(l:List dS):Prop:= ∃s:List ah,l=s.map ah.b/\k2 s/\eQ s/\fT s
theorem RO:∀{l:List dS},(∀b∈l,b.t.fits=true)->∃s:List ah,l=s.map ah.b/\w7 s
 |[],_=>⟨[],rfl,fun b ad=>by simp at ad⟩
 |b::l,h=>by
  obtain⟨s,I,U⟩:=RO (l:=l) fun c aq=>h c g9;obtain⟨x,ao,a7⟩:=bZ.fits_ex (h b Ψ);refine⟨⟨b.v,x⟩::s,by rw[I];simp[ah.b,ao],fun c aq=>?_⟩;rcases eU.1 aq with rfl|aq
  ·exact a7
  ·exact U c aq
theorem Ai{l:List dS}:wV l↔acG l:=by
 constructor
 ·rintro⟨I,U⟩;obtain⟨s,rfl,aiz⟩:=RO (l:=l) fun b ad=>by obtain⟨i,hi,e⟩:=oL ad;exact(U i hi b (by rw[cm hi,e])).2.2
  have V7:∀b∈s,b.t.ok=true/\b.t.size<=5000:=fun b ad=>by have:=aiz b ad;simpa[T.fit]using this
  refine⟨s,rfl,fun b ad=>⟨?_,(V7 b ad).1⟩,?_,by simpa using I,fun b ad=>(V7 b ad).2⟩
  ·obtain⟨i,hi,e⟩:=oL ad;have:=(U i (by simpa using hi) b.b (by simp[cm hi,e])).1;exact this
  ·rw[gD,p6];have ku:∀i (h:i+1<s.length),s[i].v<s[i+1].v:=fun i h=>by have:=(U (i+1) (by simpa using h) s[i+1].b (by simp[cm h])).2.1 s[i].b Ω (by simp[cm (show i<s.length by omega)]);exact this
   have:∀(d i:Nat) (h:i+d+1<s.length),s[i].v<s[i+d+1].v:=by
    intro d;induction d with
    |zero=>intro i h;exact ku i h
    |succ d bK=>intro i h;have bF:=bK i Ω;have a2:=ku (i+d+1) Ω;simp only[Nat.add_assoc]at bF a2⊢;omega
   intro i j hi ag mv;have:=this (j-i-1) i Ω;simpa[show i+(j-i-1)+1=j from by omega]using this
 ·rintro⟨s,rfl,ax,bk,aO⟩;refine⟨by simpa using aO.1,fun i hi b ad=>?_⟩;simp only[List.getElem?_map,gB]at ad;obtain⟨c,aq,rfl⟩:=ad;have hm:=ek aq;refine⟨(ax c hm).1,fun d bB aD=>?_,?_⟩
  ·simp only[List.getElem?_map,gB]at aD;obtain⟨e,he,rfl⟩:=aD;obtain⟨I,ar⟩:=fG.1 he;obtain⟨U,aE⟩:=fG.1 aq;have:=p6.1 bk (i-1) i I U Ω;rw[ar,aE]at this;exact this
  ·show c.t.tm.fits=true;rw[bZ.fits_T];simp[T.fit,(ax c hm).2,aO.2 c hm]
def w4(s:List ah)(v:Int)(f:Bool):Bool:=if 0<=kB s v then false else f
def nq(s:List ah)(b:ah):Bool:=b.t.fold (w4 s) true&& !(b.t.kind==1&&decide (b.v<=b.t.int))
theorem Va{s:List ah}(bk:gD s)(t:T):∀f:Bool,t.fold (w4 s) f=true↔f=true/\∀w,t.occ w=true->cO s w=none:=by
 induction t with
 |var n=>
  intro f;simp only[T.fold,T.occ,dO,w4];have:=A0 bk n;by_cases h:0<=kB s n
  ·rw[if_pos h];constructor
   ·intro h;cases h
   ·rintro⟨_,U⟩;have:=this.2 (U n rfl);omega
  ·rw[if_neg h];exact⟨fun aO=>⟨aO,fun w hw=>by subst hw;exact this.1 Ω⟩,fun h=>h.1⟩
 |pair a b dQ dR=>
  intro f;simp only[T.fold,dQ,dR,T.occ,mg];constructor
  ·rintro⟨⟨I,U⟩,ao⟩;exact⟨I,fun w hw=>hw.elim (U w) (ao w)⟩
  ·rintro⟨I,U⟩;exact⟨⟨I,fun w hw=>U w (.inl hw)⟩,fun w hw=>U w (.inr hw)⟩
 |_=>intro f;simp[T.fold,T.occ]
theorem KX{s:List ah}(bk:gD s)(b:ah):nq s b=true↔(∀w,b.t.occ w=true->cO s w=none)/\∀w,b.t= .var w->w<b.v:=by
 unfold nq;rw[cv,Va bk];simp only[true_and];refine and_congr_right fun _=>?_;constructor
 ·intro h w hw;have ae:(b.t.kind==1)=true:=by rw[hw];rfl
  have hi:b.t.int=w:=by rw[hw];rfl
  rw[ae,hi]at h;simpa using h
 ·intro h;cases ae:(b.t.kind==1)with
  |false=>rfl
  |true=>
   obtain⟨w,hw⟩:∃w,b.t= .var w:=by
    cases e:b.t with
    |var w=>exact⟨w,rfl⟩
    |_=>rw[e]at ae;simp at ae
   have hi:b.t.int=w:=by rw[hw];rfl
   have:=h w hw;rw[hi];simpa using this
theorem aaL{s:List ah}(bk:gD s):eQ s↔∀b∈s,nq s b=true:=by
 constructor
 ·intro h b ad;exact(KX bk b).2 ⟨h.free b ad,h.ori b ad⟩
 ·intro h;exact⟨bk,fun b ad=>((KX bk b).1 (h b ad)).1,fun b ad=>((KX bk b).1 (h b ad)).2⟩
def lj{α:Type}(p:α->Bool)(s:List α)(i:Nat)(_:Unit):Prop:= ∀k b,k<i->s[k]? =some b->p b=true
theorem lj.step{α:Type}{p:α->Bool}{s:List α}{i:Nat}(h:lj p s i ()){b:α}(ad:s[i]? =some b)(bG:p b=true):lj p s (i+1) ():=fun k c ae aq=>by
 rcases(by omega:k<i\/k=i)with I|rfl
 ·exact h k c I aq
 ·rw[ad]at aq;cases aq;exact bG
open Classical in
noncomputable def gR(l:List dS):Bool:=decide (KF l)
theorem se{l:List dS}:gR l=true↔KF l:=by unfold gR;simp
def jz(f:Bool):cU:=⟨[(.obj 731,[.bool f])],[]⟩
theorem wS(f:Bool):dP (jz f):=by unfold jz;exact dP.of ⟨by intro m;simp[Pv.look],by intro m;simp[Pv.look]⟩ Ψ Ψ
theorem acx(a b:Bool):Same (jz a) (jz b):=Same.keys (by simp[jz]) (by simp[jz])
theorem aha(s:List ah)(aw:s.length<=1000000)(v:Int)(f:Bool):bL aA 108 [.int .i64 v,.eptr (.slice 5 .no (s.map ah.e)),.ptr (.obj 731) 0] (jz f) fun r ai=>r= .tuple []/\ai=jz (w4 s v f):=by
 have af:=wS f;simp only[jz]at af⊢;by_cases h:0<=kB s v
 ·rw[w4,if_pos h];refine bL.mk mixed sf Tryz.func108 YL Ψ af.obj fun aR cN=>?_;unfold K7;simp;(with_reducible repeat' first|refine ak ?_|refine aF (tI s v aw) ?_|refine aG (tI s v aw) ?_|simp[h]);(refine cR.at (jz false) Ψ (by first|exact wS _|exact wS ‹_› _) (Same.keys (by simp[jz]) (by simp[jz])) (by simp only[jz,bQ,bU];exact aL) (by simp only[jz,bQ,bU];exact aL) ?_;simp[cV,aY,a6,aX,inObs,Pv.look,jz])
 ·rw[w4,if_neg h];refine bL.mk mixed sf Tryz.func108 YL Ψ af.obj fun aR cN=>?_;unfold K7;simp;(with_reducible repeat' first|refine ak ?_|refine aF (tI s v aw) ?_|refine aG (tI s v aw) ?_|simp[h]);(refine cR.at (jz f) Ψ (by first|exact wS _|exact wS ‹_› _) (Same.keys (by simp[jz]) (by simp[jz])) (by simp only[jz,bQ,bU];exact aL) (by simp only[jz,bQ,bU];exact aL) ?_;simp[cV,aY,a6,aX,inObs,Pv.look,jz])
theorem Qz(l:List dS):bR aA 53 [.slice 5 .no (l.map dS.e)] (.bool (gR l)):=by
 have az:=aqC l;by_cases h:wV l;rotate_left
 ·have bB:gR l=false:=by unfold gR;simp only[gJ];rintro⟨s,I,U,ao,a7⟩;exact h (Ai.2 ⟨s,I,U,ao.asc,a7⟩)
  rw[bB];refine br sf Tryz.func53 YK fun aR=>?_;unfold K6;exact cu
 ·obtain⟨s,rfl,ax,bk,aO⟩:=Ai.1 h;have aw:s.length<=1000000:=by have:=aO.1;omega
  have ar:(s.map ah.b).map dS.e=s.map ah.e:=by rw[List.map_map];exact List.map_congr_left fun b _=>ah.b_e b
  have bB:gR (s.map ah.b)=s.all (nq s):=by
   rw[qP,fi,se,<-aaL bk];constructor
   ·rintro⟨ai,I,U,ao,a7⟩;have:ai=s:=by
     have aiL:∀a b:List ah,a.map ah.b=b.map ah.b->a=b:=by
      intro a;induction a with
      |nil=>intro b ad;cases b<;>simp at ad⊢
      |cons x a bK=>
       intro b ad;cases b with
       |nil=>simp at ad
       |cons y b=>simp only[hc,yn,ah.b,dS.mk.injEq]at ad;rw[bK b ad.2];have:=FP ad.1.2;obtain⟨⟨kC,_⟩,_⟩:=ad;cases x;cases y;simp_all
     exact(aiL _ _ I).symm
    rw[<-this];exact ao
   ·intro ao;exact⟨s,rfl,ax,ao,aO⟩
  rw[bB];rw[ar]at az⊢;refine br sf Tryz.func53 YK fun aR=>?_;unfold K6;simp;(with_reducible repeat' first|refine ak ?_|refine aF az ?_|refine aG az ?_|simp[h]);refine hH (α:=Unit) (fun i _=>⟨[(1,.eptr (.slice 5 .no (s.map ah.e))),(9,.slice 5 .no (s.map ah.e)),(10,.int .i64 s.length),(11,.int .i64 i)],[],[],1,[]⟩) s.length (lj (nq s) s) () b0 (fun k b ae=>Ω) (fun _ ag _=>?_) (fun i _ hi ag _=>?_)
  ·have:s.all (nq s)=true:=by rw[fi];intro b ad;obtain⟨k,ae,e⟩:=oL ad;exact ag k b ae (by rw[cm ae,e])
   rw[this];exact cu
  ·obtain⟨b,lM⟩:∃b,s[i]? =some b:=⟨_,cm hi⟩;have gw:∀h,(s[i]'h)=b:=fun h=>by rw[cm hi]at lM;exact eV lM
   have key:=Vl jz wS acx 108 [.eptr (.slice 5 .no (s.map ah.e)),.ptr (.obj 731) 0] (fun a=>by simp[jz,inObs,Pv.look]) Ψ (w4 s) (fun v a=>aha s aw v a) b.t true;have eg:nq s b=false->s.all (nq s)=false:=fun h=>by rw[Bool.eq_false_iff];intro b4;rw[fi]at b4;rw[b4 b (ek lM)]at h;cases h
   simp[hi,gw];(with_reducible repeat' first|refine ak ?_|simp[gw,hi]);(refine cY.ob (key) (by first|exact wS _|exact wS ‹_› _) (by simp only[jz,bQ,bU];exact aL) (by simp only[jz,bQ,bU];exact aL) (by simp[inObs,Pv.look,jz]) ?_;rintro r ai ⟨rfl,rfl⟩;refine⟨(Same.keys (by simp[jz]) (by simp[jz])),?_⟩;simp[cc,jz]);generalize aiB:b.t.fold (w4 s) true=ug;have yV:nq s b=(ug&& !(b.t.kind==1&&decide (b.v<=b.t.int))):=by unfold nq;rw[aiB]
   cases ug with
   |false=>rw[eg (by rw[yV];rfl)];exact cu
   |true=>
    cases ae:(b.t.kind==1)with
    |false=>(with_reducible repeat' first|refine ak ?_|simp[ae]);refine bS.rng () hi (ag.step lM (by rw[yV,ae];rfl)) ?_;exact b0
    |true=>
     by_cases hle:b.v<=b.t.int
     ·rw[eg (by rw[yV,ae];simp[hle])];exact cu
     ·(with_reducible repeat' first|refine ak ?_|simp[ae,hle]);refine bS.rng () hi (ag.step lM (by rw[yV,ae];simp[hle])) ?_;exact b0
@[simp]theorem at3(S:aM->Prop):aP S (kv [])=True:=eq_true (nb S [])
theorem ahB(n:Nat)(s:List ah)(l r:List T)(aw:l.length=r.length)(lg:s.length<=1000000)(y5:l.length<=1000000)(o:Option (List ah))(he:CE n (e0 s++l.zip r)=some o)
  (hinv:∀c,qV n (e0 s++l.zip r) bE.new=some (true,c)->(cz c.up).Nodup/\c.up.length<=1000000/\nn c):bR aA 97 [.slice 5 .no (s.map ah.e),.slice 4 .no (l.map T.e),.slice 4 .no (r.map T.e)] (ft o):=by
 obtain⟨E,c3⟩:∃E,E=e0 s++l.zip r:=⟨_,rfl⟩;rw[<-c3]at he hinv;simp only[CE,hr]at he;obtain⟨fin,xj,pI⟩:=he;have hlen:E.length=s.length+l.length:=by rw[c3];simp[e0,aw]
 have ahZ:∀i b,s[i]? =some b->E.drop i=(.var b.v,b.t)::E.drop (i+1):=fun i b ad=>by
  have hi:=(fG.1 ad).1;have aT:E[i]? =some (.var b.v,b.t):=by rw[c3,List.getElem?_append_left (by simp[e0];exact hi)];simp[e0,ad]
  rw[lA Ω];rw[cm Ω]at aT;simp only[dD]at aT;rw[aT]
 have ahY:∀i a b,l[i]? =some a->r[i]? =some b->E.drop (s.length+i)=(a,b)::E.drop (s.length+(i+1)):=fun i a b bk ad=>by
  have hi:=(fG.1 bk).1;have aT:E[s.length+i]? =some (a,b):=by rw[c3,List.getElem?_append_right (by simp[e0])];simp[e0,List.getElem?_zip_eq_some,bk,ad]
  rw[lA Ω];rw[cm Ω]at aT;simp only[dD]at aT;rw[aT];rfl
 refine br aa3 Tryz.func97 amw fun aR=>?_;unfold SI;simp;refine cY.new ahp (dP.of wk Ψ Ψ) (fun k cs h=>by simp[Pv.look]at h) (fun k cs h=>by simp[Pv.look]at h) Ψ ?_;rintro r0 s0 ⟨rfl,rfl⟩;refine⟨fun m hm=>.inr Ψ,?_⟩;simp[aQ,aH,cc,aI];refine hH (α:=bE) (fun i c=>⟨[(1,.slice 4 .no (l.map T.e)),(2,.slice 4 .no (r.map T.e)),(8,aI),(13,.slice 5 .no (s.map ah.e)),(14,.int .i64 s.length),(15,.int .i64 i)],aH c,[],0,[.obj 702,.obj 703,.obj 704,.obj 705,.obj 706,.obj 707]⟩) s.length (fun i c=>qV n (E.drop i) c=some fin) bE.new (by simp[aI,aH];exact⟨by simp[fresh,aP,aK,cq,inObs,Pv.look,aI,aH,bE.new],et (by simp[fresh,aP,aK,cq,inObs,Pv.look,aI,aH,bE.new]),eu (by simp[fresh,aP,aK,ee,inObs,Pv.look,aI,aH,bE.new]),Ψ⟩) (by simpa using xj) ?_ ?_
 ·rintro c I ad;simp[aI,aH];refine hH (α:=bE) (fun i c=>⟨[(1,.slice 4 .no (l.map T.e)),(2,.slice 4 .no (r.map T.e)),(8,aI),(37,.int .i64 l.length),(38,.int .i64 i)],aH c,[],0,[.obj 702,.obj 703,.obj 704,.obj 705,.obj 706,.obj 707]⟩) l.length (fun i c=>qV n (E.drop (s.length+i)) c=some fin) c (by simp[aI,aH];exact⟨by simp[fresh,aP,aK,cq,inObs,Pv.look,aI,aH],et (by simp[fresh,aP,aK,cq,inObs,Pv.look,aI,aH]),eu (by simp[fresh,aP,aK,ee,inObs,Pv.look,aI,aH]),Ψ⟩) I ?_ ?_
  ·rintro bY I ad;rw[List.drop_eq_nil_of_le Ω]at I;simp[qV]at I;subst I;simp at pI;obtain⟨aW,bj,bM⟩:=hinv bY xj;simp[aI,aH];refine cY.ob (ahC n bY o pI aW bj bM) (cl _) (by simp only[aQ,aH];exact aL) (by simp only[aQ,aH];exact aL) dl ?_;rintro r0 s0 ⟨rfl,cr,rfl⟩;refine⟨Same.keys (by simp[aQ,aH]) (by simp[aQ,aH]),?_⟩;simp[cc,aQ,aH,ft];exact cu
  ·rintro i c hi I ad;simp only at I ad⊢;obtain⟨a,bk⟩:∃a,l[i]? =some a:=⟨_,cm hi⟩;obtain⟨b,gn⟩:∃b,r[i]? =some b:=⟨_,cm Ω⟩;have oc:∀h,(l[i]'h)=a:=fun h=>by rw[cm hi]at bk;exact eV bk
   have cK:∀h,(r[i]'h)=b:=fun h=>by rw[cm h]at gn;exact eV gn
   have sS:i<r.length:=Ω
   rw[ahY i a b bk gn]at I;simp only[qV,hr]at I;obtain⟨bY,U,cB,ao,⟨f,dE⟩,a7,b8⟩:=I;simp only at a7 b8;have key:=Vn n _ _ _ _ a7;simp[aI,aH];(with_reducible repeat' first|refine ak ?_|simp[oc,cK,hi,sS]);(refine cY.ob (Mn c a bY U) bi bf bf dl ?_;rintro r ai ⟨rfl,rfl⟩;refine⟨(Same.keys bv bv),?_⟩;simp[cc,aQ,aH,aI]);(with_reducible repeat' first|refine ak ?_|simp[oc,cK,hi,sS]);(refine cY.ob (Mn bY b cB ao) bi bf bf dl ?_;rintro r ai ⟨rfl,rfl⟩;refine⟨(Same.keys bv bv),?_⟩;simp[cc,aQ,aH,aI]);(with_reducible repeat' first|refine ak ?_|simp[oc,cK,hi,sS]);(refine hs.ob (key) bi bi (Same.keys bv bv) bf bf dl ?_;simp[cc,aQ,aH,aI]);cases f with
   |false=>simp at b8;subst b8;simp at pI;subst pI;(with_reducible repeat' first|refine ak ?_|simp);simp[bz,aY,a6,aX];simp[ft]
   |true=>simp at b8;(with_reducible repeat' first|refine ak ?_|simp);refine bS.rng dE hi b8 ?_;simp[aI,aH];exact⟨by simp[fresh,aP,aK,cq,inObs,Pv.look,aI,aH],et (by simp[fresh,aP,aK,cq,inObs,Pv.look,aI,aH]),eu (by simp[fresh,aP,aK,ee,inObs,Pv.look,aI,aH]),Ψ⟩
 ·rintro i c hi I ad;simp only at I ad⊢;obtain⟨b,az,gw⟩:=en hi;rw[ahZ i b az]at I;simp only[qV,hr]at I;obtain⟨bY,U,cB,ao,⟨f,dE⟩,a7,b8⟩:=I;simp only[BT,T.foldO,gB]at U;obtain⟨⟨x,RT⟩,U,rfl⟩:=U;simp only at U ao a7 b8;have key:=Vn n _ _ _ _ a7;simp[aI,aH];(with_reducible repeat' first|refine ak ?_|simp[gw,hi]);(refine cY.ob (sF c b.v x RT U) bi bf bf dl ?_;rintro r ai ⟨rfl,rfl⟩;refine⟨(Same.keys bv bv),?_⟩;simp[cc,aQ,aH,aI]);(with_reducible repeat' first|refine ak ?_|simp);(refine cY.ob (Mn RT b.t cB ao) bi bf bf dl ?_;rintro r ai ⟨rfl,rfl⟩;refine⟨(Same.keys bv bv),?_⟩;simp[cc,aQ,aH,aI]);(with_reducible repeat' first|refine ak ?_|refine aF (kj _) ?_|refine aG (kj _) ?_|simp);(refine hs.ob (key) bi bi (Same.keys bv bv) bf bf dl ?_;simp[cc,aQ,aH,aI]);cases f with
  |false=>simp at b8;subst b8;simp at pI;subst pI;(with_reducible repeat' first|refine ak ?_|simp);simp[bz,aY,a6,aX];simp[ft]
  |true=>simp at b8;(with_reducible repeat' first|refine ak ?_|simp);refine bS.rng dE hi b8 ?_;simp[aI,aH];exact⟨by simp[fresh,aP,aK,cq,inObs,Pv.look,aI,aH],et (by simp[fresh,aP,aK,cq,inObs,Pv.look,aI,aH]),eu (by simp[fresh,aP,aK,ee,inObs,Pv.look,aI,aH]),Ψ⟩
theorem abT(s:List ah)(l r:List T)(aw:l.length=r.length)(af:eQ s)(aO:fT s)(ax:k2 s)(y5:l.length<=1000000)(I:∀t∈l,t.ok=true)(U:∀t∈r,t.ok=true):
  bR aA 97 [.slice 5 .no (s.map ah.e),.slice 4 .no (l.map T.e),.slice 4 .no (r.map T.e)] (ft (mgu s (l.zip r))):=by
 have c3:∀e∈e0 s++l.zip r,e.1.ok=true/\e.2.ok=true:=fun e he=>by
  rcases h3.1 he with he|he
  ·obtain⟨b,ad,rfl⟩:=hU.1 he;have:=ax b ad;exact⟨by simpa[T.ok]using this.1,this.2⟩
  ·exact⟨I _ (List.of_mem_zip he).1,U _ (List.of_mem_zip he).2⟩
 have bB:OF (e0 s++l.zip r):=fun e he v az=>by
  rcases az with az|az
  ·exact(yg (c3 e he).1 az).1
  ·exact(yg (c3 e he).2 az).1
 obtain⟨n,o,aW,bj,bM⟩:=apO _ bB;rw[qz (acE.1 bj)];refine ahB n s l r aw (by have:=aO.1;omega) y5 o aW fun c aq=>?_;obtain⟨bF,a2,a3⟩:=bM c aq;have:=Xs bF fun v az=>by
  obtain⟨e,he,az⟩:=a2 v az;rcases az with az|az
  ·exact yg (c3 e he).1 az
  ·exact yg (c3 e he).2 az
 refine⟨bF,by simp[cz]at this;omega,fun x=>?_⟩;simp[bE.sz,a3,tg]
structure ei (s:List ah):Prop where
 ok:k2 s
 sol:eQ s
 fits:fT s
theorem ei.len{s:List ah}(h:ei s):s.length<=1000000:=by have:=h.fits.1;omega
theorem ei.fit{s:List ah}(h:ei s):w7 s:=fun b ad=>by simp[T.fit,(h.ok b ad).2,h.fits.2 b ad]
theorem ei.mgu{s:List ah}(h:ei s){E:List (T×T)}(c3:∀e∈E,e.1.ok=true/\e.2.ok=true){ai:List ah}(hm:mgu s E=some ai):ei ai:=⟨alo h.sol h.fits h.ok c3 hm,(pU h.sol h.fits hm).1,(pU h.sol h.fits hm).2⟩
theorem uQ(s:List ah):(s.map ah.b).map dS.e=s.map ah.e:=by rw[List.map_map];exact List.map_congr_left fun b _=>ah.b_e b
theorem p1{s:List ah}(h:ei s):bR aA 53 [.slice 5 .no (s.map ah.e)] (.bool true):=by have:=Qz (s.map ah.b);rw[uQ,se.2 ⟨s,rfl,h.ok,h.sol,h.fits⟩]at this;exact this
def akz(t:List ah)(i:Nat)(p:List T×List T):Prop:=p.1=(t.take i).map (fun b=>T.var b.v)/\p.2=(t.take i).map (·.t)
theorem aqF(t:List ah)(aC:t.length<=1000000):bR aA 137 [.slice 5 .no (t.map ah.e)] (.tuple [.slice 4 .no ((t.map fun b=>T.var b.v).map T.e),.slice 4 .no ((t.map (·.t)).map T.e)]):=by
 generalize bI:((t.map fun b=>T.var b.v).map T.e)=R1;generalize VK:((t.map fun x=>x.t).map T.e)=R2;have gQ:∀S:aM->Prop,aP S R1=True:=fun S=>by rw[<-bI];exact Xx S _
 have jo:∀S:aM->Prop,aP S R2=True:=fun S=>by rw[<-VK];exact Xx S _
 refine bR.mk mixed sf Tryz.func137 ami Ψ (by simp[aK,gQ,jo]) fun aR=>?_;unfold Su;simp;refine hH (α:=List T×List T) (fun i p=>⟨[(10,.slice 5 .no (t.map ah.e)),(11,.int .i64 t.length),(4,.slice 4 (.own (.loc 0)) (p.1.map T.e)),(5,.slice 4 (.own (.loc 1)) (p.2.map T.e)),(12,.int .i64 i)],[],[(.loc 0,⟨p.1.length,36,4,none⟩),(.loc 1,⟨p.2.length,36,4,none⟩)],2,[]⟩) t.length (akz t) ([],[]) b0 ⟨Ψ,Ψ⟩ (fun p ag _=>?_) (fun i p hi ag _=>?_)
 ·obtain⟨A,B⟩:=p;obtain⟨bm,jn⟩:=ag;simp only at bm jn⊢;rw[hV (eo _)]at bm jn;rw[<-bI,<-VK,<-bm,<-jn];simp;(with_reducible repeat' first|refine ak ?_|simp);simp[bz,aY,a6,aX]
 ·obtain⟨A,B⟩:=p;obtain⟨bm,jn⟩:=ag;simp only at bm jn⊢;obtain⟨b,az,gw⟩:=en hi;have xz:t.take (i+1)=t.take i++[b]:=by rw[List.take_succ,az];rfl
  have ahW:A.length<=1000000:=by rw[bm];simp;omega
  have ahX:B.length<=1000000:=by rw[jn];simp;omega
  simp[hi,gw];((with_reducible repeat' first|refine ak ?_|refine aF (kj _) ?_|refine aG (kj _) ?_|simp[gw,hi]|((first|apply bN|apply bP|apply bO)<;>intro h<;>try simp at h))<;>(try exact cf));all_goals first|(refine⟨by unfold lim;omega,?_⟩)|skip
  (with_reducible repeat' first|refine ak ?_|simp);all_goals first|(refine⟨by unfold lim;omega,?_⟩)|skip
  (with_reducible repeat' first|refine ak ?_|simp);refine bS.rng (A++[.var b.v],B++[b.t]) hi ⟨by rw[xz,bm];simp,by rw[xz,jn];simp⟩ ?_;simp;exact⟨by simp[fresh,aP,aK,cq,inObs,Pv.look,jY],et (by simp[fresh,aP,aK,cq,inObs,Pv.look,jY]),eu (by simp[fresh,aP,aK,ee,inObs,Pv.look,jY]),Ψ⟩
theorem aqs{s t:List ah}(af:ei s)(aC:ei t):bR aA 94 [.slice 5 .no (s.map ah.e),.slice 5 .no (t.map ah.e)] (ft (mgu s (e0 t))):=by
 have a8:(t.map fun b=>T.var b.v).zip (t.map (·.t))=e0 t:=by rw[e0,List.zip_map']
 have key:=abT s (t.map fun b=>T.var b.v) (t.map (·.t)) Ψ af.sol af.fits af.ok (by simpa using aC.len) (fun x ab=>by
  obtain⟨b,ad,rfl⟩:=hU.1 ab;have:=aC.ok b ad;simpa[T.ok]using this.1) (fun x ab=>by
  obtain⟨b,ad,rfl⟩:=hU.1 ab;exact(aC.ok b ad).2)
 rw[a8]at key;have heq:=aqF t aC.len;generalize (t.map fun b=>T.var b.v)=A at key heq;generalize (t.map fun x=>x.t)=B at key heq;refine br sf Tryz.func94 alS fun aR=>?_;unfold R3;simp;(with_reducible repeat' first|refine ak ?_|refine aF (p1 af) ?_|refine aG (p1 af) ?_|refine aF (p1 aC) ?_|refine aG (p1 aC) ?_|refine aF heq ?_|refine aG heq ?_|refine aF key ?_|refine aG key ?_|simp);simp[bz,aY,a6,aX];simp[ft]
end
end Go.Proofs.YtohaalphocaebaaGreatDoor
namespace Go.Pv
section
open Go
structure km {α:Type} (c:α->α->Int):Prop where
 neg:∀a b,c b a= -c a b
 tr:∀a b d,c a b<=0->c b d<=0->c a d<=0
 zero:∀a b,c a b=0↔a=b
section
variable {α:Type} {c:α->α->Int}
def im(c:α->α->Int)(a b:α):Bool:=decide (c a b<0)
theorem km.ltOk(h:km c):rv (im c):=by
 refine⟨fun x y ha=>?_,fun x y z I U=>?_⟩
 ·simp only[im,eA,gJ]at ha⊢;rw[h.neg x y];omega
 ·simp only[im,gJ]at I U⊢;have ar:=h.neg x y;have aE:=h.neg y z;have bA:=h.neg x z;have:=h.tr x y z Ω Ω;omega
theorem km.refl(h:km c)(a:α):c a a=0:=(h.zero a a).2 rfl
theorem km.ltr(h:km c){a b d:α}(I:c a b<0)(U:c b d<=0):c a d<0:=by
 have ao:=h.tr a b d Ω U;rcases(by omega:c a d<0\/c a d=0)with a7|a7
 ·exact a7
 ·obtain rfl:=(h.zero a d).1 a7;have:=h.neg a b;omega
def pb(c:α->α->Int)(l:List α):List α:=l.mergeSort fun x y=>decide (c x y<=0)
theorem x5(c:α->α->Int)(l:List α):(pb c l).Perm l:=List.mergeSort_perm l _
theorem Qd(h:km c)(l:List α):(pb c l).Pairwise fun x y=>c x y<=0:=by have:=List.pairwise_mergeSort (le:=fun x y=>decide (c x y<=0)) (fun a b d I U=>by simp at I U⊢;exact h.tr a b d I U) (fun a b=>by simp;have:=h.neg a b;omega) l;exact this.imp Ψ
theorem aaP(h:km c){l ba:List α}(bG:ba.Perm l)(af:ba.Pairwise fun x y=>im c y x=false):ba=pb c l:=by refine Q6 (le:=fun x y=>c x y<=0) (fun x y _ _ I U=>(h.zero x y).1 (by have:=h.neg x y;omega)) (af.imp fun{x y} ha=>?_) (Qd h l) (bG.trans (x5 c l).symm);simp only[im,gJ]at ha;have:=h.neg x y;omega
def cQ[nk α](p:Option α):List α->List α
 |[]=>[]
 |x::r=>if p=some x then cQ (some x) r else x::cQ (some x) r
def asc[nk α](c:α->α->Int)(l:List α):List α:=cQ none (pb c l)
def hG(c:α->α->Int)(l:List α):Prop:=l.Pairwise fun x y=>c x y<0
variable [nk α]
theorem Uh:∀(l:List α) (p:Option α),(cQ p l).length<=l.length
 |[],_=>by simp[cQ]
 |x::r,p=>by have:=Uh r (some x);simp only[cQ];split<;>simp<;>omega
theorem ac4(c:α->α->Int)(l:List α):(asc c l).length<=l.length:=by have I:=Uh (pb c l) none;have U:=(x5 c l).length_eq;unfold asc;omega
theorem Ly:∀(l:List α) (p:Option α) (x:α),x∈cQ p l->x∈l
 |[],_,_,h=>by simp[cQ]at h
 |y::r,p,x,h=>by
  simp only[cQ]at h;split at h
  ·exact mh _ (Ly r _ x h)
  ·rcases eU.1 h with rfl|h
   ·simp
   ·exact mh _ (Ly r _ x h)
theorem Oj:∀(l:List α) (p:Option α) (x:α),x∈l->x∈cQ p l\/p=some x
 |y::r,p,x,h=>by
  simp only[cQ];rcases eU.1 h with rfl|h
  ·split
   ·rename_i U;exact .inr U
   ·simp
  ·split
   ·rename_i U;rcases Oj r (some y) x h with ao|ao
    ·exact .inl ao
    ·cases ao;exact .inr U
   ·rcases Oj r (some y) x h with ao|ao
    ·exact .inl (mh _ ao)
    ·cases ao;simp
theorem Ui(aq:km c):∀(l:List α) (p:Option α),l.Pairwise (fun x y=>c x y<=0)->(∀y,p=some y->∀x∈l,c y x<=0)->hG c (cQ p l)/\∀y,p=some y->∀x∈cQ p l,c y x<0
 |[],p,_,_=>⟨av8,fun y _ x ab=>by simp[cQ]at ab⟩
 |z::r,p,h,bG=>by
  obtain⟨I,U⟩:=nm.1 h;have bK:=Ui aq r (some z) U (fun y aB x ab=>by cases aB;exact I x ab);simp only[cQ];split
  ·rename_i ao;subst ao;exact bK
  ·rename_i ao;refine⟨nm.2 ⟨fun x ab=>bK.2 z rfl x ab,bK.1⟩,fun y aB x ab=>?_⟩;subst aB;have s9:c y z<0:=by
    have a7:=bG y rfl z Ψ;rcases(by omega:c y z<0\/c y z=0)with b8|b8
    ·exact b8
    ·exact absurd (eW some ((aq.zero y z).1 b8)) ao
   rcases eU.1 ab with rfl|ab
   ·exact s9
   ·exact aq.ltr s9 (by have:=bK.2 z rfl x ab;omega)
theorem C7(aq:km c)(l:List α):hG c (asc c l):=(Ui aq _ none (Qd aq l) (fun y h=>by cases h)).1
theorem Oi(l:List α)(x:α):x∈asc c l↔x∈l:=by
 constructor
 ·intro h;exact(x5 c l).mem_iff.1 (Ly _ _ _ h)
 ·intro h;rcases Oj (pb c l) none x ((x5 c l).mem_iff.2 h)with h|h
  ·exact h
  ·cases h
omit [nk α]in
theorem hG.ext(aq:km c){l ba:List α}(h:hG c l)(b4:hG c ba)(hm:∀x,x∈l↔x∈ba):l=ba:=by
 have aD:∀{l:List α},hG c l->l.Nodup:=fun{l} h=>h.imp fun{a b} h e=>by subst e;have:=aq.refl a;omega
 refine Q6 (le:=fun x y=>c x y<=0) (fun x y _ _ I U=>(aq.zero x y).1 (by have:=aq.neg x y;omega)) (h.imp fun h=>Ω) (b4.imp fun h=>Ω) ?_;exact(List.perm_ext_iff_of_nodup (aD h) (aD b4)).2 hm
omit [nk α]in
theorem hG.nodup(aq:km c){l:List α}(h:hG c l):l.Nodup:=h.imp fun{a b} h e=>by subst e;have:=aq.refl a;omega
end
theorem KZ:∀a b:List UInt8,h2 a b=true->h2 b a=false
 |_,[],h=>by simp[h2]at h
 |[],_::_,_=>by simp[h2]
 |x::a,y::b,h=>by
  simp only[h2,mg,eA,cv,dO]at h;simp only[h2,Bool.or_eq_false_iff,gJ,Bool.and_eq_false_iff];rcases h with h|⟨rfl,h⟩
  ·refine⟨fun U=>?_,.inl ?_⟩
   ·rw[UInt8.lt_iff_toNat_lt]at h U;omega
   ·simp;intro e;subst e;rw[UInt8.lt_iff_toNat_lt]at h;omega
  ·exact⟨fun U=>by rw[UInt8.lt_iff_toNat_lt]at U;omega,.inr (KZ a b h)⟩
theorem RJ:∀a b:List UInt8,a≠b->h2 a b=false->h2 b a=true
 |[],[],h,_=>absurd rfl h
 |x::a,[],_,_=>by simp[h2]
 |[],_::_,_,h=>by simp[h2]at h
 |x::a,y::b,cG,h=>by
  simp only[h2,Bool.or_eq_false_iff,gJ,Bool.and_eq_false_iff]at h;simp only[h2,mg,eA,cv,dO];by_cases e:x=y
  ·subst e;right;refine⟨rfl,RJ a b (fun e=>cG (by rw[e])) ?_⟩;rcases h.2 with U|U
   ·simp at U
   ·exact U
  ·left;have I:=h.1;rw[UInt8.lt_iff_toNat_lt]at I⊢;have:x.toNat≠y.toNat:=fun h=>e (UInt8.toNat_inj.1 h);omega
theorem RI:∀a b d:List UInt8,h2 a b=true->h2 b d=true->h2 a d=true
 |_,[],_,h,_=>by simp[h2]at h
 |_,_::_,[],_,h=>by simp[h2]at h
 |[],_::_,_::_,_,_=>by simp[h2]
 |x::a,y::b,z::d,I,U=>by
  simp only[h2,mg,eA,cv,dO,UInt8.lt_iff_toNat_lt]at I U⊢;rcases I with I|⟨rfl,I⟩<;>rcases U with U|⟨rfl,U⟩
  ·left;omega
  ·left;exact I
  ·left;exact U
  ·exact .inr ⟨rfl,RI a b d I U⟩
theorem k3:km eN:=by
 refine⟨fun a b=>?_,fun a b d=>?_,fun a b=>?_⟩
 ·simp only[eN];repeat' split
  all_goals omega
 ·simp only[eN];repeat' split
  all_goals omega
 ·simp only[eN];repeat' split
  all_goals omega
theorem E7:km lr:=by
 have au:∀a b,lr b a= -lr a b:=fun a b=>by
  simp only[lr];by_cases e:a=b
  ·subst e;simp
  ·rw[if_neg e,if_neg (lY e)];cases h:h2 a b with
   |true=>simp[KZ a b h]
   |false=>simp[RJ a b e h]
 refine⟨au,fun a b d I U=>?_,fun a b=>?_⟩
 ·simp only[lr]at I U⊢;by_cases ar:a=b
  ·subst ar;exact U
  ·by_cases aE:b=d
   ·subst aE;exact I
   ·rw[if_neg ar]at I;rw[if_neg aE]at U;have g1:h2 a b=true:=by cases h:h2 a b<;>simp[h]at I⊢
    have g2:h2 b d=true:=by cases h:h2 b d<;>simp[h]at U⊢
    rw[RI a b d g1 g2];split<;>simp
 ·simp only[lr];by_cases e:a=b
  ·simp[e]
  ·rw[if_neg e];simp[e];split<;>omega
theorem tq{a b:T}(h:a.kind≠b.kind):eM a b=eN a.kind b.kind:=by cases a<;>cases b<;>simp at h<;>simp[eM]
theorem Ja:∀a b:T,eM b a= -eM a b
 | .pair a b,.pair c d=>by
  simp only[eM];have I:=Ja a c;have U:=Ja b d;by_cases e:eM a c=0
  ·rw[if_pos e,if_pos Ω,U]
  ·rw[if_neg e,if_neg Ω,I]
 | .nil,y=>by
  by_cases ae:T.nil.kind=y.kind
  ·cases y<;>simp at ae;simp[eM,lr]
  ·rw[tq ae,tq (lY ae),k3.neg]
 | .var n,y=>by
  by_cases ae:(T.var n).kind=y.kind
  ·cases y<;>simp at ae;rename_i m;by_cases e:n=m
   ·subst e;simp[eM,lr]
   ·simp[eM,e,lY e,k3.neg n m]
  ·rw[tq ae,tq (lY ae),k3.neg]
 | .sym s,y=>by
  by_cases ae:(T.sym s).kind=y.kind
  ·cases y<;>simp at ae;rename_i m;simp[eM,E7.neg s m]
  ·rw[tq ae,tq (lY ae),k3.neg]
 | .num n,y=>by
  by_cases ae:(T.num n).kind=y.kind
  ·cases y<;>simp at ae;rename_i m;by_cases e:n=m
   ·subst e;simp[eM,lr]
   ·simp[eM,e,lY e,k3.neg n m]
  ·rw[tq ae,tq (lY ae),k3.neg]
 | .pair a b,.nil| .pair a b,.var _| .pair a b,.sym _| .pair a b,.num _=>by simp[eM,eN]
theorem I9{a b:T}(h:eM a b<=0):a.kind<=b.kind:=by
 by_cases ae:a.kind=b.kind
 ·omega
 ·rw[tq ae]at h;simp only[eN]at h;repeat' split at h
  all_goals omega
theorem Y5(n m:Int):eM (.var n) (.var m)=eN n m:=by
 simp only[eM,T.kind,T.int,T.name,lr];by_cases e:n=m
 ·subst e;simp[eN]
 ·simp[e]
theorem Y4(n m:Int):eM (.num n) (.num m)=eN n m:=by
 simp only[eM,T.kind,T.int,T.name,lr];by_cases e:n=m
 ·subst e;simp[eN]
 ·simp[e]
theorem anN(n m:List UInt8):eM (.sym n) (.sym m)=lr n m:=by simp[eM]
theorem Jb(a b d:T)(bk:a.kind≠4)(I:eM a b<=0)(U:eM b d<=0):eM a d<=0:=by
 have aS:=I9 I;have bh:=I9 U;by_cases ae:a.kind=d.kind
 ·cases a<;>cases d<;>simp at ae bk;all_goals(cases b<;>simp at aS bh)
  ·simp[eM,lr]
  ·rw[Y5]at I U⊢;exact k3.tr _ _ _ I U
  ·rw[anN]at I U⊢;exact E7.tr _ _ _ I U
  ·rw[Y4]at I U⊢;exact k3.tr _ _ _ I U
 ·rw[tq ae];simp only[eN];repeat' split
  all_goals omega
theorem anO:∀a b d:T,eM a b<=0->eM b d<=0->eM a d<=0:=by
 intro a;induction a with
 |pair bF a2 Ij Ik=>
  intro b d I U;have aS:=I9 I;have bh:=I9 U;cases b<;>simp at aS;all_goals(cases d<;>simp at bh)
  rename_i b1 b2 d1 d2;simp only[eM]at I U⊢;by_cases ar:eM bF b1=0
  ·obtain rfl:=(r5 bF b1).1 ar;rw[if_pos ar]at I;by_cases aE:eM bF d1=0
   ·rw[if_pos aE]at U⊢;exact Ik b2 d2 I U
   ·rw[if_neg aE]at U⊢;exact U
  ·rw[if_neg ar]at I;by_cases aE:eM b1 d1=0
   ·obtain rfl:=(r5 b1 d1).1 aE;rw[if_neg ar];exact I
   ·rw[if_neg aE]at U;have ao:=Ij b1 d1 I U;by_cases bA:eM bF d1=0
    ·obtain rfl:=(r5 bF d1).1 bA;have:=Ja bF b1;omega
    ·rw[if_neg bA];exact ao
 |nil=>exact fun b d=>Jb _ b d Ψ
 |var n=>exact fun b d=>Jb _ b d Ψ
 |sym n=>exact fun b d=>Jb _ b d Ψ
 |num n=>exact fun b d=>Jb _ b d Ψ
theorem OZ:km eM:=⟨Ja,anO,r5⟩
end
end Go.Pv
namespace Go.Proofs.YtohaalphocaebaaGreatDoor
section
open Go Go.Pv
theorem lT{α:Type}{t:List α}{i:Nat}{b:α}(az:t[i]? =some b):t.take (i+1)=t.take i++[b]:=by rw[List.take_succ,az];rfl
def dx(s t:List ah):List ah:=t.filter fun b=>(cO s b.v).isNone
def rV(s t:List ah)(i:Nat)(out:List ah):Prop:=out=dx s (t.take i)
theorem abt{s t:List ah}(af:ei s)(aC:ei t):bR aA 95 [.slice 5 .no (s.map ah.e),.slice 5 .no (t.map ah.e)] (.slice 5 .no ((dx s t).map ah.e)):=by
 have ajF:=aC.len;generalize bI:dx s t=R;refine br sf Tryz.func95 alX fun aR=>?_;unfold R8;simp;(with_reducible repeat' first|refine ak ?_|refine aF (p1 af) ?_|refine aG (p1 af) ?_|refine aF (p1 aC) ?_|refine aG (p1 aC) ?_|simp);refine hH (α:=List ah) (fun i out=>⟨[(0,.slice 5 .no (s.map ah.e)),(17,.slice 5 .no (t.map ah.e)),(18,.int .i64 t.length),(5,.slice 5 (.own (.loc 0)) (out.map ah.e)),(19,.int .i64 i)],[],[(.loc 0,⟨out.length,54,5,none⟩)],1,[]⟩) t.length (rV s t) [] b0 (by simp[rV,dx]) (fun out ag _=>?_) (fun i out hi ag _=>?_)
 ·rw[rV,hV (eo _),bI]at ag;rw[<-ag];exact cu
 ·obtain⟨b,az,gw⟩:=en hi;have Bn:out.length<=1000000:=by
   have:out.length<=(t.take i).length:=by rw[ag];exact List.length_filter_le _ _
   simp at this;omega
  have qs:=A0 af.sol.asc b.v;simp[hi,gw];by_cases ad:kB s b.v<0
  ·(with_reducible repeat' first|refine ak ?_|refine aF (tI s b.v af.len) ?_|refine aG (tI s b.v af.len) ?_|refine aF (u9 _) ?_|refine aG (u9 _) ?_|simp[gw,hi,ad]);all_goals first|(refine⟨by unfold lim;omega,?_⟩)|skip
   (with_reducible repeat' first|refine ak ?_|simp);refine bS.rng (out++[b]) hi (by rw[rV,lT az,dx,List.filter_append,ag];simp[dx,qs.1 ad]) ?_;simp;exact⟨by simp[fresh,aP,aK,cq,inObs,Pv.look,jY],et (by simp[fresh,aP,aK,cq,inObs,Pv.look,jY]),eu (by simp[fresh,aP,aK,ee,inObs,Pv.look,jY]),Ψ⟩
  ·(with_reducible repeat' first|refine ak ?_|refine aF (tI s b.v af.len) ?_|refine aG (tI s b.v af.len) ?_|simp[gw,hi,ad]);refine bS.rng out hi (by
    have:cO s b.v≠none:=fun e=>ad (qs.2 e);rw[rV,lT az,dx,List.filter_append,ag];cases e:cO s b.v with
    |none=>exact absurd e this
    |some x=>simp[dx,e]) ?_
   exact b0
def Ir(t:List ah)(i:Nat)(out:List ah):Prop:=out=t.take i
theorem FV(t:List ah)(aC:t.length<=1000000):bR aA 91 [.slice 5 .no (t.map ah.e)] (.slice 5 .no (t.map ah.e)):=by
 refine br sf Tryz.func91 amg fun aR=>?_;unfold Ss;simp;refine hH (α:=List ah) (fun i out=>⟨[(7,.slice 5 .no (t.map ah.e)),(8,.int .i64 t.length),(3,.slice 5 (.own (.loc 0)) (out.map ah.e)),(9,.int .i64 i)],[],[(.loc 0,⟨out.length,54,5,none⟩)],1,[]⟩) t.length (Ir t) [] b0 (by simp[Ir]) (fun out ag _=>?_) (fun i out hi ag _=>?_)
 ·rw[Ir,hV (eo _)]at ag;subst ag;exact cu
 ·obtain⟨b,az,gw⟩:=en hi;have Bn:out.length<=1000000:=by rw[ag];simp;omega
  simp[hi,gw];(with_reducible repeat' first|refine ak ?_|refine aF (u9 _) ?_|refine aG (u9 _) ?_|simp[gw,hi]);all_goals first|(refine⟨by unfold lim;omega,?_⟩)|skip
  (with_reducible repeat' first|refine ak ?_|simp);refine bS.rng (out++[b]) hi (by rw[Ir,lT az,ag]) ?_;simp;exact⟨by simp[fresh,aP,aK,cq,inObs,Pv.look,jY],et (by simp[fresh,aP,aK,cq,inObs,Pv.look,jY]),eu (by simp[fresh,aP,aK,ee,inObs,Pv.look,jY]),Ψ⟩
def r1(t:List ah)(b:ah):Bool:=decide (aV t b.v=b.t.ap (aV t))
def kN(s t:List ah):Bool:=s.all (r1 t)
theorem FH{t:List ah}(aC:ei t)(v:Int):(aV t v).size<=5000:=by
 unfold aV;cases e:cO t v with
 |none=>simp[T.size]
 |some x=>exact aC.fits.2 _ (iX e)
theorem abO(s:List ah){t:List ah}(af:s.length<=1000000)(aC:ei t):bR aA 141 [.slice 5 .no (s.map ah.e),.slice 5 .no (t.map ah.e)] (.bool (kN s t)):=by
 refine br sf Tryz.func141 aml fun aR=>?_;unfold Sx;simp;refine ep [1,11,12] (fun i (_:Unit)=>[(13,.int .i64 i)]) s.length (lj (r1 t) s) () b0 (fun k b ae=>Ω) (fun _ ag _=>?_) (fun i _ hi ag _=>?_)
 ·have:kN s t=true:=by rw[kN,fi];intro b ad;obtain⟨k,ae,e⟩:=oL ad;exact ag k b ae (by rw[cm ae,e])
  rw[this];exact cu
 ·obtain⟨b,az,gw⟩:=en hi;have eg:r1 t b=false->kN s t=false:=fun h=>by rw[Bool.eq_false_iff];intro b4;rw[kN,fi]at b4;rw[b4 b (ek az)]at h;cases h
  have aS:=FX t (.var b.v) aC.len aC.sol.asc aC.fit;have bh:=FX t b.t aC.len aC.sol.asc aC.fit;have zj:=FH aC b.v;have Ih:((T.var b.v).ap (aV t)).size<=5000:=zj;rw[if_pos Ih,hd Ih]at aS;rw[show(T.var b.v).ap (aV t)=aV t b.v from rfl]at aS;simp[hi,gw];by_cases a8:(b.t.ap (aV t)).size<=5000
  ·rw[if_pos a8,hd a8]at bh;by_cases he:aV t b.v=b.t.ap (aV t)
   ·rw[he]at aS;(with_reducible repeat' first|refine ak ?_|refine aF (kj _) ?_|refine aG (kj _) ?_|refine aF aS ?_|refine aG aS ?_|refine aF bh ?_|refine aG bh ?_|refine aF (va _ _) ?_|refine aG (va _ _) ?_|simp[gw,hi,he]);exact bS.rng () hi (ag.step az (by simp[r1,he])) b0
   ·rw[eg (by simp[r1,he])];(with_reducible repeat' first|refine ak ?_|refine aF (kj _) ?_|refine aG (kj _) ?_|refine aF aS ?_|refine aG aS ?_|refine aF bh ?_|refine aG bh ?_|refine aF (va _ _) ?_|refine aG (va _ _) ?_|simp[gw,hi,he]);simp[bz,aY,a6,aX]
  ·rw[if_neg a8,jf a8]at bh;rw[eg (by simp only[r1,gJ];intro e;rw[<-e]at a8;exact a8 zj)];(with_reducible repeat' first|refine ak ?_|refine aF (kj _) ?_|refine aG (kj _) ?_|refine aF aS ?_|refine aG aS ?_|refine aF bh ?_|refine aG bh ?_|refine aF (va _ _) ?_|refine aG (va _ _) ?_|simp[gw,hi]);simp[bz,aY,a6,aX]
def Dh:C:=(aa [c0 2 0,bp 4 false] (.seq (aa [aZ 7 5 2,cD 8 31 7,ct 9 8,J 10 9,b6 10 false 11 1,av 10 false (cD 12 32 11),av 10 false (ct 13 12),c8 14 10 13,J 15 14,b6 15 false 16 1,av 15 false (cH 17 16),av 15 false (aJ 18 0 1 2),av 15 false (ay 19 1 18),av 15 false (bC 20 .neq 17 19),c8 21 15 20] (a1 21 (aa [bp 4 false] .ret) .skip)) (.seq (aa [J 22 1,cH 23 22,cb 24 0] (fm 25 24 23 (.seq (.block 1 (aa [J 26 24,cE 27 5 22 24,aZ 28 5 27,cP 6 iC,J 5 26,bu 5 6 28] (aa [aJ 29 0 1 6,ay 30 1 29,J 31 5,bC 32 .neq 30 31,J 33 32,av 33 false (hN 34 1 4 6),av 33 false (aZ 35 4 34),av 33 false (cD 36 33 35),av 33 false (ct 37 36),c8 38 33 37] (a1 38 (aa [bp 4 false] .ret) .skip)))) (.region [aU 39 .add 24 1,J 24 39])))) (aa [aZ 40 5 2,J 41 1,ch 42 34 40 41,J 4 42] .ret))))
def K4:C:=(aa [c0 3 0,c0 4 1,c0 5 2,bp 6 false] (.seq (aa [aZ 9 5 3,aZ 10 4 4,aZ 11 4 5,ea 12 4 36 [.t 10,.t 11],ch 13 39 9 12,ct 14 13] (a1 14 (aa [bp 6 false] .ret) .skip)) (aa [aZ 16 5 3,aZ 17 4 4,aZ 18 4 5,c4 19 16 [.t 16,.t 17,.t 18],J 15 19,cg 20 0 15,cg 21 1 15,cP 7 fD,bu 5 7 20,J 8 21] (aa [J 22 8,ct 23 22,J 6 23] .ret))))
def GG:C:=(aa [c0 3 0,c0 4 1,c0 5 2,cP 6 fD,bp 7 false] (.seq (aa [aZ 13 5 3,aZ 14 4 4,aZ 15 4 5,ea 16 4 36 [.t 14,.t 15],ch 17 39 13 16,ct 18 17] (a1 18 (aa [gr 19 fD [],bu 5 6 19,bp 7 false] .ret) .skip)) (aa [aJ 21 1 1 3,ay 22 1 21,aZ 23 4 4,aZ 24 4 5,c4 25 40 [.t 22,.t 23,.t 24],J 20 25,cg 26 0 20,cg 27 1 20,J 8 26,J 9 27] (.seq (aa [J 28 9,aU 29 .gtr 28 1] (a1 29 (aa [gr 30 fD [],bu 5 6 30,bp 7 false] .ret) .skip)) (aa [aZ 31 5 3,cD 32 41 31,cP 10 fD,bu 5 10 32] (.seq (aa [J 33 9,aU 34 .eql 33 0] (a1 34 (.region [aJ 35 2 1 10,ay 36 1 35,J 37 8,ea 38 1 23 [.t 37],gT 39 1 23 36 38,aJ 40 2 1 10,bu 1 40 39]) .skip)) (aa [aZ 42 5 10,cD 43 42 42,J 41 43,cg 44 0 41,cg 45 1 41,cP 11 fD,bu 5 11 44,J 12 45] (aa [aZ 46 5 11,J 47 12,bu 5 6 46,J 7 47] .ret))))))))
def K5:C:=(aa [c0 3 0,c0 4 1,c0 5 2,cP 6 fD,bp 7 false] (.seq (aa [aZ 13 5 3,aZ 14 4 4,aZ 15 4 5,ea 16 4 36 [.t 14,.t 15],ch 17 39 13 16,ct 18 17] (a1 18 (aa [gr 19 fD [],bu 5 6 19,bp 7 false] .ret) .skip)) (aa [aJ 21 1 1 3,ay 22 1 21,aZ 23 4 4,aZ 24 4 5,c4 25 43 [.t 22,.t 23,.t 24],J 20 25,cg 26 0 20,cg 27 1 20,J 8 26,J 9 27] (.seq (aa [J 28 9,ct 29 28] (a1 29 (aa [gr 30 fD [],bu 5 6 30,bp 7 false] .ret) .skip)) (aa [aZ 31 5 3,cD 32 41 31,cP 10 fD,bu 5 10 32] (aa [J 33 8,aJ 34 1 1 10,bu 1 34 33] (aa [aZ 36 5 10,cD 37 42 36,J 35 37,cg 38 0 35,cg 39 1 35,cP 11 fD,bu 5 11 38,J 12 39] (aa [aZ 40 5 11,J 41 12,bu 5 6 40,J 7 41] .ret))))))))
def Sb:C:=(aa [c0 2 0,c0 3 1,bp 4 false] (.seq (aa [aZ 23 5 2,cD 24 22 23,ct 25 24,J 26 25,av 26 false (aZ 27 5 3),av 26 false (cD 28 22 27),av 26 false (ct 29 28),c8 30 26 29,J 31 30,av 31 false (aJ 32 0 1 2),av 31 false (ay 33 1 32),av 31 false (aJ 34 0 1 3),av 31 false (ay 35 1 34),av 31 false (bC 36 .neq 33 35),c8 37 31 36] (a1 37 (aa [bp 4 false] .ret) .skip)) (.seq (aa [aJ 38 1 1 3,ay 39 1 38,cH 40 39,cb 41 0] (fm 42 41 40 (.seq (.block 1 (aa [cE 43 5 39 41,aZ 44 5 43,cP 6 iC,bu 5 6 44] (.seq (.drawn true 137 [aZ 45 5 2,aJ 46 0 1 6,ay 47 1 46,cD 48 28 47,hN 49 1 4 6,aZ 50 4 49,c4 51 14 [.t 45,.t 48,.t 50],ct 52 51]) (a1 52 (aa [bp 4 false] .ret) .skip)))) (.region [aU 53 .add 41 1,J 41 53])))) (.seq (aa [aJ 54 2 1 3,ay 55 1 54,cH 56 55,cb 57 0] (.block 2 (.loop (aa [bC 58 .lss 57 56] (.seq (a1 58 .skip (.exit 2)) (.seq (.block 3 (aa [cE 59 1 55 57,ay 60 1 59,J 8 60] (aa [aZ 61 5 2,cP 9 fD,bu 5 9 61] (aa [bp 10 false] (.seq (aa [J 62 8,cH 63 62,cb 64 0] (.block 4 (.loop (aa [bC 65 .lss 64 63] (.seq (a1 65 .skip (.exit 4)) (.seq (.block 5 (aa [cE 66 5 62 64,aZ 67 5 66,cP 12 iC,bu 5 12 67] (.seq (.drawn true 137 [aZ 69 5 9,aJ 70 0 1 12,ay 71 1 70,cD 72 28 71,hN 73 1 4 12,aZ 74 4 73,c4 75 17 [.t 69,.t 72,.t 74],J 68 75,cg 76 0 68,cg 77 1 68,cP 13 fD,bu 5 13 76,J 14 77]) (.seq (aa [J 78 14,ct 79 78] (a1 79 (aa [bp 10 true] (.exit 4)) .skip)) (.region [aZ 80 5 13,bu 5 9 80]))))) (.region [aU 81 .add 64 1,J 64 81]))))))) (aa [J 82 10,ct 83 82] (a1 83 (aa [bp 4 false] .ret) .skip))))))) (.region [aU 84 .add 57 1,J 57 84]))))))) (.seq (aa [aJ 85 3 1 3,ay 86 1 85,cH 87 86,cb 88 0] (.block 6 (.loop (aa [bC 89 .lss 88 87] (.seq (a1 89 .skip (.exit 6)) (.seq (.block 7 (aa [cE 90 2 86 88,aZ 91 2 90,cS (.alloc 16 none (.agg [.int .i64 0,.int .i64 0])),bu 2 16 91] (.seq (.drawn true 137 [aZ 93 5 2,aJ 94 0 1 16,ay 95 1 94,cD 96 28 95,aJ 97 1 1 16,ay 98 1 97,c4 99 45 [.t 93,.t 96,.t 98],J 92 99,cg 100 0 92,cg 101 1 92,cP 17 fD,bu 5 17 100,J 18 101]) (aa [J 102 18,ct 103 102,J 104 103,av 104 false (aZ 105 5 17),av 104 false (aZ 106 5 2),av 104 false (ch 107 46 105 106),av 104 false (ct 108 107),c8 109 104 108] (a1 109 (aa [bp 4 false] .ret) .skip))))) (.region [aU 110 .add 88 1,J 88 110]))))))) (.seq (aa [aJ 111 4 1 3,ay 112 1 111,cH 113 112,cb 114 0] (.block 8 (.loop (aa [bC 115 .lss 114 113] (.seq (a1 115 .skip (.exit 8)) (.seq (.block 9 (aa [cE 116 2 112 114,aZ 117 2 116,cS (.alloc 20 none (.agg [.int .i64 0,.str []])),bu 2 20 117] (.seq (.drawn true 137 [aZ 119 5 2,aJ 120 0 1 20,ay 121 1 120,cD 122 28 121,aJ 123 1 1 20,ay 124 1 123,c4 125 47 [.t 119,.t 122,.t 124],J 118 125,cg 126 0 118,cg 127 1 118,cP 21 fD,bu 5 21 126,J 22 127]) (aa [J 128 22,ct 129 128,J 130 129,av 130 false (aZ 131 5 21),av 130 false (aZ 132 5 2),av 130 false (ch 133 46 131 132),av 130 false (ct 134 133),c8 135 130 134] (a1 135 (aa [bp 4 false] .ret) .skip))))) (.region [aU 136 .add 114 1,J 114 136]))))))) (aa [bp 4 true] .ret)))))))
def Tn:C:=(aa [bp 2 false] (aa [J 3 0,cD 4 75 3,J 2 4] .ret))
def Lm:C:=(aa [c0 1 0,bp 2 false] (aa [aZ 3 4 1,cD 4 76 3,J 5 4,av 5 true (aZ 6 4 1),⟨(some (5,true)),.call (some 7) (.c (.func 77 [])) [.t 6,(.c (.slice 1 .nil []))]⟩,av 5 true (cH 8 7),av 5 true (aU 9 .eql 8 0),dB 10 5 9,J 2 10] .ret))
def TU:C:=(aa [c0 2 0,bp 4 false] (.seq (aa [aJ 21 1 1 2,ay 22 1 21,cH 23 22,cb 24 0] (fm 25 24 23 (.seq (.block 1 (aa [cE 26 5 22 24,aZ 27 5 26,cP 6 iC,bu 5 6 27] (aa [J 29 1,aJ 30 0 1 6,ay 31 1 30,ch 32 78 29 31,J 28 32,cg 33 0 28,cg 34 1 28,cP 7 dk,bu 4 7 33,J 8 34] (aa [J 36 1,hN 37 1 4 6,aZ 38 4 37,ch 39 79 36 38,J 35 39,cg 40 0 35,cg 41 1 35,cP 9 dk,bu 4 9 40,J 10 41] (aa [J 42 10,ct 43 42,J 44 43,av 44 false (aZ 45 4 7),av 44 false (aZ 46 4 9),av 44 false (ch 47 80 45 46),av 44 false (ct 48 47),c8 49 44 48] (a1 49 (aa [bp 4 false] .ret) .skip)))))) (.region [aU 50 .add 24 1,J 24 50])))) (.seq (aa [aJ 51 2 1 2,ay 52 1 51,cH 53 52,cb 54 0] (.block 2 (.loop (aa [bC 55 .lss 54 53] (.seq (a1 55 .skip (.exit 2)) (.seq (.block 3 (aa [cE 56 1 52 54,ay 57 1 56,J 12 57] (aa [J 58 12,J 59 1,ch 60 81 58 59,ct 61 60] (a1 61 (aa [bp 4 false] .ret) .skip)))) (.region [aU 62 .add 54 1,J 54 62]))))))) (.seq (aa [aJ 63 3 1 2,ay 64 1 63,cH 65 64,cb 66 0] (.block 4 (.loop (aa [bC 67 .lss 66 65] (.seq (a1 67 .skip (.exit 4)) (.seq (.block 5 (aa [cE 68 2 64 66,aZ 69 2 68,cS (.alloc 14 none (.agg [.int .i64 0,.int .i64 0])),bu 2 14 69] (aa [J 71 1,aJ 72 0 1 14,ay 73 1 72,ch 74 78 71 73,J 70 74,cg 75 0 70,cg 76 1 70,cP 15 dk,bu 4 15 75,J 16 76] (aa [aJ 77 0 1 15,ay 78 1 77,aJ 79 1 1 14,ay 80 1 79,bC 81 .neq 78 80] (a1 81 (aa [bp 4 false] .ret) .skip))))) (.region [aU 82 .add 66 1,J 66 82]))))))) (.seq (aa [aJ 83 4 1 2,ay 84 1 83,cH 85 84,cb 86 0] (.block 6 (.loop (aa [bC 87 .lss 86 85] (.seq (a1 87 .skip (.exit 6)) (.seq (.block 7 (aa [cE 88 2 84 86,aZ 89 2 88,cS (.alloc 18 none (.agg [.int .i64 0,.str []])),bu 2 18 89] (aa [J 91 1,aJ 92 0 1 18,ay 93 1 92,ch 94 78 91 93,J 90 94,cg 95 0 90,cg 96 1 90,cP 19 dk,bu 4 19 95,J 20 96] (aa [aZ 97 4 19,aJ 98 1 1 18,ay 99 1 98,ch 100 82 97 99] (a1 100 (aa [bp 4 false] .ret) .skip))))) (.region [aU 101 .add 86 1,J 86 101]))))))) (aa [bp 4 true] .ret))))))
def GL:C:=(aa [c0 2 0,bp 4 false] (.seq (.drawn true 18 [aZ 5 5 2,cD 6 22 5,J 7 6,b6 7 true 8 1,av 7 true (cD 9 87 8),dB 10 7 9,J 11 10,b6 11 true 12 1,av 11 true (cD 13 88 12),av 11 true (aJ 14 0 1 2),av 11 true (ay 15 1 14),av 11 true (bC 16 .leq 13 15),dB 17 11 16,J 4 17]) .ret))
def K3:C:=(aa [c0 4 1,c0 5 2,eO 6 5,cb 7 0] (.seq (aa [J 12 0,cD 13 53 12,ct 14 13,J 15 14,av 15 false (aZ 16 4 4),av 15 false (cD 17 89 16),av 15 false (ct 18 17),c8 19 15 18,J 20 19,av 20 false (aZ 21 4 5),av 20 false (cD 22 89 21),av 20 false (ct 23 22),c8 24 20 23] (a1 24 (aa [eO 6 5,cb 7 3] .ret) .skip)) (aa [J 26 0,aZ 27 4 4,aZ 28 4 5,c4 29 43 [.t 26,.t 27,.t 28],J 25 29,cg 30 0 25,cg 31 1 25,J 8 30,J 9 31] (aa [J 33 0,J 34 8,J 35 9,c4 36 90 [.t 33,.t 34,.t 35],J 32 36,cg 37 0 32,cg 38 1 32,J 10 37,J 11 38] (aa [J 39 10,J 40 11,J 6 39,J 7 40] .ret)))))
def La:C:=(aa [c0 1 0,cP 2 fD] (.seq (.drawn true 39 [aJ 6 0 1 1,ay 7 1 6,aJ 8 1 1 1,ay 9 1 8,cD 10 91 9,ea 11 1 23 [],gr 12 fD [(0,1,(.t 7)),(1,1,(.t 10)),(2,1,(.t 11))],cP 3 fD,bu 5 3 12]) (.seq (aa [aJ 13 2 1 1,ay 14 1 13,cH 15 14,cb 16 0] (fm 17 16 15 (.seq (.block 1 (aa [cE 18 1 14 16,ay 19 1 18,J 5 19] (.drawn true 39 [aJ 20 2 1 3,ay 21 1 20,J 22 5,cD 23 91 22,ea 24 1 23 [.t 23],gT 25 1 23 21 24,aJ 26 2 1 3,bu 1 26 25]))) (.region [aU 27 .add 16 1,J 16 27])))) (aa [ea 28 2 59 [],aJ 29 3 1 1,ay 30 1 29,gT 31 2 59 28 30,aJ 32 3 1 3,bu 1 32 31] (aa [ea 33 2 56 [],aJ 34 4 1 1,ay 35 1 34,gT 36 2 56 33 35,aJ 37 4 1 3,bu 1 37 36] (aa [aZ 38 5 3,bu 5 2 38] .ret))))))
def Sd:C:=(aa [c0 4 1,c0 5 2,eO 6 5,bp 7 false] (.seq (aa [J 8 0,cD 9 53 8,ct 10 9,J 11 10,av 11 false (aZ 12 4 4),av 11 false (cD 13 89 12),av 11 false (ct 14 13),c8 15 11 14,J 16 15,av 16 false (aZ 17 4 5),av 16 false (cD 18 89 17),av 16 false (ct 19 18),c8 20 16 19] (a1 20 (aa [eO 6 5,bp 7 false] .ret) .skip)) (aa [J 21 0,aZ 22 4 4,ea 23 4 36 [.t 22],aZ 24 4 5,ea 25 4 36 [.t 24],c4 26 97 [.t 21,.t 23,.t 25],cg 27 0 26,cg 28 1 26,J 6 27,J 7 28] .ret)))
def GH:C:=(aa [c0 3 0,c0 4 1,cP 6 fD,bp 7 false] (.seq (aa [aZ 13 5 3,aZ 14 4 4,ea 15 4 36 [.t 14],ch 16 39 13 15,ct 17 16] (a1 17 (aa [gr 18 fD [],bu 5 6 18,bp 7 false] .ret) .skip)) (aa [aJ 20 1 1 3,ay 21 1 20,aJ 22 3 1 3,ay 23 1 22,aZ 24 4 4,J 25 2,c4 26 98 [.t 21,.t 23,.t 24,.t 25],J 19 26,cg 27 0 19,cg 28 1 19,J 8 27,J 9 28] (.seq (aa [J 29 9,ct 30 29] (a1 30 (aa [gr 31 fD [],bu 5 6 31,bp 7 false] .ret) .skip)) (aa [aZ 32 5 3,cD 33 41 32,cP 10 fD,bu 5 10 33] (aa [J 34 8,aJ 35 3 1 10,bu 1 35 34] (aa [aZ 37 5 10,cD 38 42 37,J 36 38,cg 39 0 36,cg 40 1 36,cP 11 fD,bu 5 11 39,J 12 40] (aa [aZ 41 5 11,J 42 12,bu 5 6 41,J 7 42] .ret))))))))
def GI:C:=(aa [c0 3 0,c0 4 1,cP 6 fD,bp 7 false] (.seq (aa [aZ 13 5 3,aZ 14 4 4,ea 15 4 36 [.t 14],ch 16 39 13 15,ct 17 16] (a1 17 (aa [gr 18 fD [],bu 5 6 18,bp 7 false] .ret) .skip)) (aa [aJ 20 1 1 3,ay 21 1 20,aJ 22 4 1 3,ay 23 1 22,aZ 24 4 4,J 25 2,c4 26 100 [.t 21,.t 23,.t 24,.t 25],J 19 26,cg 27 0 19,cg 28 1 19,J 8 27,J 9 28] (.seq (aa [J 29 9,ct 30 29] (a1 30 (aa [gr 31 fD [],bu 5 6 31,bp 7 false] .ret) .skip)) (aa [aZ 32 5 3,cD 33 41 32,cP 10 fD,bu 5 10 33] (aa [J 34 8,aJ 35 4 1 10,bu 1 35 34] (aa [aZ 37 5 10,cD 38 42 37,J 36 38,cg 39 0 36,cg 40 1 36,cP 11 fD,bu 5 11 39,J 12 40] (aa [aZ 41 5 11,J 42 12,bu 5 6 41,J 7 42] .ret))))))))
def rF:C:=(aa [c0 6 0,c0 8 2,c0 9 3,cP 12 fD,bp 13 false] (aa [aZ 21 5 6,cP 14 fD,bu 5 14 21] (aa [bp 15 true] (.seq (aa [J 22 1,aU 23 .lss 22 2] (a1 23 (aa [aJ 25 1 1 6,ay 26 1 25,aZ 27 4 8,aZ 28 4 9,c4 29 101 [.t 26,.t 27,.t 28],J 24 29,cg 30 0 24,cg 31 1 24,J 16 30,J 17 31] (aa [J 32 1,aU 33 .eql 32 0] (a1 33 (aa [J 34 16,aJ 35 1 1 14,bu 1 35 34] (.region [J 36 17,J 15 36])) (aa [J 37 17] (a1 37 (aa [aJ 38 1 1 6,ay 39 1 38,J 40 16,ch 41 102 39 40,J 18 41] (aa [J 42 18,cH 43 42,aU 44 .gtr 43 0,J 15 44] (.region [ea 45 1 23 [],aJ 46 2 1 6,ay 47 1 46,gT 48 1 23 45 47,J 49 18,ea 50 1 23 [.t 49],gT 51 1 23 48 50,aJ 52 2 1 14,bu 1 52 51]))) .skip))))) (aa [aJ 54 1 1 6,ay 55 1 54,aZ 56 4 8,ch 57 79 55 56,J 53 57,cg 58 0 53,cg 59 1 53,cP 19 dk,bu 4 19 58,J 20 59] (aa [J 60 20,J 15 60] (aa [J 61 15,J 62 61,b6 62 true 63 1,av 62 true (aU 64 .eql 63 2),dB 65 62 64] (a1 65 (.region [aJ 67 3 1 6,ay 68 1 67,aZ 69 4 19,J 70 4,c4 71 103 [.t 68,.t 69,.t 70],J 66 71,cg 72 0 66,cg 73 1 66,aJ 74 3 1 14,bu 1 74 72,J 15 73]) (aa [J 75 15] (a1 75 (.region [aJ 77 4 1 6,ay 78 1 77,aZ 79 4 19,J 80 5,c4 81 104 [.t 78,.t 79,.t 80],J 76 81,cg 82 0 76,cg 83 1 76,aJ 84 4 1 14,bu 1 84 82,J 15 83]) .skip)))))))) (.seq (aa [J 85 15,ct 86 85] (a1 86 (aa [gr 87 fD [],bu 5 12 87,bp 13 false] .ret) .skip)) (aa [aZ 88 5 14,cD 89 73 88,cg 90 0 89,cg 91 1 89,bu 5 12 90,J 13 91] .ret))))))
def TR:C:=(aa [c0 1 0,cP 2 fD] (.seq (.drawn true 20 [aJ 3 0 1 1,ay 4 1 3,aJ 5 1 1 1,ay 6 1 5,cD 7 105 6,aJ 8 2 1 1,ay 9 1 8,cD 10 106 9,ea 11 2 59 [],aJ 12 3 1 1,ay 13 1 12,gT 14 2 59 11 13,ea 15 2 56 [],aJ 16 4 1 1,ay 17 1 16,gT 18 2 56 15 17,gr 19 fD [(0,1,(.t 4)),(1,1,(.t 7)),(2,1,(.t 10)),(3,1,(.t 14)),(4,1,(.t 18))],bu 5 2 19]) .ret))
def Te:C:=(aa [bp 4 false] (.seq (aa [J 11 0,cD 12 68 11,ct 13 12] (a1 13 (aa [bp 4 false] .ret) .skip)) (.seq (aa [J 14 0,cH 15 14,cb 16 0] (fm 17 16 15 (.seq (.block 1 (aa [cE 18 5 14 16,aZ 19 5 18,cP 6 iC,bu 5 6 19] (aa [aJ 21 0 1 6,ay 22 1 21,cD 23 84 22,J 24 1,ch 25 131 23 24,J 20 25,cg 26 0 20,cg 27 1 20,cP 7 dk,bu 4 7 26,J 8 27] (aa [hN 29 1 4 6,aZ 30 4 29,J 31 1,ch 32 131 30 31,J 28 32,cg 33 0 28,cg 34 1 28,cP 9 dk,bu 4 9 33,J 10 34] (aa [J 35 8,J 36 35,b6 36 true 37 10,dB 38 36 37,J 39 38,av 39 true (aZ 40 4 7),av 39 true (aZ 41 4 9),av 39 true (ch 42 80 40 41),av 39 true (ct 43 42),dB 44 39 43] (a1 44 (aa [bp 4 true] .ret) .skip)))))) (.region [aU 45 .add 16 1,J 16 45])))) (aa [bp 4 false] .ret))))
def Td:C:=(aa [c0 2 0,bp 4 false] (aa [aZ 5 4 2,cD 6 76 5,J 7 6,av 7 true (aZ 8 4 2),b6 7 true 9 1,av 7 true (ch 10 132 8 9),dB 11 7 10,J 4 11] .ret))
def GO:C:=(aa [eO 6 5,cb 7 0] (.seq (aa [J 8 2,ct 9 8] (a1 9 (aa [eO 6 5,cb 7 1] .ret) .skip)) (.seq (aa [J 10 0,J 11 1,ch 12 99 10 11] (a1 12 (aa [eO 6 5,cb 7 2] .ret) .skip)) (aa [J 13 0,J 14 1,ch 15 95 13 14,J 6 15,cb 7 0] .ret))))
def TE:C:=(aa [eO 2 5] (aa [ea 6 5 54 [],J 3 6] (.seq (aa [J 7 0,cH 8 7,cb 9 0] (fm 10 9 8 (.seq (.block 1 (aa [cE 11 5 7 9,aZ 12 5 11,cP 5 iC,bu 5 5 12] (.drawn true 24 [J 13 3,aJ 14 0 1 5,ay 15 1 14,hN 16 1 4 5,aZ 17 4 16,cD 18 37 17,gr 19 iC [(0,1,(.t 15)),(1,4,(.t 18))],ea 20 5 54 [.t 19],gT 21 5 54 13 20,J 3 21]))) (.region [aU 22 .add 9 1,J 9 22])))) (aa [J 23 3,J 2 23] .ret))))
def TN:C:=(aa [eO 2 1] (aa [ea 6 1 23 [],J 3 6] (.seq (aa [J 7 0,cH 8 7,cb 9 0] (fm 10 9 8 (.seq (.block 1 (aa [cE 11 1 7 9,ay 12 1 11,J 5 12] (.region [J 13 3,J 14 5,cD 15 105 14,ea 16 1 23 [.t 15],gT 17 1 23 13 16,J 3 17]))) (.region [aU 18 .add 9 1,J 9 18])))) (aa [J 19 3,J 2 19] .ret))))
def Ll:C:=(aa [c0 2 0,cP 4 dk,bp 5 false] (.seq (aa [aZ 8 4 2,cD 9 76 8,ct 10 9,J 11 10,b6 11 false 12 1,av 11 false (cD 13 32 12),av 11 false (ct 14 13),c8 15 11 14] (a1 15 (aa [gr 16 dk [],bu 4 4 16,bp 5 false] .ret) .skip)) (aa [J 18 1,aZ 19 4 2,ch 20 79 18 19,J 17 20,cg 21 0 17,cg 22 1 17,cP 6 dk,bu 4 6 21,J 7 22] (.seq (aa [J 23 7,ct 24 23] (a1 24 (aa [gr 25 dk [],bu 4 4 25,bp 5 false] .ret) .skip)) (aa [aZ 26 4 6,cD 27 37 26,bu 4 4 27,bp 5 true] .ret)))))
def lx:List (Nat×dG):=[
 (3,⟨1,8,.int .i64,.int .i64 0⟩),
 (9,⟨1,16,.str,.str []⟩),
 (23,⟨1,24,.slice 54,.slice 5 .nil []⟩),
 (24,⟨1,24,.slice 23,.slice 1 .nil []⟩),
 (25,⟨1,24,.slice 59,.slice 2 .nil []⟩),
 (26,⟨1,24,.slice 56,.slice 2 .nil []⟩),
 (28,⟨5,104,.struct [(0,3),(1,23),(2,24),(3,25),(4,26)],.agg [.int .i64 0,.slice 5 .nil [],.slice 1 .nil [],.slice 2 .nil [],.slice 2 .nil []]⟩),
 (34,⟨1,24,.slice 36,.slice 4 .nil []⟩),
 (36,⟨4,56,.struct [(0,3),(1,3),(2,9),(3,34)],.agg [.int .i64 0,.int .i64 0,.str [],.slice 4 .nil []]⟩),
 (54,⟨5,64,.struct [(0,3),(1,36)],.agg [.int .i64 0,.int .i64 0,.int .i64 0,.str [],.slice 4 .nil []]⟩),
 (56,⟨2,24,.struct [(0,3),(1,9)],.agg [.int .i64 0,.str []]⟩),
 (59,⟨2,16,.struct [(0,3),(1,3)],.agg [.int .i64 0,.int .i64 0]⟩),
 (97,⟨1,24,.slice 3,.slice 1 .nil []⟩)]
theorem fO:fX aA lx=true:=by kernel_rfl
theorem I5:b7 lx Dh [.tmp 4] 2 Tryz.f9=true:=by kernel_rfl
theorem YI:b7 lx K4 [.tmp 6] 3 Tryz.f14=true:=by kernel_rfl
theorem OH:b7 lx GG [.cell 6 true 5,.tmp 7] 3 Tryz.f16=true:=by kernel_rfl
theorem YJ:b7 lx K5 [.cell 6 true 5,.tmp 7] 3 Tryz.f17=true:=by kernel_rfl
theorem al0:b7 lx Sb [.tmp 4] 2 Tryz.f19=true:=by kernel_rfl
theorem am8:b7 lx Tn [.tmp 2] 1 Tryz.f32=true:=by kernel_rfl
theorem YV:b7 lx Lm [.tmp 2] 1 Tryz.f33=true:=by kernel_rfl
theorem anH:b7 lx TU [.tmp 4] 2 Tryz.f34=true:=by kernel_rfl
theorem OM:b7 lx GL [.tmp 4] 2 Tryz.f39=true:=by kernel_rfl
theorem YH:b7 lx K3 [.tmp 6,.tmp 7] 3 Tryz.f40=true:=by kernel_rfl
theorem YO:b7 lx La [.cell 2 true 5] 1 Tryz.f41=true:=by kernel_rfl
theorem al2:b7 lx Sd [.tmp 6,.tmp 7] 3 Tryz.f43=true:=by kernel_rfl
theorem OI:b7 lx GH [.cell 6 true 5,.tmp 7] 3 Tryz.f45=true:=by kernel_rfl
theorem OJ:b7 lx GI [.cell 6 true 5,.tmp 7] 3 Tryz.f47=true:=by kernel_rfl
theorem tp:b7 lx rF [.cell 12 true 5,.tmp 13] 6 Tryz.f49=true:=by kernel_rfl
theorem anE:b7 lx TR [.cell 2 true 5] 1 Tryz.f51=true:=by kernel_rfl
theorem amZ:b7 lx Te [.tmp 4] 2 Tryz.f81=true:=by kernel_rfl
theorem amY:b7 lx Td [.tmp 4] 2 Tryz.f82=true:=by kernel_rfl
theorem OP:b7 lx GO [.tmp 6,.tmp 7] 3 Tryz.f90=true:=by kernel_rfl
theorem anq:b7 lx TE [.tmp 2] 1 Tryz.f105=true:=by kernel_rfl
theorem anA:b7 lx TN [.tmp 2] 1 Tryz.f106=true:=by kernel_rfl
theorem YU:b7 lx Ll [.cell 4 true 4,.tmp 5] 2 Tryz.f131=true:=by kernel_rfl
def Et(t:T)(k:Nat)(st:bt):Prop:=
 (k=t.args.length/\st=⟨[(2,.ptr (.loc 1) 0),(3,.ptr (.loc 2) 0),(14,.slice 4 .no (t.args.map T.e)),(15,.int .i64 t.args.length),(16,.int .i64 0)],[(.loc 1,[.int .i64 0,.int .i64 0,.str [],.slice 4 .nil []]),(.loc 2,[.int .i64 t.kind,.int .i64 t.int,.str t.name,.slice 4 .nil []])],[],3,[]⟩)\/
 ∃i:Nat,1<=i/\i<=t.args.length/\k=t.args.length-i/\st=⟨[(2,.ptr (.loc 1) 0),(3,.ptr (.loc 2) 0),(14,.slice 4 .no (t.args.map T.e)),(15,.int .i64 t.args.length),(16,.int .i64 i)],[(.loc 1,[.int .i64 0,.int .i64 0,.str [],.slice 4 .nil []]),(.loc 2,[.int .i64 t.kind,.int .i64 t.int,.str t.name,.slice 4 (.own (.loc 29)) ((t.args.take i).map T.e)])],[(.loc 29,⟨i,36,4,none⟩)],30,[]⟩
theorem QD(t:T):bR aA 37 [t.e] t.e:=by
 induction t with
 |pair a b dQ dR=>
  refine br fY Tryz.func37 E1 fun aR=>?_;unfold AH;simp;refine oT (Et (.pair a b)) 2 _ b0 (.inl ⟨rfl,rfl⟩) ?_;rintro k st (⟨ae,rfl⟩|⟨i,I,U,ae,rfl⟩) kr cN;all_goals clear kr cN
  ·simp;(with_reducible repeat' first|refine ak ?_|refine aF dQ ?_|refine aG dQ ?_|simp);refine bS.next 1 (by rw[ae];simp) (.inr ⟨1,Ω,Ψ,rfl,rfl⟩) b0
  ·rcases(by simp at U;omega:i=1\/i=2)with rfl|rfl
   ·simp;(with_reducible repeat' first|refine ak ?_|refine aF dR ?_|refine aG dR ?_|simp);refine bS.next 0 (by rw[ae];simp) (.inr ⟨2,Ω,Ψ,rfl,rfl⟩) b0
   ·exact cu
 |nil=>
  refine br fY Tryz.func37 E1 fun aR=>?_;unfold AH;simp;refine oT (Et (.nil)) 0 _ b0 (.inl ⟨rfl,rfl⟩) ?_;rintro k st (⟨ae,rfl⟩|⟨i,I,U,ae,rfl⟩) kr cN;all_goals clear kr cN
  ·exact cu
  ·simp at U;omega
 |var n=>
  refine br fY Tryz.func37 E1 fun aR=>?_;unfold AH;simp;refine oT (Et (.var n)) 0 _ b0 (.inl ⟨rfl,rfl⟩) ?_;rintro k st (⟨ae,rfl⟩|⟨i,I,U,ae,rfl⟩) kr cN;all_goals clear kr cN
  ·exact cu
  ·simp at U;omega
 |sym s=>
  refine br fY Tryz.func37 E1 fun aR=>?_;unfold AH;simp;refine oT (Et (.sym s)) 0 _ b0 (.inl ⟨rfl,rfl⟩) ?_;rintro k st (⟨ae,rfl⟩|⟨i,I,U,ae,rfl⟩) kr cN;all_goals clear kr cN
  ·exact cu
  ·simp at U;omega
 |num n=>
  refine br fY Tryz.func37 E1 fun aR=>?_;unfold AH;simp;refine oT (Et (.num n)) 0 _ b0 (.inl ⟨rfl,rfl⟩) ?_;rintro k st (⟨ae,rfl⟩|⟨i,I,U,ae,rfl⟩) kr cN;all_goals clear kr cN
  ·exact cu
  ·simp at U;omega
theorem abH(t:List ah)(aC:t.length<=1000000):bR aA 105 [.slice 5 .no (t.map ah.e)] (.slice 5 .no (t.map ah.e)):=by
 refine br fO Tryz.func105 anq fun aR=>?_;unfold TE;simp;(with_reducible repeat' first|refine ak ?_|simp);refine hH (α:=List ah) (fun i out=>⟨[(7,.slice 5 .no (t.map ah.e)),(8,.int .i64 t.length),(3,.slice 5 (.own (.loc 0)) (out.map ah.e)),(9,.int .i64 i)],[],[(.loc 0,⟨out.length,54,5,none⟩)],1,[]⟩) t.length (fun i out=>out=t.take i) [] b0 Ψ (fun out ag _=>?_) (fun i out hi ag _=>?_)
 ·rw[hV (eo _)]at ag;subst ag;exact cu
 ·obtain⟨b,az,gw⟩:=en hi;have Bn:out.length<=1000000:=by rw[ag];simp;omega
  simp[hi,gw];(with_reducible repeat' first|refine ak ?_|refine aF (QD _) ?_|refine aG (QD _) ?_|simp[gw,hi]);all_goals first|(refine⟨by unfold lim;omega,?_⟩)|skip
  all_goals(with_reducible repeat' first|refine ak ?_|simp)
  all_goals refine bS.rng (out++[b]) hi (by rw[lT az,ag]) ?_
  all_goals simp
  all_goals exact⟨by simp[fresh,aP,aK,cq,inObs,Pv.look,jY],et (by simp[fresh,aP,aK,cq,inObs,Pv.look,jY]),eu (by simp[fresh,aP,aK,ee,inObs,Pv.look,jY]),Ψ⟩
end
end Go.Proofs.YtohaalphocaebaaGreatDoor
namespace Go.Pv
section
open Go
section
variable {α:Type} {c:α->α->Int}
def kL(c:α->α->Int):List α->List α->Int
 |[],[]=>0
 |[],_::_=> -1
 |_::_,[]=>1
 |x::xs,y::ys=>if c x y=0 then kL c xs ys else c x y
theorem XK(h:km c):∀a b:List α,kL c b a= -kL c a b
 |[],[]=>rfl
 |[],_::_=>rfl
 |_::_,[]=>rfl
 |x::xs,y::ys=>by
  simp only[kL];have I:=h.neg x y;by_cases e:c x y=0
  ·rw[if_pos e,if_pos Ω,XK h xs ys]
  ·rw[if_neg e,if_neg Ω,I]
theorem XM(h:km c):∀a b:List α,kL c a b=0↔a=b
 |[],[]=>by simp[kL]
 |[],_::_=>by simp[kL]
 |_::_,[]=>by simp[kL]
 |x::xs,y::ys=>by
  simp only[kL,yn];by_cases e:c x y=0
  ·rw[if_pos e,XM h xs ys];simp[(h.zero x y).1 e]
  ·rw[if_neg e];exact⟨fun b4=>absurd b4 e,fun b4=>absurd ((h.zero x y).2 b4.1) e⟩
theorem XL(h:km c):∀a b d:List α,kL c a b<=0->kL c b d<=0->kL c a d<=0
 |[],_,[],_,_=>by simp[kL]
 |[],_,_::_,_,_=>by simp[kL]
 |_::_,[],_,I,_=>by simp[kL]at I
 |_::_,_::_,[],_,U=>by simp[kL]at U
 |x::xs,y::ys,z::cS,I,U=>by
  simp only[kL]at I U⊢;by_cases ar:c x y=0
  ·have:=(h.zero x y).1 ar;subst this;rw[if_pos ar]at I;by_cases aE:c x z=0
   ·rw[if_pos aE]at U⊢;exact XL h xs ys cS I U
   ·rw[if_neg aE]at U⊢;exact U
  ·rw[if_neg ar]at I;have bD:c x y<0:=Ω
   by_cases aE:c y z=0
   ·have:=(h.zero y z).1 aE;subst this;rw[if_neg ar];omega
   ·rw[if_neg aE]at U;have:=h.ltr bD U;rw[if_neg Ω];omega
theorem akX(h:km c):km (kL c):=⟨XK h,XL h,XM h⟩
end
def zJ(x y:ah):Int:=if eN x.v y.v=0 then eM x.t y.t else eN x.v y.v
theorem anL:km zJ:=by
 refine⟨fun x y=>?_,fun x y z I U=>?_,fun x y=>?_⟩
 ·unfold zJ;have:=k3.neg x.v y.v;have:=OZ.neg x.t y.t;by_cases e:eN x.v y.v=0
  ·rw[if_pos e,if_pos Ω];omega
  ·rw[if_neg e,if_neg Ω];omega
 ·unfold zJ at I U⊢;by_cases ar:eN x.v y.v=0
  ·rw[if_pos ar]at I;rw[(k3.zero _ _).1 ar];by_cases aE:eN y.v z.v=0
   ·rw[if_pos aE]at U⊢;exact OZ.tr _ _ _ I U
   ·rw[if_neg aE]at U⊢;exact U
  ·rw[if_neg ar]at I;have bD:eN x.v y.v<0:=Ω
   by_cases aE:eN y.v z.v=0
   ·rw[<-(k3.zero _ _).1 aE,if_neg ar];exact I
   ·rw[if_neg aE]at U;have:=k3.ltr bD U;rw[if_neg Ω];omega
 ·unfold zJ;by_cases e:eN x.v y.v=0
  ·rw[if_pos e,OZ.zero];have:=(k3.zero _ _).1 e;cases x;cases y;simp_all
  ·rw[if_neg e];exact⟨fun h=>absurd h e,fun h=>by rw[h]at e;exact absurd (k3.refl _) e⟩
def eG:List ah->List ah->Int:=kL zJ
theorem lP:km eG:=akX anL
end
section
open Go
structure bV where
 v:Int
 k:Int
 deriving nk,Inhabited
def bV.e(b:bV):aj:= .agg [.int .i64 b.v,.int .i64 b.k]
@[simp]theorem bV.eta(b:bV):bV.mk b.v b.k=b:=rfl
@[simp]theorem Rr(v k:Int):aj.agg [.int .i64 v,.int .i64 k]=(bV.mk v k).e:=rfl
@[simp]theorem auh(S:aM->Prop)(b:bV):aK S b.e=True:=by simp[bV.e,-Rr]
@[simp]theorem avT(b:bV):ej b.e=b.e:=by simp[bV.e,-Rr]
theorem Xz(S:aM->Prop):∀l:List bV,aP S (l.map bV.e)
 |[]=>by simp[aP]
 |x::xs=>by simp[aP,Xz S xs]
@[simp]theorem at5(S:aM->Prop)(l:List bV):aP S (l.map bV.e)=True:=eq_true (Xz S l)
@[simp]theorem Qg:∀l:List bV,du (l.map bV.e)=l.map bV.e
 |[]=>rfl
 |x::xs=>by simp[du,Qg xs]
@[simp]theorem avD(b:bV):e7 b.e=true:=rfl
@[simp]theorem asA(b:bV):cells b.e=[.int .i64 b.v,.int .i64 b.k]:=rfl
@[simp]theorem atO(b:bV):Pv.isAgg 2 b.e:=⟨_,rfl,rfl⟩
@[simp]theorem as1(off:Nat)(gN:Bool)(sz:Nat)(b:bV):vx off gN sz b.e=if gN then some (off+sz<=2,.agg (([.int .i64 b.v,.int .i64 b.k].drop off).take sz))else(([.int .i64 b.v,.int .i64 b.k]:List aj)[off]?).map fun p=>(True,p):=rfl
@[simp]theorem asT(off:Nat)(gN:Bool)(sz:Nat)(b:bV):sE off gN sz (.eptr b.e)=if gN then some (off+sz<=2,.eptr (.agg (([.int .i64 b.v,.int .i64 b.k].drop off).take sz)))else(([.int .i64 b.v,.int .i64 b.k]:List aj)[off]?).map fun p=>(e7 p=true/\cells p=[p],.eptr p):=rfl
structure bn where
 v:Int
 s:List UInt8
 deriving nk,Inhabited
def bn.e(b:bn):aj:= .agg [.int .i64 b.v,.str b.s]
@[simp]theorem bn.eta(b:bn):bn.mk b.v b.s=b:=rfl
@[simp]theorem KP(v:Int)(s:List UInt8):aj.agg [.int .i64 v,.str s]=(bn.mk v s).e:=rfl
@[simp]theorem akL(S:aM->Prop)(b:bn):aK S b.e=True:=by simp[bn.e,-KP]
@[simp]theorem avU(b:bn):ej b.e=b.e:=by simp[bn.e,-KP]
theorem NT(S:aM->Prop):∀l:List bn,aP S (l.map bn.e)
 |[]=>by simp[aP]
 |x::xs=>by simp[aP,NT S xs]
@[simp]theorem XA(S:aM->Prop)(l:List bn):aP S (l.map bn.e)=True:=eq_true (NT S l)
@[simp]theorem Qh:∀l:List bn,du (l.map bn.e)=l.map bn.e
 |[]=>rfl
 |x::xs=>by simp[du,Qh xs]
@[simp]theorem avE(b:bn):e7 b.e=true:=rfl
@[simp]theorem asB(b:bn):cells b.e=[.int .i64 b.v,.str b.s]:=rfl
@[simp]theorem atP(b:bn):Pv.isAgg 2 b.e:=⟨_,rfl,rfl⟩
@[simp]theorem as2(off:Nat)(gN:Bool)(sz:Nat)(b:bn):vx off gN sz b.e=if gN then some (off+sz<=2,.agg (([.int .i64 b.v,.str b.s].drop off).take sz))else(([.int .i64 b.v,.str b.s]:List aj)[off]?).map fun p=>(True,p):=rfl
@[simp]theorem asU(off:Nat)(gN:Bool)(sz:Nat)(b:bn):sE off gN sz (.eptr b.e)=if gN then some (off+sz<=2,.eptr (.agg (([.int .i64 b.v,.str b.s].drop off).take sz)))else(([.int .i64 b.v,.str b.s]:List aj)[off]?).map fun p=>(e7 p=true/\cells p=[p],.eptr p):=rfl
def fs(x y:bn):Int:=if eN x.v y.v=0 then lr x.s y.s else eN x.v y.v
theorem lQ:km fs:=by
 refine⟨fun x y=>?_,fun x y z I U=>?_,fun x y=>?_⟩
 ·unfold fs;have:=k3.neg x.v y.v;have:=E7.neg x.s y.s;by_cases e:eN x.v y.v=0
  ·rw[if_pos e,if_pos Ω];omega
  ·rw[if_neg e,if_neg Ω];omega
 ·unfold fs at I U⊢;by_cases ar:eN x.v y.v=0
  ·rw[if_pos ar]at I;rw[(k3.zero _ _).1 ar];by_cases aE:eN y.v z.v=0
   ·rw[if_pos aE]at U⊢;exact E7.tr _ _ _ I U
   ·rw[if_neg aE]at U⊢;exact U
  ·rw[if_neg ar]at I;have bD:eN x.v y.v<0:=Ω
   by_cases aE:eN y.v z.v=0
   ·rw[<-(k3.zero _ _).1 aE,if_neg ar];exact I
   ·rw[if_neg aE]at U;have:=k3.ltr bD U;rw[if_neg Ω];omega
 ·unfold fs;by_cases e:eN x.v y.v=0
  ·rw[if_pos e,E7.zero];have:=(k3.zero _ _).1 e;cases x;cases y;simp_all
  ·rw[if_neg e];exact⟨fun h=>absurd h e,fun h=>by rw[h]at e;exact absurd (k3.refl _) e⟩
def uS(x y:bn):Bool:=decide (x.v<y.v)||(x.v==y.v&&h2 x.s y.s)
theorem adg(a:List UInt8):h2 a a=false:=by
 cases h:h2 a a with
 |false=>rfl
 |true=>rw[KZ a a h]at h;cases h
theorem Yo(x y:bn):uS x y=im fs x y:=by
 unfold uS im fs;rw[qP];simp only[mg,eA,cv,dO];by_cases e:x.v=y.v
 ·have:eN x.v y.v=0:=(k3.zero _ _).2 e;rw[if_pos this];simp only[e,Int.lt_irrefl,false_or,true_and,lr];by_cases aE:x.s=y.s
  ·rw[if_pos aE,aE,adg];simp
  ·rw[if_neg aE];split<;>simp_all
 ·have bB:¬eN x.v y.v=0:=fun h=>e ((k3.zero _ _).1 h);rw[if_neg bB];simp only[e,false_and,or_false];unfold eN;(repeat' split)<;>omega
def iV{α:Type}(p:α->Prop)(r:α->α->Prop)(l:List α)(i:Nat):Prop:= ∀b,l[i]? =some b->p b/\∀c,0<i->l[i-1]? =some c->r c b
theorem Rn{α:Type}{p:α->Prop}{r:α->α->Prop}(aC:∀a b c,r a b->r b c->r a c){l:List α}:(∀i,i<l.length->iV p r l i)↔(∀b∈l,p b)/\l.Pairwise r:=by
 constructor
 ·intro h;refine⟨fun b ad=>?_,?_⟩
  ·obtain⟨i,hi,e⟩:=oL ad;exact(h i hi b (by rw[cm hi,e])).1
  ·rw[p6];have ku:∀i (h:i+1<l.length),r l[i] l[i+1]:=fun i hi=>(h (i+1) hi l[i+1] (by simp[cm hi])).2 l[i] Ω (by simp[cm (show i<l.length by omega)]);have:∀(d i:Nat) (h:i+d+1<l.length),r l[i] l[i+d+1]:=by
    intro d;induction d with
    |zero=>intro i h;exact ku i h
    |succ d bK=>intro i h;exact aC _ _ _ (bK i Ω) (ku (i+d+1) Ω)
   intro i j hi ag mv;have:=this (j-i-1) i Ω;simpa[show i+(j-i-1)+1=j from by omega]using this
 ·rintro⟨I,U⟩ i hi b ad;refine⟨I b (ek ad),fun c bB aq=>?_⟩;obtain⟨g1,ar⟩:=fG.1 aq;obtain⟨g2,aE⟩:=fG.1 ad;have:=p6.1 U (i-1) i g1 g2 Ω;rw[ar,aE]at this;exact this
def kZ{α:Type}(c:α->α->Int)(x:α):List α->List α
 |[]=>[x]
 |y::l=>if c y x<0 then y::kZ c x l else if c y x=0 then y::l else x::y::l
section
variable {α:Type} {c:α->α->Int}
theorem IU(aq:km c){x z:α}:∀{l:List α},z∈kZ c x l↔z=x\/z∈l
 |[]=>by simp[kZ]
 |y::l=>by
  simp only[kZ];split
  ·simp only[eU,IU aq (l:=l)];constructor
   ·rintro(h|h|h)
    ·exact .inr (.inl h)
    ·exact .inl h
    ·exact .inr (.inr h)
   ·rintro(h|h|h)
    ·exact .inr (.inl h)
    ·exact .inl h
    ·exact .inr (.inr h)
  ·split
   ·rename_i h;obtain rfl:=(aq.zero _ _).1 h;simp
   ·simp
theorem Nz(aq:km c){x:α}:∀{l:List α},hG c l->hG c (kZ c x l)
 |[],_=>by simp[kZ,hG]
 |y::l,h=>by
  obtain⟨I,U⟩:=nm.1 h;simp only[kZ];split
  ·rename_i ao;refine nm.2 ⟨fun z a8=>?_,Nz aq U⟩;rcases(IU aq).1 a8 with rfl|a8
   ·exact ao
   ·exact I z a8
  ·split
   ·exact h
   ·rename_i ao a7;have ha:c x y<0:=by have:=aq.neg x y;omega
    refine nm.2 ⟨fun z a8=>?_,h⟩;rcases eU.1 a8 with rfl|a8
    ·exact ha
    ·exact aq.ltr ha (by have:=I z a8;omega)
theorem NB(x:α):∀l:List α,(kZ c x l).length<=l.length+1
 |[]=>by simp[kZ]
 |y::l=>by
  have:=NB x l;simp only[kZ];split
  ·simp;omega
  ·split<;>simp
theorem NA(aq:km c)(x:α):∀(l:List α) (k:Nat),(∀i y,i<k->l[i]? =some y->c y x<0)->(∀y,l[k]? =some y->0<=c y x)->k<=l.length->kZ c x l=if(match l[k]? with|some y=>decide (c y x=0)|none=>false)=true then l else l.take k++x::l.drop k
 |[],k,_,_,ae=>by simp at ae;subst ae;simp[kZ]
 |y::l,0,_,U,_=>by
  have:=U y rfl;by_cases e:c y x=0
  ·simp[kZ,e]
  ·have ao:¬c y x<0:=Ω
   simp[kZ,ao,e]
 |y::l,k+1,I,U,ae=>by
  have bB:=I 0 y Ω rfl;simp only[kZ,if_pos bB,List.take_succ_cons,List.drop_succ_cons,bQ,List.getElem?_cons_succ];rw[NA aq x l k (fun i d hi aD=>I (i+1) d Ω (by simpa using aD)) (fun d aD=>U d (by simpa using aD)) (by simpa using ae)];cases l[k]? with
  |none=>rfl
  |some z=>simp only[];split<;>rfl
end
structure ho (l:List bV):Prop where
 at':∀x∈l,(0<=x.v/\x.v<=100000)/\(x.k=2\/x.k=3)
 asc:l.Pairwise fun x y=>x.v<y.v
def jb(l:List bV)(v:Int):Option Int:=(l.find? fun x=>x.v==v).map (·.k)
def mD(x:bV):List bV->List bV
 |[]=>[x]
 |y::l=>if y.v<x.v then y::mD x l else x::y::l
theorem wh{x z:bV}:∀{l:List bV},z∈mD x l↔z=x\/z∈l
 |[]=>by simp[mD]
 |y::l=>by
  simp only[mD];split
  ·simp only[eU,wh (l:=l)];constructor
   ·rintro(h|h|h)
    ·exact .inr (.inl h)
    ·exact .inl h
    ·exact .inr (.inr h)
   ·rintro(h|h|h)
    ·exact .inr (.inl h)
    ·exact .inl h
    ·exact .inr (.inr h)
  ·simp
theorem NC(x:bV):∀l:List bV,(mD x l).Perm (x::l)
 |[]=>.refl _
 |y::l=>by
  simp only[mD];split
  ·exact((NC x l).cons y).trans (awa _ _ _)
  ·exact .refl _
theorem Im{x:bV}:∀{l:List bV},l.Pairwise (fun x y=>x.v<y.v)->(∀y∈l,y.v≠x.v)->(mD x l).Pairwise fun x y=>x.v<y.v
 |[],_,_=>by simp[mD]
 |y::l,h,au=>by
  obtain⟨I,U⟩:=nm.1 h;have aB:=au y Ψ;simp only[mD];split
  ·rename_i ao;refine nm.2 ⟨fun z a8=>?_,Im U fun z a8=>au z (by simp[a8])⟩;rcases wh.1 a8 with rfl|a8
   ·exact ao
   ·exact I z a8
  ·refine nm.2 ⟨fun z a8=>?_,h⟩;rcases eU.1 a8 with rfl|a8
   ·omega
   ·have:=I z a8;omega
theorem W6(x:bV):∀(l:List bV) (k:Nat),(∀i y,i<k->l[i]? =some y->y.v<x.v)->(∀y,l[k]? =some y->¬y.v<x.v)->k<=l.length->mD x l=l.take k++x::l.drop k
 |[],k,_,_,ae=>by simp at ae;subst ae;rfl
 |y::l,0,_,U,_=>by have:=U y rfl;simp[mD,this]
 |y::l,k+1,I,U,ae=>by have bB:=I 0 y Ω rfl;simp only[mD,if_pos bB,List.take_succ_cons,List.drop_succ_cons,bQ];rw[W6 x l k (fun i d hi aD=>I (i+1) d Ω (by simpa using aD)) (fun d aD=>U d (by simpa using aD)) (by simpa using ae)]
theorem Xm{l ba:List bV}(bG:ba.Perm l)(aD:l.Pairwise fun x y=>x.v<y.v)(af:ba.Pairwise fun x y=>decide (y.v<x.v)=false):ba=l:=by
 refine Q6 (le:=fun x y:bV=>x.v<=y.v) (fun x y ab aB I U=>?_) (af.imp Ψ) (aD.imp Ω) bG;have iZ:x∈l:=bG.mem_iff.1 ab;have s7:y∈l:=aB;obtain⟨i,hi,rfl⟩:=oL iZ;obtain⟨j,ag,rfl⟩:=oL s7;have:=p6.1 aD;rcases Nat.lt_trichotomy i j with h|h|h
 ·have:=this i j hi ag h;omega
 ·subst h;rfl
 ·have:=this j i ag hi h;omega
theorem zq{l:List bV}{v:Int}:jb l v=none↔∀x∈l,x.v≠v:=by simp[jb]
theorem zp{l:List bV}{v k:Int}(h:jb l v=some k):(⟨v,k⟩:bV)∈l:=by unfold jb at h;rw[gB]at h;obtain⟨x,I,rfl⟩:=h;have U:=List.find?_some I;simp at U;subst U;exact List.mem_of_find?_eq_some I
theorem zr{l:List bV}(bk:l.Pairwise fun x y=>x.v<y.v){x:bV}(h:x∈l):jb l x.v=some x.k:=by
 induction l with
 |nil=>simp at h
 |cons y l bK=>
  obtain⟨I,U⟩:=nm.1 bk;rcases eU.1 h with rfl|h
  ·simp[jb]
  ·have:=I x h;have e:=bK U h;unfold jb at e⊢;rw[List.find?_cons_of_neg d7];exact e
def gU(l:List bV)(t:T)(k:Int):Option (List bV):=match t with
 | .var n=>match jb l n with
  |some bJ=>if bJ=k then some l else none
  |none=>some (mD ⟨n,k⟩ l)
 |t=>if t.kind=k then some l else none
theorem Gq{l ba:List bV}{t:T}{k:Int}(h:ho l)(aC:t.ok=true)(ae:k=2\/k=3)(he:gU l t k=some ba):ho ba:=by
 unfold gU at he;split at he
 ·rename_i n;split at he
  ·split at he
   ·cases he;exact h
   ·cases he
  ·rename_i au;cases he;rw[zq]at au;refine⟨fun x ab=>?_,Im h.asc au⟩;rcases wh.1 ab with rfl|ab
   ·exact⟨by simpa[T.ok]using aC,ae⟩
   ·exact h.at' x ab
 ·split at he
  ·cases he;exact h
  ·cases he
theorem o5{l:List bV}(h:ho l):l.length<=100001:=by
 have I:(l.map (·.v)).Nodup:=by rw[List.nodup_iff_pairwise_ne,List.pairwise_map];exact h.asc.imp fun h e=>Ω
 have:=Xs I fun v az=>by obtain⟨x,ab,rfl⟩:=hU.1 az;exact(h.at' x ab).1
 simpa using this
def e3(s:List ah):List bV->List bV->Option (List bV)
 |[],acc=>some acc
 |x::r,acc=>match gU acc (aV s x.v) x.k with
  |some a=>e3 s r a
  |none=>none
structure ju (l:List bn):Prop where
 at':∀x∈l,(0<=x.v/\x.v<=100000)/\iB x.s=true
 asc:hG fs l
def _root_.Go.Pv.T.has(s:List UInt8):T->Bool
 | .sym n=>n==s
 | .pair a b=>a.has s||b.has s
 |_=>false
def hv(l:List bn)(t:T)(s:List UInt8):Option (List bn):=if t.has s then none else some (asc fs (l++(oI t).map fun v=>⟨v,s⟩))
theorem F0{t:T}{v:Int}:v∈oI t↔t.occ v=true:=by
 refine⟨fun h=>?_,zy⟩;induction t with
 |var n=>simp[oI]at h;simp[T.occ,h]
 |pair a b dQ dR=>simp only[oI,h3]at h;simp only[T.occ,mg];exact h.imp dQ dR
 |_=>simp[oI]at h
theorem th{l ba:List bn}{t:T}{s:List UInt8}(h:hv l t s=some ba)(x:bn):x∈ba↔x∈l\/(x.s=s/\t.occ x.v=true):=by
 unfold hv at h;split at h
 ·cases h
 ·cases h;rw[Oi,h3,hU];refine or_congr_right ?_;constructor
  ·rintro⟨v,az,rfl⟩;exact⟨rfl,F0.1 az⟩
  ·rintro⟨I,U⟩;exact⟨x.v,F0.2 U,by rw[<-I]⟩
theorem KK{l ba:List bn}{t:T}{s:List UInt8}(cA:t.has s=false)(bk:hG fs ba)(hm:∀x,x∈ba↔x∈l\/(x.s=s/\t.occ x.v=true)):hv l t s=some ba:=by
 have h:hv l t s=some (asc fs (l++(oI t).map fun v=>⟨v,s⟩)):=by unfold hv;rw[cA];rfl
 rw[h];congr 1;exact(C7 lQ _).ext lQ bk fun x=>by rw[hm,<-th h]
theorem Gr{l ba:List bn}{t:T}{s:List UInt8}(h:ju l)(aC:t.ok=true)(af:iB s=true)(he:hv l t s=some ba):ju ba:=by
 refine⟨fun x ab=>?_,?_⟩
 ·rcases(th he x).1 ab with I|⟨I,U⟩
  ·exact h.at' x I
  ·exact⟨yg aC U,by rw[I];exact af⟩
 ·unfold hv at he;split at he
  ·cases he
  ·cases he;exact C7 lQ _
def eS(s:List ah):List bn->List bn->Option (List bn)
 |[],acc=>some acc
 |x::r,acc=>match hv acc (aV s x.v) x.s with
  |some a=>eS s r a
  |none=>none
end
end Go.Pv
namespace Go.Proofs.YtohaalphocaebaaGreatDoor
section
open Go Go.Pv
theorem EH(c:ah->ah->Int):∀a b:List ah,a=[]\/b=[]->kL c a b=eN a.length b.length
 |[],[],_=>by simp[kL,eN]
 |[],_::_,_=>by simp[kL,eN]<;>omega
 |_::_,[],_=>by simp[kL,eN]<;>omega
 |_::_,_::_,h=>by simp at h
theorem Y2(x y:ah)(xs ys:List ah):eG (x::xs) (y::ys)=if eN x.v y.v=0 then(if eM x.t y.t=0 then eG xs ys else eM x.t y.t)else eN x.v y.v:=by
 by_cases aW:eN x.v y.v=0
 ·by_cases bj:eM x.t y.t=0<;>simp[eG,kL,zJ,aW,bj]
 ·simp[eG,kL,zJ,aW]
theorem Y3(a b k:Int):eN (a-k) (b-k)=eN a b:=by unfold eN;(repeat' split)<;>omega
def NG(d e:List ah)(i:Nat):Prop:=i<=d.length/\i<=e.length/\eG (d.drop i) (e.drop i)=eG d e
theorem Km(d e:List ah):bR aA 140 [.slice 5 .no (d.map ah.e),.slice 5 .no (e.map ah.e)] (.int .i64 (eG d e)):=by
 generalize bI:eG d e=R;refine br sf Tryz.func140 amp fun aR=>?_;unfold SB;have aD:d.length<=68719476736:=by simp[gO,gj,gE,lim]at aR;omega
 have he:e.length<=68719476736:=by simp[gO,gj,gE,lim]at aR;omega
 simp;refine w6 [0,1] (fun(i:Nat)=>[(5,.int .i64 i)]) (fun i=>d.length-i) (NG d e) 0 b0 ⟨Ω,Ω,Ψ⟩ (fun i ag _=>?_);obtain⟨I,U,ao⟩:=ag;rw[bI]at ao;by_cases hi:i<d.length
 ·by_cases h9:i<e.length
  ·obtain⟨x,ab⟩:∃x,d[i]? =some x:=⟨_,cm hi⟩;obtain⟨y,aB⟩:∃y,e[i]? =some y:=⟨_,cm h9⟩;have c1:∀h,(d[i]'h)=x:=fun h=>by rw[cm hi]at ab;exact eV ab
   have eR:∀h,(e[i]'h)=y:=fun h=>by rw[cm h9]at aB;exact eV aB
   have Bd:d.drop i=x::d.drop (i+1):=by rw[lA hi,c1]
   have Be:e.drop i=y::e.drop (i+1):=by rw[lA h9,eR]
   rw[Bd,Be]at ao;rw[Y2]at ao;simp[hi,h9,c1,eR];by_cases aW:eN x.v y.v=0
   ·rw[if_pos aW]at ao;by_cases bj:eM x.t y.t=0
    ·rw[if_pos bj]at ao;(with_reducible repeat' first|refine ak ?_|refine aF (pg _ _) ?_|refine aG (pg _ _) ?_|refine aF (CQ _ _) ?_|refine aG (CQ _ _) ?_|simp[c1,eR,hi,h9,aW,bj]);refine bS.whl (i+1) Ω ⟨Ω,Ω,by rw[bI];exact ao⟩ ?_;exact b0
    ·rw[if_neg bj]at ao;((with_reducible repeat' first|refine ak ?_|refine aF (pg _ _) ?_|refine aG (pg _ _) ?_|refine aF (CQ _ _) ?_|refine aG (CQ _ _) ?_|simp[c1,eR,hi,h9,aW,bj]|((first|apply bN|apply bP|apply bO)<;>intro h<;>try simp at h))<;>(try exact cf));simp[bz,aY,a6,aX];exact ao
   ·rw[if_neg aW]at ao;((with_reducible repeat' first|refine ak ?_|refine aF (pg _ _) ?_|refine aG (pg _ _) ?_|simp[c1,eR,hi,h9,aW]|((first|apply bN|apply bP|apply bO)<;>intro h<;>try simp at h))<;>(try exact cf));simp[bz,aY,a6,aX];exact ao
  ·have:eN d.length e.length=R:=by rw[<-ao,eG,EH _ _ _ (.inr (List.drop_eq_nil_of_le Ω))];rw[<-Y3 d.length e.length i];simp only[tN];congr 1<;>omega
   simp[hi,h9];(with_reducible repeat' first|refine ak ?_|refine aF (pg _ _) ?_|refine aG (pg _ _) ?_|simp[hi,h9]);simp[bz,aY,a6,aX];exact this
 ·have:eN d.length e.length=R:=by rw[<-ao,eG,EH _ _ _ (.inl (List.drop_eq_nil_of_le Ω))];rw[<-Y3 d.length e.length i];simp only[tN];congr 1<;>omega
  simp[hi];(with_reducible repeat' first|refine ak ?_|refine aF (pg _ _) ?_|refine aG (pg _ _) ?_|simp[hi]);simp[bz,aY,a6,aX];exact this
theorem QB(a b:List ah)(bk:a.length<=1000000):bR aA 99 [.slice 5 .no (a.map ah.e),.slice 5 .no (b.map ah.e)] (.bool (decide (a=b))):=by
 by_cases aw:a.length=b.length;rotate_left
 ·have bB:decide (a=b)=false:=by simp only[gJ];rintro rfl;exact aw rfl
  have ux:((a.length:Int) !=(b.length:Int))=true:=by simp;omega
  have oY:¬(a.length:Int)=b.length:=Ω
  rw[bB];refine br sf Tryz.func99 YQ fun aR=>?_;unfold Lc;exact cu
 ·generalize bI:decide (a=b)=R;refine br sf Tryz.func99 YQ fun aR=>?_;unfold Lc;simp;(with_reducible repeat' first|refine ak ?_|simp[aw]);refine ep [0,1,12] (fun i (_:Unit)=>[(13,.int .i64 i)]) b.length (fun i (_:Unit)=> ∀k,k<i->a[k]? =b[k]?) () b0 (fun k ae=>Ω) (fun _ ag _=>?_) (fun i _ hi ag _=>?_)
  ·have:R=true:=by
    rw[<-bI,eA];apply List.ext_getElem?;intro k;by_cases ae:k<b.length
    ·exact ag k ae
    ·rw[rq Ω,rq Ω]
   rw[this];exact cu
  ·obtain⟨x,ab⟩:∃x,a[i]? =some x:=⟨_,cm Ω⟩;obtain⟨y,aB⟩:∃y,b[i]? =some y:=⟨_,cm hi⟩;have gF:i<a.length:=Ω
   have c1:∀h,(a[i]'h)=x:=fun h=>by rw[cm gF]at ab;exact eV ab
   have eR:∀h,(b[i]'h)=y:=fun h=>by rw[cm hi]at aB;exact eV aB
   have eg:x≠y->R=false:=fun h=>by rw[<-bI,gJ];rintro rfl;rw[ab]at aB;cases aB;exact h rfl
   simp[hi,gF,c1,eR];by_cases aW:x.v=y.v
   ·have uW:(x.v !=y.v)=false:=by simp[aW]
    by_cases bj:x.t=y.t
    ·(with_reducible repeat' first|refine ak ?_|refine aF (va _ _) ?_|refine aG (va _ _) ?_|simp[c1,eR,hi,gF,aW,uW,bj]);refine bS.rng () hi (fun k ae=>?_) ?_
     ·rcases(by omega:k<i\/k=i)with h|rfl
      ·exact ag k h
      ·rw[ab,aB];cases x;cases y;simp_all
     ·exact b0
    ·rw[eg (fun e=>bj (by rw[e]))];(with_reducible repeat' first|refine ak ?_|refine aF (va _ _) ?_|refine aG (va _ _) ?_|simp[c1,eR,hi,gF,aW,uW,bj]);simp[bz,aY,a6,aX]
   ·have uW:(x.v !=y.v)=true:=by simp[aW]
    rw[eg (fun e=>aW (by rw[e]))];exact cu
def ja(l:List (List ah))(e:List ah):Bool:=l.all fun d=>decide (d=e)|| !kN d e
theorem akE{l ba:List (List ah)}(h:∀x,x∈l↔x∈ba)(e:List ah):ja l e=ja ba e:=by rw[qP,ja,ja,fi,fi];exact⟨fun I x ab=>I x ((h x).2 ab),fun I x ab=>I x ((h x).1 ab)⟩
def iN(l:List (List ah)):List (List ah):=(asc eG l).filter (ja l)
theorem r2{l:List (List ah)}{x:List ah}:x∈iN l↔x∈l/\ja l x=true:=by rw[iN,hD,Oi]
theorem Yd(l:List (List ah)):hG eG (iN l):=(C7 lP l).filter _
theorem Ye{l ba:List (List ah)}(bk:hG eG ba)(hm:∀x,x∈ba↔x∈l/\ja l x=true):iN l=ba:=(Yd l).ext lP bk fun x=>by rw[hm,r2]
theorem Yf(l:List (List ah)):(iN l).length<=l.length:=hn (List.length_filter_le _ _) (ac4 _ _)
structure bd where
 n:Int
 b:List ah
 d:List (List ah)
 k:List bV
 m:List bn
 deriving nk,Inhabited
noncomputable def eF(b:List ah)(k:List bV)(m:List bn):List (List ah)->Option (List (List ah))
 |[]=>some []
 |d::r=>match mgu b (e0 d)with
  |none=>eF b k m r
  |some x=>if e3 x k []=none\/eS x m []=none then eF b k m r else if dx b x=[]then none else(eF b k m r).map (dx b x:: ·)
def hp(k:List bV)(x:bn):Bool:=jb k x.v !=some 3
noncomputable def eH(s:bd):Option bd:=match e3 s.b s.k []with
 |none=>none
 |some k=>match eS s.b s.m []with
  |none=>none
  |some m=>match eF s.b k (m.filter (hp k)) s.d with
   |none=>none
   |some L=>if(iN L).length<=30 then some ⟨s.n,s.b,iN L,k,m.filter (hp k)⟩else none
def wW(t:T)(n:Int):Prop:= ∀v,t.occ v=true->v<n
def nY(l:List ah)(n:Int):Prop:= ∀b∈l,b.v<n/\wW b.t n
structure gz (s:bd):Prop where
 n:0<=s.n/\s.n<=100000
 b:ei s.b
 d:∀x∈s.d,ei x
 k:ho s.k
 m:ju s.m
 bb:nY s.b s.n
 db:∀x∈s.d,nY x s.n
 kb:∀x∈s.k,x.v<s.n
 mb:∀x∈s.m,x.v<s.n
def gi(s:bd):Prop:=gz s/\eH s=some s
theorem z1{s:List ah}(af:ei s){v:Int}(az:0<=v/\v<=100000):(aV s v).ok=true:=by have:=FG af.ok (t:= .var v) (by simpa[T.ok]using az);exact this
theorem JB{s:List ah}(af:ei s):∀{l acc a:List bV},(∀x∈l,(0<=x.v/\x.v<=100000)/\(x.k=2\/x.k=3))->ho acc->e3 s l acc=some a->ho a
 |[],acc,a,_,h,he=>by simp only[e3,dD]at he;rw[<-he];exact h
 |x::r,acc,a,aw,h,he=>by
  simp only[e3]at he;split at he
  ·rename_i bF ar;have ab:=aw x Ψ;exact JB af (fun y aB=>aw y (by simp[aB])) (Gq h (z1 af ab.1) ab.2 ar) he
  ·cases he
theorem Fm{s:List ah}(af:ei s):∀{l acc a:List bn},(∀x∈l,(0<=x.v/\x.v<=100000)/\iB x.s=true)->ju acc->eS s l acc=some a->ju a
 |[],acc,a,_,h,he=>by simp only[eS,dD]at he;rw[<-he];exact h
 |x::r,acc,a,aw,h,he=>by
  simp only[eS]at he;split at he
  ·rename_i bF ar;have ab:=aw x Ψ;exact Fm af (fun y aB=>aw y (by simp[aB])) (Gr h (z1 af ab.1) ab.2 ar) he
  ·cases he
def lv(G:List (List UInt8))(l:List bn):Prop:= ∀x∈l,x.s∈G
theorem C5{G:List (List UInt8)}{l ba:List bn}{t:T}{s:List UInt8}(h:lv G l)(af:s∈G)(he:hv l t s=some ba):lv G ba:=fun x ab=>by
 rcases(th he x).1 ab with I|⟨I,_⟩
 ·exact h x I
 ·rw[I];exact af
theorem Fo{G:List (List UInt8)}{s:List ah}:∀{l acc a:List bn},lv G l->lv G acc->eS s l acc=some a->lv G a
 |[],acc,a,_,h,he=>by simp only[eS,dD]at he;rw[<-he];exact h
 |x::r,acc,a,aw,h,he=>by
  simp only[eS]at he;split at he
  ·rename_i bF ar;exact Fo (fun y aB=>aw y (by simp[aB])) (C5 h (aw x Ψ) ar) he
  ·cases he
theorem anU{α:Type}[nk α]:∀{G:List α} {l:List (Nat×α)},l.Nodup->(∀x∈l,x.1<100001/\x.2∈G)->l.length<=100001*G.length:=by
 intro G l au h;have:=Gb au (l₂:=(List.range 100001).flatMap fun i=>G.map fun g=>(i,g)) (fun x ab=>by obtain⟨I,U⟩:=h x ab;rw[List.mem_flatMap];exact⟨x.1,List.mem_range.2 I,hU.2 ⟨x.2,U,rfl⟩⟩)
 have e:((List.range 100001).flatMap fun i=>G.map fun g=>(i,g)).length=100001*G.length:=by
  generalize 100001=n;induction n with
  |zero=>simp
  |succ n bK=>rw[List.range_succ,List.flatMap_append,pn,bK];simp[Nat.succ_mul]
 omega
theorem EN{G:List (List UInt8)}{l:List bn}(h:ju l)(aT:lv G l):l.length<=100001*G.length:=by
 have I:(l.map fun x=>(x.v.toNat,x.s)).Nodup:=by rw[List.nodup_iff_pairwise_ne,List.pairwise_map];refine arI (fun{a b} bk ad cG e=>cG ?_) (h.asc.nodup lQ);have:=(h.at' a bk).1;have:=(h.at' b ad).1;simp only[kl]at e;cases a;cases b;simp only[bn.mk.injEq];simp only at*;exact⟨Ω,e.2⟩
 have:=anU (G:=G) I fun x ab=>by obtain⟨y,aB,rfl⟩:=hU.1 ab;have:=(h.at' y aB).1;exact⟨by simp;omega,aT y aB⟩
 simpa using this
def jN(m:List bn):Prop:= ∃G:List (List UInt8),G.length<=687000/\lv G m
theorem jN.len{m:List bn}(h:jN m)(hm:ju m):m.length<=68719470000:=by obtain⟨G,I,U⟩:=h;have:=EN hm U;omega
theorem apk{s:List ah}(h:ei s)(p:ah->Bool):ei (s.filter p):=by
 have mZ:∀b∈s.filter p,b∈s:=fun b ad=>(hD.1 ad).1;have au:∀w,cO s w=none->cO (s.filter p) w=none:=fun w hw=>by rw[wX]at hw⊢;exact fun b ad=>hw b (mZ b ad)
 exact⟨fun b ad=>h.ok b (mZ b ad),⟨Ku p h.sol.asc,fun b ad w hw=>au w (h.sol.free b (mZ b ad) w hw),fun b ad=>h.sol.ori b (mZ b ad)⟩,
  hn (List.length_filter_le _ _) h.fits.1,fun b ad=>h.fits.2 b (mZ b ad)⟩
theorem EV{b x:List ah}(h:ei x):ei (dx b x):=apk h _
theorem alG{b x:List ah}(ad:eQ b)(ab:eQ x)(aO:fT x)(h:∀θ,df x θ->df b θ):jC b (e0 (dx b x)) (some x):=by
 refine⟨⟨ab,aO⟩,fun θ=>⟨fun fl=>⟨h θ fl,fun e he=>?_⟩,fun⟨I,U⟩ c aq=>?_⟩⟩
 ·obtain⟨c,aq,rfl⟩:=hU.1 he;exact fl c (hD.1 aq).1
 ·have kG:∀c∈x,cO b c.v=none->θ c.v=c.t.ap θ:=fun c aq au=>by have:=U (.var c.v,c.t) (hU.2 ⟨c,hD.2 ⟨aq,by simp[au]⟩,rfl⟩);exact this
  have q1:∀w,cO b w=none->(aV x w).ap θ=θ w:=fun w hw=>by
   unfold aV;cases e:cO x w with
   |none=>rfl
   |some t=>have hm:=iX e;exact(kG _ hm hw).symm
  cases e:cO b c.v with
  |none=>exact kG c aq e
  |some t=>
   have ar:θ c.v=t.ap θ:=I _ (iX e);have aE:=h (aV x) (u2 ab) _ (iX e);simp only at aE;have bA:aV x c.v=c.t:=by unfold aV;rw[oP ab.asc aq];rfl
   rw[bA]at aE;rw[ar,aE,yz];exact mP fun w hw=>(q1 w (ad.free _ (iX e) w hw)).symm
theorem lO{s:List ah}(af:eQ s)(aO:fT s){E:List (T×T)}{x:List ah}(h:mgu s E=some x):∀θ,df x θ↔df s θ/\iu E θ:=by have:=wi af aO E;rw[h]at this;exact this.2
theorem ER{s:List ah}(af:eQ s)(aO:fT s){E:List (T×T)}{x:List ah}(h:mgu s E=some x):mgu s (e0 (dx s x))=some x:=qz (alG af (pU af aO h).1 (pU af aO h).2 fun θ fl=>((lO af aO h θ).1 fl).1)
theorem Yb(p:Int->Prop){E:List (T×T)}:∀{s ai:List ah},eQ s->fT s->(∀b∈s,p b.v/\∀w,b.t.occ w=true->p w)->(∀e∈E,(∀w,e.1.occ w=true->p w)/\∀w,e.2.occ w=true->p w)->mgu s E=some ai->∀b∈ai,p b.v/\∀w,b.t.occ w=true->p w:=by
 induction E with
 |nil=>intro s ai af aO I _ h;rw[ES af aO]at h;cases h;exact I
 |cons e E bK=>
  intro s ai af aO I U h;rw[Ou af aO]at h;split at h
  ·rename_i s1 ar;obtain⟨V,gX⟩:∃V,V=s.flatMap (fun b=>b.v::oI b.t)++oI e.1++oI e.2:=⟨_,rfl⟩;have VM:∀w∈V,p w:=by
    intro w hw;rw[gX]at hw;simp only[h3,List.mem_flatMap,eU]at hw;rcases hw with(⟨b,ad,rfl|hw⟩|hw)|hw
    ·exact(I b ad).1
    ·exact(I b ad).2 w (F0.1 hw)
    ·exact(U e Ψ).1 w (F0.1 hw)
    ·exact(U e Ψ).2 w (F0.1 hw)
   obtain⟨n,o,jO,ki,rl⟩:=aa5 V _ _ s e.1 e.2 af aO (fun c aq=>⟨by rw[gX];simp only[h3,List.mem_flatMap];exact .inl (.inl ⟨c,aq,Ψ⟩),fun w hw=>by rw[gX];simp only[h3,List.mem_flatMap];exact .inl (.inl ⟨c,aq,by simp[zy hw]⟩)⟩)
    (fun w hw=>by rw[gX];simp only[h3];exact .inl (.inr (zy hw))) (fun w hw=>by rw[gX];simp only[h3];exact .inr (zy hw)) rfl rfl
   have Ae:=qz ki;rw[ar]at Ae;subst Ae;obtain⟨aa4,_⟩:=rl s1 rfl;have oi:=pU af aO ar;exact bK oi.1 oi.2 (fun b ad=>⟨VM _ (aa4 b ad).1,fun w hw=>VM w ((aa4 b ad).2 w hw)⟩) (fun fJ he=>U fJ (by simp[he])) h
  ·cases h
theorem apw{s:List ah}(af:eQ s){v n:Int}(h:aV s v= .var n):cO s n=none:=by have:=P4 af (t:= .var v) (w:=n) (by show(aV s v).occ n=true;rw[h];simp[T.occ]);exact this
theorem KJ{l ba:List bV}{t:T}{k:Int}(h:gU l t k=some ba):∀x∈ba,x∈l\/t= .var x.v:=by
 unfold gU at h;split at h
 ·rename_i n;split at h
  ·split at h
   ·cases h;exact fun x ab=>.inl ab
   ·cases h
  ·cases h;intro x ab;rcases wh.1 ab with rfl|ab
   ·exact .inr rfl
   ·exact .inl ab
 ·split at h
  ·cases h;exact fun x ab=>.inl ab
  ·cases h
theorem Fl{s:List ah}(af:eQ s):∀{l acc a:List bV},(∀x∈acc,cO s x.v=none)->e3 s l acc=some a->∀x∈a,cO s x.v=none
 |[],acc,a,h,he=>by simp only[e3,dD]at he;rw[<-he];exact h
 |y::r,acc,a,h,he=>by
  simp only[e3]at he;split at he
  ·rename_i bF ar;refine Fl af (fun x ab=>?_) he;rcases KJ ar x ab with I|I
   ·exact h x I
   ·exact apw af I
  ·cases he
theorem W7{x:bV}:∀{l:List bV},(∀y∈l,y.v<x.v)->mD x l=l++[x]
 |[],_=>rfl
 |y::l,h=>by simp only[mD,if_pos (h y Ψ),W7 (l:=l) fun z a8=>h z (by simp[a8]),bQ]
theorem Z9{s:List ah}:∀{l acc:List bV},(acc++l).Pairwise (fun x y=>x.v<y.v)->(∀x∈l,cO s x.v=none)->e3 s l acc=some (acc++l)
 |[],acc,_,_=>by simp[e3]
 |x::r,acc,bk,aO=>by
  have I:∀y∈acc,y.v<x.v:=fun y aB=>(List.pairwise_append.1 bk).2.2 y aB x Ψ;have U:jb acc x.v=none:=zq.2 fun y aB=>by have:=I y aB;omega
  have ao:gU acc (aV s x.v) x.k=some (acc++[x]):=by rw[CC (aO x Ψ)];simp only[gU,U];rw[W7 I]
  simp only[e3,ao];rw[Z9 (by simpa using bk) fun y aB=>aO y (by simp[aB])];simp
theorem zQ{s:List ah}(af:eQ s):∀{l acc a:List bn},(∀x∈acc,cO s x.v=none)->eS s l acc=some a->∀x∈a,cO s x.v=none
 |[],acc,a,h,he=>by simp only[eS,dD]at he;rw[<-he];exact h
 |y::r,acc,a,h,he=>by
  simp only[eS]at he;split at he
  ·rename_i bF ar;refine zQ af (fun x ab=>?_) he;rcases(th ar x).1 ab with I|⟨_,I⟩
   ·exact h x I
   ·exact P4 af (t:= .var y.v) I
  ·cases he
theorem JC{s:List ah}:∀{l acc:List bn},hG fs (acc++l)->(∀x∈l,cO s x.v=none)->eS s l acc=some (acc++l)
 |[],acc,_,_=>by simp[eS]
 |x::r,acc,bk,aO=>by
  have ao:hv acc (aV s x.v) x.s=some (acc++[x]):=by
   rw[CC (aO x Ψ)];refine KK rfl (av9 ?_ bk) fun z=>?_
   ·simp
   ·simp only[h3,iG,T.occ,dO];refine or_congr_right ⟨fun h=>by rw[h];exact⟨rfl,rfl⟩,fun⟨I,U⟩=>?_⟩;cases z;cases x;simp_all
  simp only[eS,ao];rw[JC (by simpa using bk) fun y aB=>aO y (by simp[aB])];simp
def x7(b:List ah)(k:List bV)(m:List bn)(d:List ah):Prop:= ∃x,mgu b (e0 d)=some x/\¬(e3 x k []=none\/eS x m []=none)/\dx b x=d/\d≠[]
theorem EG{b:List ah}(ad:ei b){k:List bV}{m:List bn}:∀{l L:List (List ah)},eF b k m l=some L->∀d∈L,x7 b k m d
 |[],L,h=>by simp only[eF,dD]at h;rw[<-h];simp
 |d0::r,L,h=>by
  simp only[eF]at h;split at h
  ·exact EG ad h
  ·rename_i x ab;split at h
   ·exact EG ad h
   ·rename_i ae;split at h
    ·cases h
    ·rename_i au;rw[gB]at h;obtain⟨tQ,I,rfl⟩:=h;intro d aD;rcases eU.1 aD with rfl|aD
     ·exact⟨x,ER ad.sol ad.fits ab,ae,rfl,au⟩
     ·exact EG ad I d aD
theorem N2{b:List ah}{k:List bV}{m:List bn}:∀{L:List (List ah)},(∀d∈L,x7 b k m d)->eF b k m L=some L
 |[],_=>rfl
 |d::L,h=>by obtain⟨x,I,U,ao,a7⟩:=h d Ψ;simp only[eF,I,if_neg U,ao,if_neg a7,N2 (L:=L) fun e he=>h e (by simp[he]),nT]
theorem zv{b:List ah}(ad:ei b){k:List bV}{m:List bn}:∀{l L:List (List ah)},(∀d∈l,ei d)->eF b k m l=some L->∀d∈L,ei d
 |[],L,_,h=>by simp only[eF,dD]at h;rw[<-h];simp
 |d0::r,L,aw,h=>by
  simp only[eF]at h;split at h
  ·exact zv ad (fun d aD=>aw d (by simp[aD])) h
  ·rename_i x ab;split at h
   ·exact zv ad (fun d aD=>aw d (by simp[aD])) h
   ·split at h
    ·cases h
    ·rw[gB]at h;obtain⟨tQ,I,rfl⟩:=h;intro d aD;rcases eU.1 aD with rfl|aD
     ·exact EV (ad.mgu (fun e he=>by obtain⟨c,aq,rfl⟩:=hU.1 he;have:=(aw d0 Ψ).ok c aq;exact⟨by simpa[T.ok]using this.1,this.2⟩) ab)
     ·exact zv ad (fun d aD=>aw d (by simp[aD])) I d aD
theorem IJ{b:List ah}(ad:ei b){n:Int}(au:nY b n){k:List bV}{m:List bn}:∀{l L:List (List ah)},(∀d∈l,nY d n)->eF b k m l=some L->∀d∈L,nY d n
 |[],L,_,h=>by simp only[eF,dD]at h;rw[<-h];simp
 |d0::r,L,aw,h=>by
  simp only[eF]at h;split at h
  ·exact IJ ad au (fun d aD=>aw d (by simp[aD])) h
  ·rename_i x ab;split at h
   ·exact IJ ad au (fun d aD=>aw d (by simp[aD])) h
   ·split at h
    ·cases h
    ·rw[gB]at h;obtain⟨tQ,I,rfl⟩:=h;intro d aD;rcases eU.1 aD with rfl|aD
     ·have:=Yb (fun v=>v<n) ad.sol ad.fits au (fun e he=>by obtain⟨c,aq,rfl⟩:=hU.1 he;have:=aw d0 Ψ c aq;exact⟨fun w hw=>by simp[T.occ]at hw;subst hw;exact this.1,this.2⟩) ab
      exact fun c aq=>this c (hD.1 aq).1
     ·exact IJ ad au (fun d aD=>aw d (by simp[aD])) I d aD
theorem Yg{L:List (List ah)}:iN (iN L)=iN L:=Ye (Yd L) fun x=>by rw[r2,and_assoc];refine⟨fun⟨I,U⟩=>⟨I,U,?_⟩,fun⟨I,U,_⟩=>⟨I,U⟩⟩;rw[ja,fi]at U⊢;exact fun d aD=>U d (r2.1 aD).1
theorem NN{b:List ah}(ad:ei b){n:Int}(au:nY b n){v w:Int}(az:v<n)(h:(aV b v).occ w=true):w<n:=by
 unfold aV at h;cases e:cO b v with
 |none=>rw[e]at h;simp[T.occ]at h;omega
 |some t=>rw[e]at h;exact(au _ (iX e)).2 w h
theorem Z7{b:List ah}(ad:ei b){n:Int}(au:nY b n):∀{l acc a:List bV},(∀x∈l,x.v<n)->(∀x∈acc,x.v<n)->e3 b l acc=some a->∀x∈a,x.v<n
 |[],acc,a,_,h,he=>by simp only[e3,dD]at he;rw[<-he];exact h
 |y::r,acc,a,aw,h,he=>by
  simp only[e3]at he;split at he
  ·rename_i bF ar;refine Z7 ad au (fun x ab=>aw x (by simp[ab])) (fun x ab=>?_) he;rcases KJ ar x ab with I|I
   ·exact h x I
   ·exact NN ad au (aw y Ψ) (by rw[I];simp[T.occ])
  ·cases he
theorem aaa{b:List ah}(ad:ei b){n:Int}(au:nY b n):∀{l acc a:List bn},(∀x∈l,x.v<n)->(∀x∈acc,x.v<n)->eS b l acc=some a->∀x∈a,x.v<n
 |[],acc,a,_,h,he=>by simp only[eS,dD]at he;rw[<-he];exact h
 |y::r,acc,a,aw,h,he=>by
  simp only[eS]at he;split at he
  ·rename_i bF ar;refine aaa ad au (fun x ab=>aw x (by simp[ab])) (fun x ab=>?_) he;rcases(th ar x).1 ab with I|⟨_,I⟩
   ·exact h x I
   ·exact NN ad au (aw y Ψ) I
  ·cases he
theorem tB{s ai:bd}(h:gz s)(he:eH s=some ai):gi ai/\ai.n=s.n/\ai.b=s.b:=by
 unfold eH at he;split at he
 ·cases he
 rename_i k ae;split at he
 ·cases he
 rename_i m hm;split at he
 ·cases he
 rename_i L e1;split at he;rotate_left
 ·cases he
 rename_i l4;cases he;have aS:=JB h.b h.k.at' ⟨Ψ,Ψ⟩ ae;have m1:=Fm h.b h.m.at' ⟨Ψ,by simp[hG]⟩ hm;have m2:ju (m.filter (hp k)):=⟨fun x ab=>m1.at' x (hD.1 ab).1,Ku _ m1.asc⟩;have da:=EG h.b e1;have zf:=zv h.b h.d e1;refine⟨⟨⟨h.n,h.b,fun x ab=>zf x (r2.1 ab).1,aS,m2,h.bb,fun x ab=>IJ h.b h.bb h.db e1 x (r2.1 ab).1,Z7 h.b h.bb h.kb Ψ ae,fun x ab=>aaa h.b h.bb h.mb Ψ hm x (hD.1 ab).1⟩,?_⟩,rfl,rfl⟩;unfold eH;have ar:e3 s.b k []=some k:=Z9 (acc:=[]) aS.asc (Fl h.b.sol Ψ ae);have aE:eS s.b (m.filter (hp k)) []=some (m.filter (hp k)):=JC (acc:=[]) m2.asc fun x ab=>zQ h.b.sol Ψ hm x (hD.1 ab).1;have bA:(m.filter (hp k)).filter (hp k)=m.filter (hp k):=by rw[List.filter_filter];simp
 have dr:eF s.b k (m.filter (hp k)) (iN L)=some (iN L):=N2 fun d aD=>da d (r2.1 aD).1;simp only[ar,aE,bA,dr,Yg,if_pos l4]
def R4:C:=(aa [bp 2 false] (.seq (aa [J 5 0,cH 6 5,cb 7 0] (fm 8 7 6 (.seq (.block 1 (aa [J 9 7,cE 10 2 5 7,aZ 11 2 10,cS (.alloc 4 none (.agg [.int .i64 0,.int .i64 0])),J 3 9,bu 2 4 11] (.seq (.drawn true 46 [aJ 12 0 1 4,ay 13 1 12,aU 14 .lss 13 0,J 15 14,av 15 false (aJ 16 0 1 4),av 15 false (ay 17 1 16),av 15 false (aU 18 .gtr 17 100000),c8 19 15 18,J 20 19,av 20 false (aJ 21 1 1 4),av 20 false (ay 22 1 21),av 20 false (aU 23 .neq 22 2),b6 20 false 24 23,av 24 true (aJ 25 1 1 4),av 24 true (ay 26 1 25),av 24 true (aU 27 .neq 26 3),av 20 false (dB 28 24 27),c8 29 20 28,J 30 29,b6 30 false 31 3,av 30 false (aU 32 .gtr 31 0),b6 30 false 33 32,b6 33 true 34 0,b6 33 true 35 3,av 33 true (aU 36 .sub 35 1),av 33 true (cE 37 2 34 36),av 33 true (aJ 38 0 1 37),av 33 true (ay 39 1 38),av 33 true (aJ 40 0 1 4),av 33 true (ay 41 1 40),av 33 true (bC 42 .geq 39 41),av 30 false (dB 43 33 42),c8 44 30 43]) (a1 44 (aa [bp 2 false] .ret) .skip)))) (.region [aU 45 .add 7 1,J 7 45])))) (aa [bp 2 true] .ret)))
def R5:C:=(aa [bp 2 false] (.seq (aa [J 5 0,cH 6 5,cb 7 0] (fm 8 7 6 (.seq (.block 1 (aa [J 9 7,cE 10 2 5 7,aZ 11 2 10,cS (.alloc 4 none (.agg [.int .i64 0,.str []])),J 3 9,bu 2 4 11] (.seq (.drawn true 41 [aJ 12 0 1 4,ay 13 1 12,aU 14 .lss 13 0,J 15 14,av 15 false (aJ 16 0 1 4),av 15 false (ay 17 1 16),av 15 false (aU 18 .gtr 17 100000),c8 19 15 18,J 20 19,av 20 false (aJ 21 1 1 4),av 20 false (ay 22 1 21),av 20 false (cD 23 109 22),av 20 false (ct 24 23),c8 25 20 24,J 26 25,b6 26 false 27 3,av 26 false (aU 28 .gtr 27 0),b6 26 false 29 28,b6 29 true 30 0,b6 29 true 31 3,av 29 true (aU 32 .sub 31 1),av 29 true (cE 33 2 30 32),av 29 true (aZ 34 2 33),av 29 true (aZ 35 2 4),av 29 true (ch 36 110 34 35),av 29 true (ct 37 36),av 26 false (dB 38 29 37),c8 39 26 38]) (a1 39 (aa [bp 2 false] .ret) .skip)))) (.region [aU 40 .add 7 1,J 7 40])))) (aa [bp 2 true] .ret)))
def GM:C:=(aa [c0 2 0,bp 4 false] (.seq (aa [aJ 5 0 1 2,ay 6 1 5,aU 7 .eql 6 4] (a1 7 (aa [aJ 8 3 1 2,ay 9 1 8,j5 10 4 9 0,aZ 11 4 10,J 12 1,ch 13 66 11 12,J 14 13,av 14 false (aJ 15 3 1 2),av 14 false (ay 16 1 15),av 14 false (j5 17 4 16 1),av 14 false (aZ 18 4 17),b6 14 false 19 1,av 14 false (ch 20 66 18 19),c8 21 14 20,J 4 21] .ret) .skip)) (aa [aJ 22 0 1 2,ay 23 1 22,aU 24 .eql 23 2,J 25 24,av 25 true (aJ 26 2 1 2),av 25 true (ay 27 1 26),b6 25 true 28 1,av 25 true (bC 29 .eql 27 28),dB 30 25 29,J 4 30] .ret)))
def rE:C:=(aa [c0 6 2,eO 8 2,bp 9 false] (.seq (aa [J 15 0,cD 16 53 15,ct 17 16,J 18 17,av 18 false (aZ 19 4 6),av 18 false (cD 20 89 19),av 18 false (ct 21 20),c8 22 18 21,J 23 22,b6 23 false 24 1,av 23 false (cD 25 54 24),av 23 false (ct 26 25),c8 27 23 26,J 28 27,b6 28 false 29 3,av 28 false (aU 30 .neq 29 2),b6 28 false 31 30,b6 31 true 32 3,av 31 true (aU 33 .neq 32 3),av 28 false (dB 34 31 33),c8 35 28 34] (a1 35 (aa [eO 8 2,bp 9 false] .ret) .skip)) (aa [J 37 0,aZ 38 4 6,ch 39 29 37 38,J 36 39,cg 40 0 36,cg 41 1 36,cP 10 dk,bu 4 10 40,J 11 41] (.seq (aa [J 42 11,ct 43 42] (a1 43 (aa [eO 8 2,bp 9 false] .ret) .skip)) (aa [cS (.bslm 44 (some 803) 2 59 []),J 45 1,cS (.appm 46 none 2 59 (.t 44) (.t 45)),cS (.alloc 12 (some 804) (.slice 2 .nil [])),bu 1 12 46] (.seq (aa [aJ 47 0 1 10,ay 48 1 47,aU 49 .neq 48 1] (a1 49 (.seq (aa [aJ 50 0 1 10,ay 51 1 50,J 52 3,bC 53 .neq 51 52] (a1 53 (aa [eO 8 2,bp 9 false] .ret) .skip)) (.seq (.pubB 12 (.region [ay 54 1 12,J 8 54,bp 9 true])) .ret)) .skip)) (.seq (aa [J 55 1,cH 56 55,cb 57 0] (fm 58 57 56 (.seq (.block 1 (aa [cE 59 2 55 57,aZ 60 2 59,cS (.alloc 14 none (.agg [.int .i64 0,.int .i64 0])),bu 2 14 60] (aa [aJ 61 0 1 14,ay 62 1 61,aJ 63 1 1 10,ay 64 1 63,bC 65 .eql 62 64] (a1 65 (.seq (aa [aJ 66 1 1 14,ay 67 1 66,J 68 3,bC 69 .neq 67 68] (a1 69 (aa [eO 8 2,bp 9 false] .ret) .skip)) (.seq (.pubB 12 (.region [ay 70 1 12,J 8 70,bp 9 true])) .ret)) .skip)))) (.region [aU 71 .add 57 1,J 57 71])))) (aa [ay 72 1 12,aJ 73 1 1 10,ay 74 1 73,J 75 3,bT 76 (.build [.int .i64 0,.int .i64 0] [(0,1,(.t 74)),(1,1,(.t 75))]),ea 77 2 59 [.t 76],cS (.appm 78 none 2 59 (.t 72) (.t 77)),bu 1 12 78] (aa [ay 79 1 12,bT 80 (.mkif 25 (.t 79)),bT 81 (.mkf 148 [.t 12]),ch 82 147 80 81] (.seq (.pubB 12 (.region [ay 83 1 12,J 8 83,bp 9 true])) .ret))))))))))
def GF:C:=(aa [c0 6 2,cS (.box 7 (some 811) (.t 3)),eO 8 2,bp 9 false] (.seq (aa [J 17 0,cD 18 53 17,ct 19 18,J 20 19,av 20 false (aZ 21 4 6),av 20 false (cD 22 89 21),av 20 false (ct 23 22),c8 24 20 23,J 25 24,b6 25 false 26 1,av 25 false (cD 27 55 26),av 25 false (ct 28 27),c8 29 25 28,J 30 29,av 30 false (ay 31 1 7),av 30 false (cD 32 109 31),av 30 false (ct 33 32),c8 34 30 33] (a1 34 (aa [eO 8 2,bp 9 false] .ret) .skip)) (aa [J 36 0,aZ 37 4 6,ch 38 29 36 37,J 35 38,cg 39 0 35,cg 40 1 35,cP 10 dk,bu 4 10 39,J 11 40] (.seq (aa [J 41 11,ct 42 41,J 43 42,av 43 false (aZ 44 4 10),av 43 false (ay 45 1 7),av 43 false (ch 46 66 44 45),c8 47 43 46] (a1 47 (aa [eO 8 2,bp 9 false] .ret) .skip)) (aa [cS (.mkmap 48 (some 812)),cS (.alloc 12 (some 813) (.junk)),bu 1 12 48] (.seq (aa [J 49 1,cH 50 49,cb 51 0] (fm 52 51 50 (.seq (.block 1 (aa [cE 53 2 49 51,aZ 54 2 53,cS (.alloc 14 none (.agg [.int .i64 0,.str []])),bu 2 14 54] (.region [ay 55 1 12,aZ 56 2 14,cS (.mput (.a [false,true]) (.t 55) (.t 56) (.c (.bool true)))]))) (.region [aU 57 .add 51 1,J 51 57])))) (aa [aZ 58 4 10,bT 59 (.mkf 149 [.t 12,.t 7]),ch 60 107 58 59] (aa [cS (.bslm 61 (some 814) 2 56 []),cS (.alloc 15 (some 815) (.slice 2 .nil [])),bu 1 15 61] (.seq (aa [ay 62 1 12,cS (.range 63 none (.t 62))] (.block 2 (.loop (aa [⟨none,.next 64 (.t 63)⟩,cg 65 0 64] (.seq (a1 65 .skip (.exit 2)) (.block 3 (aa [bT 66 (.ment (.t 63)),cg 67 0 66,cS (.alloc 16 none (.agg [.int .i64 0,.str []])),bu 2 16 67] (.region [ay 68 1 15,aZ 69 2 16,ea 70 2 56 [.t 69],cS (.appm 71 none 2 56 (.t 68) (.t 70)),bu 1 15 71])))))))) (aa [ay 72 1 15,bT 73 (.mkif 26 (.t 72)),bT 74 (.mkf 150 [.t 15]),ch 75 147 73 74] (.seq (.pubB 15 (.region [ay 76 1 15,J 8 76,bp 9 true])) .ret)))))))))))
def GJ:C:=(aa [c0 2 0,c0 3 1,bp 4 false] (aa [aJ 5 0 1 2,ay 6 1 5,aJ 7 0 1 3,ay 8 1 7,bC 9 .lss 6 8,J 10 9,av 10 false (aJ 11 0 1 2),av 10 false (ay 12 1 11),av 10 false (aJ 13 0 1 3),av 10 false (ay 14 1 13),av 10 false (bC 15 .eql 12 14),b6 10 false 16 15,av 16 true (aJ 17 1 1 2),av 16 true (ay 18 1 17),av 16 true (aJ 19 1 1 3),av 16 true (ay 20 1 19),av 16 true (bC 21 .lss 18 20),av 10 false (dB 22 16 21),c8 23 10 22,J 4 23] .ret))
def RY:C:=(aa [bp 5 false] (.seq (.drawn true 17 [ay 6 1 2,J 7 0,cE 8 2 6 7,aJ 9 0 1 8,ay 10 1 9,ay 11 1 2,J 12 1,cE 13 2 11 12,aJ 14 0 1 13,ay 15 1 14,bC 16 .lss 10 15,J 5 16]) .ret))
def RW:C:=(.region [ay 4 1 1,J 5 0,ay 6 1 2,bT 7 (.build [.int .i64 0,.str []] [(0,1,(.t 5)),(1,1,(.t 6))]),cS (.mput (.a [false,true]) (.t 4) (.t 7) (.c (.bool true)))])
def RX:C:=(aa [bp 5 false] (.seq (.drawn true 15 [ay 6 1 2,J 7 0,cE 8 2 6 7,aZ 9 2 8,ay 10 1 2,J 11 1,cE 12 2 10 11,aZ 13 2 12,ch 14 110 9 13,J 5 14]) .ret))
def u5:List (Nat×dG):=[
 (3,⟨1,8,.int .i64,.int .i64 0⟩),
 (9,⟨1,16,.str,.str []⟩),
 (25,⟨1,24,.slice 59,.slice 2 .nil []⟩),
 (26,⟨1,24,.slice 56,.slice 2 .nil []⟩),
 (34,⟨1,24,.slice 36,.slice 4 .nil []⟩),
 (36,⟨4,56,.struct [(0,3),(1,3),(2,9),(3,34)],.agg [.int .i64 0,.int .i64 0,.str [],.slice 4 .nil []]⟩),
 (56,⟨2,24,.struct [(0,3),(1,9)],.agg [.int .i64 0,.str []]⟩),
 (59,⟨2,16,.struct [(0,3),(1,3)],.agg [.int .i64 0,.int .i64 0]⟩),
 (142,⟨1,8,.map 56 4,.junk⟩)]
theorem kP:fX aA u5=true:=by kernel_rfl
theorem alT:b7 u5 R4 [.tmp 2] 1 Tryz.f54=true:=by kernel_rfl
theorem alU:b7 u5 R5 [.tmp 2] 1 Tryz.f55=true:=by kernel_rfl
theorem ON:b7 u5 GM [.tmp 4] 2 Tryz.f66=true:=by kernel_rfl
theorem tn:b7 u5 rE [.tmp 8,.tmp 9] 4 Tryz.f98=true:=by kernel_rfl
theorem OG:b7 u5 GF [.tmp 8,.tmp 9] 4 Tryz.f100=true:=by kernel_rfl
theorem OK:b7 u5 GJ [.tmp 4] 2 Tryz.f110=true:=by kernel_rfl
theorem alP:b7 u5 RY [.tmp 5] 3 Tryz.f148=true:=by kernel_rfl
theorem alN:b7 u5 RW [] 3 Tryz.f149=true:=by kernel_rfl
theorem alO:b7 u5 RX [.tmp 5] 3 Tryz.f150=true:=by kernel_rfl
def na(x:bV):Prop:=(0<=x.v/\x.v<=100000)/\(x.k=2\/x.k=3)
def ou(x y:bV):Prop:=x.v<y.v
theorem IB{l:List bV}:ho l↔∀i,i<l.length->iV na ou l i:=by rw[Rn (p:=na) (r:=ou) (fun a b c I U=>by unfold ou at*;omega)];exact⟨fun h=>⟨h.at',h.asc⟩,fun h=>⟨h.1,h.2⟩⟩
def k1(x:bn):Prop:=(0<=x.v/\x.v<=100000)/\iB x.s=true
def lq(x y:bn):Prop:=fs x y<0
theorem IP{l:List bn}:ju l↔∀i,i<l.length->iV k1 lq l i:=by rw[Rn (p:=k1) (r:=lq) (fun a b c I U=>by unfold lq at*;exact lQ.ltr I (Int.le_of_lt U))];exact⟨fun h=>⟨h.at',h.asc⟩,fun h=>⟨h.1,h.2⟩⟩
open Classical in
theorem abm(l:List bV):bR aA 54 [.slice 2 .no (l.map bV.e)] (.bool (decide (ho l))):=by
 generalize bI:decide (ho l)=R;refine br kP Tryz.func54 alT fun aR=>?_;unfold R4;have ik:l.length<=68719476736:=by simp[gO,gj,gE,lim]at aR;omega
 simp;refine ep [0,5,6] (fun i (_:Unit)=>[(7,.int .i64 i)]) l.length (fun i _=> ∀j,j<i->iV na ou l j) () b0 (fun k ae=>Ω) (fun _ ag _=>?_) (fun i _ hi ag _=>?_)
 ·have:R=true:=by rw[<-bI,eA,IB];exact ag
  rw[this];exact cu
 ·obtain⟨b,ad⟩:∃b,l[i]? =some b:=⟨_,cm hi⟩;obtain⟨c,aq⟩:∃c,l[i-1]? =some c:=⟨_,cm Ω⟩;have cK:∀h,(l[i]'h)=b:=fun h=>by rw[cm hi]at ad;exact eV ad
  have cW:¬iV na ou l i->R=false:=fun h=>by rw[<-bI,gJ];exact fun b4=>h (IB.1 b4 i hi)
  have da:iV na ou l i->∀j,j<i+1->iV na ou l j:=fun h j j9=>by
   by_cases e:j=i
   ·rw[e];exact h
   ·exact ag j Ω
  simp[hi,cK,aq];((with_reducible repeat' first|refine ak ?_|simp[cK,aq,hi]|((first|apply bN|apply bP|apply bO)<;>intro h<;>try simp at h))<;>(try exact cf));all_goals first
   |(have au:¬iV na ou l i:=by(intro b4;have I:=b4 b ad;have U:=I.2 c;have ao:=I.1;unfold na ou at*;first|omega|(have a7:=U Ω aq;omega)|(simp_all;done)|(simp_all;omega))
     rw[cW au]
     simp[bz,aY,a6,aX]
     done)
   |(refine bS.rng () hi (da fun b3 gn=>?_) ?_
     ·rw[ad]at gn;cases gn
      refine⟨?_,fun cr bB hJ=>?_⟩
      ·unfold na;first|(simp_all;done)|(simp_all;omega)
      ·rw[aq]at hJ;cases hJ;unfold ou;simp_all
     ·exact b0)
theorem CM(a b:bn):bR aA 110 [a.e,b.e] (.bool (im fs a b)):=by
 rw[<-Yo];have bI:uS a b=(decide (a.v<b.v)||(a.v==b.v&&h2 a.s b.s)):=rfl;rcases Int.lt_trichotomy a.v b.v with h|h|h
 ·have:uS a b=true:=by rw[bI];simp[h]
  rw[this];refine br kP Tryz.func110 OK fun aR=>?_;unfold GJ;exact cu
 ·have I:¬a.v<b.v:=Ω
  have U:(a.v==b.v)=true:=by simp[h]
  have:uS a b=h2 a.s b.s:=by rw[bI];simp[h]
  rw[this];refine br kP Tryz.func110 OK fun aR=>?_;unfold GJ;exact cu
 ·have I:¬a.v<b.v:=Ω
  have U:¬a.v=b.v:=Ω
  have ao:(a.v==b.v)=false:=by simp[U]
  have:uS a b=false:=by rw[bI];simp[I,U]
  rw[this];refine br kP Tryz.func110 OK fun aR=>?_;unfold GJ;exact cu
open Classical in
theorem abq(l:List bn):bR aA 55 [.slice 2 .no (l.map bn.e)] (.bool (decide (ju l))):=by
 generalize bI:decide (ju l)=R;refine br kP Tryz.func55 alU fun aR=>?_;unfold R5;have ik:l.length<=68719476736:=by simp[gO,gj,gE,lim]at aR;omega
 simp;refine ep [0,5,6] (fun i (_:Unit)=>[(7,.int .i64 i)]) l.length (fun i _=> ∀j,j<i->iV k1 lq l j) () b0 (fun k ae=>Ω) (fun _ ag _=>?_) (fun i _ hi ag _=>?_)
 ·have:R=true:=by rw[<-bI,eA,IP];exact ag
  rw[this];exact cu
 ·obtain⟨b,ad⟩:∃b,l[i]? =some b:=⟨_,cm hi⟩;obtain⟨c,aq⟩:∃c,l[i-1]? =some c:=⟨_,cm Ω⟩;have cK:∀h,(l[i]'h)=b:=fun h=>by rw[cm hi]at ad;exact eV ad
  have cW:¬iV k1 lq l i->R=false:=fun h=>by rw[<-bI,gJ];exact fun b4=>h (IP.1 b4 i hi)
  have da:iV k1 lq l i->∀j,j<i+1->iV k1 lq l j:=fun h j j9=>by
   by_cases e:j=i
   ·rw[e];exact h
   ·exact ag j Ω
  have eg:∀p:Prop,(p->eI)->(iV k1 lq l i->p)->R=false:=fun p I U=>cW fun h=>I (U h);have qp:iV k1 lq l i->k1 b:=fun h=>(h b ad).1;have bD:iV k1 lq l i->0<i->im fs c b=true:=fun h bB=>by simpa[im,lq]using(h b ad).2 c bB aq
  have eh:k1 b->(0<i->im fs c b=true)->iV k1 lq l i:=fun I U b3 gn=>by rw[ad]at gn;cases gn;exact⟨I,fun cr bB hJ=>by rw[aq]at hJ;cases hJ;simpa[im,lq]using U bB⟩
  unfold k1 at qp eh;by_cases g1:b.v<0
  ·rw[eg _ (fun h=>Ω) (fun h=>(qp h).1.1)];exact cu
  by_cases g2:100000<b.v
  ·rw[eg _ (fun h=>Ω) (fun h=>(qp h).1.2)];exact cu
  cases g3:iB b.s
  ·rw[eg _ (fun h=>by rw[h]at g3;cases g3) (fun h=>(qp h).2)];simp[hi,cK,aq];(with_reducible repeat' first|refine ak ?_|refine aF (u7 _) ?_|refine aG (u7 _) ?_|simp[cK,aq,hi,g1,g2,g3]);simp[bz,aY,a6,aX]
  by_cases g4:0<i
  ·cases g5:im fs c b
   ·rw[eg _ (fun h=>by rw[h]at g5;cases g5) (fun h=>bD h g4)];simp[hi,cK,aq];(with_reducible repeat' first|refine ak ?_|refine aF (u7 _) ?_|refine aG (u7 _) ?_|refine aF (CM _ _) ?_|refine aG (CM _ _) ?_|simp[cK,aq,hi,g1,g2,g3,g4,g5]);simp[bz,aY,a6,aX]
   ·simp[hi,cK,aq];(with_reducible repeat' first|refine ak ?_|refine aF (u7 _) ?_|refine aG (u7 _) ?_|refine aF (CM _ _) ?_|refine aG (CM _ _) ?_|simp[cK,aq,hi,g1,g2,g3,g4,g5]);exact bS.rng () hi (da (eh ⟨⟨Ω,Ω⟩,g3⟩ fun _=>g5)) b0
  ·obtain rfl:i=0:=Ω
   simp[hi,cK,aq];(with_reducible repeat' first|refine ak ?_|refine aF (u7 _) ?_|refine aG (u7 _) ?_|simp[cK,aq,hi,g1,g2,g3,g4]);exact bS.rng () hi (da (eh ⟨⟨Ω,Ω⟩,g3⟩ fun h=>Ω)) b0
theorem aqG(s:List UInt8):∀t:T,bR aA 66 [t.e,.str s] (.bool (t.has s)):=by
 intro t;induction t with
 |pair a b dQ dR=>
  refine br kP Tryz.func66 ON fun aR=>?_;unfold GM;simp;cases bk:a.has s<;>cases ad:b.has s<;>rw[bk]at dQ<;>rw[ad]at dR;all_goals(with_reducible repeat' first|refine ak ?_|refine aF dQ ?_|refine aG dQ ?_|refine aF dR ?_|refine aG dR ?_|simp)
  all_goals simp[bz,aY,a6,aX]
  all_goals simp[T.has,bk,ad]
 |sym n=>
  refine br kP Tryz.func66 ON fun aR=>?_;unfold GM;simp;(with_reducible repeat' first|refine ak ?_|simp);all_goals simp[bz,aY,a6,aX]
  all_goals simp[T.has]
 |_=>
  refine br kP Tryz.func66 ON fun aR=>?_;unfold GM;simp;(with_reducible repeat' first|refine ak ?_|simp);all_goals simp[bz,aY,a6,aX]
  all_goals simp[T.has]
end
end Go.Proofs.YtohaalphocaebaaGreatDoor
