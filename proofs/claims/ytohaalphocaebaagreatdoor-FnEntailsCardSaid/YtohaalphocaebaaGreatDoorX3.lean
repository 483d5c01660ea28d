/- made by mk2.py: the code of the functions, and the checks against the program's own form. -/
import Derived.Shelf.Sort.Plain
import Derived.Ground.NamesProg
import Derived.Test.YtohaalphocaebaaGreatDoorProg
import Derived.Sort.OwnSortedInts
import Derived.Lib.OwnBridge
import Derived.Test.YtohaalphocaebaaGreatDoorX2
set_option linter.all false
set_option maxHeartbeats 4000000
set_option maxRecDepth 4000
open Bool renaming and_eq_true->cr,eq_iff_iff->qz,false_eq_true->hg,not_eq_true'->oG,or_eq_true->lP
open Go.Op renaming bytesLess->hP
open Go.Proofs.Tryz renaming prog->aw
open Go.Value renaming cells->pX
open List renaming all_eq_true->fV,cons_append->bP,drop_eq_getElem_cons->lu,getElem?_eq_getElem->cg,getElem?_eq_none->rf,getElem?_eq_some_iff->fD,getElem_of_mem->oI,length_append->pc,length_drop->tG,map_cons->gZ,mem_append->hQ,mem_cons->fm,mem_cons_of_mem->pd,mem_filter->ia,mem_map->hR,mem_of_getElem?->eF,mem_singleton->iS,nil_append->bU,pairwise_cons->np,pairwise_iff_getElem->pY,take_of_length_le->hl
open List.Nodup renaming length_le_of_subset->FW
open List.Pairwise renaming filter->QH,imp_of_mem->aq6,nil->avx,sublist->avy
open List.Perm renaming eq_of_pairwise->QI,swap->avz
open List.cons renaming injEq->yk
open Nat renaming le_refl->dZ,le_trans->ha,strongRecOn->qA
open Ne renaming symm->lR
open Option renaming bind_eq_some_iff->ji,bind_some->jy,getD_none->lv,getD_some->iB,map_eq_some_iff->gv,map_some->oK
open Option.some renaming inj->eZ,injEq->dE
open Prod.mk renaming injEq->j7
open _root_ renaming DecidableEq->nl,False->ey,beq_iff_eq->dM,congrArg->eW,decide_eq_false->h0,decide_eq_false_iff_not->gD,decide_eq_true->hb,decide_eq_true_eq->eN
namespace Go.Pv
section
open Go
theorem aca{E:Int->Int->Prop}{x:Int}{r:Int->Nat}{M:Nat}(h:∀z u,z≠x->E z u->r u<r z)(fu:∀u,E x u->r u<M)(au:∀u,E x u->¬nU E u x):∃eQ:Int->Nat,∀z u,E z u->eQ u<eQ z:=by
 classical
 refine⟨fun z=>if nU E z x then r z+M else r z,fun z u he=>?_⟩;show(if nU E u x then r u+M else r u)<(if nU E z x then r z+M else r z);by_cases bd:z=x
 ·subst bd;have J:=au u he;have U:=fu u he;rw[if_neg J,if_pos (nU.refl z)];omega
 ·have J:=h z u bd he;by_cases hu:nU E u x
  ·rw[if_pos hu,if_pos (nU.step he hu)];omega
  ·rw[if_neg hu];split<;>omega
def n3(ph:Int->Option T)(ρ:Int->Int):Nat->Int->T
 |0,v=>.var (ρ v)
 |n+1,v=>match ph (ρ v)with
  |none=>.var (ρ v)
  |some t=>t.ap (n3 ph ρ n)
section
variable {ph:Int->Option T} {ρ:Int->Int} {r:Int->Nat}
theorem aee(e8:∀v,ρ (ρ v)=ρ v):∀(n:Nat) (v:Int),n3 ph ρ n v=n3 ph ρ n (ρ v)
 |0,v=>by simp[n3,e8]
 |n+1,v=>by simp[n3,e8]
theorem Ue(e8:∀v,ρ (ρ v)=ρ v)(aM:∀z u,jz ph ρ z u->r u<r z):∀(n:Nat) (v:Int),r (ρ v)<n->n3 ph ρ n v=n3 ph ρ (n+1) v
 |0,_,h=>Ω
 |n+1,v,h=>by
  show(match ph (ρ v)with|none=>T.var (ρ v)|some t=>t.ap (n3 ph ρ n))=(match ph (ρ v)with|none=>T.var (ρ v)|some t=>t.ap (n3 ph ρ (n+1)));cases e:ph (ρ v)with
  |none=>rfl
  |some t=>refine nY fun w hw=>Ue e8 aM n w ?_;have:=aM (ρ v) (ρ w) ⟨e8 v,t,w,e,hw,rfl⟩;omega
theorem Ud(e8:∀v,ρ (ρ v)=ρ v)(aM:∀z u,jz ph ρ z u->r u<r z){n:Nat}{v:Int}(h:r (ρ v)<n):∀k,n3 ph ρ (n+k) v=n3 ph ρ n v
 |0=>rfl
 |k+1=>by rw[<-Ud e8 aM h k];exact(Ue e8 aM (n+k) v Ω).symm
def ho(ph:Int->Option T)(ρ:Int->Int)(r:Int->Nat)(v:Int):T:=n3 ph ρ (r (ρ v)+1) v
theorem AY(e8:∀v,ρ (ρ v)=ρ v)(v:Int):ho ph ρ r v=ho ph ρ r (ρ v):=by unfold ho;rw[aee e8,e8]
theorem Dv{v:Int}(h:ph (ρ v)=none):ho ph ρ r v= .var (ρ v):=by simp[ho,n3,h]
theorem AZ(e8:∀v,ρ (ρ v)=ρ v)(aM:∀z u,jz ph ρ z u->r u<r z){v:Int}{t:T}(h:ph (ρ v)=some t):ho ph ρ r v=t.ap (ho ph ρ r):=by show n3 ph ρ (r (ρ v)+1) v=_;simp only[n3,h];refine nY fun w hw=>?_;have J:=aM (ρ v) (ρ w) ⟨e8 v,t,w,h,hw,rfl⟩;have:=Ud e8 aM (n:=r (ρ w)+1) (v:=w) Ω (r (ρ v)-(r (ρ w)+1));rw[show r (ρ w)+1+(r (ρ v)-(r (ρ w)+1))=r (ρ v)from by omega]at this;exact this
theorem ahl(e8:∀v,ρ (ρ v)=ρ v)(aM:∀z u,jz ph ρ z u->r u<r z):kN ph ρ (ho ph ρ r):=⟨AY e8,fun x t ab h=>AZ e8 aM (by rw[ab];exact h)⟩
theorem JG{V:List Int}(hc:pk V ph){θ:Int->T}(h:kN ph ρ θ){z u:Int}(he:jz ph ρ z u):(θ u).size<(θ z).size:=by obtain⟨J,t,w,U,h3,rfl⟩:=he;rw[h.2 z t J U,<-h.1 w];exact(zw θ h3).2 (hc z t U).1
theorem JH{V:List Int}(hc:pk V ph){θ:Int->T}(h:kN ph ρ θ){z u:Int}(he:nU (jz ph ρ) z u):(θ u).size<=(θ z).size:=by
 induction he with
 |refl=>exact dZ _
 |step J _ bN=>have:=JG hc h J;omega
end
theorem acP(r:Int->Nat)(t:T):∃M,∀w,t.occ w=true->r w<M:=by
 induction t with
 |var n=>exact⟨r n+1,fun w hw=>by simp[T.occ]at hw;subst hw;omega⟩
 |pair a b dz dA=>
  obtain⟨abW,J⟩:=dz;obtain⟨abX,U⟩:=dA;refine⟨abW+abX,fun w hw=>?_⟩;simp only[T.occ,lP]at hw;rcases hw with hw|hw
  ·have:=J w hw;omega
  ·have:=U w hw;omega
 |_=>exact⟨0,fun w hw=>by simp[T.occ]at hw⟩
theorem Fm{ph:Int->Option T}{ρ:Int->Int}(e8:∀v,ρ (ρ v)=ρ v){x:Int}{r:Int->Nat}(h:∀z u,z≠x->jz ph ρ z u->r u<r z)(au:∀u,jz ph ρ x u->¬nU (jz ph ρ) u x):∃θ,kN ph ρ θ:=by
 have fu:∃M,∀u,jz ph ρ x u->r u<M:=by
  cases e:ph x with
  |none=>exact⟨0,fun u ⟨_,t,w,J,_⟩=>by rw[e]at J;cases J⟩
  |some t=>obtain⟨M,fu⟩:=acP (fun w=>r (ρ w)) t;refine⟨M,fun u ⟨_,du,w,J,U,h3⟩=>?_⟩;rw[e]at J;cases J;subst h3;exact fu w U
 obtain⟨M,fu⟩:=fu;obtain⟨eQ,dk⟩:=aca h fu au;exact⟨_,ahl e8 dk⟩
structure mH (c:bu) (ρ:Int->Int):Prop where
 ru:ka c.up ρ
 sh:pk (cv c.up) c.ph
 sat:∃θ,kN c.ph ρ θ
theorem mH.sm{c cq:bu}{ρ:Int->Int}(h:mH c ρ)(k:jl ρ c cq):mH cq ρ:=⟨k.ru,by rw[k.keys,k.ph];exact h.sh,by rw[k.ph];exact h.sat⟩
def iU(c:bu)(ρ:Int->Int):Nat:=((cv c.up).filter fun v=>decide (ρ v=v)).length+((cv c.up).filter fun v=>decide (ρ v=v)&& !(c.ph v).isSome).length
theorem yo{c cq:bu}{ρ:Int->Int}(k:jl ρ c cq):iU cq ρ=iU c ρ:=by unfold iU;rw[k.keys,k.ph]
structure jA (c:bu) (ρ:Int->Int) (p:(Int->T)->Prop) (o:Bool×bu):Prop where
 keys:cv o.2.up=cv c.up
 rest:o.2.color=c.color/\o.2.size=c.size/\o.2.full=c.full
 yes:o.1=true->∃ρ',mH o.2 ρ'/\(∀θ,kN o.2.ph ρ' θ↔kN c.ph ρ θ/\p θ)/\((ρ'=ρ/\o.2.ph=c.ph)\/iU o.2 ρ'<iU c ρ)
 no:o.1=false->∀θ,kN c.ph ρ θ->¬p θ
theorem jl.rest{ρ:Int->Int}{c cq:bu}(h:jl ρ c cq):cq.color=c.color/\cq.size=c.size/\cq.full=c.full:=by rw[h.eq];exact⟨rfl,rfl,rfl⟩
theorem jA.sm{c cq:bu}{ρ:Int->Int}{p:(Int->T)->Prop}{o:Bool×bu}(k:jl ρ c cq)(h:jA cq ρ p o):jA c ρ p o:=⟨h.keys.trans k.keys,by rw[h.rest.1,h.rest.2.1,h.rest.2.2];exact k.rest,fun e=>by rw[<-yo k,<-k.ph];exact h.yes e,by rw[<-k.ph];exact h.no⟩
theorem jA.congr{c:bu}{ρ:Int->Int}{p q:(Int->T)->Prop}{o:Bool×bu}(j0:∀θ,kN c.ph ρ θ->(p θ↔q θ))(h:jA c ρ p o):jA c ρ q o:=⟨h.keys,h.rest,fun e=>by obtain⟨ρ',J,U,h3⟩:=h.yes e;exact⟨ρ',J,fun θ=>(U θ).trans (and_congr_right fun af=>j0 θ af),h3⟩,fun e θ af bE=>h.no e θ af ((j0 θ af).2 bE)⟩
theorem xQ(c:bu)(x:Int)(t:T)(z:Int):(c.know x t).ph z=if z=x then some t else c.ph z:=by
 simp only[bu.ph,bu.know,bu.shd,bu.shp,nS];by_cases h:z=x
 ·simp[h]
 ·simp only[if_neg h];exact ite_congr rfl (fun _=>rfl) fun _=>rfl
theorem Xd{c:bu}{ρ:Int->Int}(hi:mH c ρ){x:Int}(ab:ρ x=x)(ae:x∈cv c.up)(jZ:c.ph x=none){t:T}(aI:t.kind≠1)(az:∀w,t.occ w=true->w∈cv c.up):
  ∃N o,(∀n,N<=n->vZ n x t c=some o)/\jA c ρ (fun θ=>θ x=t.ap θ) o:=by
 have hc:pk (cv (c.know x t).up) (c.know x t).ph:=by
  intro z u bd;rw[xQ]at bd;split at bd
  ·rename_i e;cases bd;subst e;exact⟨aI,az,ae⟩
  ·exact hi.sh z u bd
 have iy:∀θ,kN (c.know x t).ph ρ θ↔kN c.ph ρ θ/\θ x=t.ap θ:=by
  intro θ;constructor
  ·rintro⟨J,U⟩;refine⟨⟨J,fun z u bd hu=>U z u bd ?_⟩,U x t ab (by rw[xQ];simp)⟩;rw[xQ];split
   ·rename_i e;subst e;rw[jZ]at hu;cases hu
   ·exact hu
  ·rintro⟨⟨J,U⟩,h3⟩;refine⟨J,fun z u bd hu=>?_⟩;rw[xQ]at hu;split at hu
   ·rename_i e;subst e;cases hu;exact h3
   ·exact U z u bd hu
 obtain⟨N,a,J,U,h3⟩:=Ja (x:=x) (c:=c.know x t) (t:=t) hi.ru hc az;refine⟨N,(!a.found,a.c),fun n au=>by simp[vZ,J n au],U.keys,U.rest,fun aN=>?_,fun aN θ af he=>?_⟩
 ·simp only[oG]at aN;have aiL:∀u,jz (c.know x t).ph ρ x u->¬nU (jz (c.know x t).ph ρ) u x:=by rintro u ⟨_,du,w,a1,bm,rfl⟩ aM;rw[xQ,if_pos rfl]at a1;cases a1;have:=h3.2 ⟨w,bm,aM⟩;rw[aN]at this;cases this
  obtain⟨lO,vO⟩:=hi.sat
  have aiZ:=Fm (ph:=(c.know x t).ph) (ρ:=ρ) hi.ru.idem (x:=x) (r:=fun z=>(lO z).size) (fun z u bd he=>by refine JG hi.sh vO ?_;obtain⟨aq,du,w,aF,bB⟩:=he;rw[xQ,if_neg bd]at aF;exact⟨aq,du,w,aF,bB⟩) aiL
  refine⟨ρ,⟨U.ru,?_,?_⟩,fun θ=>?_,.inr ?_⟩
  ·simp only[U.keys,U.ph];exact hc
  ·simp only[U.ph];exact aiZ
  ·simp only[U.ph];exact iy θ
  ·simp only[yo U];unfold iU;have aq:cv (c.know x t).up=cv c.up:=rfl;rw[aq];have:=GZ (V:=cv c.up) (v:=x) (p:=fun v=>decide (ρ v=v)&& !(c.ph v).isSome) (q:=fun v=>decide (ρ v=v)&& !((c.know x t).ph v).isSome) (fun z _ bd=>by
    rw[xQ]at bd;split at bd
    ·simp at bd
    ·exact bd) ae (by simp[ab,jZ]) (by simp[xQ])
   omega
 ·simp only[Bool.not_eq_false']at aN;obtain⟨w,a1,bm⟩:=h3.1 aN;have fX:=(iy θ).2 ⟨af,he⟩;have:=JH hc fX bm;have h4:=(zw θ a1).2 aI;rw[<-he]at h4;rw[<-af.1 w]at this;omega
def jI(ρ:Int->Int)(x y:Int)(v:Int):Int:=if ρ v=y then x else ρ v
section
variable {c:bu} {ρ:Int->Int} {x y:Int}
theorem qZ(ab:ρ x=x)(aC:ρ y=y)(gV:x≠y){z:Int}:jI ρ x y z=z↔ρ z=z/\z≠y:=by
 unfold jI;split
 ·rename_i e;constructor
  ·intro h;subst h;rw[ab]at e;exact absurd e gV
  ·rintro⟨J,U⟩;rw[J]at e;exact absurd e U
 ·rename_i e;constructor
  ·intro h;exact⟨h,fun aF=>e (by rw[aF,aC])⟩
  ·exact fun h=>h.1
theorem ka.join(h:ka c.up ρ)(ab:ρ x=x)(aC:ρ y=y)(gV:x<y)(Es:x∈cv c.up)(v7:y∈cv c.up):ka (c.join x y).up (jI ρ x y):=by
 have ae:cv (c.join x y).up=cv c.up:=Ep v7;refine⟨fun v u az=>?_,fun v az=>?_⟩
 ·rw[ae];have mV:tg v (e5 y x c.up)=some u:=az;rw[nS]at mV;by_cases e:v=y
  ·subst e;rw[if_pos rfl]at mV;cases mV;have bz:=(h.mem Es).2;rw[ab]at bz;refine⟨⟨bz,Ω,Es⟩,?_,⟨fun e=>?_,fun e=>Ω⟩⟩
   ·unfold jI;rw[ab,aC,if_pos rfl,if_neg Ω]
   ·have:=((qZ ab aC Ω).1 e).2;exact absurd rfl this
  ·rw[if_neg e]at mV;obtain⟨bA,a2,a3⟩:=h.up v u mV;refine⟨bA,by unfold jI;rw[a2],?_⟩;rw[qZ ab aC Ω,a3];exact⟨fun h=>h.1,fun h=>⟨h,e⟩⟩
 ·rw[ae]at az;have:=h.no v az;unfold jI;rw[this,if_neg fun e=>az (by rw[e];exact v7)]
theorem ao4{ph:Int->Option T}(ab:ρ x=x)(aC:ρ y=y)(gV:x≠y)(θ:Int->T):(kN ph (jI ρ x y) θ/\∀t,ph y=some t->θ x=t.ap θ)↔(kN ph ρ θ/\θ x=θ y):=by
 constructor
 ·rintro⟨⟨J,U⟩,h3⟩;have M7:θ y=θ x:=by have:=J y;simpa[jI,aC]using this
  refine⟨⟨fun v=>?_,fun z t bd aI=>?_⟩,M7.symm⟩
  ·have:=J v;unfold jI at this;split at this
   ·rename_i e;rw[e,this,M7]
   ·exact this
  ·by_cases e:z=y
   ·subst e;rw[M7];exact h3 t aI
   ·exact U z t ((qZ ab aC gV).2 ⟨bd,e⟩) aI
 ·rintro⟨⟨J,U⟩,h3⟩;refine⟨⟨fun v=>?_,fun z t bd aI=>U z t ((qZ ab aC gV).1 bd).1 aI⟩,fun t aI=>by rw[h3];exact U y t aC aI⟩;unfold jI;split
  ·rename_i e;rw[J v,e,h3]
  ·exact J v
theorem aoi{V:List Int}{ph:Int->Option T}(hc:pk V ph)(ab:ρ x=x)(aC:ρ y=y)(gV:x≠y){θ:Int->T}(h:kN ph ρ θ){z u:Int}(bd:z≠x)(he:jz ph (jI ρ x y) z u):(if u=x then 0 else(θ u).size)<(if z=x then 0 else(θ z).size):=by
 obtain⟨J,t,w,U,h3,rfl⟩:=he;have aM:=(qZ ab aC gV).1 J;rw[if_neg bd];split
 ·exact T.size_pos _
 ·rename_i cA;have:jI ρ x y w=ρ w:=by
   unfold jI at cA⊢;split
   ·rename_i e;rw[if_pos e]at cA;exact absurd rfl cA
   ·rfl
  rw[this];exact JG hc h ⟨aM.1,t,w,U,h3,rfl⟩
theorem abT(ab:ρ x=x)(aC:ρ y=y)(gV:x≠y)(v7:y∈cv c.up):iU (c.join x y) (jI ρ x y)<iU c ρ:=by have ae:cv (c.join x y).up=cv c.up:=Ep v7;have bF:(c.join x y).ph=c.ph:=rfl;unfold iU;rw[ae,bF];have J:=GZ (V:=cv c.up) (v:=y) (p:=fun v=>decide (ρ v=v)) (q:=fun v=>decide (jI ρ x y v=v)) (fun z _ bd=>by simp only[eN]at bd⊢;exact((qZ ab aC gV).1 bd).1) v7 (by simp[aC]) (by simp only[gD];exact fun h=>((qZ ab aC gV).1 h).2 rfl);have U:=GY (V:=cv c.up) (p:=fun v=>decide (ρ v=v)&& !(c.ph v).isSome) (q:=fun v=>decide (jI ρ x y v=v)&& !(c.ph v).isSome) (fun z _ bd=>by simp only[cr,eN]at bd⊢;exact⟨((qZ ab aC gV).1 bd.1).1,bd.2⟩);omega
end
theorem B8{c:bu}{x:Int}(h:c.shd x=false):c.ph x=none:=by simp[bu.ph,h]
theorem B9{c:bu}{x:Int}(h:¬c.shd x=false):c.ph x=some (c.shp x):=by simp[bu.ph];simpa using h
theorem T5{c:bu}{ρ:Int->Int}(hi:mH c ρ){x y:Int}(ab:ρ x=x)(aC:ρ y=y)(gV:x<y)(Es:x∈cv c.up)(v7:y∈cv c.up)
  (rec:∀(bY:bu) (l7:Int->Int),mH bY l7->cv bY.up=cv c.up->iU bY l7<iU c ρ->∀a b:T,(∀w,a.occ w=true->w∈cv c.up)->(∀w,b.occ w=true->w∈cv c.up)->∃N o,(∀n,N<=n->gR n a b bY=some o)/\jA bY l7 (fun θ=>a.ap θ=b.ap θ) o):
  ∃N o,(∀n,N<=n->sq (gR n) n x y (c.join x y)=some o)/\jA c ρ (fun θ=>θ x=θ y) o:=by
 have cA:x≠y:=Ω
 have ae:cv (c.join x y).up=cv c.up:=Ep v7;have bF:(c.join x y).ph=c.ph:=rfl;have mT:=hi.ru.join ab aC gV Es v7;have c7:=abT (c:=c) ab aC cA v7;have hc:pk (cv (c.join x y).up) (c.join x y).ph:=by rw[ae,bF];exact hi.sh
 obtain⟨lO,vO⟩:=hi.sat
 have HG:∀z u,z≠x->jz c.ph (jI ρ x y) z u->(fun z=>if z=x then 0 else(lO z).size) u<(fun z=>if z=x then 0 else(lO z).size) z:=fun z u bd he=>aoi hi.sh ab aC cA vO bd he;have iy:=fun θ=>ao4 (ph:=c.ph) ab aC cA θ;have Wg:∀{cq:bu},jl (jI ρ x y) (c.join x y) cq->(∃θ,kN c.ph (jI ρ x y) θ)->c.ph y=none->jA c ρ (fun θ=>θ x=θ y) (true,cq):=by intro cq k af au;refine⟨k.keys.trans ae,k.rest,fun _=>⟨jI ρ x y,⟨k.ru,by simp only[k.keys,k.ph];exact hc,by simp only[k.ph];exact af⟩,fun θ=>?_,.inr (by simp only[yo k];exact c7)⟩,fun e=>by cases e⟩;simp only[k.ph,bF];rw[<-iy θ];exact⟨fun h=>⟨h,fun t aI=>by rw[au]at aI;cases aI⟩,fun h=>h.1⟩
 by_cases J:(c.join x y).shd y=false
 ·have V4:c.ph y=none:=B8 J;by_cases U:(c.join x y).shd x=false
  ·have gK:c.ph x=none:=B8 U;refine⟨0,(true,c.join x y),fun n _=>by simp only[sq,if_pos J,if_pos U],Wg (jl.refl mT) ?_ V4⟩;exact Fm mT.idem (x:=x) HG fun u ⟨_,t,w,q,_⟩=>by rw[gK]at q;cases q
  ·have oX:c.ph x=some ((c.join x y).shp x):=B9 U;obtain⟨N,a,aq,aF,bB⟩:=Ja (x:=x) (c:=c.join x y) (t:=(c.join x y).shp x) mT hc (by rw[ae];exact(hi.sh _ _ oX).2.1);refine⟨N,(!a.found,a.c),fun n au=>by simp only[sq,if_pos J,if_neg U,aq n au,oK],?_⟩;cases aN:a.found with
   |false=>refine Wg aF (Fm mT.idem (x:=x) HG fun u ⟨_,t,w,a1,bm,bW⟩ aM=>?_) V4;rw[oX]at a1;cases a1;subst bW;have:=bB.2 ⟨w,bm,aM⟩;rw[aN]at this;cases this
   |true=>refine⟨aF.keys.trans ae,aF.rest,(fun e=>by cases e),fun _ θ af he=>?_⟩;obtain⟨w,a1,bm⟩:=bB.1 aN;have fX:=((iy θ).2 ⟨af,he⟩).1;have h3:=JH hi.sh fX bm;have h4:=(zw θ a1).2 (hi.sh _ _ oX).1;rw[<-fX.2 x _ ((qZ ab aC cA).2 ⟨ab,cA⟩) oX]at h4;rw[<-fX.1 w]at h3;omega
 ·have oY:c.ph y=some ((c.join x y).shp y):=B9 J;by_cases U:(c.join x y).shd x=false
  ·have gK:c.ph x=none:=B8 U;have mR:mH (c.join x y) (jI ρ x y):=⟨mT,hc,Fm mT.idem (x:=x) HG fun u ⟨_,t,w,q,_⟩=>by rw[bF,gK]at q;cases q⟩;obtain⟨N,o,aq,aF⟩:=Xd mR (x:=x) ((qZ ab aC cA).2 ⟨ab,cA⟩) (by rw[ae];exact Es) gK (t:=(c.join x y).shp y) (hi.sh _ _ oY).1 (by rw[ae];exact(hi.sh _ _ oY).2.1);refine⟨N,o,fun n au=>by simp only[sq,if_neg J,if_pos U,aq n au],aF.keys.trans ae,aF.rest,fun aN=>?_,fun aN θ af he=>?_⟩
   ·obtain⟨ρ',g1,g2,g3⟩:=aF.yes aN;refine⟨ρ',g1,fun θ=>?_,.inr ?_⟩
    ·rw[g2 θ,<-iy θ];refine and_congr_right fun _=>⟨fun h t aI=>by rw[oY]at aI;cases aI;exact h,fun h=>h _ oY⟩
    ·rcases g3 with⟨rfl,g3⟩|g3
     ·have:iU o.2 (jI ρ x y)=iU (c.join x y) (jI ρ x y):=by unfold iU;rw[aF.keys,g3]
      omega
     ·omega
   ·obtain⟨s1,s2⟩:=(iy θ).2 ⟨af,he⟩;exact aF.no aN θ s1 (s2 _ oY)
  ·have oX:c.ph x=some ((c.join x y).shp x):=B9 U;obtain⟨h1,a,aq,aF,bB⟩:=Ja (x:=x) (c:=c.join x y) (t:=(c.join x y).shp y) mT hc (by rw[ae];exact(hi.sh _ _ oY).2.1);cases aN:a.found with
   |true=>refine⟨h1,(false,a.c),fun n au=>by simp only[sq,if_neg J,if_neg U,aq n au,jy,aN,if_true],aF.keys.trans ae,aF.rest,(fun e=>by cases e),fun _ θ af he=>?_⟩;obtain⟨w,a1,bm⟩:=bB.1 aN;obtain⟨fX,qh⟩:=(iy θ).2 ⟨af,he⟩;have h3:=JH hi.sh fX bm;have h4:=(zw θ a1).2 (hi.sh _ _ oY).1;rw[<-qh _ oY]at h4;rw[<-fX.1 w]at h3;omega
   |false=>
    have Wj:a.c.shp x=(c.join x y).shp x:=aF.shp x;obtain⟨jB,b,f1,f2,f3⟩:=Ja (x:=x) (c:=a.c) (t:=(c.join x y).shp x) aF.ru (by rw[aF.keys,aF.ph];exact hc) (by rw[aF.keys,ae];exact(hi.sh _ _ oX).2.1);have ea:=aF.trans f2;cases aW:b.found with
    |true=>refine⟨max h1 jB,(false,b.c),fun n au=>by simp only[sq,if_neg J,if_neg U,aq n Ω,jy,aN,Wj,f1 n Ω,aW,if_true,hg,if_false],ea.keys.trans ae,ea.rest,(fun e=>by cases e),fun _ θ af he=>?_⟩;obtain⟨w,a1,bm⟩:=f3.1 aW;obtain⟨fX,_⟩:=(iy θ).2 ⟨af,he⟩;rw[aF.ph]at bm;have h3:=JH hi.sh fX bm;have h4:=(zw θ a1).2 (hi.sh _ _ oX).1;rw[<-fX.2 x _ ((qZ ab aC cA).2 ⟨ab,cA⟩) oX]at h4;rw[<-fX.1 w]at h3;omega
    |false=>
     have Ba:mH b.c (jI ρ x y):=by refine⟨ea.ru,by rw[ea.keys,ea.ph];exact hc,?_⟩;rw[ea.ph];refine Fm mT.idem (x:=x) HG fun u ⟨_,t,w,a1,bm,bW⟩ aM=>?_;rw[bF,oX]at a1;cases a1;subst bW;have:=f3.2 ⟨w,bm,by rw[aF.ph];exact aM⟩;rw[aW]at this;cases this
     obtain⟨Am,o,g1,g2⟩:=rec b.c (jI ρ x y) Ba (ea.keys.trans ae) (by rw[yo ea];exact c7) ((c.join x y).shp x) ((c.join x y).shp y) (hi.sh _ _ oX).2.1 (hi.sh _ _ oY).2.1;refine⟨max (max h1 jB) Am,o,fun n au=>?_,g2.keys.trans (ea.keys.trans ae),?_,fun cE=>?_,fun cE θ af he=>?_⟩
     ·simp only[sq,if_neg J,if_neg U,aq n Ω,jy,aN,Wj,f1 n Ω,aW,hg,if_false,ea.shp];exact g1 n Ω
     ·rw[g2.rest.1,g2.rest.2.1,g2.rest.2.2];exact ea.rest
     ·obtain⟨ρ',a1,bm,bW⟩:=g2.yes cE;refine⟨ρ',a1,fun θ=>?_,.inr ?_⟩
      ·rw[bm θ,ea.ph,bF,<-iy θ];refine and_congr_right fun h=>?_;have:=h.2 x _ ((qZ ab aC cA).2 ⟨ab,cA⟩) oX;rw[<-this];exact⟨fun h t aI=>by rw[oY]at aI;cases aI;exact h,fun h=>h _ oY⟩
      ·have:iU b.c (jI ρ x y)<iU c ρ:=by rw[yo ea];exact c7
       rcases bW with⟨rfl,bW⟩|bW
       ·have:iU o.2 (jI ρ x y)=iU b.c (jI ρ x y):=by unfold iU;rw[g2.keys,bW]
        omega
       ·omega
     ·obtain⟨s1,s2⟩:=(iy θ).2 ⟨af,he⟩;refine g2.no cE θ (by rw[ea.ph];exact s1) ?_;have:=s1.2 x _ ((qZ ab aC cA).2 ⟨ab,cA⟩) oX;rw[<-this];exact s2 _ oY
def vo:T->T->Nat
 | .var _,_=>1
 |_,.var _=>2
 |_,_=>0
theorem adk(K:Nat):∀(m:Nat) (c:bu) (ρ:Int->Int) (a b:T) (lO:Int->T),mH c ρ->kN c.ph ρ lO->(∀w,a.occ w=true->w∈cv c.up)->(∀w,b.occ w=true->w∈cv c.up)->iU c ρ=K->((a.ap lO).size+(b.ap lO).size)*3+vo a b=m->
  ∃N o,(∀n,N<=n->gR n a b c=some o)/\jA c ρ (fun θ=>a.ap θ=b.ap θ) o:=by
 induction K using qA with
 |ind K ajo=>
 have Wu:∀(bY:bu) (l7:Int->Int),mH bY l7->iU bY l7<K->∀a b:T,(∀w,a.occ w=true->w∈cv bY.up)->(∀w,b.occ w=true->w∈cv bY.up)->∃N o,(∀n,N<=n->gR n a b bY=some o)/\jA bY l7 (fun θ=>a.ap θ=b.ap θ) o:=by
  intro bY l7 J U a b bg ad;obtain⟨θ,fY⟩:=J.sat
  exact ajo _ U _ bY l7 a b θ J fY bg ad rfl rfl
 intro m;induction m using qA with
 |ind m Bw=>
 intro c ρ a b lO hi vO bg ad c7 hm;have ait:∀{a b:T},(∀n,gR (n+1) a b c=some (decide (a=b),c))->(∀θ,a.ap θ=a)->(∀θ,b.ap θ=b)->∃N o,(∀n,N<=n->gR n a b c=some o)/\jA c ρ (fun θ=>a.ap θ=b.ap θ) o:=by
  intro a b J U h3;refine⟨1,(decide (a=b),c),fun n au=>?_,rfl,⟨rfl,rfl,rfl⟩,fun h=>?_,fun h θ _ he=>?_⟩
  ·obtain⟨n',rfl⟩:∃n',n=n'+1:=⟨n-1,Ω⟩;exact J n'
  ·simp only[eN]at h;subst h;exact⟨ρ,hi,fun θ=>⟨fun h=>⟨h,rfl⟩,fun h=>h.1⟩,.inl ⟨rfl,rfl⟩⟩
  ·simp only[gD]at h;rw[U,h3]at he;exact h he
 have Vy:∀{a b:T},(∀n,gR (n+1) a b c=some (decide (a=b),c))->(∀θ,a.ap θ≠b.ap θ)->a≠b->∃N o,(∀n,N<=n->gR n a b c=some o)/\jA c ρ (fun θ=>a.ap θ=b.ap θ) o:=by intro a b J U h3;refine⟨1,(false,c),fun n au=>?_,rfl,⟨rfl,rfl,rfl⟩,(fun h=>by cases h),fun _ θ _ he=>U θ he⟩;obtain⟨n',rfl⟩:∃n',n=n'+1:=⟨n-1,Ω⟩;rw[J n',h0 h3]
 have sU:∀(i:Int) (b:T),b.kind≠1->(∀n,gR (n+1) (.var i) b c=(rt c i).bind fun p=>if p.2.shd p.1=false then vZ n p.1 b p.2 else gR n (p.2.shp p.1) b p.2)->i∈cv c.up->(∀w,b.occ w=true->w∈cv c.up)->((lO i).size+(b.ap lO).size)*3<m->∃N o,(∀n,N<=n->gR n (.var i) b c=some o)/\jA c ρ (fun θ=>θ i=b.ap θ) o:=by
  intro i b pB VA xB ad bs;obtain⟨bY,aq,aS⟩:=uV hi.ru xB;have mR:=hi.sm aS;by_cases af:bY.shd (ρ i)=false
  ·obtain⟨N,o,aF,c8⟩:=Xd mR (x:=ρ i) (hi.ru.idem i) (by rw[aS.keys];exact(hi.ru.mem xB).1) (B8 af) pB (by rw[aS.keys];exact ad);refine⟨N+1,o,fun n au=>?_,jA.sm aS (jA.congr (fun θ h=>?_) c8)⟩
   ·obtain⟨n',rfl⟩:∃n',n=n'+1:=⟨n-1,Ω⟩;rw[VA,aq];simp only[jy,if_pos af];exact aF n' Ω
   ·rw[<-h.1 i]
  ·have oX:bY.ph (ρ i)=some (bY.shp (ρ i)):=B9 af;have iy:∀θ,kN bY.ph ρ θ->θ i=(bY.shp (ρ i)).ap θ:=fun θ h=>by rw[h.1 i];exact h.2 _ _ (hi.ru.idem i) oX
   have hK:=(mR.sh _ _ oX).1;have ah1:vo (bY.shp (ρ i)) b=0:=by cases e:bY.shp (ρ i)<;>cases b<;>simp_all[vo,T.kind]
   have Wt:kN bY.ph ρ lO:=by rw[aS.ph];exact vO
   obtain⟨N,o,aF,c8⟩:=Bw (((bY.shp (ρ i)).ap lO).size*3+(b.ap lO).size*3) (by rw[<-iy lO Wt];omega) bY ρ (bY.shp (ρ i)) b lO mR Wt (mR.sh _ _ oX).2.1 (by rw[aS.keys];exact ad) (by rw[yo aS];exact c7) (by rw[ah1];omega);refine⟨N+1,o,fun n au=>?_,jA.sm aS (jA.congr (fun θ h=>?_) c8)⟩
   ·obtain⟨n',rfl⟩:∃n',n=n'+1:=⟨n-1,Ω⟩;rw[VA,aq];simp only[jy,if_neg af];exact aF n' Ω
   ·rw[iy θ h]
 have D8:∀(i j:Int),i∈cv c.up->j∈cv c.up->∃N o,(∀n,N<=n->gR n (.var i) (.var j) c=some o)/\jA c ρ (fun θ=>θ i=θ j) o:=by
  intro i j xB Ia;obtain⟨bY,aq,aS⟩:=uV hi.ru xB;obtain⟨cw,aF,bf⟩:=uV aS.ru (by rw[aS.keys];exact Ia:j∈cv bY.up);have ux:=aS.trans bf;have hX:=hi.sm ux;have vI:ρ i∈cv cw.up:=by rw[ux.keys];exact(hi.ru.mem xB).1
  have VN:ρ j∈cv cw.up:=by rw[ux.keys];exact(hi.ru.mem Ia).1
  have xq:∀(bY:bu) (l7:Int->Int),mH bY l7->cv bY.up=cv cw.up->iU bY l7<iU cw ρ->∀a b:T,(∀w,a.occ w=true->w∈cv cw.up)->(∀w,b.occ w=true->w∈cv cw.up)->∃N o,(∀n,N<=n->gR n a b bY=some o)/\jA bY l7 (fun θ=>a.ap θ=b.ap θ) o:=fun dC ρ3 J U h3 a b bg ad=>Wu dC ρ3 J (by rw[yo ux,c7]at h3;exact h3) a b (by rw[U];exact bg) (by rw[U];exact ad);rcases Int.lt_trichotomy (ρ i) (ρ j)with h|h|h
  ·obtain⟨N,o,bB,jv⟩:=T5 hX (hi.ru.idem i) (hi.ru.idem j) h vI VN xq;refine⟨N+1,o,fun n au=>?_,jA.sm ux (jA.congr (fun θ h=>?_) jv)⟩
   ·obtain⟨n',rfl⟩:∃n',n=n'+1:=⟨n-1,Ω⟩;simp only[gR,aq,aF,jy];rw[if_neg Ω,if_neg Ω];exact bB n' Ω
   ·rw[h.1 i,h.1 j]
  ·refine⟨1,(true,cw),fun n au=>?_,ux.keys,ux.rest,fun _=>⟨ρ,hX,fun θ=>?_,.inl ⟨rfl,ux.ph⟩⟩,fun e=>by cases e⟩
   ·obtain⟨n',rfl⟩:∃n',n=n'+1:=⟨n-1,Ω⟩;simp only[gR,aq,aF,jy,if_pos h]
   ·simp only[ux.ph];exact⟨fun af=>⟨af,by rw[af.1 i,af.1 j,h]⟩,fun af=>af.1⟩
  ·obtain⟨N,o,bB,jv⟩:=T5 hX (hi.ru.idem j) (hi.ru.idem i) h VN vI xq;refine⟨N+1,o,fun n au=>?_,jA.sm ux (jA.congr (fun θ h=>?_) jv)⟩
   ·obtain⟨n',rfl⟩:∃n',n=n'+1:=⟨n-1,Ω⟩;simp only[gR,aq,aF,jy];rw[if_neg Ω,if_pos h];exact bB n' Ω
   ·rw[h.1 i,h.1 j];exact⟨Eq.symm,Eq.symm⟩
 have Bo:∀(a:T) (j:Int),a.kind≠1->(∀n,gR (n+1) a (.var j) c=gR n (.var j) a c)->(∀n,gR (n+1) (.var j) a c=(rt c j).bind fun p=>if p.2.shd p.1=false then vZ n p.1 a p.2 else gR n (p.2.shp p.1) a p.2)->j∈cv c.up->(∀w,a.occ w=true->w∈cv c.up)->((lO j).size+(a.ap lO).size)*3<m->∃N o,(∀n,N<=n->gR n a (.var j) c=some o)/\jA c ρ (fun θ=>a.ap θ=θ j) o:=by intro a j J U h3 Ia bg bs;obtain⟨N,o,aq,cP⟩:=sU j a J h3 Ia bg bs;refine⟨N+1,o,fun n au=>?_,jA.congr (fun θ _=>⟨Eq.symm,Eq.symm⟩) cP⟩;obtain⟨n',rfl⟩:∃n',n=n'+1:=⟨n-1,Ω⟩;rw[U];exact aq n' Ω
 cases a with
 |var i=>
  have xB:i∈cv c.up:=bg i (by simp[T.occ]);cases b with
  |var j=>exact D8 i j xB (ad j (by simp[T.occ]))
  |_=>exact sU i _ (by simp[T.kind]) (fun n=>rfl) xB ad (by simp only[T.ap,vo]at hm⊢;omega)
 |pair bA a2=>
  cases b with
  |var j=>exact Bo _ j (by simp[T.kind]) (fun n=>rfl) (fun n=>rfl) (ad j (by simp[T.occ])) bg (by simp only[T.ap,vo]at hm⊢;omega)
  |pair b1 b2=>
   have qN:∀p q:T,vo p q<=2:=fun p q=>by cases p<;>cases q<;>simp[vo]
   have lY:∀w,bA.occ w=true->w∈cv c.up:=fun w hw=>bg w (by simp[T.occ,hw]);have qL:∀w,a2.occ w=true->w∈cv c.up:=fun w hw=>bg w (by simp[T.occ,hw]);have kr:∀w,b1.occ w=true->w∈cv c.up:=fun w hw=>ad w (by simp[T.occ,hw]);have od:∀w,b2.occ w=true->w∈cv c.up:=fun w hw=>ad w (by simp[T.occ,hw]);simp only[T.ap,T.size,vo]at hm;have f1:=qN bA b1;have f2:=qN a2 b2;obtain⟨h1,ei,aq,cP⟩:=Bw _ (by rw[<-hm];omega) c ρ bA b1 lO hi vO lY kr c7 rfl;obtain⟨ak3,bY⟩:=ei;cases ak3 with
   |false=>refine⟨h1+1,(false,bY),fun n au=>?_,cP.keys,cP.rest,(fun e=>by cases e),fun _ θ af he=>cP.no rfl θ af (by simp only[T.ap,T.pair.injEq]at he;exact he.1)⟩;obtain⟨n',rfl⟩:∃n',n=n'+1:=⟨n-1,Ω⟩;simp only[gR,aq n' Ω,jy,hg,if_false]
   |true=>
    obtain⟨l7,a1,bm,bW⟩:=cP.yes rfl;simp only at a1 bm bW;have yZ:cv bY.up=cv c.up:=cP.keys;have D3:∃jB ee,(∀n,jB<=n->gR n a2 b2 bY=some ee)/\jA bY l7 (fun θ=>a2.ap θ=b2.ap θ) ee:=by
     rcases bW with⟨rfl,bW⟩|bW
     ·exact Bw _ (by rw[<-hm];omega) bY l7 a2 b2 lO a1 (by rw[bW];exact vO) (by rw[yZ];exact qL) (by rw[yZ];exact od) (by unfold iU;rw[yZ,bW];exact c7) rfl
     ·exact Wu bY l7 a1 Ω a2 b2 (by rw[yZ];exact qL) (by rw[yZ];exact od)
    obtain⟨jB,ee,aF,c8⟩:=D3;refine⟨max h1 jB+1,ee,fun n au=>?_,c8.keys.trans yZ,?_,fun aN=>?_,fun aN θ af he=>?_⟩
    ·obtain⟨n',rfl⟩:∃n',n=n'+1:=⟨n-1,Ω⟩;simp only[gR,aq n' Ω,jy,if_true];exact aF n' Ω
    ·rw[c8.rest.1,c8.rest.2.1,c8.rest.2.2];exact cP.rest
    ·obtain⟨ρ2,s1,s2,s3⟩:=c8.yes aN;refine⟨ρ2,s1,fun θ=>?_,?_⟩
     ·rw[s2 θ,bm θ];simp only[T.ap,T.pair.injEq,and_assoc]
     ·rcases bW with⟨rfl,bW⟩|bW
      ·rcases s3 with⟨rfl,s3⟩|s3
       ·exact .inl ⟨rfl,s3.trans bW⟩
       ·have:iU bY l7=iU c l7:=by unfold iU;rw[yZ,bW]
        exact .inr Ω
      ·rcases s3 with⟨rfl,s3⟩|s3
       ·have:iU ee.2 ρ2=iU bY ρ2:=by unfold iU;rw[c8.keys,s3]
        exact .inr Ω
       ·exact .inr Ω
    ·simp only[T.ap,T.pair.injEq]at he;exact c8.no aN θ ((bm θ).2 ⟨af,he.1⟩) he.2
  |_=>exact Vy (fun n=>rfl) (fun θ=>by simp[T.ap]) Ψ
 |_=>
  cases b with
  |var j=>exact Bo _ j (by simp[T.kind]) (fun n=>rfl) (fun n=>rfl) (ad j (by simp[T.occ])) bg (by simp only[T.ap,vo]at hm⊢;omega)
  |_=>first|exact ait (fun n=>rfl) (fun θ=>rfl) (fun θ=>rfl)|exact Vy (fun n=>rfl) (fun θ=>by simp[T.ap]) Ψ
end
section
open Go
def Af(rec:Int->bu->Option (Bool×bu))(v:Int)(a:bu×Bool):Option (bu×Bool):=if a.2=true then(rt a.1 v).bind fun p=>(rec p.1 p.2).map fun q=>(q.2,q.1)else some a
def zX(v:Int)(c:bu):Option (Int×bu):=(rt c v).map fun p=>(p.2.sz p.1,p.2)
def bu.grey(c:bu)(x:Int):bu:={c with color:=e5 x 1 c.color,size:=e5 x 1 c.size}
def bu.black(c:bu)(x:Int):bu:={c with color:=e5 x 2 c.color}
def re:Nat->Int->bu->Option (Bool×bu)
 |0,_,_=>none
 |n+1,x,c=>if c.col x=2 then some (true,c)else if c.col x=1 then some (false,c)else
   if(c.grey x).shd x=false then some (true,(c.grey x).black x)else
   (((c.grey x).shp x).foldO (Af (re n)) (c.grey x,true)).bind fun a=>if a.2=false then some (false,a.1)else
   (((a.1.shp x).sizeO zX a.1).map fun p=>(true,{p.2 with size:=e5 x p.1 p.2.size}.black x))
def CK(rec:Int->bu->Option (T×bu))(v:Int)(c:bu):Option (T×bu):=(rt c v).bind fun p=>rec p.1 p.2
def rb:Nat->Int->bu->Option (T×bu)
 |0,_,_=>none
 |n+1,x,c=>match tg x c.full with
  |some t=>some (t,c)
  |none=>if c.shd x=false then some (.var x,{c with full:=e5 x (.var x) c.full})else
   ((c.shp x).mapO (CK (rb n)) c).map fun p=>(p.1,{p.2 with full:=e5 x p.1 p.2.full})
def tv(n:Nat):List Int->bu->List Int->Option (Option (List Int)×bu)
 |[],c,out=>some (some out,c)
 |v::a7,c,out=>(rt c v).bind fun p=>(re n p.1 p.2).bind fun q=>if q.1=false then some (none,q.2)else
   if p.1=v/\q.2.shd p.1=false then tv n a7 q.2 out else
   if 5000<q.2.sz p.1\/400<out.length+1 then some (none,q.2)else tv n a7 q.2 (out++[v])
def zY(n:Nat):List Int->bu->Option (List ai×bu)
 |[],c=>some ([],c)
 |v::a7,c=>(rt c v).bind fun p=>(rb n p.1 p.2).bind fun q=>(zY n a7 q.2).map fun r=>(⟨v,q.1⟩::r.1,r.2)
def Fw(n:Nat)(a7:List Int)(c:bu):Option (Option (List ai)):=(tv n a7 c []).bind fun a=>match a.1 with
 |none=>some none
 |some out=>(zY n out a.2).map fun r=>some r.1
def qF(n:Nat):List (T×T)->bu->Option (Bool×bu)
 |[],c=>some (true,c)
 |e::es,c=>(BM e.1 c).bind fun bY=>(BM e.2 bY).bind fun cw=>(gR n e.1 e.2 cw).bind fun p=>if p.1=true then qF n es p.2 else some (false,p.2)
theorem mH.rank{c:bu}{ρ:Int->Int}(h:mH c ρ):∃r:Int->Nat,∀z u,jz c.ph ρ z u->r u<r z:=by
 obtain⟨θ,fY⟩:=h.sat
 exact⟨fun z=>(θ z).size,fun z u he=>JG h.sh fY he⟩
structure vb (V:List Int) (ph:Int->Option T) (ρ:Int->Int) (c:bu):Prop where
 ru:ka c.up ρ
 keys:cv c.up=V
 ph:c.ph=ph
theorem vb.sm{V:List Int}{ph:Int->Option T}{ρ:Int->Int}{c cq:bu}(h:vb V ph ρ c)(k:jl ρ c cq):vb V ph ρ cq:=⟨k.ru,k.keys.trans h.keys,k.ph.trans h.ph⟩
def cut(n:Nat):Int:=if 5001<(n:Int)then 5001 else n
section
variable {V:List Int} {ph:Int->Option T} {ρ:Int->Int} {r:Int->Nat}
theorem aoS(FU:Int->T):∀(t:T) (c:bu),vb V ph ρ c->(∀w,t.occ w=true->w∈V/\c.sz (ρ w)=cut (FU w).size)->∃cq,t.sizeO zX c=some (cut (t.ap FU).size,cq)/\jl ρ c cq:=by
 intro t;induction t with
 |var v=>
  intro c h aI;obtain⟨az,bd⟩:=aI v (by simp[T.occ]);obtain⟨bY,J,U⟩:=uV h.ru (by rw[h.keys];exact az:v∈cv c.up);refine⟨bY,?_,U⟩;have:bY.sz (ρ v)=cut (FU v).size:=by rw[<-bd,U.eq];rfl
  simp only[T.sizeO,zX,J,oK,this,T.ap,dE,j7,and_true];unfold cut;split<;>omega
 |pair a b dz dA=>
  intro c h aI;obtain⟨bY,J,aS⟩:=dz c h fun w hw=>aI w (by simp[T.occ,hw]);obtain⟨cw,U,bf⟩:=dA bY (h.sm aS) fun w hw=>⟨(aI w (by simp[T.occ,hw])).1,by rw[<-(aI w (by simp[T.occ,hw])).2,aS.eq];rfl⟩;have ad:=T.size_pos (b.ap FU);simp only[T.sizeO,J,jy,T.ap,T.size];by_cases ao:5000<cut (a.ap FU).size
  ·rw[if_pos ao];refine⟨bY,?_,aS⟩;simp only[dE,j7,and_true];unfold cut at ao⊢;split at ao<;>split<;>(try split)<;>omega
  ·rw[if_neg ao,U];refine⟨cw,?_,aS.trans bf⟩;simp only[oK,dE,j7,and_true];unfold cut at ao⊢;split at ao<;>(repeat' split)<;>omega
 |_=>intro c h aI;exact⟨c,by simp[T.sizeO,T.ap,T.size,cut],jl.refl h.ru⟩
structure rn (V:List Int) (ph:Int->Option T) (ρ:Int->Int) (r:Int->Nat) (d:Nat) (c:bu):Prop where
 fin:vb V ph ρ c
 col:∀z,r z<d->c.col z=0\/(c.col z=2/\c.sz z=cut (ho ph ρ r z).size)
structure nX (ph:Int->Option T) (ρ:Int->Int) (r:Int->Nat) (d:Nat) (c cq:bu):Prop where
 full:cq.full=c.full
 hi:∀z,d<=r z->cq.col z=c.col z/\cq.sz z=c.sz z
 lo:∀z,c.col z=2->cq.col z=2/\cq.sz z=c.sz z
theorem nX.refl{c:bu}{d:Nat}:nX ph ρ r d c c:=⟨rfl,fun _ _=>⟨rfl,rfl⟩,fun _ h=>⟨h,rfl⟩⟩
theorem nX.trans{a b c:bu}{d:Nat}(h:nX ph ρ r d a b)(k:nX ph ρ r d b c):nX ph ρ r d a c:=⟨k.full.trans h.full,fun z bd=>⟨(k.hi z bd).1.trans (h.hi z bd).1,(k.hi z bd).2.trans (h.hi z bd).2⟩,fun z bd=>⟨(k.lo z (h.lo z bd).1).1,(k.lo z (h.lo z bd).1).2.trans (h.lo z bd).2⟩⟩
theorem nX.mono{a b:bu}{d cm:Nat}(aG:d<=cm)(h:nX ph ρ r d a b):nX ph ρ r cm a b:=⟨h.full,fun z bd=>h.hi z Ω,h.lo⟩
theorem nX.sm{c cq:bu}{d:Nat}(k:jl ρ c cq):nX ph ρ r d c cq:=by
 have aq:∀z,cq.col z=c.col z:=fun z=>by rw[k.eq];rfl
 have aF:∀z,cq.sz z=c.sz z:=fun z=>by rw[k.eq];rfl
 exact⟨k.rest.2.2,fun z _=>⟨aq z,aF z⟩,fun z h=>⟨by rw[aq];exact h,aF z⟩⟩
theorem rn.sm{c cq:bu}{d:Nat}(h:rn V ph ρ r d c)(k:jl ρ c cq):rn V ph ρ r d cq:=by
 have aq:∀z,cq.col z=c.col z:=fun z=>by rw[k.eq];rfl
 have aF:∀z,cq.sz z=c.sz z:=fun z=>by rw[k.eq];rfl
 exact⟨h.fin.sm k,fun z bd=>by rw[aq,aF];exact h.col z bd⟩
theorem aqR(hc:pk V ph)(e8:∀v,ρ (ρ v)=ρ v)(aM:∀z u,jz ph ρ z u->r u<r z)(d:Nat):∀(x:Int) (c:bu),r x<d->ρ x=x->x∈V->rn V ph ρ r d c->
  ∃N cq,(∀n,N<=n->re n x c=some (true,cq))/\rn V ph ρ r d cq/\nX ph ρ r (r x+1) c cq/\cq.col x=2/\cq.sz x=cut (ho ph ρ r x).size:=by
 induction d using qA with
 |ind d bN=>
 intro x c aG ab gS hw;rcases hw.col x aG with bz|⟨U,h3⟩;rotate_left
 ·refine⟨1,c,fun n au=>?_,hw,nX.refl,U,h3⟩;obtain⟨n',rfl⟩:∃n',n=n'+1:=⟨n-1,Ω⟩;simp only[re,if_pos U]
 have yN:∀z,(c.grey x).col z=if z=x then 1 else c.col z:=fun z=>by simp only[bu.grey,bu.col,nS];split<;>rfl
 have Dw:∀z,(c.grey x).sz z=if z=x then 1 else c.sz z:=fun z=>by simp only[bu.grey,bu.sz,nS];split<;>rfl
 have AX:vb V ph ρ (c.grey x):=⟨hw.fin.ru,hw.fin.keys,hw.fin.ph⟩;have ajg:rn V ph ρ r (r x) (c.grey x):=⟨AX,fun z bd=>by
  have cA:z≠x:=fun e=>by subst e;omega
  rw[yN,Dw,if_neg cA,if_neg cA];exact hw.col z Ω⟩
 have DV:¬c.col x=2:=Ω
 have sO:¬c.col x=1:=Ω
 have fB:∀(e:bu) (z:Int),(e.black x).col z=(if z=x then 2 else e.col z):=fun e z=>by simp only[bu.black,bu.col,nS];split<;>rfl
 by_cases af:(c.grey x).shd x=false
 ·have jZ:ph x=none:=by rw[<-AX.ph];exact B8 af
  have aW:ho ph ρ r x= .var x:=by rw[Dv (by rw[ab];exact jZ),ab]
  have dS:∀z,((c.grey x).black x).sz z=if z=x then 1 else c.sz z:=Dw
  refine⟨1,(c.grey x).black x,fun n au=>?_,⟨⟨AX.ru,AX.keys,AX.ph⟩,fun z bd=>?_⟩,⟨rfl,fun z bd=>?_,fun z bd=>?_⟩,?_,?_⟩
  ·obtain⟨n',rfl⟩:∃n',n=n'+1:=⟨n-1,Ω⟩;simp only[re,if_neg DV,if_neg sO,if_pos af]
  ·rw[fB,dS,yN];by_cases e:z=x
   ·subst e;simp only[if_true,aW];exact .inr ⟨trivial,by simp[T.size,cut]⟩
   ·simp only[if_neg e];exact hw.col z bd
  ·have e:z≠x:=fun e=>by subst e;omega
   rw[fB,dS,yN];simp only[if_neg e];exact⟨trivial,trivial⟩
  ·have e:z≠x:=fun e=>by subst e;omega
   rw[fB,dS,yN];simp only[if_neg e];exact⟨bd,trivial⟩
  ·rw[fB,if_pos rfl]
  ·rw[dS,if_pos rfl,aW];simp[T.size,cut]
 ·have jZ:ph x=some ((c.grey x).shp x):=by rw[<-AX.ph];exact B9 af
  obtain⟨g1,g2,g3⟩:=hc _ _ jZ;have ah3:∀(t:T) (e:bu),(∀w,t.occ w=true->((c.grey x).shp x).occ w=true)->rn V ph ρ r (r x) e->∃N fE,(∀n,N<=n->t.foldO (Af (re n)) (e,true)=some (fE,true))/\rn V ph ρ r (r x) fE/\nX ph ρ r (r x) e fE/\∀w,t.occ w=true->fE.col (ρ w)=2/\fE.sz (ρ w)=cut (ho ph ρ r w).size:=by
   intro t;induction t with
   |var v=>intro e mU he;have az:=g2 v (mU v (by simp[T.occ]));have xr:r (ρ v)<r x:=aM x (ρ v) ⟨ab,_,v,jZ,mU v (by simp[T.occ]),rfl⟩;obtain⟨aq,a1,aS⟩:=uV he.fin.ru (by rw[he.fin.keys];exact az:v∈cv e.up);obtain⟨N,aF,bm,dD,c8,cw,s2⟩:=bN (r x) aG (ρ v) aq xr (e8 v) (by rw[<-he.fin.keys];exact(he.fin.ru.mem (by rw[he.fin.keys];exact az)).1) (he.sm aS);refine⟨N,aF,fun n au=>by simp[T.foldO,Af,a1,bm n au],dD,(nX.sm aS).trans (c8.mono Ω),fun w hw=>?_⟩;simp[T.occ]at hw;subst hw;exact⟨cw,by rw[s2,<-AY e8]⟩
   |pair a b dz dA=>
    intro e mU he;obtain⟨h1,aq,a1,eY,cP,s1⟩:=dz e (fun w hw=>mU w (by simp[T.occ,hw])) he;obtain⟨jB,aF,bm,dD,c8,s2⟩:=dA aq (fun w hw=>mU w (by simp[T.occ,hw])) eY;refine⟨max h1 jB,aF,fun n au=>by simp only[T.foldO];rw[a1 n Ω];exact bm n Ω,dD,cP.trans c8,fun w hw=>?_⟩;simp only[T.occ,lP]at hw;rcases hw with hw|hw
    ·obtain⟨jR,z2⟩:=s1 w hw;exact⟨(c8.lo _ jR).1,by rw[(c8.lo _ jR).2];exact z2⟩
    ·exact s2 w hw
   |_=>intro e _ he;exact⟨0,e,fun n _=>rfl,he,nX.refl,fun w hw=>by simp[T.occ]at hw⟩
  obtain⟨N,e,a1,eY,cP,s1⟩:=ah3 ((c.grey x).shp x) (c.grey x) (fun w h=>h) ajg;have ai0:e.shp x=(c.grey x).shp x:=by
   have J:e.ph x=some ((c.grey x).shp x):=by rw[eY.fin.ph];exact jZ
   unfold bu.ph at J;split at J
   ·exact eZ J
   ·cases J
  obtain⟨aF,bm,bf⟩:=aoS (V:=V) (ph:=ph) (ρ:=ρ) (ho ph ρ r) ((c.grey x).shp x) e eY.fin (fun w hw=>⟨g2 w hw,(s1 w hw).2⟩);have oi:ho ph ρ r x=((c.grey x).shp x).ap (ho ph ρ r):=AZ e8 aM (by rw[ab];exact jZ);have HA:=cP.trans (nX.sm (ph:=ph) (r:=r) (d:=r x) bf);have dD:=eY.sm bf;let bB:bu:={aF with size:=e5 x (cut (ho ph ρ r x).size) aF.size}.black x
  have dC:∀z,bB.col z=if z=x then 2 else aF.col z:=fun z=>fB _ z
  have s3:∀z,bB.sz z=if z=x then cut (ho ph ρ r x).size else aF.sz z:=fun z=>by show(tg z (e5 x _ aF.size)).getD 0=_;rw[nS];split<;>rfl
  refine⟨N+1,bB,fun n au=>?_,⟨⟨dD.fin.ru,dD.fin.keys,dD.fin.ph⟩,fun z bd=>?_⟩,⟨HA.full,fun z bd=>?_,fun z bd=>?_⟩,by rw[dC,if_pos rfl],by rw[s3,if_pos rfl]⟩
  ·obtain⟨n',rfl⟩:∃n',n=n'+1:=⟨n-1,Ω⟩;simp only[re,if_neg DV,if_neg sO,if_neg af,a1 n' Ω,jy,Bool.true_eq_false,if_false,ai0,bm,oK,oi,bB]
  ·rw[dC,s3];by_cases oS:z=x
   ·subst oS;simp only[if_true];exact .inr ⟨trivial,trivial⟩
   ·simp only[if_neg oS];by_cases bs:r z<r x
    ·exact dD.col z bs
    ·obtain⟨bA,a2⟩:=HA.hi z Ω;rw[bA,a2,yN,Dw,if_neg oS,if_neg oS];exact hw.col z bd
  ·have oS:z≠x:=fun e=>by subst e;omega
   obtain⟨bA,a2⟩:=HA.hi z Ω;rw[dC,s3,if_neg oS,if_neg oS,bA,a2,yN,Dw,if_neg oS,if_neg oS];exact⟨rfl,rfl⟩
  ·have oS:z≠x:=fun e=>by subst e;omega
   obtain⟨bA,a2⟩:=HA.lo z (by rw[yN,if_neg oS];exact bd);rw[dC,s3,if_neg oS,if_neg oS,bA,a2,Dw,if_neg oS];exact⟨rfl,rfl⟩
structure sg (V:List Int) (ph:Int->Option T) (ρ:Int->Int) (r:Int->Nat) (c:bu):Prop where
 fin:vb V ph ρ c
 full:∀x t,tg x c.full=some t->t=ho ph ρ r x
theorem sg.sm{c cq:bu}(h:sg V ph ρ r c)(k:jl ρ c cq):sg V ph ρ r cq:=⟨h.fin.sm k,by rw[k.rest.2.2];exact h.full⟩
theorem aqP(hc:pk V ph)(e8:∀v,ρ (ρ v)=ρ v)(aM:∀z u,jz ph ρ z u->r u<r z)(d:Nat):∀(x:Int) (c:bu),r x<d->ρ x=x->x∈V->sg V ph ρ r c->
  ∃N cq,(∀n,N<=n->rb n x c=some (ho ph ρ r x,cq))/\sg V ph ρ r cq:=by
 induction d with
 |zero=>intro x c h;omega
 |succ d bN=>
 intro x c aG ab gS az;cases aN:tg x c.full with
 |some t=>refine⟨1,c,fun n au=>?_,az⟩;obtain⟨n',rfl⟩:∃n',n=n'+1:=⟨n-1,Ω⟩;simp only[rb,aN,az.full x t aN]
 |none=>
  have Wb:∀(e:bu),sg V ph ρ r e->sg V ph ρ r {e with full:=e5 x (ho ph ρ r x) e.full}:=fun e he=>⟨⟨he.fin.ru,he.fin.keys,he.fin.ph⟩,fun z t bd=>by
   have sZ:tg z (e5 x (ho ph ρ r x) e.full)=some t:=bd;rw[nS]at sZ;split at sZ
   ·rename_i e;subst e;cases sZ;rfl
   ·exact he.full z t sZ⟩
  by_cases af:c.shd x=false
  ·have jZ:ph x=none:=by rw[<-az.fin.ph];exact B8 af
   have aW:ho ph ρ r x= .var x:=by rw[Dv (by rw[ab];exact jZ),ab]
   refine⟨1,_,fun n au=>?_,Wb c az⟩;obtain⟨n',rfl⟩:∃n',n=n'+1:=⟨n-1,Ω⟩;simp only[rb,aN,if_pos af,aW]
  ·have jZ:ph x=some (c.shp x):=by rw[<-az.fin.ph];exact B9 af
   obtain⟨g1,g2,g3⟩:=hc _ _ jZ;have aiy:∀(t:T) (e:bu),(∀w,t.occ w=true->(c.shp x).occ w=true)->sg V ph ρ r e->∃N fE,(∀n,N<=n->t.mapO (CK (rb n)) e=some (t.ap (ho ph ρ r),fE))/\sg V ph ρ r fE:=by
    intro t;induction t with
    |var v=>intro e mU he;have xv:=g2 v (mU v (by simp[T.occ]));have xr:r (ρ v)<r x:=aM x (ρ v) ⟨ab,_,v,jZ,mU v (by simp[T.occ]),rfl⟩;obtain⟨aq,a1,aS⟩:=uV he.fin.ru (by rw[he.fin.keys];exact xv:v∈cv e.up);obtain⟨N,aF,bm,dD⟩:=bN (ρ v) aq Ω (e8 v) (by rw[<-he.fin.keys];exact(he.fin.ru.mem (by rw[he.fin.keys];exact xv)).1) (he.sm aS);exact⟨N,aF,fun n au=>by simp only[T.mapO,CK,a1,jy,bm n au,T.ap];rw[<-AY e8],dD⟩
    |pair a b dz dA=>intro e mU he;obtain⟨h1,aq,a1,eY⟩:=dz e (fun w hw=>mU w (by simp[T.occ,hw])) he;obtain⟨jB,aF,bm,dD⟩:=dA aq (fun w hw=>mU w (by simp[T.occ,hw])) eY;exact⟨max h1 jB,aF,fun n au=>by simp only[T.mapO,a1 n Ω,jy,bm n Ω,oK,T.ap],dD⟩
    |_=>intro e _ he;exact⟨0,e,fun n _=>rfl,he⟩
   obtain⟨N,e,a1,eY⟩:=aiy (c.shp x) c (fun w h=>h) az;have oi:ho ph ρ r x=(c.shp x).ap (ho ph ρ r):=AZ e8 aM (by rw[ab];exact jZ);refine⟨N+1,_,fun n au=>?_,Wb e eY⟩;obtain⟨n',rfl⟩:∃n',n=n'+1:=⟨n-1,Ω⟩;simp only[rb,aN,if_neg af,a1 n' Ω,oK,oi]
def oQ(ph:Int->Option T)(ρ:Int->Int)(v:Int):Bool:= !(decide (ρ v=v)&&(ph v).isNone)
theorem aoV(hc:pk V ph)(e8:∀v,ρ (ρ v)=ρ v)(aM:∀z u,jz ph ρ z u->r u<r z)(hL:∀v∈V,ρ v∈V):∀(a7:List Int) (c:bu) (out:List Int),(∀v∈a7,v∈V)->(∀d,rn V ph ρ r d c)->out.length<=400->(∀v∈out,(ho ph ρ r v).size<=5000)->
  ∃N cq o,(∀n,N<=n->tv n a7 c out=some (o,cq))/\vb V ph ρ cq/\cq.full=c.full/\(∀l,o=some l->l=out++a7.filter (oQ ph ρ)/\l.length<=400/\∀v∈l,(ho ph ρ r v).size<=5000)/\(o=none->¬((out++a7.filter (oQ ph ρ)).length<=400/\∀v∈out++a7.filter (oQ ph ρ),(ho ph ρ r v).size<=5000)):=by
 intro a7;induction a7 with
 |nil=>intro c out _ hw J U;exact⟨0,c,some out,fun n _=>rfl,(hw 0).fin,rfl,fun l e=>by cases e;simp;exact⟨J,U⟩,fun e=>by cases e⟩
 |cons v a7 bN=>
  intro c out az hw J U;have xv:=az v Ψ;obtain⟨bY,a1,aS⟩:=uV (hw 0).fin.ru (by rw[(hw 0).fin.keys];exact xv:v∈cv c.up);have zc:∀d,rn V ph ρ r d bY:=fun d=>(hw d).sm aS;obtain⟨h1,cw,bm,dD,c8,aF,s2⟩:=aqR hc e8 aM (r (ρ v)+1) (ρ v) bY Ω (e8 v) (hL v xv) (zc _);have nG:∀d,rn V ph ρ r d cw:=fun d=>⟨dD.fin,fun z bd=>by
   by_cases bs:r z<r (ρ v)+1
   ·exact dD.col z bs
   ·obtain⟨bA,a2⟩:=c8.hi z Ω;rw[bA,a2];exact(zc d).col z bd⟩
  have Mw:cw.full=c.full:=c8.full.trans aS.rest.2.2;have Wh:(cw.shd (ρ v)=false)=((ph (ρ v)).isNone=true):=by rw[<-dD.fin.ph];unfold bu.ph;cases cw.shd (ρ v)<;>simp
  have kh:∀n,h1<=n->tv n (v::a7) c out=(if ρ v=v/\cw.shd (ρ v)=false then tv n a7 cw out else if 5000<cw.sz (ρ v)\/400<out.length+1 then some (none,cw)else tv n a7 cw (out++[v])):=fun n au=>by simp only[tv,a1,jy,bm n au,Bool.true_eq_false,if_false]
  have VJ:ho ph ρ r (ρ v)=ho ph ρ r v:=(AY e8 v).symm;by_cases ao:ρ v=v/\cw.shd (ρ v)=false
  ·have ad:oQ ph ρ v=false:=by have h3:=ao.2;rw[Wh]at h3;rw[ao.1]at h3;simp[oQ,ao.1,h3]
   obtain⟨jB,dC,o,bW,f3,ra,J8,jM⟩:=bN cw out (fun w hw=>az w (by simp[hw])) nG J U;refine⟨max h1 jB,dC,o,fun n au=>by rw[kh n Ω,if_pos ao];exact bW n Ω,f3,ra.trans Mw,?_,?_⟩
   ·simp only[List.filter_cons,ad,hg,if_false];exact J8
   ·simp only[List.filter_cons,ad,hg,if_false];exact jM
  ·have ad:oQ ph ρ v=true:=by
    cases e:oQ ph ρ v with
    |true=>rfl
    |false=>simp only[oQ,Bool.not_eq_false',cr,eN]at e;exact absurd ⟨e.1,by rw[Wh,e.1];exact e.2⟩ ao
   by_cases av:5000<cw.sz (ρ v)\/400<out.length+1
   ·refine⟨h1,cw,none,fun n au=>by rw[kh n au,if_neg ao,if_pos av],dD.fin,Mw,(fun l e=>by cases e),fun _=>?_⟩;simp only[List.filter_cons,ad,if_true];rintro⟨bA,a2⟩;rcases av with av|av
    ·rw[s2,VJ]at av;have:=a2 v Ψ;unfold cut at av;split at av<;>omega
    ·simp at bA;omega
   ·have bd:(ho ph ρ r v).size<=5000:=by have:¬5000<cw.sz (ρ v):=fun h=>av (.inl h);rw[s2,VJ]at this;unfold cut at this;split at this<;>omega
    obtain⟨jB,dC,o,bW,f3,ra,J8,jM⟩:=bN cw (out++[v]) (fun w hw=>az w (by simp[hw])) nG d7 (fun w hw=>by
     rcases hQ.1 hw with hw|hw
     ·exact U w hw
     ·simp at hw;subst hw;exact bd)
    refine⟨max h1 jB,dC,o,fun n au=>by rw[kh n Ω,if_neg ao,if_neg av];exact bW n Ω,f3,ra.trans Mw,?_,?_⟩
    ·simp only[List.filter_cons,ad,if_true];simpa using J8
    ·simp only[List.filter_cons,ad,if_true];simpa using jM
theorem aoW(hc:pk V ph)(e8:∀v,ρ (ρ v)=ρ v)(aM:∀z u,jz ph ρ z u->r u<r z)(hL:∀v∈V,ρ v∈V):∀(a7:List Int) (c:bu),(∀v∈a7,v∈V)->sg V ph ρ r c->∃N cq,∀n,N<=n->zY n a7 c=some (a7.map fun v=>⟨v,ho ph ρ r v⟩,cq):=by
 intro a7;induction a7 with
 |nil=>intro c _ _;exact⟨0,c,fun n _=>rfl⟩
 |cons v a7 bN=>intro c az hw;have xv:=az v Ψ;obtain⟨bY,a1,aS⟩:=uV hw.fin.ru (by rw[hw.fin.keys];exact xv:v∈cv c.up);obtain⟨h1,cw,bm,dD⟩:=aqP hc e8 aM (r (ρ v)+1) (ρ v) bY Ω (e8 v) (hL v xv) (hw.sm aS);obtain⟨jB,dC,bW⟩:=bN cw (fun w hw=>az w (by simp[hw])) dD;refine⟨max h1 jB,dC,fun n au=>?_⟩;simp only[zY,a1,jy,bm n Ω,bW n Ω,oK,gZ];rw[<-AY e8]
end
end
section
open Go
def bu.new:bu:=⟨[],[],[],[],[],[]⟩
def r3(l:List Int):List Int:=l.mergeSort fun x y=>decide (x<=y)
def Cw(n:Nat)(E:List (T×T)):Option (Option (List ai)):=(qF n E bu.new).bind fun p=>if p.1=false then some none else Fw n (r3 (cv p.2.up)) p.2
theorem Fz(l:List Int):(r3 l).Perm l:=List.mergeSort_perm l _
theorem apa{l:List Int}(h:l.Nodup):(r3 l).Pairwise (· < ·):=by have J:(r3 l).Pairwise fun x y=>decide (x<=y)=true:=List.pairwise_mergeSort (fun a b c=>by simp;omega) (fun a b=>by simp;omega) l;have U:(r3 l).Pairwise (· ≠ ·):=List.nodup_iff_pairwise_ne.1 ((Fz l).nodup_iff.2 h);exact(J.and U).imp fun h=>by simp at h;omega
structure abY (c:bu) (ρ:Int->Int) (cq:bu) (X7:Int->Prop):Prop where
 inv:mH cq ρ
 ph:cq.ph=c.ph
 nd:(cv cq.up).Nodup
 sub:∀v∈cv c.up,v∈cv cq.up
 occ:∀v,X7 v->v∈cv cq.up
 rest:cq.color=c.color/\cq.size=c.size/\cq.full=c.full
 new:∀v∈cv cq.up,v∈cv c.up\/X7 v
theorem Xy{ρ:Int->Int}(t:T):∀(c:bu),mH c ρ->(cv c.up).Nodup->(∀v,t.occ v=true->0<=v)->∃cq,BM t c=some cq/\abY c ρ cq fun v=>t.occ v=true:=by
 unfold BM;induction t with
 |var v=>
  intro c hi au bz;by_cases az:v∈cv c.up
  ·obtain⟨bY,a1,aS⟩:=uV hi.ru az;refine⟨bY,by simp[T.foldO,a1],hi.sm aS,aS.ph,by rw[aS.keys];exact au,fun w hw=>by rw[aS.keys];exact hw,fun w hw=>?_,aS.rest,fun w hw=>.inl (by rw[aS.keys]at hw;exact hw)⟩;simp[T.occ]at hw;subst hw;rw[aS.keys];exact az
  ·obtain⟨a1,bm,bW⟩:=aou hi.ru (bz v (by simp[T.occ])) az;refine⟨{c with up:=e5 v v c.up},by simp only[T.foldO,a1,oK],⟨bm,?_,hi.sat⟩,rfl,?_,fun w hw=>by rw[bW];simp[hw],fun w hw=>?_,⟨rfl,rfl,rfl⟩,fun w hw=>?_⟩
   ·intro x u ab;obtain⟨bA,a2,a3⟩:=hi.sh x u ab;refine⟨bA,fun w hw=>?_,?_⟩
    ·show w∈cv (e5 v v c.up);rw[bW];simp[a2 w hw]
    ·show x∈cv (e5 v v c.up);rw[bW];simp[a3]
   ·rw[bW];rw[List.nodup_append];exact⟨au,Ψ,fun a bg b ad e=>by simp at ad;subst ad;subst e;exact az bg⟩
   ·simp[T.occ]at hw;subst hw;rw[bW];simp
   ·rw[bW]at hw;simp at hw;rcases hw with hw|rfl;exact .inl hw;exact .inr (by simp[T.occ])
 |pair a b dz dA=>
  intro c hi au bz;obtain⟨bY,a1,m1⟩:=dz c hi au fun v az=>bz v (by simp[T.occ,az]);obtain⟨cw,bm,m2⟩:=dA bY m1.inv m1.nd fun v az=>bz v (by simp[T.occ,az]);refine⟨cw,by simp only[T.foldO,a1,jy,bm],m2.inv,m2.ph.trans m1.ph,m2.nd,fun v az=>m2.sub v (m1.sub v az),fun v az=>?_,?_,fun v az=>?_⟩
  ·simp only[T.occ,lP]at az;rcases az with az|az
   ·exact m2.sub v (m1.occ v az)
   ·exact m2.occ v az
  ·rw[m2.rest.1,m2.rest.2.1,m2.rest.2.2];exact m1.rest
  ·rcases m2.new v az with h|h
   ·rcases m1.new v h with h|h
    ·exact .inl h
    ·exact .inr (by simp[T.occ,h])
   ·exact .inr (by simp[T.occ,h])
 |_=>intro c hi au bz;exact⟨c,rfl,hi,rfl,au,fun v az=>az,fun v az=>by simp[T.occ]at az,⟨rfl,rfl,rfl⟩,fun v az=>.inl az⟩
def Oe(E:List (T×T)):Prop:= ∀e∈E,∀v,(e.1.occ v=true\/e.2.occ v=true)->0<=v
theorem Df:∀(E:List (T×T)) (c:bu) (ρ:Int->Int),mH c ρ->(cv c.up).Nodup->Oe E->∃N o,(∀n,N<=n->qF n E c=some o)/\((o.2.color=c.color/\o.2.size=c.size/\o.2.full=c.full)/\∀v∈cv o.2.up,v∈cv c.up\/ ∃e∈E,e.1.occ v=true\/e.2.occ v=true)/\(o.1=true->∃ρ',mH o.2 ρ'/\(cv o.2.up).Nodup/\∀θ,kN o.2.ph ρ' θ↔kN c.ph ρ θ/\ir E θ)/\(o.1=false->∀θ,kN c.ph ρ θ->¬ir E θ):=by
 intro E;induction E with
 |nil=>intro c ρ hi au _;exact⟨0,(true,c),fun n _=>rfl,⟨⟨rfl,rfl,rfl⟩,fun v az=>.inl az⟩,fun _=>⟨ρ,hi,au,fun θ=>⟨fun h=>⟨h,Fy θ⟩,fun h=>h.1⟩⟩,fun e=>by cases e⟩
 |cons e E bN=>
  intro c ρ hi au bz;obtain⟨bY,a1,m1⟩:=Xy e.1 c hi au fun v az=>bz e Ψ v (.inl az);obtain⟨cw,bm,m2⟩:=Xy e.2 bY m1.inv m1.nd fun v az=>bz e Ψ v (.inr az);obtain⟨lO,vO⟩:=m2.inv.sat
  obtain⟨h1,ei,bW,jv⟩:=adk _ _ cw ρ e.1 e.2 lO m2.inv vO (fun w hw=>m2.sub w (m1.occ w hw)) (fun w hw=>m2.occ w hw) rfl rfl;have jZ:cw.ph=c.ph:=m2.ph.trans m1.ph;have nF:ei.2.color=c.color/\ei.2.size=c.size/\ei.2.full=c.full:=by rw[jv.rest.1,jv.rest.2.1,jv.rest.2.2,m2.rest.1,m2.rest.2.1,m2.rest.2.2];exact m1.rest
  have Hs:∀v∈cv ei.2.up,v∈cv c.up\/e.1.occ v=true\/e.2.occ v=true:=fun v az=>by
   rw[jv.keys]at az;rcases m2.new v az with h|h
   ·rcases m1.new v h with h|h
    ·exact .inl h
    ·exact .inr (.inl h)
   ·exact .inr (.inr h)
  obtain⟨f,dC⟩:=ei;cases f with
  |false=>refine⟨h1,(false,dC),fun n au=>?_,⟨nF,fun v az=>(Hs v az).imp id fun h=>⟨e,Ψ,h⟩⟩,(fun e=>by cases e),fun _ θ af he=>jv.no rfl θ (by rw[jZ];exact af) (r1.1 he).1⟩;simp only[qF,a1,bm,jy,bW n au,hg,if_false]
  |true=>
   obtain⟨l7,bA,a2,_⟩:=jv.yes rfl;simp only at bA a2;obtain⟨jB,ee,b1,b2,gp,vk⟩:=bN dC l7 bA (by have:=jv.keys;simp only at this;rw[this];exact m2.nd) fun fE he=>bz fE (by simp[he]);refine⟨max h1 jB,ee,fun n au=>?_,?_,fun aN=>?_,fun aN θ af he=>?_⟩
   ·simp only[qF,a1,bm,jy,bW n Ω,if_true];exact b1 n Ω
   ·refine⟨by rw[b2.1.1,b2.1.2.1,b2.1.2.2];exact nF,fun v az=>?_⟩;rcases b2.2 v az with h|⟨fE,J,U⟩
    ·exact(Hs v h).imp id fun h=>⟨e,Ψ,h⟩
    ·exact .inr ⟨fE,by simp[J],U⟩
   ·obtain⟨ρ2,d1,d2,d3⟩:=gp aN;exact⟨ρ2,d1,d2,fun θ=>by rw[d3 θ,a2 θ,jZ,r1,and_assoc]⟩
   ·exact vk aN θ ((a2 θ).2 ⟨by rw[jZ];exact af,(r1.1 he).1⟩) (r1.1 he).2
theorem Gk{ph:Int->Option T}{ρ:Int->Int}{v:Int}:oQ ph ρ v=false↔ρ v=v/\ph v=none:=by simp[oQ]
theorem Ve{ph:Int->Option T}{ρ:Int->Int}{r:Int->Nat}(e8:∀v,ρ (ρ v)=ρ v):∀(n:Nat) (v w:Int),(n3 ph ρ n v).occ w=true->(∀z u,jz ph ρ z u->r u<r z)->r (ρ v)<n->ρ w=w/\ph w=none
 |0,v,w,_,_,h=>Ω
 |n+1,v,w,h,aM,au=>by
  simp only[n3]at h;cases e:ph (ρ v)with
  |none=>rw[e]at h;simp[T.occ]at h;subst h;exact⟨e8 v,e⟩
  |some t=>rw[e]at h;obtain⟨u,J,U⟩:=BY.1 h;have:=aM (ρ v) (ρ u) ⟨e8 v,t,u,e,J,rfl⟩;exact Ve e8 n u w U aM Ω
section
variable {V:List Int} {ph:Int->Option T} {ρ:Int->Int} {r:Int->Nat}
def uW(ph:Int->Option T)(ρ:Int->Int)(r:Int->Nat)(V:List Int):List ai:=((r3 V).filter (oQ ph ρ)).map fun v=>⟨v,ho ph ρ r v⟩
theorem PK(au:V.Nodup):gO (uW ph ρ r V):=by unfold uW;rw[gO,List.pairwise_map];exact((apa au).filter _)
theorem aaa(au:V.Nodup)(hc:pk V ph)(cU:∀v,v∉V->ρ v=v)(v:Int):cO (uW ph ρ r V) v=if oQ ph ρ v then some (ho ph ρ r v)else none:=by
 by_cases ad:oQ ph ρ v=true
 ·rw[if_pos ad];have az:v∈V:=by
   refine Classical.byContradiction fun h=>?_;have J:=cU v h;have U:ph v=none:=by cases e:ph v with
    |none=>rfl
    |some t=>exact absurd (hc v t e).2.2 h
   rw[Gk.2 ⟨J,U⟩]at ad;cases ad
  have:(⟨v,ho ph ρ r v⟩:ai)∈uW ph ρ r V:=hR.2 ⟨v,ia.2 ⟨(Fz V).mem_iff.2 az,ad⟩,rfl⟩;exact pn (PK au) this
 ·rw[if_neg ad];refine wO.2 fun b gd e=>?_;obtain⟨u,J,rfl⟩:=hR.1 gd;simp only at e;subst e;exact ad (ia.1 J).2
theorem aoY(au:V.Nodup)(hc:pk V ph)(cU:∀v,v∉V->ρ v=v)(e8:∀v,ρ (ρ v)=ρ v)(hle:∀v,ρ v<=v)(aM:∀z u,jz ph ρ z u->r u<r z):e1 (uW ph ρ r V):=by
 refine⟨PK au,fun b ad w hw=>?_,fun b ad w hw=>?_⟩
 ·obtain⟨u,J,rfl⟩:=hR.1 ad;rw[aaa au hc cU];have:=Ve e8 _ u w hw aM Ω;rw[Gk.2 this];rfl
 ·obtain⟨u,J,rfl⟩:=hR.1 ad;have od:=(ia.1 J).2;simp only at hw⊢;cases e:ph (ρ u)with
  |none=>
   rw[Dv e]at hw;cases hw;have U:=hle u;have h3:ρ u≠u:=fun h=>by rw[Gk.2 ⟨h,by rw[h]at e;exact e⟩]at od;cases od
   omega
  |some t=>rw[AZ e8 aM e]at hw;have:=(hc _ _ e).1;cases t<;>simp[T.ap,T.kind]at hw this
theorem ahk(e8:∀v,ρ (ρ v)=ρ v)(aM:∀z u,jz ph ρ z u->r u<r z)(θ:Int->T):kN ph ρ θ↔∀v,θ v=(ho ph ρ r v).ap θ:=by
 constructor
 ·intro h;have:∀(n:Nat) (v:Int),r (ρ v)<n->θ v=(ho ph ρ r v).ap θ:=by
   intro n;induction n with
   |zero=>intro v h;omega
   |succ n bN=>
    intro v az;cases e:ph (ρ v)with
    |none=>rw[Dv e];exact h.1 v
    |some t=>rw[AZ e8 aM e,Au,h.1 v,h.2 _ t (e8 v) e];refine nY fun w hw=>bN w ?_;have:=aM (ρ v) (ρ w) ⟨e8 v,t,w,e,hw,rfl⟩;omega
  exact fun v=>this _ v (Nat.lt_succ_self _)
 ·intro h;refine⟨fun v=>by rw[h v,h (ρ v),<-AY e8],fun x t ab aI=>?_⟩;rw[h x,AZ e8 aM (by rw[ab];exact aI),Au];exact nY fun w _=>(h w).symm
theorem aoX(au:V.Nodup)(hc:pk V ph)(cU:∀v,v∉V->ρ v=v)(e8:∀v,ρ (ρ v)=ρ v)(aM:∀z u,jz ph ρ z u->r u<r z)(θ:Int->T):dR (uW ph ρ r V) θ↔kN ph ρ θ:=by
 rw[ahk e8 aM,PN (PK au)];refine forall_congr' fun v=>?_;rw[aR,aaa au hc cU];cases e:oQ ph ρ v with
 |true=>simp
 |false=>obtain⟨J,U⟩:=Gk.1 e;rw[Dv (by rw[J];exact U),J];simp
end
theorem ao5(E:List (T×T))(bz:Oe E):∃n o,Cw n E=some o/\jm [] E o/\∀c,qF n E bu.new=some (true,c)->(cv c.up).Nodup/\(∀v∈cv c.up,∃e∈E,e.1.occ v=true\/e.2.occ v=true)/\c.size=[]:=by
 have hi:mH bu.new id:=⟨⟨fun v u h=>by simp[bu.new,tg]at h,fun v _=>rfl⟩,fun x t h=>by simp[bu.new,bu.ph,bu.shd,tg]at h,⟨.var,fun v=>rfl,fun x t _ h=>by simp[bu.new,bu.ph,bu.shd,tg]at h⟩⟩;have vA:∀θ,kN bu.new.ph id θ:=fun θ=>⟨fun v=>rfl,fun x t _ h=>by simp[bu.new,bu.ph,bu.shd,tg]at h⟩;obtain⟨h1,ei,a1,cP,c8,jv⟩:=Df E bu.new id hi (by simp[bu.new,cv]) bz;obtain⟨cP,YG⟩:=cP;obtain⟨f,c⟩:=ei;cases f with
 |false=>refine⟨h1,none,by simp[Cw,a1 h1 (dZ _)],Ga fun θ _ he=>jv rfl θ (vA θ) he,fun c h=>?_⟩;rw[a1 h1 (dZ _)]at h;cases h
 |true=>
  obtain⟨ρ,bA,a2,a3⟩:=c8 rfl;simp only at bA a2 a3 cP YG;have VE:∀n,h1<=n->∀cq,qF n E bu.new=some (true,cq)->(cv cq.up).Nodup/\(∀v∈cv cq.up,∃e∈E,e.1.occ v=true\/e.2.occ v=true)/\cq.size=[]:=fun n au cq h=>by rw[a1 n au]at h;cases h;exact⟨a2,fun v az=>(YG v az).resolve_left (by simp[bu.new,cv]),cP.2.1⟩
  obtain⟨r,aM⟩:=bA.rank;have e8:=bA.ru.idem;have hL:∀v∈cv c.up,ρ v∈cv c.up:=fun v az=>(bA.ru.mem az).1;have dG:vb (cv c.up) c.ph ρ c:=⟨bA.ru,rfl,rfl⟩;have hw:∀d,rn (cv c.up) c.ph ρ r d c:=fun d=>⟨dG,fun z _=>.inl (by simp[bu.col,cP.1,bu.new,tg])⟩;obtain⟨jB,cw,o,b1,b2,gp,vk,b5⟩:=aoV bA.sh e8 aM hL (r3 (cv c.up)) c [] (fun v az=>(Fz _).mem_iff.1 az) hw Ψ (fun v az=>by simp at az);have dp:=aoY (r:=r) a2 bA.sh bA.ru.no e8 bA.ru.le aM;have iy:∀θ,dR (uW c.ph ρ r (cv c.up)) θ↔dR [] θ/\ir E θ:=fun θ=>by rw[aoX a2 bA.sh bA.ru.no e8 aM,a3 θ];exact⟨fun h=>⟨fun b ad=>by simp at ad,h.2⟩,fun h=>⟨vA θ,h.2⟩⟩
  have VG:ga (uW c.ph ρ r (cv c.up))↔(([]++(r3 (cv c.up)).filter (oQ c.ph ρ)).length<=400/\∀v∈[]++(r3 (cv c.up)).filter (oQ c.ph ρ),(ho c.ph ρ r v).size<=5000):=by unfold ga uW;simp only[List.length_map,bU,hR,forall_exists_index,and_imp,forall_apply_eq_imp_iff₂]
  cases o with
  |none=>refine⟨max h1 jB,none,by simp[Cw,a1 (max h1 jB) Ω,Fw,b1 (max h1 jB) Ω],?_,VE _ Ω⟩;exact fun ah J U h3=>b5 rfl (VG.1 (UD dp J (fun θ fY=>(iy θ).2 (U θ fY)) h3))
  |some l=>
   obtain⟨aq,aF,bB⟩:=vk l rfl;have ajd:sg (cv c.up) c.ph ρ r cw:=⟨b2,fun x t h=>by rw[gp,cP.2.2]at h;simp[bu.new,tg]at h⟩;simp only[bU]at aq;obtain⟨Am,dC,d1⟩:=aoW bA.sh e8 aM hL l cw (fun v az=>by rw[aq]at az;exact(Fz _).mem_iff.1 (ia.1 az).1) ajd;refine⟨max (max h1 jB) Am,some (uW c.ph ρ r (cv c.up)),?_,⟨⟨dp,VG.2 ?_⟩,iy⟩,VE _ Ω⟩
   ·simp only[Cw,a1 (max (max h1 jB) Am) Ω,jy,Bool.true_eq_false,if_false,Fw,b1 (max (max h1 jB) Am) Ω,d1 (max (max h1 jB) Am) Ω,oK];rw[aq];rfl
   ·rw[bU,<-aq];exact⟨aF,bB⟩
def gf(s:List ai):List (T×T):=s.map fun b=>(.var b.v,b.t)
theorem Cv{s:List ai}{θ:Int->T}:ir (gf s) θ↔dR s θ:=by simp[ir,gf,dR,T.ap]
theorem ab7{s:List ai}{E:List (T×T)}{o:Option (List ai)}:jm [] (gf s++E) o↔jm s E o:=by
 have h:∀θ,(dR [] θ/\ir (gf s++E) θ)↔(dR s θ/\ir E θ):=fun θ=>by rw[Fx,Cv];exact⟨fun h=>h.2,fun h=>⟨fun b ad=>by simp at ad,h⟩⟩
 exact⟨Aq h,Aq fun θ=>(h θ).symm⟩
end
section
open Go
open Classical in
noncomputable def mgu(s:List ai)(E:List (T×T)):Option (List ai):=if h:∃o,jm s E o then h.choose else none
theorem qo{s:List ai}{E:List (T×T)}{o:Option (List ai)}(h:jm s E o):mgu s E=o:=by have ab:∃o,jm s E o:=⟨o,h⟩;unfold mgu;rw[dif_pos ab];exact ab8 ab.choose_spec h
def kW(s:List ai):Prop:= ∀b∈s,(0<=b.v/\b.v<=100000)/\b.t.ok=true
theorem KB{θ:Int->T}{t:T}(aI:t.ok=true)(h:∀v,t.occ v=true->(θ v).ok=true):(t.ap θ).ok=true:=by
 induction t with
 |var n=>exact h n (by simp[T.occ])
 |pair a b dz dA=>simp only[T.ok,cr]at aI;simp only[T.ap,T.ok,cr];exact⟨dz aI.1 fun v az=>h v (by simp[T.occ,az]),dA aI.2 fun v az=>h v (by simp[T.occ,az])⟩
 |_=>exact aI
theorem yf{t:T}(aI:t.ok=true){v:Int}(h:t.occ v=true):0<=v/\v<=100000:=by
 induction t with
 |var n=>simp[T.occ]at h;subst h;simpa[T.ok]using aI
 |pair a b dz dA=>
  simp only[T.ok,cr]at aI;simp only[T.occ,lP]at h;rcases h with h|h
  ·exact dz aI.1 h
  ·exact dA aI.2 h
 |_=>simp[T.occ]at h
theorem Fs{s:List ai}(af:kW s){t:T}(aI:t.ok=true):(t.ap (aR s)).ok=true:=KB aI fun v az=>by
 unfold aR;cases e:cO s v with
 |none=>have:=yf aI az;simpa[T.ok]using this
 |some x=>exact(af _ (iG e)).2
theorem C2{s:List ai}(af:kW s){v:Int}{t:T}(az:0<=v/\v<=100000)(aI:t.ok=true){ah:List ai}(h:oP s v t=some ah):kW ah:=by
 unfold oP at h;split at h
 ·cases h;intro b ad;rcases q4.1 ad with rfl|⟨c,ao,rfl⟩
  ·exact⟨az,Fs af aI⟩
  ·refine⟨(af c ao).1,KB (af c ao).2 fun w hw=>?_⟩;unfold one;split
   ·exact Fs af aI
   ·have:=yf (af c ao).2 hw;simpa[T.ok]using this
 ·cases h
theorem abr{s:List ai}(af:kW s){t:T}(aI:t.ok=true):(hF s t).ok=true:=by
 cases t with
 |var n=>have:=Fs af aI;simpa[hF,T.ap]using this
 |_=>exact aI
theorem P6:∀(n:Nat) (s:List ai) (a b:T) (ah:List ai),kW s->a.ok=true->b.ok=true->lq n s a b=some (some ah)->kW ah
 |0,_,_,_,_,_,_,_,h=>by simp[lq]at h
 |n+1,s,a,b,ah,af,bg,ad,h=>by
  have ab:=abr af bg;have aC:=abr af ad;simp only[lq]at h;generalize hF s a=x at h ab;generalize hF s b=y at h aC;have sU:∀{i:Int},(T.var i).ok=true->0<=i/\i<=100000:=fun h=>yf h (by simp[T.occ]);cases x with
  |var i=>
   cases y with
   |var j=>
    simp only[kJ,dE]at h;split at h
    ·exact C2 af (sU aC) ab h
    ·split at h
     ·cases h;exact af
     ·exact C2 af (sU ab) aC h
   |_=>simp only[kJ,dE]at h;exact C2 af (sU ab) aC h
  |pair bA a2=>
   cases y with
   |var j=>simp only[kJ,dE]at h;exact C2 af (sU aC) ab h
   |pair b1 b2=>
    simp only[T.ok,cr]at ab aC;simp only[kJ]at h;split at h
    ·cases h
    ·cases h
    ·rename_i s1 aq;exact P6 n s1 a2 b2 ah (P6 n s bA b1 s1 af ab.1 aC.1 aq) ab.2 aC.2 h
   |_=>simp[kJ]at h
  |_=>
   cases y with
   |var j=>simp only[kJ,dE]at h;exact C2 af (sU aC) ab h
   |_=>
    simp only[kJ,dE]at h;split at h
    ·cases h;exact af
    ·cases h
def oF:T->List Int
 | .var n=>[n]
 | .pair a b=>oF a++oF b
 |_=>[]
theorem zr{t:T}{v:Int}(h:t.occ v=true):v∈oF t:=by
 induction t with
 |var n=>simp[T.occ]at h;subst h;simp[oF]
 |pair a b dz dA=>simp only[T.occ,lP]at h;simp only[oF,hQ];exact h.imp dz dA
 |_=>simp[T.occ]at h
theorem JO{s:List ai}(af:e1 s)(aN:ga s)(a b:T):∃n o,lq n s a b=some o/\jm s [(a,b)] o:=by obtain⟨n,o,J,U⟩:=aaD (s.flatMap (fun b=>b.v::oF b.t)++oF a++oF b) _ _ s a b af aN (fun c ao=>⟨by simp only[hQ,List.mem_flatMap];exact .inl (.inl ⟨c,ao,Ψ⟩),fun w hw=>by simp only[hQ,List.mem_flatMap];exact .inl (.inl ⟨c,ao,by simp[zr hw]⟩)⟩) (fun w hw=>by simp[zr hw]) (fun w hw=>by simp[zr hw]) rfl rfl;exact⟨n,o,J,U.1⟩
theorem QV{s:List ai}{e:T×T}{E:List (T×T)}{s1:List ai}(h:jm s [e] (some s1)){o:Option (List ai)}(U:jm s1 E o):jm s (e::E) o:=Ko (E:=[e]) h U
theorem xI{s:List ai}(af:e1 s)(aN:ga s)(E:List (T×T)):jm s E (mgu s E):=by
 induction E generalizing s with
 |nil=>rw[qo (Kp af aN)];exact Kp af aN
 |cons e E bN=>
  obtain⟨n,o,_,U⟩:=JO af aN e.1 e.2;cases o with
  |none=>have h3:jm s (e::E) none:=Gb E U;rw[qo h3];exact h3
  |some s1=>have h3:=QV U (bN U.1.1 U.1.2);rw[qo h3];exact h3
theorem EH{s:List ai}(af:e1 s)(aN:ga s):mgu s []=some s:=qo (Kp af aN)
theorem N4{s:List ai}(af:e1 s)(aN:ga s)(e:T×T)(E:List (T×T)):mgu s (e::E)=match mgu s [e]with|some s1=>mgu s1 E|none=>none:=by
 have J:=xI af aN [e];cases h:mgu s [e]with
 |none=>rw[h]at J;have h3:jm s (e::E) none:=Gb E J;exact qo h3
 |some s1=>rw[h]at J;exact qo (QV J (xI J.1.1 J.1.2 E))
theorem q5{s:List ai}(af:e1 s)(aN:ga s){E:List (T×T)}{ah:List ai}(h:mgu s E=some ah):e1 ah/\ga ah:=by have J:=xI af aN E;rw[h]at J;exact J.1
theorem akH{s:List ai}(af:e1 s)(aN:ga s)(ay:kW s){E:List (T×T)}(c1:∀e∈E,e.1.ok=true/\e.2.ok=true){ah:List ai}(h:mgu s E=some ah):kW ah:=by
 induction E generalizing s with
 |nil=>rw[EH af aN]at h;cases h;exact ay
 |cons e E bN=>
  rw[N4 af aN]at h;split at h
  ·rename_i s1 J;obtain⟨n,o,U,h3⟩:=JO af aN e.1 e.2;have h4:=qo h3;rw[J]at h4;subst h4;exact bN h3.1.1 h3.1.2 (P6 n s e.1 e.2 s1 ay (c1 e Ψ).1 (c1 e Ψ).2 U) (fun fE he=>c1 fE (by simp[he])) h
  ·cases h
theorem W1{l:List Int}(au:l.Nodup)(h:∀v∈l,0<=v/\v<=100000):l.length<=100001:=by
 have J:(l.map Int.toNat).Nodup:=by rw[List.nodup_iff_pairwise_ne,List.pairwise_map];exact aq6 (fun{a b} bg ad cA e=>cA (by have:=h a bg;have:=h b ad;omega)) au
 have:=FW J (l₂:=List.range 100001) (fun x ab=>by obtain⟨v,az,rfl⟩:=hR.1 ab;have:=h v az;simp;omega)
 simpa using this
end
end Go.Pv
namespace Go.Proofs.YtohaalphocaebaaGreatDoor
section
open Go Go.Pv
theorem PQ(p:Nat->Bool)(n:Nat)(hm:∀k bI,k<=bI->bI<n->p k=true->p bI=true):∀(m i j:Nat),j-i<=m->i<=j->j<=n->(∀k,k<i->p k=false)->(∀k,j<=k->k<n->p k=true)->
  (i<=nf p i j/\nf p i j<=j)/\(∀k,k<nf p i j->p k=false)/\(∀k,nf p i j<=k->k<n->p k=true)
 |m,i,j,aG,mj,ag,J,U=>by
  rw[nf];split
  ·rename_i bs;obtain⟨m,rfl⟩:∃hM,m=hM+1:=⟨m-1,Ω⟩;split
   ·rename_i bF;have:=PQ p n hm m i ((i+j)/2) Ω Ω Ω J (fun k ae Hs=>hm _ k ae Hs bF);exact⟨⟨this.1.1,Ω⟩,this.2⟩
   ·rename_i bF;have:=PQ p n hm m ((i+j)/2+1) j Ω Ω ag (fun k ae=>by
     by_cases nD:p k=true
     ·exact absurd (hm k ((i+j)/2) Ω Ω nD) bF
     ·simpa using nD) U
    exact⟨⟨Ω,this.1.2⟩,this.2⟩
  ·obtain rfl:i=j:=Ω
   exact⟨⟨dZ _,dZ _⟩,J,U⟩
theorem IJ{l:List ai}(af:gO l)(v:Int):rX l v=cO l v:=by
 have bs:∀(i j:Nat) (x y:ai),i<j->l[i]? =some x->l[j]? =some y->x.v<y.v:=by intro i j x y mj ab aC;obtain⟨J,rfl⟩:=fD.1 ab;obtain⟨U,rfl⟩:=fD.1 aC;exact pY.1 af i j J U mj
 obtain⟨p,bF⟩:∃p:Nat->Bool,p=(fun i=>match l[i]? with|some b=>decide (v<=b.v)|none=>false):=⟨_,rfl⟩;have HB:∀i b,l[i]? =some b->p i=decide (v<=b.v):=fun i b ad=>by rw[bF];simp[ad]
 have hm:∀k bI,k<=bI->bI<l.length->p k=true->p bI=true:=by
  intro k bI ae nD h;have aq:l[k]? =some l[k]:=cg Ω;have aF:l[bI]? =some l[bI]:=cg nD;rw[HB k _ aq]at h;rw[HB bI _ aF];simp only[eN]at h⊢;rcases Nat.lt_or_eq_of_le ae with xm|rfl
  ·have:=bs k bI _ _ xm aq aF;omega
  ·exact h
 obtain⟨⟨_,hle⟩,hbef,haft⟩:=PQ p l.length hm l.length 0 l.length Ω Ω (dZ _) (fun k ae=>Ω) (fun k J U=>Ω);have Mu:ko l v=(match l[nf p 0 l.length]? with|some b=>if b.v=v then((nf p 0 l.length:Nat):Int)else-1|none=> -1):=by rw[bF];rfl
 generalize nf p 0 l.length=r at hle hbef haft Mu;by_cases hex:∃(k:Nat) (b:ai),l[k]? =some b/\b.v=v
 ·obtain⟨k,b,ad,Vs⟩:=hex;have ij:k<l.length:=(fD.1 ad).1;have gJ:r<=k:=by
   rcases Nat.lt_or_ge k r with h|h
   ·have:=hbef k h;rw[HB k b ad]at this;simp at this;omega
   ·exact h
  have aM:l[r]? =some l[r]:=cg Ω;have Bl:=haft r (dZ _) Ω;rw[HB r _ aM]at Bl;simp only[eN]at Bl;have aiW:r=k:=by
   rcases Nat.lt_or_eq_of_le gJ with h|h
   ·have:=bs r k _ _ h aM ad;omega
   ·exact h
  subst aiW;have Mx:ko l v=r:=by rw[Mu,ad];simp[Vs]
  have J:rX l v=some b.t:=by unfold rX;rw[Mx,if_neg Ω];simp[ad]
  have U:l.find? (fun b=>b.v==v)=some b:=by
   rw[List.find?_eq_some_iff_getElem];refine⟨by simp[Vs],r,ij,?_,fun j ag=>?_⟩
   ·rw[cg ij]at ad;simpa using ad
   ·have:=bs j r l[j] b ag (cg Ω) ad;simp;omega
  rw[J];simp[cO,U]
 ·have U:l.find? (fun b=>b.v==v)=none:=by rw[List.find?_eq_none];intro b ad;obtain⟨k,ae,rfl⟩:=List.mem_iff_getElem.1 ad;simp;intro e;exact hex ⟨k,l[k],cg ae,e⟩
  have Mx:ko l v= -1:=by
   rw[Mu];split
   ·rename_i b ad;rw[if_neg (fun e=>hex ⟨r,b,ad,e⟩)]
   ·rfl
  unfold rX;rw[Mx];simp[cO,U]
theorem AV{l:List ai}(af:gO l)(v:Int):ko l v<0↔cO l v=none:=by
 rw[<-IJ af v];unfold rX;have J:=LU l v;by_cases h:ko l v<0
 ·simp[h]
 ·simp only[h,if_false,false_iff];intro e;rw[Option.map_eq_none_iff,List.getElem?_eq_none_iff]at e;omega
def wY(s:List ai):Prop:= ∀b∈s,b.t.fit=true
theorem agu{l:List ai}(af:gO l)(h:wY l)(v:Int):vv l v=(aR l v).size:=by
 unfold vv aR;rw[IJ af];cases ad:cO l v with
 |none=>simp[T.size]
 |some x=>have:=h _ (iG ad);simp only[T.fit,cr,eN]at this;simp only[iB];rw[Ix,if_pos ⟨this.1,Ω⟩]
theorem aoT{l:List ai}(af:gO l)(h:wY l)(t:T):l3 (vv l) t=cut (t.ap (aR l)).size:=by
 induction t with
 |var n=>simp only[l3,agu af h,T.ap];rfl
 |pair a b dz dA=>have ad:=T.size_pos (b.ap (aR l));simp only[l3,dz,dA,T.ap,T.size];unfold cut;(repeat' split)<;>omega
 |_=>simp[l3,T.ap,T.size,cut]
theorem ann{l:List ai}(af:gO l)(h:wY l)(t:T):uR l t=decide ((t.ap (aR l)).size<=5000):=by unfold uR;rw[aoT af h];unfold cut;split<;>simp<;>omega
theorem ano{l:List ai}(af:gO l)(t:T):E4 l t=t.ap (aR l):=by unfold E4;rw[PX];exact nY fun v _=>by rw[IJ af];rfl
theorem FI(l:List ai)(t:T)(av:l.length<=1000000)(af:gO l)(h:wY l):bK aw 29 [.slice 5 .no (l.map ai.e),t.e] (.tuple [(if(t.ap (aR l)).size<=5000 then t.ap (aR l)else .nil).e,.bool (decide ((t.ap (aR l)).size<=5000))]):=by have:=aqy l t av;rw[ann af h,ano af]at this;simpa using this
def Xr(l:List (Int×T)):List aj:=kj (l.map fun x=>(x.1,x.2.e))
@[simp]theorem atT:Xr []=kj []:=rfl
@[simp]theorem aus(l:List (Int×T)):h9 (Xr l)=false:=rfl
def Z8(x:Int×T):Bool:= !(decide (x.2= .var x.1))
end
end Go.Proofs.YtohaalphocaebaaGreatDoor
namespace Go.Proofs
section
open Go.Shelf
def Tryz.lays191_ren:Go.Shelf.Ren:=⟨fun|191=>190|189=>208|125=>169|257=>217|128=>194|129=>195|294=>219|295=>220|296=>221|297=>222|298=>223|299=>224|216=>225|300=>226|301=>227|328=>228|329=>229|330=>230|331=>231|332=>232|215=>233|343=>234|n=>n,fun|28=>97|0=>0|3=>3|46=>117|51=>181|53=>170|4=>4|183=>204|182=>203|131=>161|5=>5|9=>9|218=>209|222=>194|228=>212|229=>198|n=>n,fun|n=>n⟩
theorem Tryz.lays191:Go.Proofs.Lays.n191 aw Tryz.lays191_ren:={
 mixed:=by kernel_rfl
 f125:=Tryz.func169.trans (eW some co)
 f128:=Tryz.func194.trans (eW some co)
 f129:=Tryz.func195.trans (eW some co)
 f189:=Tryz.func208.trans (eW some co)
 f191:=Tryz.func190.trans (eW some co)
 f215:=Tryz.func233.trans (eW some co)
 f216:=Tryz.func225.trans (eW some co)
 f257:=Tryz.func217.trans (eW some co)
 f294:=Tryz.func219.trans (eW some co)
 f295:=Tryz.func220.trans (eW some co)
 f296:=Tryz.func221.trans (eW some co)
 f297:=Tryz.func222.trans (eW some co)
 f298:=Tryz.func223.trans (eW some co)
 f299:=Tryz.func224.trans (eW some co)
 f300:=Tryz.func226.trans (eW some co)
 f301:=Tryz.func227.trans (eW some co)
 f328:=Tryz.func228.trans (eW some co)
 f329:=Tryz.func229.trans (eW some co)
 f330:=Tryz.func230.trans (eW some co)
 f331:=Tryz.func231.trans (eW some co)
 f332:=Tryz.func232.trans (eW some co)
 f343:=Tryz.func234.trans (eW some co)
 t0:=Tryz.underlying0
 a0:=Tryz.isAgg0
 z0:=Tryz.sizeOf0
 v0:=Tryz.zeroValue0
 t3:=Tryz.underlying3
 a3:=Tryz.isAgg3
 z3:=Tryz.sizeOf3
 v3:=Tryz.zeroValue3
 t4:=Tryz.underlying4
 a4:=Tryz.isAgg4
 z4:=Tryz.sizeOf4
 v4:=Tryz.zeroValue4
 t5:=Tryz.underlying5
 a5:=Tryz.isAgg5
 z5:=Tryz.sizeOf5
 v5:=Tryz.zeroValue5
 t9:=Tryz.underlying9
 a9:=Tryz.isAgg9
 z9:=Tryz.sizeOf9
 v9:=Tryz.zeroValue9
 t28:=Tryz.underlying97
 a28:=Tryz.isAgg97
 z28:=Tryz.sizeOf97
 v28:=Tryz.zeroValue97
 t46:=Tryz.underlying117
 a46:=Tryz.isAgg117
 z46:=Tryz.sizeOf117
 v46:=Tryz.zeroValue117
 t51:=Tryz.underlying181
 a51:=Tryz.isAgg181
 z51:=Tryz.sizeOf181
 v51:=Tryz.zeroValue181
 t53:=Tryz.underlying170
 a53:=Tryz.isAgg170
 z53:=Tryz.sizeOf170
 v53:=Tryz.zeroValue170
 t131:=Tryz.underlying161
 a131:=Tryz.isAgg161
 z131:=Tryz.sizeOf161
 v131:=Tryz.zeroValue161
 t182:=Tryz.underlying203
 a182:=Tryz.isAgg203
 z182:=Tryz.sizeOf203
 v182:=Tryz.zeroValue203
 t183:=Tryz.underlying204
 a183:=Tryz.isAgg204
 z183:=Tryz.sizeOf204
 v183:=Tryz.zeroValue204
 t218:=Tryz.underlying209
 a218:=Tryz.isAgg209
 z218:=Tryz.sizeOf209
 v218:=Tryz.zeroValue209
 t222:=Tryz.underlying194
 a222:=Tryz.isAgg194
 z222:=Tryz.sizeOf194
 v222:=Tryz.zeroValue194
 t228:=Tryz.underlying212
 a228:=Tryz.isAgg212
 z228:=Tryz.sizeOf212
 v228:=Tryz.zeroValue212
 t229:=Tryz.underlying198
 a229:=Tryz.isAgg198
 z229:=Tryz.sizeOf198
 v229:=Tryz.zeroValue198}
end
end Go.Proofs

namespace Go.Proofs.YtohaalphocaebaaGreatDoor
section
open Go Go.Pv
def eC(xs:List Int):List aj:=xs.map (aj.int .i64)
theorem ZQ{w:World}{Z:bc}:∀{xs:List Int} {us:List Value},dH w Z 1 (eC xs) us->us=xs.map (Value.int .i64)
 |[],us,h=>by simpa[eC,dH]using h
 |x::xs,us,h=>by simp only[eC,gZ,dH]at h;obtain⟨u,cj,rfl,⟨J,_,_⟩,U⟩:=h;simp only[a8]at J;subst J;rw[ZQ U];rfl
theorem WE(w:World)(Z:bc):∀xs:List Int,dH w Z 1 (eC xs) (xs.map (Value.int .i64))
 |[]=>by simp[eC,dH]
 |x::xs=>by simp only[eC,gZ,dH];exact⟨.int .i64 x,_,rfl,⟨by simp[a8],rfl,by intro c ao;simp[pX]at ao;subst ao;rfl⟩,WE w Z xs⟩
def nV(K:Nat)(xs:List Int):cT:=⟨[],[(.obj K,⟨xs.length,3,1,some (eC xs)⟩)]⟩
theorem uF(S:aL->Prop)(xs:List Int):aO S (eC xs):=by
 induction xs with
 |nil=>simp[eC,aO]
 |cons x r bN=>simp only[eC,gZ,aO,aJ];exact⟨trivial,bN⟩
theorem Ki(K:Nat)(xs:List Int):dP (nV K xs):=by unfold nV;refine dP.of ⟨by intro m;simp[Pv.look],by intro m;simp[Pv.look]⟩ Ψ ?_;intro x ab ys aC;simp at ab;subst ab;simp at aC;subst aC;exact uF _ xs
def r2(xs:List Int):List Int:=xs.mergeSort fun x y=>decide (x<=y)
theorem aai(xs:List Int):(r2 xs).length=xs.length:=List.length_mergeSort xs
theorem ag9(K:Nat)(xs:List Int)(av:xs.length<=1000000):bG aw 190 [.row 1 (.obj K) xs.length] (nV K xs) fun r ah=>r= .tuple []/\ah=nV K (r2 xs):=by
 refine bG.sem (Ki K xs).obj fun w Z a7 lf aM=>?_;refine .inl ⟨⟨Tryz.f190,Tryz.func190,by kernel_rfl,by kernel_rfl⟩,?_⟩;have sS:=aM.slot 0;simp only[j2,Pv.get,if_true]at sS;have lF:Pv.look (.obj K) (nV K xs).e=some ⟨xs.length,3,1,some (eC xs)⟩:=by simp[nV,Pv.look]
 obtain⟨v,us,a1,bm,bW,cZ⟩:=aM.good.own (.obj K) _ lF;obtain⟨c6,o1,wm⟩:=cZ _ rfl;have rL:=ZQ o1;subst rL;simp only[a8]at sS;obtain⟨⟨b0,acT,sG⟩,_,n',u,aq,aF,bB⟩:=sS;rw[a1]at aq;simp only[dE,j7]at aq;obtain⟨rfl,rfl⟩:=aq;have az:=bB rfl;have ajb:a7= #[v]:=by
  have J:a7.size=1:=by simpa using lf
  apply Array.ext (by simpa using J);intro i U h3;simp at h3;subst h3;rw[<-az];simp[Array.getD,J]
 have cA:v≠ .slice none 0 0:=by rw[<-az,sG];simp
 obtain⟨g,cap,rfl,_,rG,qQ,ah5,DN,DA⟩:=Lib.holds_of_ownsRow bm cA;have ao:=Any.sort_Ints Tryz.lays191 g 0 cap xs w DA rG Ω;subst ajb;refine ao.mono ?_;rintro e w' ⟨rfl,n,os,rfl⟩;have qT:=aai xs;have mo:=Lib.ownsRow_putRow (q:=n) (k:=xs.length) (ys:=r2 xs) bm qT (dZ _);rw[hl Ω]at mo;obtain⟨cP,c8,_⟩:=aM.setRowM (w':=Sort.putRow (Value.int .i64) (Sort.ahead w n) g 0 (r2 xs).toArray) lF rfl a1 (bl:=g) rfl (v':= .slice (some ⟨g,0,none⟩) xs.length cap) rfl (xs':=eC (r2 xs)) (us:=(r2 xs).map (Value.int .i64)) (.inl ⟨by simp[eC,qT],rfl⟩) rfl rfl rfl
  (fun j ag=>by simp[Sort.putRow,Sort.mapBlock,Sort.ahead,Array.getElem?_modify,lR ag]) (by simp[Sort.putRow,Sort.mapBlock,Sort.ahead]) (by simpa[eC,qT]using mo) (WE _ _ _)
 have jv:=cP.grown (w':=Sort.grow (Sort.putRow (Value.int .i64) (Sort.ahead w n) g 0 (r2 xs).toArray) os) ⟨rfl,rfl,rfl,Ψ,fun k ae _=>Sort.heap_grow_old _ _ ae⟩;refine⟨_,_,_,_,.tuple [],nV K (r2 xs),rfl,jv,by simp[a8,cX],by simp[nV,kx],?_,?_,?_,(Ki K _).obj,by simp[aJ,aO],rfl,rfl⟩
 ·simp[nV,kx,inObs,Pv.look]
 ·intro k cs ae;simp[nV,Pv.look]at ae
 ·intro k o ae;have hm:=uH ae;simp[nV]at hm;obtain⟨rfl,rfl⟩:=hm;refine⟨by simp[nV,Pv.look,cB,eC,qT],.inr (by simp[ae]),fun ys aC=>?_⟩;simp at aC;subst aC;exact uF _ _
def mc(l:List Int):List aj:=kj (l.map fun x=>(x,.bool true))
theorem mY(S:aL->Prop)(l:List Int):aO S (mc l):=by
 have:∀l:List Int,aO S (k6 (l.map fun x=>(x,.bool true))):=by
  intro l;induction l with
  |nil=>simp[k6,aO]
  |cons x r bN=>simp[k6,aO,bN,aJ]
 simp[mc,kj,aO,this,aJ]
def Ge(v:Int)(l:List Int):List Int:=if v∈l then l else l++[v]
theorem Ra(k:Int):∀l:List Int,p5 k (.bool true) (l.map fun x=>(x,aj.bool true))=if k∈l then some (l.map fun x=>(x,aj.bool true))else none
 |[]=>rfl
 |i::r=>by
  by_cases h:k=i
  ·simp[p5,h]
  ·by_cases U:k∈r<;>simp[p5,h,U,Ra k r]
@[simp]theorem aud(k:Int)(l:List Int):ot .i (.int .i64 k) (.bool true) (mc l)=some (mc (Ge k l)):=by
 simp only[mc,XV,Gh,Ra,Ge];split<;>rename_i h
 ·split at h
  ·simp at h;subst h;simp[*]
  ·cases h
 ·split at h
  ·cases h
  ·simp[*]
@[simp]theorem arn:mc []=kj []:=rfl
@[simp]theorem auq(l:List Int):h9 (mc l)=false:=rfl
@[simp]theorem auB(m:aL)(l:List Int):zK m (mc l)=some (cn l.length [] m):=by simp[mc]
theorem akv(f:aL->Option (List aj))(fF mk:aL)(n:Nat)(seen:List Nat)(b:Nat)(l:List Int)(x:Int)(hi:f fF=some (cn n (seen++[b]) mk))(hm:f mk=some (mc l))(au:n=l.length)(ab:l[b]? =some x):qn f (.ptr fF 0)=some (True,.tuple [.int .i64 x,.bool true]):=by rw[XA f fF mk n seen b _ hi hm (by simpa using au)];simp[ab]
theorem adp{st:bn}{d:Nat}{K:bn->Prop}{fF mk:aL}{n:Nat}{seen:List Nat}{l:List Int}(hi:Pv.look fF st.b=some (cn n seen mk))(hm:Pv.look mk st.b=some (mc l))(au:n=l.length)
  (J:(∀b,b<l.length->b∈seen)->K {st with t:=Pv.put d (.tuple [.bool false]) st.t}) (U:∀b x,l[b]? =some x->b∉seen->K {st with t:=Pv.put d (.tuple [.bool true,.int .i64 x,.bool true]) st.t,b:=cB fF (cn n (seen++[b]) mk) st.b}):
  tX st d (.ptr fF 0) K:=by
 refine Ua hi hm (by simpa using au) (fun h=>J fun b ad=>h b Ω) (fun b k v ad af=>?_);simp only[List.getElem?_map,gv]at ad;obtain⟨x,aq,aF⟩:=ad;simp only[j7]at aF;obtain⟨rfl,rfl⟩:=aF;exact U b x aq af
def _root_.Go.Pv.T.fold{α:Type}(f:Int->α->α):T->α->α
 | .var n,a=>f n a
 | .pair x y,a=>y.fold f (x.fold f a)
 |_,a=>a
theorem UT{α:Type}(S:α->cT)(dp:∀a,dP (S a))(ea:∀a b,Same (S a) (S b))(g:Nat)(dr:List aj)(ao:∀a,aO (inObs (S a)) dr)(dd:dq dr=dr)(f:Int->α->α)(aN:∀v a,bG aw g (.int .i64 v::dr) (S a) fun r ah=>r= .tuple []/\ah=S (f v a))(t:T):
  ∀a,bG aw 107 [t.e,.func g dr] (S a) fun r ah=>r= .tuple []/\ah=S (t.fold f a):=by
 have au:∀a m,Pv.look (.loc m) (S a).b=none:=fun a=>(dp a).obj.1;have hu:∀a m cs,cB (.loc m) cs (S a).b=(S a).b++[(.loc m,cs)]:=fun a m cs=>kK (au a m);have ay:∀a m,aL.loc m∉c5 (S a):=fun a=>kD (dp a).obj;induction t with
 |pair x y qk s5=>intro a;have af:=dp a;refine bG.mk mixed fT AO B0 Ψ af.obj fun aQ cI=>?_;unfold yz;simp[hu,ay,cV,au,dd];(with_reducible repeat' first|refine ak ?_|simp[hu,ay,cV,au]);refine cQ.ob (qk a) af aH aH (by simp[ao]) ?_;rintro r ah ⟨rfl,rfl⟩;refine⟨ea _ _,?_⟩;simp[ht,jg,cb,au];(with_reducible repeat' first|refine ak ?_|simp[hu,ay,cV,au]);rw[dd];refine cQ.ob (s5 (x.fold f a)) (dp (x.fold f a)) aH aH (by simp[ao]) ?_;rintro r ah ⟨rfl,rfl⟩;refine⟨ea _ _,?_⟩;simp[ht,jg,cb,au];refine cL.at (S (y.fold f (x.fold f a))) (.inr rfl) (dp _) (ea _ _) aH aH ?_;simp[cM,zG,aV,aY,aU];simp[T.fold]
 |var n=>intro a;have af:=dp a;refine bG.mk mixed fT AO B0 Ψ af.obj fun aQ cI=>?_;unfold yz;simp[hu,ay,cV,au,dd];(with_reducible repeat' first|refine ak ?_|simp[hu,ay,cV,au]);refine cQ.ob (aN n a) af aH aH (by simp[ao]) ?_;rintro r ah ⟨rfl,rfl⟩;refine⟨ea _ _,?_⟩;simp[ht,jg,cb,au,cV];refine cL.at (S (f n a)) (.inr rfl) (dp _) (ea _ _) aH aH ?_;simp[cM,zG,aV,aY,aU];simp[T.fold]
 |_=>intro a;have af:=dp a;refine bG.mk mixed fT AO B0 Ψ af.obj fun aQ cI=>?_;unfold yz;simp[hu,ay,cV,au,dd];(with_reducible repeat' first|refine ak ?_|simp[hu,ay,cV,au]);refine cL.at (S a) (.inr rfl) af (Same.refl _) aH aH ?_;simp[cM,zG,aV,aY,aU];simp[T.fold]
def ve(l:List Int):cT:=⟨[(.obj 304,mc l)],[]⟩
theorem QS(l:List Int):dP (ve l):=by unfold ve;exact dP.of ⟨by intro m;simp[Pv.look],by intro m;simp[Pv.look]⟩ (by simp[mY,aO,aJ,inObs,Pv.look]) Ψ
def KO:C:=(aa [cW 1 0,bq 2 false] (.seq (.seq (.fz false 1 (.region [ax 6 1 1,cH 7 62 6,cx 8 7])) (aZ 8 (aa [bq 2 false] .ret) .skip)) (.seq (aa [ax 9 1 1,cD 10 9,cf 11 0] (ff 12 11 10 (.seq (.block 1 (aa [cC 13 5 9 11,aX 14 5 13,cR 4 iM,bD 5 4 14] (aa [cS (.alloc 5 (some 731) (.bool false)),cS (.store 1 (.t 5) (.c (.bool true)))] (aa [hZ 15 1 4 4,aX 16 4 15,bS 17 (.mkf 108 [.t 1,.t 5]),cc 18 107 16 17] (aa [ax 19 1 5,cx 20 19,I 21 20,ar 21 false (hZ 22 1 4 4),ar 21 false (aK 23 0 1 22),ar 21 false (ax 24 1 23),ar 21 false (aT 25 .eql 24 1),bT 21 false 26 25,ar 26 true (hZ 27 1 4 4),ar 26 true (aK 28 1 1 27),ar 26 true (ax 29 1 28),ar 26 true (aK 30 0 1 4),ar 26 true (ax 31 1 30),ar 26 true (bt 32 .geq 29 31),ar 21 false (dh 33 26 32),c3 34 21 33] (aZ 34 (aa [bq 2 false] .ret) .skip)))))) (.region [aT 35 .add 11 1,I 11 35])))) (aa [bq 2 true] .ret))))
@[simp] def anB:List bV:=[.tmp 2]
def RX:C:=(aa [eM 2 5] (aa [dV 6 5 54 [],I 3 6] (.seq (aa [I 7 0,cD 8 7,cf 9 0] (ff 10 9 8 (.seq (.block 1 (aa [cC 11 5 7 9,aX 12 5 11,cR 5 iM,bD 5 5 12] (.drawn true 24 [I 13 3,aK 14 0 1 5,ax 15 1 14,hZ 16 1 4 5,aX 17 4 16,cH 18 136 17,gY 19 iM [(0,1,(.t 15)),(1,4,(.t 18))],dV 20 5 54 [.t 19],gN 21 5 54 13 20,I 3 21]))) (.region [aT 22 .add 9 1,I 9 22])))) (aa [I 23 3,I 2 23] .ret))))
@[simp] def anH:List bV:=[.tmp 2]
def RA:C:=(aa [eM 4 5,bq 5 false] (.seq (aa [I 8 0,cH 9 53 8,cx 10 9,I 11 10,bT 11 false 12 1,ar 11 false (cH 13 53 12),ar 11 false (cx 14 13),c3 15 11 14] (aZ 15 (aa [eM 4 5,bq 5 false] .ret) .skip)) (aa [I 17 1,cH 18 137 17,I 16 18,cp 19 0 16,cp 20 1 16,I 6 19,I 7 20] (aa [I 21 0,I 22 6,I 23 7,c0 24 97 [.t 21,.t 22,.t 23],cp 25 0 24,cp 26 1 24,I 4 25,I 5 26] .ret))))
@[simp] def YR:List bV:=[.tmp 4,.tmp 5]
def RF:C:=(aa [eM 4 5] (.seq (aa [I 8 0,cH 9 53 8,cx 10 9,I 11 10,bT 11 false 12 1,ar 11 false (cH 13 53 12),ar 11 false (cx 14 13),c3 15 11 14] (aZ 15 (aa [eM 4 5] .ret) .skip)) (aa [dV 16 5 54 [],I 5 16] (.seq (aa [I 17 1,cD 18 17,cf 19 0] (ff 20 19 18 (.seq (.block 1 (aa [cC 21 5 17 19,aX 22 5 21,cR 7 iM,bD 5 7 22] (aa [I 23 0,aK 24 0 1 7,ax 25 1 24,cc 26 24 23 25,aT 27 .lss 26 0] (aZ 27 (.drawn true 39 [I 28 5,aK 29 0 1 7,ax 30 1 29,hZ 31 1 4 7,aX 32 4 31,cH 33 136 32,gY 34 iM [(0,1,(.t 30)),(1,4,(.t 33))],dV 35 5 54 [.t 34],gN 36 5 54 28 35,I 5 36]) .skip)))) (.region [aT 37 .add 19 1,I 19 37])))) (aa [I 38 5,I 4 38] .ret)))))
@[simp] def anz:List bV:=[.tmp 4]
def KU:C:=(aa [bq 4 false] (.seq (aa [I 6 0,cD 7 6,I 8 1,cD 9 8,bt 10 .neq 7 9] (aZ 10 (aa [bq 4 false] .ret) .skip)) (.seq (aa [I 11 0,cD 12 11,cf 13 0] (ff 14 13 12 (.seq (.block 1 (aa [I 15 13,I 5 15] (.seq (.drawn true 42 [I 16 0,I 17 5,cC 18 5 16 17,aK 19 0 1 18,ax 20 1 19,I 21 1,I 22 5,cC 23 5 21 22,aK 24 0 1 23,ax 25 1 24,bt 26 .neq 20 25,I 27 26,bT 27 false 28 0,bT 27 false 29 5,ar 27 false (cC 30 5 28 29),ar 27 false (hZ 31 1 4 30),ar 27 false (aX 32 4 31),bT 27 false 33 1,bT 27 false 34 5,ar 27 false (cC 35 5 33 34),ar 27 false (hZ 36 1 4 35),ar 27 false (aX 37 4 36),ar 27 false (cc 38 64 32 37),ar 27 false (cx 39 38),c3 40 27 39]) (aZ 40 (aa [bq 4 false] .ret) .skip)))) (.region [aT 41 .add 13 1,I 13 41])))) (aa [bq 4 true] .ret))))
@[simp] def Y3:List bV:=[.tmp 4]
def KP:C:=(aa [ax 4 1 1,I 5 0,cc 6 24 4 5,aT 7 .geq 6 0] (aZ 7 (.region [cS (.store 1 (.t 2) (.c (.bool false)))]) .skip))
@[simp] def OM:List bV:=[]
def RZ:C:=(aa [eM 2 4,eM 3 4] (aa [dV 8 4 36 [],I 4 8] (aa [dV 9 4 36 [],I 5 9] (.seq (aa [I 10 0,cD 11 10,cf 12 0] (ff 13 12 11 (.seq (.block 1 (aa [cC 14 5 10 12,aX 15 5 14,cR 7 iM,bD 5 7 15] (aa [I 16 4,aK 17 0 1 7,ax 18 1 17,cH 19 28 18,dV 20 4 36 [.t 19],gN 21 4 36 16 20,I 4 21] (.region [I 22 5,hZ 23 1 4 7,aX 24 4 23,dV 25 4 36 [.t 24],gN 26 4 36 22 25,I 5 26])))) (.region [aT 27 .add 12 1,I 12 27])))) (aa [I 28 4,I 29 5,I 2 28,I 3 29] .ret)))))
@[simp] def Y5:List bV:=[.tmp 2,.tmp 3]
def R8:C:=(aa [cf 4 0] (.seq (aa [cf 5 0] (.block 0 (.loop (.seq (aa [I 8 5,I 9 0,cD 10 9,bt 11 .lss 8 10,I 12 11,bT 12 true 13 5,bT 12 true 14 1,ar 12 true (cD 15 14),ar 12 true (bt 16 .lss 13 15),dh 17 12 16] (aZ 17 .skip (.exit 0))) (.seq (.block 1 (.seq (.seq (.drawn true 53 [I 20 0,I 21 5,cC 22 5 20 21,aK 23 0 1 22,ax 24 1 23,I 25 1,I 26 5,cC 27 5 25 26,aK 28 0 1 27,ax 29 1 28,cc 30 155 24 29,I 6 30]) (aa [I 31 6,aT 32 .neq 31 0] (aZ 32 (aa [I 33 6,I 4 33] .ret) .skip))) (.seq (.drawn true 53 [I 34 0,I 35 5,cC 36 5 34 35,hZ 37 1 4 36,aX 38 4 37,I 39 1,I 40 5,cC 41 5 39 40,hZ 42 1 4 41,aX 43 4 42,cc 44 117 38 43,I 7 44]) (aa [I 45 7,aT 46 .neq 45 0] (aZ 46 (aa [I 47 7,I 4 47] .ret) .skip))))) (.region [I 18 5,aT 19 .add 18 1,I 5 19])))))) (aa [I 48 0,cD 49 48,I 50 1,cD 51 50,cc 52 155 49 51,I 4 52] .ret)))
@[simp] def E5:List bV:=[.tmp 4]
def R4:C:=(aa [bq 4 false] (.seq (aa [I 11 0,cD 12 11,cf 13 0] (ff 14 13 12 (.seq (.block 1 (aa [cC 15 5 11 13,aX 16 5 15,cR 6 iM,bD 5 6 16] (aa [I 18 1,aK 19 0 1 6,ax 20 1 19,cH 21 28 20,cc 22 29 18 21,I 17 22,cp 23 0 17,cp 24 1 17,cR 7 da,bD 4 7 23,I 8 24] (aa [I 26 1,hZ 27 1 4 6,aX 28 4 27,cc 29 29 26 28,I 25 29,cp 30 0 25,cp 31 1 25,cR 9 da,bD 4 9 30,I 10 31] (aa [I 32 8,cx 33 32,I 34 33,bT 34 false 35 10,ar 34 false (cx 36 35),c3 37 34 36,I 38 37,ar 38 false (aX 39 4 7),ar 38 false (aX 40 4 9),ar 38 false (cc 41 64 39 40),ar 38 false (cx 42 41),c3 43 38 42] (aZ 43 (aa [bq 4 false] .ret) .skip)))))) (.region [aT 44 .add 13 1,I 13 44])))) (aa [bq 4 true] .ret)))
@[simp] def OO:List bV:=[.tmp 4]
def u0:List (Nat×dy):=[
 (3,⟨1,8,.int .i64,.int .i64 0⟩),
 (4,⟨1,1,.bool,.bool false⟩),
 (23,⟨1,24,.slice 54,.slice 5 .nil []⟩),
 (34,⟨1,24,.slice 36,.slice 4 .nil []⟩),
 (36,⟨4,56,.struct [(0,3),(1,3),(2,9),(3,34)],.agg [.int .i64 0,.int .i64 0,.str [],.slice 4 .nil []]⟩),
 (54,⟨5,64,.struct [(0,3),(1,36)],.agg [.int .i64 0,.int .i64 0,.int .i64 0,.str [],.slice 4 .nil []]⟩)]
theorem r6:fJ aw u0=true:=by kernel_rfl
theorem Yd:b6 u0 KO anB 1 Tryz.f53=true:=by kernel_rfl
theorem Uj:aw.funcs[(53:Nat)]? =some Tryz.f53:=Tryz.func53
theorem alA:b6 u0 RX anH 1 Tryz.f91=true:=by kernel_rfl
theorem aeJ:aw.funcs[(91:Nat)]? =some Tryz.f91:=Tryz.func91
theorem alb:b6 u0 RA YR 2 Tryz.f94=true:=by kernel_rfl
theorem aem:aw.funcs[(94:Nat)]? =some Tryz.f94:=Tryz.func94
theorem alg:b6 u0 RF anz 2 Tryz.f95=true:=by kernel_rfl
theorem aer:aw.funcs[(95:Nat)]? =some Tryz.f95:=Tryz.func95
theorem Yj:b6 u0 KU Y3 2 Tryz.f99=true:=by kernel_rfl
theorem Up:aw.funcs[(99:Nat)]? =some Tryz.f99:=Tryz.func99
theorem Ye:b6 u0 KP OM 3 Tryz.f108=true:=by kernel_rfl
theorem Uk:aw.funcs[(108:Nat)]? =some Tryz.f108:=Tryz.func108
theorem alC:b6 u0 RZ Y5 1 Tryz.f137=true:=by kernel_rfl
theorem aeL:aw.funcs[(137:Nat)]? =some Tryz.f137:=Tryz.func137
theorem alJ:b6 u0 R8 E5 2 Tryz.f140=true:=by kernel_rfl
theorem aeS:aw.funcs[(140:Nat)]? =some Tryz.f140:=Tryz.func140
theorem alF:b6 u0 R4 OO 2 Tryz.f141=true:=by kernel_rfl
theorem aeO:aw.funcs[(141:Nat)]? =some Tryz.f141:=Tryz.func141
def Si:C:=(aa [cR 2 da] (aa [I 3 0,gY 4 da [(0,1,(ef 1)),(1,1,(.t 3))],bD 4 2 4] .ret))
@[simp] def anO:List bV:=[.cell 2 true 4]
def R5:C:=(aa [bS 0 (.mov (.c (.nilp)))] (aa [cS (.mkmap 1 (some 702)),cS (.mkmap 2 (some 703)),cS (.mkmap 3 (some 704)),cS (.mkmap 4 (some 705)),cS (.mkmap 5 (some 706)),cS (.mkmap 6 (some 707)),bS 7 (.build [.junk,.junk,.junk,.junk,.junk,.junk] [(0,1,(.t 1)),(1,1,(.t 2)),(2,1,(.t 3)),(3,1,(.t 4)),(4,1,(.t 5)),(5,1,(.t 6))]),cW 8 7,I 0 8] (.fz true 0 .ret)))
@[simp] def Y8:List bV:=[.tmp 0]
def RT:C:=(aa [cf 4 0] (.seq (aa [I 8 0,eV 9 8,aK 10 0 1 9,ax 11 1 10,I 12 1,bS 13 (.mget .i (.int .i64 0) true (.t 11) (.t 12)),I 7 13,cp 14 0 7,cp 15 1 7,I 5 14,I 6 15] (aa [I 16 6,cx 17 16] (aZ 17 (.region [I 18 0,eV 19 18,aK 20 0 1 19,ax 21 1 20,I 22 1,I 23 1,cS (.mput .i (.t 21) (.t 22) (.t 23))]) .skip))) (.seq (.block 0 (.loop (.seq (aa [I 24 0,eV 25 24,aK 26 0 1 25,ax 27 1 26,I 28 1,bS 29 (.mget .i (.int .i64 0) false (.t 27) (.t 28)),I 30 1,bt 31 .neq 29 30] (aZ 31 .skip (.exit 0))) (.block 1 (.seq (.drawn true 55 [I 32 0,eV 33 32,aK 34 0 1 33,ax 35 1 34,I 36 1,I 37 0,eV 38 37,aK 39 0 1 38,ax 40 1 39,I 41 0,eV 42 41,aK 43 0 1 42,ax 44 1 43,I 45 1,bS 46 (.mget .i (.int .i64 0) false (.t 44) (.t 45)),bS 47 (.mget .i (.int .i64 0) false (.t 40) (.t 46)),cS (.mput .i (.t 35) (.t 36) (.t 47))]) (.region [I 48 0,eV 49 48,aK 50 0 1 49,ax 51 1 50,I 52 1,bS 53 (.mget .i (.int .i64 0) false (.t 51) (.t 52)),I 1 53])))))) (aa [I 54 1,I 4 54] .ret))))
@[simp] def YZ:List bV:=[.tmp 4]
def RP:C:=(aa [cW 2 0,cW 3 1] (.fz false 2 (.region [aX 4 4 3,bS 5 (.mkf 163 [.t 2]),cc 6 107 4 5])))
@[simp] def YW:List bV:=[]
def wR:C:=(aa [cW 4 1,cW 5 2,bq 6 false] (.seq (.block 0 (aa [aK 12 0 1 4,ax 13 1 12,aT 14 .eql 13 1,I 15 14,ar 15 true (aK 16 0 1 5),ar 15 true (ax 17 1 16),ar 15 true (aT 18 .eql 17 1),dh 19 15 18,I 11 19] (aZ 11 (aa [I 20 0,aK 21 1 1 4,ax 22 1 21,cc 23 143 20 22,I 7 23] (aa [I 24 0,aK 25 1 1 5,ax 26 1 25,cc 27 143 24 26,I 8 27] (.seq (aa [I 28 7,I 29 8,bt 30 .eql 28 29] (aZ 30 (aa [bq 6 true] .ret) .skip)) (.seq (aa [I 31 8,I 32 7,bt 33 .lss 31 32] (aZ 33 (.region [I 34 8,I 35 7,I 7 34,I 8 35]) .skip)) (aa [I 36 0,eV 37 36,aK 38 0 1 37,ax 39 1 38,I 40 8,I 41 7,cS (.mput .i (.t 39) (.t 40) (.t 41))] (.seq (aa [I 42 0,eV 43 42,aK 44 2 1 43,ax 45 1 44,I 46 8,bS 47 (.mget .i (.bool false) false (.t 45) (.t 46)),cx 48 47] (aZ 48 (aa [I 49 0,eV 50 49,aK 51 2 1 50,ax 52 1 51,I 53 7,bS 54 (.mget .i (.bool false) false (.t 52) (.t 53)),cx 55 54,I 56 55,bT 56 false 57 0,bT 56 false 58 0,ar 56 false (eV 59 58),ar 56 false (aK 60 1 1 59),ar 56 false (ax 61 1 60),bT 56 false 62 7,yj 56 false 63 (.mget .i (.agg da) false (.t 61) (.t 62)),bT 56 false 64 7,ys 56 false (.mkmap 65 (some 715)),ar 56 false (c0 66 164 [.t 57,.t 63,.t 64,.t 65]),ar 56 false (cx 67 66),c3 68 56 67,I 6 68] .ret) .skip)) (aa [I 69 0,eV 70 69,aK 71 1 1 70,ax 72 1 71,I 73 8,bS 74 (.mget .i (.agg da) false (.t 72) (.t 73)),cR 9 da,bD 4 9 74] (.seq (aa [I 75 0,eV 76 75,aK 77 2 1 76,ax 78 1 77,I 79 7,bS 80 (.mget .i (.bool false) false (.t 78) (.t 79)),cx 81 80] (aZ 81 (aa [I 82 0,I 83 7,aX 84 4 9,c0 85 165 [.t 82,.t 83,.t 84],I 6 85] .ret) .skip)) (.seq (.drawnW [715,716] 198 [I 86 0,aX 87 4 9,I 88 7,cS (.mkmap 89 (some 715)),c0 90 164 [.t 86,.t 87,.t 88,.t 89],cx 91 90,I 92 91,bT 92 true 93 0,bT 92 true 94 0,ar 92 true (eV 95 94),ar 92 true (aK 96 1 1 95),ar 92 true (ax 97 1 96),bT 92 true 98 7,yj 92 true 99 (.mgetB .i (.agg da) false (.t 97) (.t 98)),bT 92 true 100 7,ys 92 true (.mkmap 101 (some 716)),ar 92 true (c0 102 164 [.t 93,.t 99,.t 100,.t 101]),ar 92 true (cx 103 102),dh 104 92 103,I 105 104,bT 105 true 106 0,bT 105 true 107 0,ar 105 true (eV 108 107),ar 105 true (aK 109 1 1 108),ar 105 true (ax 110 1 109),bT 105 true 111 7,yj 105 true 112 (.mgetB .i (.agg da) false (.t 110) (.t 111)),ar 105 true (aX 113 4 9),ar 105 true (c0 114 145 [.t 106,.t 112,.t 113]),dh 115 105 114,I 6 115]) .ret))))))))) (aa [aK 117 0 1 4,ax 118 1 117,aT 119 .eql 118 1,I 116 119] (aZ 116 (aa [I 120 0,aK 121 1 1 4,ax 122 1 121,cc 123 143 120 122,I 10 123] (.seq (aa [I 124 0,eV 125 124,aK 126 2 1 125,ax 127 1 126,I 128 10,bS 129 (.mget .i (.bool false) false (.t 127) (.t 128)),cx 130 129] (aZ 130 (aa [I 131 0,I 132 10,aX 133 4 5,c0 134 165 [.t 131,.t 132,.t 133],I 6 134] .ret) .skip)) (.seq (.drawn false 198 [I 135 0,I 136 0,eV 137 136,aK 138 1 1 137,ax 139 1 138,I 140 10,bS 141 (.mgetB .i (.agg da) false (.t 139) (.t 140)),aX 142 4 5,c0 143 145 [.t 135,.t 141,.t 142],I 6 143]) .ret))) (aa [aK 145 0 1 5,ax 146 1 145,aT 147 .eql 146 1,I 144 147] (aZ 144 (aa [I 148 0,aX 149 4 5,aX 150 4 4,c0 151 145 [.t 148,.t 149,.t 150],I 6 151] .ret) (aa [aK 153 0 1 4,ax 154 1 153,aK 155 0 1 5,ax 156 1 155,bt 157 .neq 154 156,I 158 157,ar 158 false (aK 159 1 1 4),ar 158 false (ax 160 1 159),ar 158 false (aK 161 1 1 5),ar 158 false (ax 162 1 161),ar 158 false (bt 163 .neq 160 162),c3 164 158 163,I 165 164,ar 165 false (aK 166 2 1 4),ar 165 false (ax 167 1 166),ar 165 false (aK 168 2 1 5),ar 165 false (ax 169 1 168),ar 165 false (bt 170 .neq 167 169),c3 171 165 170,I 152 171] (aZ 152 (aa [bq 6 false] .ret) (aa [aK 173 0 1 4,ax 174 1 173,aT 175 .eql 174 4,I 172 175] (aZ 172 (.seq (.drawn false 198 [I 176 0,aK 177 3 1 4,ax 178 1 177,jh 179 4 178 0,aX 180 4 179,aK 181 3 1 5,ax 182 1 181,jh 183 4 182 0,aX 184 4 183,c0 185 145 [.t 176,.t 180,.t 184],I 186 185,bT 186 true 187 0,ar 186 true (aK 188 3 1 4),ar 186 true (ax 189 1 188),ar 186 true (jh 190 4 189 1),ar 186 true (aX 191 4 190),ar 186 true (aK 192 3 1 5),ar 186 true (ax 193 1 192),ar 186 true (jh 194 4 193 1),ar 186 true (aX 195 4 194),ar 186 true (c0 196 145 [.t 187,.t 191,.t 195]),dh 197 186 196,I 6 197]) .ret) .skip))))))))))) (aa [bq 6 true] .ret)))
@[simp] def o2:List bV:=[.tmp 6]
def RQ:C:=(.region [ax 3 1 1,I 4 0,cc 5 143 3 4])
@[simp] def YX:List bV:=[]
def RR:C:=(aa [cW 4 0,cW 5 1,cW 6 2,cW 7 3,bq 8 false] (aa [cS (.alloc 9 (some 712) (.bool false)),cS (.store 1 (.t 9) (.c (.bool false)))] (.seq (.fz false 7 (.fz false 6 (.fz false 4 (.region [aX 10 4 5,bS 11 (.mkf 189 [.t 4,.t 9,.t 6,.t 7]),cc 12 107 10 11])))) (aa [ax 13 1 9,I 8 13] .ret))))
@[simp] def YY:List bV:=[.tmp 8]
def RO:C:=(aa [cW 5 2,bq 6 false] (.seq (.drawn true 24 [I 7 0,eV 8 7,aK 9 1 1 8,ax 10 1 9,I 11 1,aX 12 4 5,cS (.mput .i (.t 10) (.t 11) (.t 12))]) (aa [I 13 0,eV 14 13,aK 15 2 1 14,ax 16 1 15,I 17 1,cS (.mput .i (.t 16) (.t 17) (.c (.bool true)))] (aa [I 18 0,aX 19 4 5,I 20 1,cS (.mkmap 21 (some 715)),c0 22 164 [.t 18,.t 19,.t 20,.t 21],cx 23 22,I 6 23] .ret))))
@[simp] def YV:List bV:=[.tmp 6]
def AB:C:=(aa [cW 2 0,bq 4 false] (.seq (.seq (.fz false 2 (.region [ax 6 1 2,eV 7 6,aK 8 3 1 7,ax 9 1 8,I 10 1,bS 11 (.mget .i (.int .i64 0) false (.t 9) (.t 10)),aT 12 .eql 11 2])) (aZ 12 (aa [bq 4 true] .ret) .skip)) (.seq (aa [ax 13 1 2,eV 14 13,aK 15 3 1 14,ax 16 1 15,I 17 1,bS 18 (.mget .i (.int .i64 0) false (.t 16) (.t 17)),aT 19 .eql 18 1] (aZ 19 (aa [bq 4 false] .ret) .skip)) (aa [ax 20 1 2,eV 21 20,aK 22 3 1 21,ax 23 1 22,I 24 1,cS (.mput .i (.t 23) (.t 24) (ef 1))] (aa [ax 25 1 2,eV 26 25,aK 27 4 1 26,ax 28 1 27,I 29 1,cS (.mput .i (.t 28) (.t 29) (ef 1))] (.seq (aa [ax 30 1 2,eV 31 30,aK 32 2 1 31,ax 33 1 32,I 34 1,bS 35 (.mget .i (.bool false) false (.t 33) (.t 34))] (aZ 35 (aa [cS (.alloc 5 (some 712) (.bool false)),cS (.store 1 (.t 5) (.c (.bool true)))] (aa [ax 36 1 2,eV 37 36,aK 38 1 1 37,ax 39 1 38,I 40 1,bS 41 (.mget .i (.agg da) false (.t 39) (.t 40)),bS 42 (.mkf 191 [.t 5,.t 2]),cc 43 107 41 42] (.seq (aa [ax 44 1 5,cx 45 44] (aZ 45 (aa [bq 4 false] .ret) .skip)) (.drawn false 64 [ax 46 1 2,eV 47 46,aK 48 4 1 47,ax 49 1 48,I 50 1,ax 51 1 2,eV 52 51,aK 53 1 1 52,ax 54 1 53,I 55 1,bS 56 (.mgetB .i (.agg da) false (.t 54) (.t 55)),bS 57 (.mkf 192 [.t 2]),cc 58 112 56 57,cS (.mput .i (.t 49) (.t 50) (.t 58))])))) .skip)) (aa [ax 59 1 2,eV 60 59,aK 61 3 1 60,ax 62 1 61,I 63 1,cS (.mput .i (.t 62) (.t 63) (ef 2))] (aa [bq 4 true] .ret))))))))
@[simp] def Cd:List bV:=[.tmp 4]
def Gr:C:=(aa [cW 2 0,cR 4 da] (.seq (.seq (.fz false 2 (.region [ax 9 1 2,eV 10 9,aK 11 5 1 10,ax 12 1 11,I 13 1,bS 14 (.mget .i (.agg da) true (.t 12) (.t 13)),I 8 14,cp 15 0 8,cp 16 1 8,cR 5 da,bD 4 5 15,I 6 16])) (aa [I 17 6] (aZ 17 (aa [aX 18 4 5,bD 4 4 18] .ret) .skip))) (aa [I 19 1,cH 20 28 19,cR 7 da,bD 4 7 20] (.seq (aa [ax 21 1 2,eV 22 21,aK 23 2 1 22,ax 24 1 23,I 25 1,bS 26 (.mget .i (.bool false) false (.t 24) (.t 25))] (aZ 26 (.region [ax 27 1 2,eV 28 27,aK 29 1 1 28,ax 30 1 29,I 31 1,bS 32 (.mget .i (.agg da) false (.t 30) (.t 31)),bS 33 (.mkf 193 [.t 2]),cc 34 115 32 33,bD 4 7 34]) .skip)) (.seq (.drawn true 42 [ax 35 1 2,eV 36 35,aK 37 5 1 36,ax 38 1 37,I 39 1,aX 40 4 7,cS (.mput .i (.t 38) (.t 39) (.t 40))]) (aa [aX 41 4 7,bD 4 4 41] .ret))))))
@[simp] def IX:List bV:=[.cell 4 true 4]
def RS:C:=(aa [ax 7 1 1,I 8 0,cc 9 143 7 8,I 6 9] (.seq (aa [ax 10 1 2,I 11 10,bT 11 false 12 6,ar 11 false (ax 13 1 3),ar 11 false (bt 14 .eql 12 13),c3 15 11 14] (aZ 15 (aa [cS (.store 1 (.t 2) (.c (.bool true)))] .ret) .skip)) (aa [ax 16 1 4,I 17 6,bS 18 (.mget .i (.bool false) false (.t 16) (.t 17)),cx 19 18,I 20 19,ar 20 true (ax 21 1 1),ar 20 true (eV 22 21),ar 20 true (aK 23 2 1 22),ar 20 true (ax 24 1 23),bT 20 true 25 6,ar 20 true (bS 26 (.mget .i (.bool false) false (.t 24) (.t 25))),dh 27 20 26] (aZ 27 (aa [ax 28 1 4,I 29 6,cS (.mput .i (.t 28) (.t 29) (.c (.bool true)))] (.drawn false 40 [ax 30 1 1,ax 31 1 1,eV 32 31,aK 33 1 1 32,ax 34 1 33,I 35 6,bS 36 (.mgetB .i (.agg da) false (.t 34) (.t 35)),ax 37 1 3,ax 38 1 4,c0 39 164 [.t 30,.t 36,.t 37,.t 38],bD 1 2 39])) .skip))))
@[simp] def Cc:List bV:=[]
def KR:C:=(.seq (.drawn false 13 [bS 4 (.loadB false 1 (.t 1)),I 5 4,ar 5 true (ax 6 1 2),ar 5 true (ax 7 1 2),bT 5 true 8 0,ar 5 true (cc 9 143 7 8),ar 5 true (cc 10 167 6 9),ar 5 true (cx 11 10),dh 12 5 11]) (aZ 12 (.region [cS (.store 1 (.t 1) (.c (.bool false)))]) .skip))
@[simp] def IY:List bV:=[]
def RW:C:=(aa [cf 3 0] (.seq (.drawn false 12 [ax 4 1 1,eV 5 4,aK 6 4 1 5,ax 7 1 6,ax 8 1 1,I 9 0,cc 10 143 8 9,bS 11 (.mgetB .i (.int .i64 0) false (.t 7) (.t 10)),I 3 11]) .ret))
@[simp] def Y1:List bV:=[.tmp 3]
def RV:C:=(aa [cR 3 da,bq 4 false] (.seq (.drawn false 10 [ax 5 1 1,ax 6 1 1,I 7 0,cc 8 143 6 7,cc 9 168 5 8,bD 4 3 9,bq 4 true]) .ret))
@[simp] def Y0:List bV:=[.cell 3 true 4,.tmp 4]
def pR:List (Nat×dy):=[
 (3,⟨1,8,.int .i64,.int .i64 0⟩),
 (4,⟨1,1,.bool,.bool false⟩),
 (9,⟨1,16,.str,.str []⟩),
 (34,⟨1,24,.slice 36,.slice 4 .nil []⟩),
 (36,⟨4,56,.struct [(0,3),(1,3),(2,9),(3,34)],.agg [.int .i64 0,.int .i64 0,.str [],.slice 4 .nil []]⟩),
 (51,⟨1,8,.map 3 4,.junk⟩),
 (57,⟨1,8,.map 3 3,.junk⟩),
 (139,⟨1,8,.other,.nilp⟩),
 (158,⟨1,8,.map 3 36,.junk⟩),
 (160,⟨6,48,.struct [(0,57),(1,158),(2,51),(3,57),(4,57),(5,158)],.agg [.junk,.junk,.junk,.junk,.junk,.junk]⟩)]
theorem j4:fJ aw pR=true:=by kernel_rfl
theorem alT:b6 pR Si anO 1 Tryz.f28=true:=by kernel_rfl
theorem ae2:aw.funcs[(28:Nat)]? =some Tryz.f28:=Tryz.func28
theorem alG:b6 pR R5 Y8 0 Tryz.f142=true:=by kernel_rfl
theorem aeP:aw.funcs[(142:Nat)]? =some Tryz.f142:=Tryz.func142
theorem alw:b6 pR RT YZ 2 Tryz.f143=true:=by kernel_rfl
theorem aeF:aw.funcs[(143:Nat)]? =some Tryz.f143:=Tryz.func143
theorem alr:b6 pR RP YW 2 Tryz.f144=true:=by kernel_rfl
theorem aeB:aw.funcs[(144:Nat)]? =some Tryz.f144:=Tryz.func144
theorem zz:b6 pR wR o2 3 Tryz.f145=true:=by kernel_rfl
theorem yG:aw.funcs[(145:Nat)]? =some Tryz.f145:=Tryz.func145
theorem als:b6 pR RQ YX 2 Tryz.f163=true:=by kernel_rfl
theorem aeC:aw.funcs[(163:Nat)]? =some Tryz.f163:=Tryz.func163
theorem alu:b6 pR RR YY 4 Tryz.f164=true:=by kernel_rfl
theorem aeD:aw.funcs[(164:Nat)]? =some Tryz.f164:=Tryz.func164
theorem alq:b6 pR RO YV 3 Tryz.f165=true:=by kernel_rfl
theorem aeA:aw.funcs[(165:Nat)]? =some Tryz.f165:=Tryz.func165
theorem EO:b6 pR AB Cd 2 Tryz.f167=true:=by kernel_rfl
theorem Di:aw.funcs[(167:Nat)]? =some Tryz.f167:=Tryz.func167
theorem Oj:b6 pR Gr IX 2 Tryz.f168=true:=by kernel_rfl
theorem LD:aw.funcs[(168:Nat)]? =some Tryz.f168:=Tryz.func168
theorem alv:b6 pR RS Cc 5 Tryz.f189=true:=by kernel_rfl
theorem aeE:aw.funcs[(189:Nat)]? =some Tryz.f189:=Tryz.func189
theorem Yg:b6 pR KR IY 3 Tryz.f191=true:=by kernel_rfl
theorem Um:aw.funcs[(191:Nat)]? =some Tryz.f191:=Tryz.func191
theorem alz:b6 pR RW Y1 2 Tryz.f192=true:=by kernel_rfl
theorem aeI:aw.funcs[(192:Nat)]? =some Tryz.f192:=Tryz.func192
theorem aly:b6 pR RV Y0 2 Tryz.f193=true:=by kernel_rfl
theorem aeH:aw.funcs[(193:Nat)]? =some Tryz.f193:=Tryz.func193
end
section
open Go Go.Pv
section
variable {α:Type} (S:α->cT) (dp:∀a,dP (S a)) (ea:∀a b,Same (S a) (S b)) (g:Nat) (dr:List aj) (ao:∀a,aO (inObs (S a)) dr) (dd:dq dr=dr)
include dp ea ao dd in
theorem UU(hv:α->Prop)(f:Int->α->Option α)(aN:∀v a bk,hv a->f v a=some bk->hv bk/\bG aw g (.int .i64 v::dr) (S a) fun r ah=>r= .tuple []/\ah=S bk)(t:T):
  ∀a bk,hv a->t.foldO f a=some bk->hv bk/\bG aw 107 [t.e,.func g dr] (S a) fun r ah=>r= .tuple []/\ah=S bk:=by
 have au:∀a m,Pv.look (.loc m) (S a).b=none:=fun a=>(dp a).obj.1;have hu:∀a m cs,cB (.loc m) cs (S a).b=(S a).b++[(.loc m,cs)]:=fun a m cs=>kK (au a m);have ay:∀a m,aL.loc m∉c5 (S a):=fun a=>kD (dp a).obj;induction t with
 |pair x y qk s5=>intro a bk hi he;have af:=dp a;simp only[T.foldO,ji]at he;obtain⟨bA,J,U⟩:=he;obtain⟨i1,g1⟩:=qk a bA hi J;obtain⟨i2,g2⟩:=s5 bA bk i1 U;refine⟨i2,?_⟩;refine bG.mk mixed fT AO B0 Ψ af.obj fun aQ cI=>?_;unfold yz;simp[hu,ay,cV,au,dd];(with_reducible repeat' first|refine ak ?_|simp[hu,ay,cV,au]);refine cQ.ob g1 af aH aH (by simp[ao]) ?_;rintro r ah ⟨rfl,rfl⟩;refine⟨ea _ _,?_⟩;simp[ht,jg,cb,au];(with_reducible repeat' first|refine ak ?_|simp[hu,ay,cV,au]);rw[dd];refine cQ.ob g2 (dp bA) aH aH (by simp[ao]) ?_;rintro r ah ⟨rfl,rfl⟩;refine⟨ea _ _,?_⟩;simp[ht,jg,cb,au];refine cL.at (S bk) (.inr rfl) (dp _) (ea _ _) aH aH ?_;simp[cM,zG,aV,aY,aU]
 |var n=>intro a bk hi he;have af:=dp a;simp only[T.foldO]at he;obtain⟨i1,g1⟩:=aN n a bk hi he;refine⟨i1,?_⟩;refine bG.mk mixed fT AO B0 Ψ af.obj fun aQ cI=>?_;unfold yz;simp[hu,ay,cV,au,dd];(with_reducible repeat' first|refine ak ?_|simp[hu,ay,cV,au]);refine cQ.ob g1 af aH aH (by simp[ao]) ?_;rintro r ah ⟨rfl,rfl⟩;refine⟨ea _ _,?_⟩;simp[ht,jg,cb,au,cV];refine cL.at (S bk) (.inr rfl) (dp _) (ea _ _) aH aH ?_;simp[cM,zG,aV,aY,aU]
 |_=>intro a bk hi he;have af:=dp a;simp only[T.foldO,dE]at he;subst he;refine⟨hi,?_⟩;refine bG.mk mixed fT AO B0 Ψ af.obj fun aQ cI=>?_;unfold yz;simp[hu,ay,cV,au,dd];(with_reducible repeat' first|refine ak ?_|simp[hu,ay,cV,au]);refine cL.at (S a) (.inr rfl) af (Same.refl _) aH aH ?_;simp[cM,zG,aV,aY,aU]
include dp ea ao dd in
theorem L0(f:Int->α->Option α)(aN:∀v a bk,f v a=some bk->bG aw g (.int .i64 v::dr) (S a) fun r ah=>r= .tuple []/\ah=S bk)(t:T)(a bk:α)(h:t.foldO f a=some bk):bG aw 107 [t.e,.func g dr] (S a) fun r ah=>r= .tuple []/\ah=S bk:=(UU S dp ea g dr ao dd (fun _=>True) f (fun v a bk _ h=>⟨trivial,aN v a bk h⟩) t a bk trivial h).2
include dp ea ao dd in
theorem agS(f:Int->α->Option (T×α))(aN:∀v a p,f v a=some p->bG aw g (.int .i64 v::dr) (S a) fun r ah=>r= .tuple [p.1.e,.bool true]/\ah=S p.2)(t:T):
  ∀a p,t.mapO f a=some p->bG aw 115 [t.e,.func g dr] (S a) fun r ah=>r=p.1.e/\ah=S p.2:=by
 have au:∀a m,Pv.look (.loc m) (S a).b=none:=fun a=>(dp a).obj.1;have cA:∀a m,Pv.look (.loc m) (S a).e=none:=fun a=>(dp a).obj.2;have hu:∀a m cs,cB (.loc m) cs (S a).b=(S a).b++[(.loc m,cs)]:=fun a m cs=>kK (au a m);have ay:∀a m,aL.loc m∉c5 (S a):=fun a=>kD (dp a).obj;have mu:∀a m p r,cB (.loc m) p ((S a).b++r)=(S a).b++cB (.loc m) p r:=fun a m p r=>CE (au a m);induction t with
 |pair x y qk s5=>intro a p he;have af:=dp a;simp only[T.mapO,ji,gv]at he;obtain⟨cP,J,c8,U,rfl⟩:=he;refine bG.mk mixed fT AP B1 Ψ af.obj fun aQ cI=>?_;unfold yA;simp[hu,ay,cV,au,cA,dd,mu];(with_reducible repeat' first|refine ak ?_|simp[hu,ay,cV,au,cA,mu]);refine gx.ob (qk a cP J) af (dp cP.2) (ea _ _) aH aH (by simp[ao]) ?_;simp[ht,jg,cb,au,dd];(with_reducible repeat' first|refine ak ?_|simp[hu,ay,cV,au,cA,mu]);refine gx.ob (s5 cP.2 c8 U) (dp cP.2) (dp c8.2) (ea _ _) aH aH (by simp[ao,dd]) ?_;simp[ht,jg,cb,au,dd];(with_reducible repeat' first|refine ak ?_|refine aA (JY _ _) ?_|refine aB (JY _ _) ?_|simp[cV,au,mu]);refine cL.at (S c8.2) (.inl rfl) (dp _) (ea _ _) aH aH ?_;simp[cM,zH,aV,aY,aU,cV,au]
 |var n=>
  intro a p he;have af:=dp a;simp only[T.mapO]at he;refine bG.mk mixed fT AP B1 Ψ af.obj fun aQ cI=>?_;unfold yA;simp[hu,ay,cV,au,dd,mu];(with_reducible repeat' first|refine ak ?_|simp[hu,ay,cV,au,mu]);refine cQ.ob (aN n a p he) af aH aH (by simp[ao]) ?_;rintro r ah ⟨rfl,rfl⟩;refine⟨ea _ _,?_⟩;simp[ht,jg,cb,au,hu,ay,cV];(with_reducible repeat' first|refine ak ?_|refine aA (u4 _) ?_|refine aB (u4 _) ?_|simp[hu,ay,cV,au,mu]);all_goals refine cL.at (S p.2) (.inl rfl) (dp _) (ea _ _) aH aH ?_
  all_goals simp[cM,zH,aV,aY,aU,cV,au]
 |_=>intro a p he;have af:=dp a;simp only[T.mapO,dE]at he;subst he;refine bG.mk mixed fT AP B1 Ψ af.obj fun aQ cI=>?_;unfold yA;simp[hu,ay,cV,au,dd,mu];(with_reducible repeat' first|refine ak ?_|simp[hu,ay,cV,au,mu]);refine cL.at (S a) (.inl rfl) af (Same.refl _) aH aH ?_;simp[cM,zH,aV,aY,aU,cV,au]
include dp ea ao dd in
theorem ag5(hv:α->Prop)(f:Int->α->Option (Int×α))(DL:∀v a p,hv a->f v a=some p->hv p.2/\0<=p.1/\p.1<=1000000)(aN:∀v a p,hv a->f v a=some p->bG aw g (.int .i64 v::dr) (S a) fun r ah=>r= .int .i64 p.1/\ah=S p.2)(t:T):
  ∀a p,hv a->t.sizeO f a=some p->hv p.2/\(0<=p.1/\p.1<=5001)/\bG aw 112 [t.e,.func g dr] (S a) fun r ah=>r= .int .i64 p.1/\ah=S p.2:=by
 have au:∀a m,Pv.look (.loc m) (S a).b=none:=fun a=>(dp a).obj.1;have hu:∀a m cs,cB (.loc m) cs (S a).b=(S a).b++[(.loc m,cs)]:=fun a m cs=>kK (au a m);have ay:∀a m,aL.loc m∉c5 (S a):=fun a=>kD (dp a).obj;induction t with
 |pair x y qk s5=>
  intro a p hi he;have af:=dp a;simp only[T.sizeO,ji]at he;obtain⟨cP,J,U⟩:=he;obtain⟨i1,b1,g1⟩:=qk a cP hi J;by_cases DG:5000<cP.1
  ·rw[if_pos DG]at U;cases U;refine⟨i1,b1,?_⟩;refine bG.mk mixed fT yH zA Ψ af.obj fun aQ cI=>?_;unfold wS;simp[hu,ay,cV,au,dd];(with_reducible repeat' first|refine ak ?_|simp[hu,ay,cV,au]);refine cQ.ob g1 af aH aH (by simp[ao]) ?_;rintro r ah ⟨rfl,rfl⟩;refine⟨ea _ _,?_⟩;simp[ht,jg,cb,au];((with_reducible repeat' first|((first|apply bJ|apply bM|apply bL)<;>intro h<;>try simp at h)|refine ak ?_|simp[hu,ay,cV,au])<;>(try contradiction));all_goals first|omega|(refine cL.at (S p.2) (.inl rfl) (dp _) (ea _ _) aH aH ?_;simp[cM,wq,aV,aY,aU])
  ·rw[if_neg DG,gv]at U;obtain⟨c8,U,rfl⟩:=U;obtain⟨i2,b2,g2⟩:=s5 cP.2 c8 i1 U;refine⟨i2,by simp only;split<;>omega,?_⟩;refine bG.mk mixed fT yH zA Ψ af.obj fun aQ cI=>?_;unfold wS;simp[hu,ay,cV,au,dd];(with_reducible repeat' first|((first|apply bJ|apply bM|apply bL)<;>intro h<;>try simp at h)|refine ak ?_|simp[hu,ay,cV,au]);refine cQ.ob g1 af aH aH (by simp[ao]) ?_;rintro r ah ⟨rfl,rfl⟩;refine⟨ea _ _,?_⟩;simp[ht,jg,cb,au];((with_reducible repeat' first|refine ak ?_|simp[hu,ay,cV,au]|((first|apply bJ|apply bM|apply bL)<;>intro h<;>try simp at h))<;>(try exact ck));all_goals first|omega|skip
   rw[dd];refine cQ.ob g2 (dp cP.2) aH aH (by simp[ao]) ?_;rintro r s2 ⟨rfl,rfl⟩;refine⟨ea _ _,?_⟩;simp[ht,jg,cb,au];(with_reducible repeat' first|refine ak ?_|simp[hu,ay,cV,au]);refine cL.at (S c8.2) (.inl rfl) (dp _) (ea _ _) aH aH ?_;simp[cM,wq,aV,aY,aU]
 |var n=>intro a p hi he;have af:=dp a;simp only[T.sizeO,gv]at he;obtain⟨cP,J,rfl⟩:=he;have ad:=DL n a cP hi J;refine⟨ad.1,by simp only;split<;>omega,?_⟩;refine bG.mk mixed fT yH zA Ψ af.obj fun aQ cI=>?_;unfold wS;simp[hu,ay,cV,au,dd];(with_reducible repeat' first|refine ak ?_|simp[hu,ay,cV,au]);refine cQ.ob (aN n a cP hi J) af aH aH (by simp[ao]) ?_;rintro r ah ⟨rfl,rfl⟩;refine⟨ea _ _,?_⟩;simp[ht,jg,cb,au];refine cL.at (S cP.2) (.inl rfl) (dp _) (ea _ _) aH aH ?_;simp[cM,wq,aV,aY,aU]
 |_=>intro a p hi he;have af:=dp a;simp only[T.sizeO,dE]at he;subst he;refine⟨hi,Ψ,?_⟩;refine bG.mk mixed fT yH zA Ψ af.obj fun aQ cI=>?_;unfold wS;simp[hu,ay,cV,au,dd];(with_reducible repeat' first|refine ak ?_|simp[hu,ay,cV,au]);refine cL.at (S a) (.inl rfl) af (Same.refl _) aH aH ?_;simp[cM,wq,aV,aY,aU]
end
end
section
open Go Go.Pv
theorem NJ{α β:Type}(k:aL):∀{l:List (aL×α)} {a6:List (aL×β)},l.map (·.1)=a6.map (·.1)->(Pv.look k l).isSome=(Pv.look k a6).isSome
 |[],[],_=>rfl
 |[],_::_,h=>by simp at h
 |_::_,[],h=>by simp at h
 |(i,x)::r,(j,y)::eQ,h=>by
  simp only[gZ,yk]at h;simp only[Pv.look];obtain⟨rfl,h⟩:=h;split
  ·rfl
  ·exact NJ k h
theorem _root_.Go.Pv.Same.keys{s ah:cT}(ad:s.b.map (·.1)=ah.b.map (·.1))(he:s.e.map (·.1)=ah.e.map (·.1)):Same s ah:=⟨fun k=>NJ k ad,fun k=>NJ k he⟩
section
variable {α:Type} (e:α->aj)
def tb(l:List (Int×α)):List aj:=kj (l.map fun x=>(x.1,e x.2))
theorem Q5(k:Int):∀l:List (Int×α),tP k (l.map fun x=>(x.1,e x.2))=(tg k l).map e
 |[]=>rfl
 |(i,v)::r=>by
  simp only[gZ,tP,tg];split
  ·rfl
  ·exact Q5 k r
theorem Rc(k:Int)(v:α):∀l:List (Int×α),p5 k (e v) (l.map fun x=>(x.1,e x.2))=if(tg k l).isSome then some ((e5 k v l).map fun x=>(x.1,e x.2))else none
 |[]=>rfl
 |(i,w)::r=>by
  simp only[gZ,p5,tg,e5];by_cases h:k=i
  ·subst h;simp
  ·simp only[h,if_false,Rc k v r];cases (tg k r).isSome<;>simp
theorem aaw{k:Int}{v:α}:∀{l:List (Int×α)},tg k l=none->e5 k v l=l++[(k,v)]
 |[],_=>rfl
 |(i,w)::r,h=>by
  simp only[tg]at h;split at h
  ·cases h
  ·rename_i cA;simp[e5,cA,aaw h]
theorem N6(k:Int)(v:α)(l:List (Int×α)):ot .i (.int .i64 k) (e v) (tb e l)=some (tb e (e5 k v l)):=by
 simp only[tb,XV,Gh,Rc];cases h:tg k l with
 |some w=>simp
 |none=>simp[aaw h]
theorem N2(f:aL->Option (List aj))(m:aL)(l:List (Int×α))(z:aj)(ok:Bool)(k:Int)(hm:f m=some (tb e l)):nO f .i z ok (.gmap m) (.int .i64 k)=some (True,if ok then .tuple [((tg k l).map e).getD z,.bool (tg k l).isSome]else((tg k l).map e).getD z):=by rw[XF f m _ z ok k hm,Q5];cases tg k l<;>rfl
@[simp]theorem auw(l:List (Int×α)):h9 (tb e l)=false:=rfl
theorem Nv(S:aL->Prop)(he:∀x,aJ S (e x))(l:List (Int×α)):aO S (tb e l):=by
 have:∀l:List (Int×α),aO S (k6 (l.map fun x=>(x.1,e x.2))):=by
  intro l;induction l with
  |nil=>simp[k6,aO]
  |cons x r bN=>simp[k6,aO,bN,he]
 simp[tb,kj,aO,this,aJ]
end
def lI:List (Int×Int)->List aj:=tb (aj.int .i64)
def q3:List (Int×Bool)->List aj:=tb aj.bool
def uJ:List (Int×T)->List aj:=tb T.e
@[simp]theorem aut(l):h9 (lI l)=false:=rfl
@[simp]theorem aur(l):h9 (q3 l)=false:=rfl
@[simp]theorem auv(l):h9 (uJ l)=false:=rfl
@[simp]theorem atn(S:aL->Prop)(l):aO S (lI l)=True:=eq_true (Nv _ S (fun _=>by simp) l)
@[simp]theorem atm(S:aL->Prop)(l):aO S (q3 l)=True:=eq_true (Nv _ S (fun _=>by simp) l)
@[simp]theorem ato(S:aL->Prop)(l):aO S (uJ l)=True:=eq_true (Nv _ S (fun _=>by simp) l)
@[simp]theorem auf(k v:Int)(l):ot .i (.int .i64 k) (.int .i64 v) (lI l)=some (lI (e5 k v l)):=N6 _ k v l
@[simp]theorem aue(k:Int)(v:Bool)(l):ot .i (.int .i64 k) (.bool v) (q3 l)=some (q3 (e5 k v l)):=N6 _ k v l
@[simp]theorem auh(k:Int)(v:T)(l):ot .i (.int .i64 k) v.e (uJ l)=some (uJ (e5 k v l)):=N6 _ k v l
def zs(ch:j9)(z:aj)(ok:Bool)(o:Option (List aj))(k:aj):Option (Prop×aj):=nO (fun _=>o) ch z ok (.gmap (.loc 0)) k
@[simp]theorem auc(f:aL->Option (List aj))(ch:j9)(z:aj)(ok:Bool)(m:aL)(k:aj):nO f ch z ok (.gmap m) k=zs ch z ok (f m) k:=by simp only[zs,N3]
theorem akD(f:aL->Option (List aj))(m:aL)(l:List (Int×Int))(ok:Bool)(k:Int)(hm:f m=some (lI l)):nO f .i (.int .i64 0) ok (.gmap m) (.int .i64 k)=some (True,if ok then .tuple [.int .i64 (hC l k),.bool (tg k l).isSome]else .int .i64 (hC l k)):=by rw[N2 _ f m l _ ok k hm];unfold hC;cases tg k l<;>rfl
theorem akC(f:aL->Option (List aj))(m:aL)(l:List (Int×Bool))(ok:Bool)(k:Int)(hm:f m=some (q3 l)):nO f .i (.bool false) ok (.gmap m) (.int .i64 k)=some (True,if ok then .tuple [.bool ((tg k l).getD false),.bool (tg k l).isSome]else .bool ((tg k l).getD false)):=by rw[N2 _ f m l _ ok k hm];cases tg k l<;>rfl
def aar:aj:= .agg [.int .i64 0,.int .i64 0,.str [],.slice 4 .nil []]
def x4(o:Option T):aj:=(o.map T.e).getD aar
theorem akE(f:aL->Option (List aj))(m:aL)(l:List (Int×T))(ok:Bool)(k:Int)(hm:f m=some (uJ l)):nO f .i (.agg [.int .i64 0,.int .i64 0,.str [],.slice 4 .nil []]) ok (.gmap m) (.int .i64 k)=some (True,if ok then .tuple [x4 (tg k l),.bool (tg k l).isSome]else x4 (tg k l)):=by rw[N2 _ f m l _ ok k hm];rfl
@[simp]theorem at7(l:List (Int×Int))(ok:Bool)(k:Int):zs .i (.int .i64 0) ok (some (lI l)) (.int .i64 k)=some (True,if ok then .tuple [.int .i64 (hC l k),.bool (tg k l).isSome]else .int .i64 (hC l k)):=akD _ _ l ok k rfl
@[simp]theorem at6(l:List (Int×Bool))(ok:Bool)(k:Int):zs .i (.bool false) ok (some (q3 l)) (.int .i64 k)=some (True,if ok then .tuple [.bool ((tg k l).getD false),.bool (tg k l).isSome]else .bool ((tg k l).getD false)):=akC _ _ l ok k rfl
@[simp]theorem aua(l:List (Int×T))(ok:Bool)(k:Int):zs .i (.agg [.int .i64 0,.int .i64 0,.str [],.slice 4 .nil []]) ok (some (uJ l)) (.int .i64 k)=some (True,if ok then .tuple [x4 (tg k l),.bool (tg k l).isSome]else x4 (tg k l)):=akE _ _ l ok k rfl
@[simp]theorem avk(o:Option T):eb (x4 o)=(o.getD .nil).e:=by cases o<;>simp[x4,aar,eb,dq]
@[simp]theorem atU:[aj.hdm 0 []]=kj []:=rfl
def aE:aj:= .eptr (.agg [.gmap (.obj 702),.gmap (.obj 703),.gmap (.obj 704),.gmap (.obj 705),.gmap (.obj 706),.gmap (.obj 707)])
def aD(c:bu):List (aL×List aj):=[(.obj 702,lI c.up),(.obj 703,uJ c.shape),(.obj 704,q3 c.shaped),(.obj 705,lI c.color),(.obj 706,lI c.size),(.obj 707,uJ c.full)]
def aP(c:bu):cT:=⟨aD c,[]⟩
theorem cl(c:bu):dP (aP c):=by unfold aP aD;exact dP.of ⟨by intro m;simp[Pv.look],by intro m;simp[Pv.look]⟩ Ψ Ψ
theorem F5(c cq:bu):Same (aP c) (aP cq):=by
 refine⟨fun k=>?_,fun k=>rfl⟩;simp only[aP,aD,Pv.look];repeat' split
 all_goals rfl
theorem sw(c:bu)(v r:Int)(cq:bu)(he:rt c v=some (r,cq)):bG aw 143 [aE,.int .i64 v] (aP c) fun eQ ah=>eQ= .int .i64 r/\ah=aP cq:=by
 have af:=cl c;have fX:=cl cq;have ea:=F5 c cq;simp only[rt,gv,j7]at he;obtain⟨⟨eu,m1⟩,he,rfl,rfl⟩:=he;unfold aP aD at af fX ea⊢;simp only at fX ea⊢;unfold aE;refine bG.mk mixed j4 aeF alw Ψ af.obj fun aQ cI=>?_;unfold RT;simp;(with_reducible repeat' first|((first|apply bJ|apply bM|apply bL)<;>intro h<;>try simp at h)|refine ak ?_|simp);all_goals
  refine n2 (α:=Nat×Int×List (Int×Int)) (fun a=>⟨[(0,aE),(1,.int .i64 a.2.1)],[(.obj 702,lI a.2.2),(.obj 703,uJ c.shape),(.obj 704,q3 c.shaped),(.obj 705,lI c.color),(.obj 706,lI c.size),(.obj 707,uJ c.full)],[],0,[.obj 702,.obj 703,.obj 704,.obj 705,.obj 706,.obj 707]⟩) (fun a=>a.1) (fun a=>xX a.1 a.2.2 a.2.1=some (eu,m1)) (v.toNat+1,v,Ar v c.up) (by simp[Ar,h,aE];exact⟨by simp[fresh,aO,aJ,cn,inObs,Pv.look,aE],ek (by simp[fresh,aO,aJ,cn,inObs,Pv.look,aE]),en (by simp[fresh,aO,aJ,dW,inObs,Pv.look,aE]),Ψ⟩) he ?_
  rintro⟨n,u,m⟩ ag ad
  simp only at ag ad⊢
  cases n with
  |zero=>simp[xX]at ag
  |succ n=>
   simp only[xX]at ag
   simp[aE]
   (with_reducible repeat' first|((first|apply bJ|apply bM|apply bL)<;>intro h<;>try simp at h)|refine ak ?_|simp)
   ·rw[if_neg h]at ag
    refine bR.whl (n,hC (e5 u (hC m (hC m u)) m) u,e5 u (hC m (hC m u)) m) (Nat.lt_succ_self n) ag ?_
    simp[aE]
    exact⟨by simp[fresh,aO,aJ,cn,inObs,Pv.look,aE],ek (by simp[fresh,aO,aJ,cn,inObs,Pv.look,aE]),en (by simp[fresh,aO,aJ,dW,inObs,Pv.look,aE]),Ψ⟩
   ·rw[if_pos h]at ag
    cases ag
    refine cL.at _ (.inl rfl) fX ea aH aH ?_
    simp[cM,YZ,aV,aY,aU]
end
section
open Go Go.Pv
theorem agT(c:bu)(v r:Int)(cq:bu)(he:rt c v=some (r,cq)):bG aw 163 [.int .i64 v,.eptr aE] (aP c) fun eQ ah=>eQ= .tuple []/\ah=aP cq:=by have af:=cl c;simp only[aP,aD]at af⊢;refine bG.mk mixed j4 aeC als Ψ af.obj fun aQ cI=>?_;unfold RQ;simp[aE];(refine cQ.ob (sw c v r cq he) bi ba ba dl ?_;rintro r ah ⟨rfl,rfl⟩;refine⟨(Same.keys bv bv),?_⟩;simp[cb,aP,aD,aE]);(refine cL.at (aP cq) Ψ bi (Same.keys bv bv) ba ba ?_;simp[cM,YX,aV,aY,aU,inObs,Pv.look,aP,aD,aE])
theorem L4(c:bu)(t:T)(cq:bu)(he:BM t c=some cq):bG aw 144 [aE,t.e] (aP c) fun eQ ah=>eQ= .tuple []/\ah=aP cq:=by
 have af:=cl c;have key:=L0 aP cl F5 163 [.eptr aE] (fun a=>by simp[aP,aD,aE,inObs,Pv.look]) rfl (fun(v:Int) (c:bu)=>(rt c v).map Prod.snd) (fun v a bk h=>by rw[gv]at h;obtain⟨⟨r,bY⟩,J,rfl⟩:=h;exact agT a v r bY J) t c cq he
 simp only[aP,aD]at af⊢;refine bG.mk mixed j4 aeB alr Ψ af.obj fun aQ cI=>?_;unfold RP;simp[aE];(refine cQ.ob (key) bi ba ba dl ?_;rintro r ah ⟨rfl,rfl⟩;refine⟨(Same.keys bv bv),?_⟩;simp[cb,aP,aD,aE]);(refine cL.at (aP cq) Ψ bi (Same.keys bv bv) ba ba ?_;simp[cM,YW,aV,aY,aU,inObs,Pv.look,aP,aD,aE])
def eO(K:Nat)(a:bu×List (Int×Bool)):cT:=⟨aD a.1++[(.obj K,q3 a.2)],[]⟩
def gn(K:Nat)(a:vd):cT:=⟨aD a.c++[(.obj K,q3 a.seen),(.obj 712,[.bool a.found])],[]⟩
def zx(K:Nat):Prop:=K=715\/K=716
theorem iD{K:Nat}(c7:zx K)(a):dP (eO K a):=by unfold eO aD;rcases c7 with rfl|rfl;all_goals exact dP.of ⟨by intro m;simp[Pv.look],by intro m;simp[Pv.look]⟩ Ψ Ψ
theorem qC{K:Nat}(c7:zx K)(a):dP (gn K a):=by unfold gn aD;rcases c7 with rfl|rfl;all_goals exact dP.of ⟨by intro m;simp[Pv.look],by intro m;simp[Pv.look]⟩ Ψ Ψ
theorem Kh{K:Nat}(a b):Same (gn K a) (gn K b):=by
 refine⟨fun k=>?_,fun k=>rfl⟩;simp only[gn,aD,bP,bU,Pv.look];repeat' split
 all_goals rfl
theorem agZ{K:Nat}(c7:zx K)(n:Nat)(x:Int)(xq:∀t c seen a,qt n x t c seen=some a->bG aw 164 [aE,t.e,.int .i64 x,.gmap (.obj K)] (eO K (c,seen)) fun r ah=>r= .bool a.found/\ah=eO K (a.c,a.seen))
  (v:Int) (a bk:vd) (he:xW (qt n x) x v a=some bk):bG aw 189 [.int .i64 v,.eptr aE,.ptr (.obj 712) 0,.eptr (.int .i64 x),.eptr (.gmap (.obj K))] (gn K a) fun r ah=>r= .tuple []/\ah=gn K bk:=by
 have af:=qC c7 a;simp only[xW,ji]at he;obtain⟨⟨r,bY⟩,J,U⟩:=he;simp only at U;have ae:=c7;rcases ae with rfl|rfl;all_goals
  simp only[gn,aD,bP,bU]at af⊢
  refine bG.mk mixed j4 aeE alv Ψ af.obj fun aQ cI=>?_;unfold RS
  simp[aE]
  (refine cQ.ob (sw a.c v r bY J) bi ba ba dl ?_;rintro r ah ⟨rfl,rfl⟩;refine⟨(Same.keys bv bv),?_⟩;simp[cb,aP,aD,aE])
  obtain⟨ac,uX,Kv⟩:=a
  cases Kv with
  |true=>
   simp at U;subst U
   (with_reducible repeat' first|refine ak ?_|simp)
   (refine cL.at (gn _ ⟨bY,uX,true⟩) Ψ (by first|exact qC _|exact qC ‹_› _) (Same.keys (by simp[gn,aD,aE]) (by simp[gn,aD,aE])) gc gc ?_;simp[cM,Cc,aV,aY,aU,inObs,Pv.look,gn,aD,aE])
  |false=>
   by_cases ab:r=x
   ·simp[ab]at U;subst U
    (with_reducible repeat' first|refine ak ?_|simp[ab])
    (refine cL.at (gn _ ⟨bY,uX,true⟩) Ψ (by first|exact qC _|exact qC ‹_› _) (Same.keys (by simp[gn,aD,aE]) (by simp[gn,aD,aE])) gc gc ?_;simp[cM,Cc,aV,aY,aU,inObs,Pv.look,gn,aD,aE])
   ·have iJ:(r==x)=false:=by simp[ab]
    simp only[ab,hg,or_self,if_false]at U
    cases jb:(tg r uX).getD false with
    |true=>
     simp[jb]at U;subst U
     (with_reducible repeat' first|refine ak ?_|simp[iJ,jb])
     (refine cL.at (gn _ ⟨bY,uX,false⟩) Ψ (by first|exact qC _|exact qC ‹_› _) (Same.keys (by simp[gn,aD,aE]) (by simp[gn,aD,aE])) gc gc ?_;simp[cM,Cc,aV,aY,aU,inObs,Pv.look,gn,aD,aE])
    |false=>
     cases hc:bY.shd r with
     |false=>
      have MT:(tg r bY.shaped).getD false=false:=hc
      simp[jb,hc]at U;subst U
      (with_reducible repeat' first|refine ak ?_|simp[iJ,jb,MT])
      (refine cL.at (gn _ ⟨bY,uX,false⟩) Ψ (by first|exact qC _|exact qC ‹_› _) (Same.keys (by simp[gn,aD,aE]) (by simp[gn,aD,aE])) gc gc ?_;simp[cM,Cc,aV,aY,aU,inObs,Pv.look,gn,aD,aE])
     |true=>
      have MT:(tg r bY.shaped).getD false=true:=hc
      simp[jb,hc]at U
      have aM:=xq _ _ _ _ U
      (with_reducible repeat' first|refine ak ?_|simp[iJ,jb,MT])
      (refine gx.ob (aM) d8 d8 (Same.keys (by simp[eO,aD,aE]) (by simp[eO,aD,aE])) (by simp only[eO,aD,aE,bP,bU];exact aH) (by simp only[eO,aD,aE,bP,bU];exact aH) (by simp[inObs,Pv.look,eO,aD,aE]) ?_;simp[cb,eO,aD,aE])
      (with_reducible repeat' first|refine ak ?_|simp)
      (refine cL.at (gn _ bk) Ψ (by first|exact qC _|exact qC ‹_› _) (Same.keys (by simp[gn,aD,aE]) (by simp[gn,aD,aE])) gc gc ?_;simp[cM,Cc,aV,aY,aU,inObs,Pv.look,gn,aD,aE])
theorem G5{K:Nat}(c7:zx K)(x:Int)(n:Nat):∀(t:T) (c:bu) (seen:List (Int×Bool)) (a:vd),qt n x t c seen=some a->bG aw 164 [aE,t.e,.int .i64 x,.gmap (.obj K)] (eO K (c,seen)) fun r ah=>r= .bool a.found/\ah=eO K (a.c,a.seen):=by
 induction n with
 |zero=>intro t c seen a h;simp[qt]at h
 |succ n bN=>
  intro t c seen a h;simp only[qt]at h;have af:=iD c7 (c,seen);have key:=L0 (gn K) (qC c7) Kh 189 [.eptr aE,.ptr (.obj 712) 0,.eptr (.int .i64 x),.eptr (.gmap (.obj K))] (fun a=>by rcases c7 with rfl|rfl<;>simp[gn,aD,aE,inObs,Pv.look]) rfl (xW (qt n x) x) (fun v a bk h=>agZ c7 n x bN v a bk h) t ⟨c,seen,false⟩ a h;have ae:=c7;rcases ae with rfl|rfl;all_goals
   simp only[eO,aD,bP,bU]at af⊢
   refine bG.mk mixed j4 aeD alu Ψ af.obj fun aQ cI=>?_;unfold RR
   simp[aE]
   refine cQ.new key (qC c7 _) gc gc (by simp[inObs,Pv.look,gn,aD,aE]) ?_
   rintro r ah ⟨rfl,rfl⟩
   refine⟨fun m hm=>.inl ⟨?_,Kh _ _⟩,?_⟩
   ·exact((Kh _ _).inObs _).2 hm
   simp[cb,gn,aD]
   (with_reducible repeat' first|refine ak ?_|simp)
   (refine cL.at (eO _ (a.c,a.seen)) Ψ d8 (Same.keys (by simp[eO,aD,aE]) (by simp[eO,aD,aE])) (by simp only[eO,aD,aE,bP,bU];exact aH) (by simp only[eO,aD,aE,bP,bU];exact aH) ?_;simp[cM,YY,aV,aY,aU,inObs,Pv.look,eO,aD,aE])
@[simp]theorem NM:q3 []=kj []:=rfl
@[simp]theorem avm(t:T):x4 (some t)=t.e:=rfl
@[simp]theorem avl:x4 none= .agg [.int .i64 0,.int .i64 0,.str [],.slice 4 .nil []]:=rfl
theorem UY(n:Nat)(x:Int)(t:T)(c:bu)(p:Bool×bu)(he:vZ n x t c=some p):bG aw 165 [aE,.int .i64 x,t.e] (aP c) fun r ah=>r= .bool p.1/\ah=aP p.2:=by have af:=cl c;simp only[vZ,gv]at he;obtain⟨a,J,rfl⟩:=he;have c7:zx 715:= .inl rfl;have key:=G5 c7 x n t (c.know x t) [] a J;simp only[aP,aD]at af⊢;refine bG.mk mixed j4 aeA alq Ψ af.obj fun aQ cI=>?_;unfold RO;simp[aE];(refine cQ.ob (key) d8 (by simp only[eO,aD,aE,bu.know,bP,bU];exact aH) (by simp only[eO,aD,aE,bu.know,bP,bU];exact aH) (by simp[inObs,Pv.look,eO,aD,aE,bu.know]) ?_;rintro r ah ⟨rfl,rfl⟩;refine⟨(Same.keys (by simp[eO,aD,aE,bu.know]) (by simp[eO,aD,aE,bu.know])),?_⟩;simp[cb,eO,aD,aE,bu.know]);(refine cL.at (aP a.c) Ψ bi (Same.keys bv bv) ba ba ?_;simp[cM,YV,aV,aY,aU,inObs,Pv.look,aP,aD,aE])
theorem UW(n:Nat):∀(a b:T) (c:bu) (p:Bool×bu),gR n a b c=some p->bG aw 145 [aE,a.e,b.e] (aP c) fun r ah=>r= .bool p.1/\ah=aP p.2:=by
 induction n with
 |zero=>intro a b c p h;simp[gR]at h
 |succ n bN=>
  intro a b c p he;have af:=cl c;have D8:∀i j,a= .var i->b= .var j->bG aw 145 [aE,a.e,b.e] (aP c) fun r ah=>r= .bool p.1/\ah=aP p.2:=by
   rintro i j rfl rfl;simp only[gR,ji]at he;obtain⟨⟨x,bY⟩,J,⟨y,cw⟩,U,h3⟩:=he;simp only at U h3;simp only[aP,aD]at af⊢;refine bG.mk mixed j4 yG zz Ψ af.obj fun aQ cI=>?_;unfold wR;simp[aE];(refine cQ.ob (sw c i x bY J) bi ba ba dl ?_;rintro r ah ⟨rfl,rfl⟩;refine⟨(Same.keys bv bv),?_⟩;simp[cb,aP,aD,aE]);(with_reducible repeat' first|refine ak ?_|simp);(refine cQ.ob (sw bY j y cw U) bi ba ba dl ?_;rintro r ah ⟨rfl,rfl⟩;refine⟨(Same.keys bv bv),?_⟩;simp[cb,aP,aD,aE]);by_cases gV:x=y
   ·rw[if_pos gV]at h3;cases h3;(with_reducible repeat' first|refine ak ?_|simp[gV]);(refine cL.at (aP cw) Ψ bi (Same.keys bv bv) ba ba ?_;simp[cM,o2,aV,aY,aU,inObs,Pv.look,aP,aD,aE])
   ·rw[if_neg gV]at h3;have Bu:(x==y)=false:=by simp[gV]
    have Vj:zx 715:= .inl rfl;have ahA:zx 716:= .inr rfl;obtain⟨u,v,Br,h4⟩:∃u v,((u=y/\v=x/\y<x)\/(u=x/\v=y/\¬y<x))/\sq (gR n) n u v (cw.join u v)=some p:=by
     by_cases bs:y<x
     ·rw[if_pos bs]at h3;exact⟨y,x,.inl ⟨rfl,rfl,bs⟩,h3⟩
     ·rw[if_neg bs]at h3;exact⟨x,y,.inr ⟨rfl,rfl,bs⟩,h3⟩
    clear h3;obtain⟨d,aG⟩:∃d,d=cw.join u v:=⟨_,rfl⟩;have fC:d.up=e5 v u cw.up:=by rw[aG];rfl
    have e3:d.shape=cw.shape:=by rw[aG];rfl
    have gT:d.shaped=cw.shaped:=by rw[aG];rfl
    have hU:d.color=cw.color:=by rw[aG];rfl
    have hV:d.size=cw.size:=by rw[aG];rfl
    have hW:d.full=cw.full:=by rw[aG];rfl
    rw[<-aG]at h4;simp only[sq]at h4;cases az:d.shd v with
    |false=>
     have mV:(tg v cw.shaped).getD false=false:=by rw[<-gT];exact az
     rw[if_pos az]at h4;cases hu:d.shd u with
     |false=>
      have vM:(tg u cw.shaped).getD false=false:=by rw[<-gT];exact hu
      rw[if_pos hu]at h4;cases h4;rcases Br with⟨rfl,rfl,bs⟩|⟨rfl,rfl,bs⟩;all_goals
       (with_reducible repeat' first|refine ak ?_|simp[Bu,bs,mV,vM])
       (refine cL.at (aP d) Ψ bi (Same.keys (by simp[aP,aD,aE,fC,e3,gT,hU,hV,hW]) (by simp[aP,aD,aE,fC,e3,gT,hU,hV,hW])) (by simp only[aP,aD,aE,fC,e3,gT,hU,hV,hW,bP,bU];exact aH) (by simp only[aP,aD,aE,fC,e3,gT,hU,hV,hW,bP,bU];exact aH) ?_;simp[cM,o2,aV,aY,aU,inObs,Pv.look,aP,aD,aE,fC,e3,gT,hU,hV,hW])
     |true=>
      have vM:(tg u cw.shaped).getD false=true:=by rw[<-gT];exact hu
      rw[if_neg (by simp[hu]),gv]at h4;obtain⟨a,h5,rfl⟩:=h4;have key:=G5 Vj u n _ _ _ _ h5;rw[show d.shp u=(tg u cw.shape).getD .nil from by rw[<-e3];rfl]at key;rcases Br with⟨rfl,rfl,bs⟩|⟨rfl,rfl,bs⟩;all_goals
       (with_reducible repeat' first|refine ak ?_|simp[Bu,bs,mV,vM])
       (refine cQ.ob (key) d8 ge ge (by simp[inObs,Pv.look,eO,aD,aE,fC,e3,gT,hU,hV,hW]) ?_;rintro r ah ⟨rfl,rfl⟩;refine⟨(Same.keys (by simp[eO,aD,aE,fC,e3,gT,hU,hV,hW]) (by simp[eO,aD,aE,fC,e3,gT,hU,hV,hW])),?_⟩;simp[cb,eO,aD,aE,fC,e3,gT,hU,hV,hW])
       (with_reducible repeat' first|refine ak ?_|simp)
       (refine cL.at (aP a.c) Ψ bi (Same.keys bv bv) ba ba ?_;simp[cM,o2,aV,aY,aU,inObs,Pv.look,aP,aD,aE])
    |true=>
     have mV:(tg v cw.shaped).getD false=true:=by rw[<-gT];exact az
     rw[if_neg (by simp[az])]at h4;rw[show d.shp v=(tg v cw.shape).getD .nil from by rw[<-e3];rfl]at h4;cases hu:d.shd u with
     |false=>
      have vM:(tg u cw.shaped).getD false=false:=by rw[<-gT];exact hu
      rw[if_pos hu]at h4;have key:=UY n u _ d p h4;cases aI:tg v cw.shape;all_goals
       rw[aI]at key
       simp only[iB,lv]at key
       rcases Br with⟨rfl,rfl,bs⟩|⟨rfl,rfl,bs⟩
       all_goals
        (with_reducible repeat' first|refine ak ?_|simp[Bu,bs,mV,vM,aI])
        (refine cQ.ob (key) bi (by simp only[aP,aD,aE,fC,e3,gT,hU,hV,hW,bP,bU];exact aH) (by simp only[aP,aD,aE,fC,e3,gT,hU,hV,hW,bP,bU];exact aH) (by simp[inObs,Pv.look,aP,aD,aE,fC,e3,gT,hU,hV,hW]) ?_;rintro r ah ⟨rfl,rfl⟩;refine⟨(Same.keys (by simp[aP,aD,aE,fC,e3,gT,hU,hV,hW]) (by simp[aP,aD,aE,fC,e3,gT,hU,hV,hW])),?_⟩;simp[cb,aP,aD,aE,fC,e3,gT,hU,hV,hW])
        (with_reducible repeat' first|refine ak ?_|simp)
        (refine cL.at (aP p.2) Ψ bi (Same.keys bv bv) ba ba ?_;simp[cM,o2,aV,aY,aU,inObs,Pv.look,aP,aD,aE])
     |true=>
      have vM:(tg u cw.shaped).getD false=true:=by rw[<-gT];exact hu
      rw[if_neg (by simp[hu]),ji]at h4;obtain⟨a,h5,c9⟩:=h4;have key:=G5 Vj u n _ _ _ _ h5;obtain⟨o,aI⟩:∃o,tg v cw.shape=o:=⟨_,rfl⟩;rw[aI]at key c9;obtain⟨ac,uX,Kv⟩:=a;cases Kv with
      |true=>
       simp at c9;subst c9;cases o;all_goals
        simp only[iB,lv]at key
        rcases Br with⟨rfl,rfl,bs⟩|⟨rfl,rfl,bs⟩
        all_goals
         (with_reducible repeat' first|refine ak ?_|simp[Bu,bs,mV,vM,aI])
         (refine gx.ob (key) d8 d8 (Same.keys (by simp[eO,aD,aE,fC,e3,gT,hU,hV,hW]) (by simp[eO,aD,aE,fC,e3,gT,hU,hV,hW])) ge ge (by simp[inObs,Pv.look,eO,aD,aE,fC,e3,gT,hU,hV,hW]) ?_;simp[cb,eO,aD,aE,fC,e3,gT,hU,hV,hW])
         (with_reducible repeat' first|refine ak ?_|simp)
         (refine cL.at (aP ac) Ψ bi (Same.keys bv bv) ba ba ?_;simp[cM,o2,aV,aY,aU,inObs,Pv.look,aP,aD,aE])
      |false=>
       simp only[hg,if_false,ji]at c9;obtain⟨b,dX,jD⟩:=c9;have xA:=G5 ahA u n _ _ _ _ dX;rw[show ac.shp u=(tg u ac.shape).getD .nil from rfl]at xA;obtain⟨KD,arI,acK⟩:=b;cases acK with
       |true=>
        simp at jD;subst jD;cases o;all_goals
         simp only[iB,lv]at key
         rcases Br with⟨rfl,rfl,bs⟩|⟨rfl,rfl,bs⟩
         all_goals
          (with_reducible repeat' first|refine ak ?_|simp[Bu,bs,mV,vM,aI])
          (refine gx.ob (key) d8 d8 (Same.keys (by simp[eO,aD,aE,fC,e3,gT,hU,hV,hW]) (by simp[eO,aD,aE,fC,e3,gT,hU,hV,hW])) ge ge (by simp[inObs,Pv.look,eO,aD,aE,fC,e3,gT,hU,hV,hW]) ?_;simp[cb,eO,aD,aE,fC,e3,gT,hU,hV,hW])
          (with_reducible repeat' first|refine ak ?_|simp)
          (refine gx.ob (xA) d8 d8 (Same.keys (by simp[eO,aD,aE]) (by simp[eO,aD,aE])) (by simp only[eO,aD,aE,bP,bU];exact aH) (by simp only[eO,aD,aE,bP,bU];exact aH) (by simp[inObs,Pv.look,eO,aD,aE]) ?_;simp[cb,eO,aD,aE])
          (with_reducible repeat' first|refine ak ?_|simp)
          (refine cL.at (aP KD) Ψ bi (Same.keys bv bv) ba ba ?_;simp[cM,o2,aV,aY,aU,inObs,Pv.look,aP,aD,aE])
       |false=>
        simp only[hg,if_false]at jD;have Ns:=bN _ _ _ _ jD;rw[show KD.shp u=(tg u KD.shape).getD .nil from rfl]at Ns;cases o;all_goals
         simp only[iB,lv]at key Ns
         rcases Br with⟨rfl,rfl,bs⟩|⟨rfl,rfl,bs⟩
         all_goals
          (with_reducible repeat' first|refine ak ?_|simp[Bu,bs,mV,vM,aI])
          (refine gx.ob (key) d8 d8 (Same.keys (by simp[eO,aD,aE,fC,e3,gT,hU,hV,hW]) (by simp[eO,aD,aE,fC,e3,gT,hU,hV,hW])) ge ge (by simp[inObs,Pv.look,eO,aD,aE,fC,e3,gT,hU,hV,hW]) ?_;simp[cb,eO,aD,aE,fC,e3,gT,hU,hV,hW])
          (with_reducible repeat' first|refine ak ?_|simp)
          (refine gx.ob (xA) d8 d8 (Same.keys (by simp[eO,aD,aE]) (by simp[eO,aD,aE])) (by simp only[eO,aD,aE,bP,bU];exact aH) (by simp only[eO,aD,aE,bP,bU];exact aH) (by simp[inObs,Pv.look,eO,aD,aE]) ?_;simp[cb,eO,aD,aE])
          (with_reducible repeat' first|refine ak ?_|simp)
          (refine gx.ob (Ns) bi bi (Same.keys bv bv) ba ba dl ?_;simp[cb,aP,aD,aE])
          (with_reducible repeat' first|refine ak ?_|simp)
          (refine cL.at (aP p.2) Ψ bi (Same.keys bv bv) ba ba ?_;simp[cM,o2,aV,aY,aU,inObs,Pv.look,aP,aD,aE])
  have az:∀i,a= .var i->b.kind≠1->bG aw 145 [aE,a.e,b.e] (aP c) fun r ah=>r= .bool p.1/\ah=aP p.2:=by
   rintro i rfl ad;have xd:((rt c i).bind fun p=>if p.2.shd p.1=false then vZ n p.1 b p.2 else gR n (p.2.shp p.1) b p.2)=some p:=by cases b<;>first|exact he|simp at ad
   simp only[ji]at xd;obtain⟨⟨x,bY⟩,J,U⟩:=xd;simp only at U;have gd:(b.kind==1)=false:=by simp[ad]
   simp only[aP,aD]at af⊢;refine bG.mk mixed j4 yG zz Ψ af.obj fun aQ cI=>?_;unfold wR;simp[aE];(with_reducible repeat' first|refine ak ?_|simp[gd,ad]);(refine cQ.ob (sw c i x bY J) bi ba ba dl ?_;rintro r ah ⟨rfl,rfl⟩;refine⟨(Same.keys bv bv),?_⟩;simp[cb,aP,aD,aE]);cases ab:bY.shd x with
   |false=>have iJ:(tg x bY.shaped).getD false=false:=ab;rw[if_pos ab]at U;(with_reducible repeat' first|refine ak ?_|simp[iJ]);(refine cQ.ob (UY n x b bY p U) bi ba ba dl ?_;rintro r ah ⟨rfl,rfl⟩;refine⟨(Same.keys bv bv),?_⟩;simp[cb,aP,aD,aE]);(refine cL.at (aP p.2) Ψ bi (Same.keys bv bv) ba ba ?_;simp[cM,o2,aV,aY,aU,inObs,Pv.look,aP,aD,aE])
   |true=>have iJ:(tg x bY.shaped).getD false=true:=ab;rw[if_neg (by simp[ab])]at U;have key:=bN _ _ _ _ U;(with_reducible repeat' first|refine ak ?_|simp[iJ]);(refine gx.ob (key) bi bi (Same.keys bv bv) ba ba dl ?_;simp[cb,aP,aD,aE]);(with_reducible repeat' first|refine ak ?_|simp);(refine cL.at (aP p.2) Ψ bi (Same.keys bv bv) ba ba ?_;simp[cM,o2,aV,aY,aU,inObs,Pv.look,aP,aD,aE])
  cases a with
  |var i=>
   cases b with
   |var j=>exact D8 i j rfl rfl
   |_=>exact az i rfl Ψ
  |pair bA a2=>
   cases b with
   |var j=>simp only[gR]at he;have key:=bN _ _ _ _ he;simp only[aP,aD]at af⊢;refine bG.mk mixed j4 yG zz Ψ af.obj fun aQ cI=>?_;unfold wR;simp[aE];(refine cQ.ob (key) bi ba ba dl ?_;rintro r ah ⟨rfl,rfl⟩;refine⟨(Same.keys bv bv),?_⟩;simp[cb,aP,aD,aE]);(refine cL.at (aP p.2) Ψ bi (Same.keys bv bv) ba ba ?_;simp[cM,o2,aV,aY,aU,inObs,Pv.look,aP,aD,aE])
   |pair b1 b2=>
    simp only[gR,ji]at he;obtain⟨⟨f1,bY⟩,J,U⟩:=he;have key:=bN _ _ _ _ J;simp only[aP,aD]at af⊢;refine bG.mk mixed j4 yG zz Ψ af.obj fun aQ cI=>?_;unfold wR;simp[aE];(with_reducible repeat' first|refine ak ?_|simp);(refine gx.ob (key) bi bi (Same.keys bv bv) ba ba dl ?_;simp[cb,aP,aD,aE]);cases f1 with
    |false=>simp at U;subst U;(with_reducible repeat' first|refine ak ?_|simp);(refine cL.at (aP bY) Ψ bi (Same.keys bv bv) ba ba ?_;simp[cM,o2,aV,aY,aU,inObs,Pv.look,aP,aD,aE])
    |true=>simp at U;have xA:=bN _ _ _ _ U;(with_reducible repeat' first|refine ak ?_|simp);(refine gx.ob (xA) bi bi (Same.keys bv bv) ba ba dl ?_;simp[cb,aP,aD,aE]);(with_reducible repeat' first|refine ak ?_|simp);(refine cL.at (aP p.2) Ψ bi (Same.keys bv bv) ba ba ?_;simp[cM,o2,aV,aY,aU,inObs,Pv.look,aP,aD,aE])
   |_=>simp[gR]at he;subst he;simp only[aP,aD]at af⊢;refine bG.mk mixed j4 yG zz Ψ af.obj fun aQ cI=>?_;unfold wR;simp[aE];(refine cL.at (aP c) Ψ bi (Same.keys bv bv) ba ba ?_;simp[cM,o2,aV,aY,aU,inObs,Pv.look,aP,aD,aE])
  |_=>
   cases b with
   |var j=>simp only[gR]at he;have key:=bN _ _ _ _ he;simp only[aP,aD]at af⊢;refine bG.mk mixed j4 yG zz Ψ af.obj fun aQ cI=>?_;unfold wR;simp[aE];(refine cQ.ob (key) bi ba ba dl ?_;rintro r ah ⟨rfl,rfl⟩;refine⟨(Same.keys bv bv),?_⟩;simp[cb,aP,aD,aE]);(refine cL.at (aP p.2) Ψ bi (Same.keys bv bv) ba ba ?_;simp[cM,o2,aV,aY,aU,inObs,Pv.look,aP,aD,aE])
   |_=>
    simp[gR]at he;subst he;simp only[aP,aD]at af⊢;refine bG.mk mixed j4 yG zz Ψ af.obj fun aQ cI=>?_;unfold wR;simp[aE];((with_reducible repeat' first|refine ak ?_|simp|((first|apply bJ|apply bM|apply bL)<;>intro h<;>try simp at h))<;>(try exact ck));all_goals(refine cL.at (aP c) Ψ bi (Same.keys bv bv) ba ba ?_;simp[cM,o2,aV,aY,aU,inObs,Pv.look,aP,aD,aE])
    all_goals simp_all
def nt(c:bu):Prop:= ∀x,0<=c.sz x/\c.sz x<=5001
theorem nt.rt{c:bu}(h:nt c){v r:Int}{cq:bu}(he:rt c v=some (r,cq)):nt cq:=by simp only[Pv.rt,gv,j7]at he;obtain⟨p,_,_,rfl⟩:=he;exact h
theorem nt.put{c:bu}(h:nt c){x k:Int}(ae:0<=k/\k<=5001)(m:List (Int×Int)):nt {c with size:=e5 x k c.size,color:=m}:=fun z=>by
 show 0<=(tg z (e5 x k c.size)).getD 0/\(tg z (e5 x k c.size)).getD 0<=5001;rw[nS];split
 ·exact ae
 ·exact h z
theorem ahg(c:bu)(v:Int)(p:Int×bu)(he:zX v c=some p):bG aw 192 [.int .i64 v,.eptr aE] (aP c) fun r ah=>r= .int .i64 p.1/\ah=aP p.2:=by have af:=cl c;simp only[zX,gv]at he;obtain⟨⟨r,bY⟩,J,rfl⟩:=he;simp only[aP,aD]at af⊢;refine bG.mk mixed j4 aeI alz Ψ af.obj fun aQ cI=>?_;unfold RW;simp[aE];(refine gx.ob (sw c v r bY J) bi bi (Same.keys bv bv) ba ba dl ?_;simp[cb,aP,aD,aE]);(with_reducible repeat' first|refine ak ?_|simp);(refine cL.at (aP bY) Ψ bi (Same.keys bv bv) ba ba ?_;simp[cM,Y1,aV,aY,aU,inObs,Pv.look,aP,aD,aE]);all_goals rfl
def gE(a:bu×Bool):cT:=⟨aD a.1++[(.obj 712,[.bool a.2])],[]⟩
theorem rl(a):dP (gE a):=by unfold gE aD;exact dP.of ⟨by intro m;simp[Pv.look],by intro m;simp[Pv.look]⟩ Ψ Ψ
theorem ab3(a b):Same (gE a) (gE b):=Same.keys (by simp[gE,aD]) (by simp[gE,aD])
theorem ahf(n:Nat)(xq:∀x c p,re n x c=some p->nt c->nt p.2/\bG aw 167 [aE,.int .i64 x] (aP c) fun r ah=>r= .bool p.1/\ah=aP p.2)
  (v:Int) (a bk:bu×Bool) (bd:nt a.1) (he:Af (re n) v a=some bk):nt bk.1/\bG aw 191 [.int .i64 v,.ptr (.obj 712) 0,.eptr aE] (gE a) fun r ah=>r= .tuple []/\ah=gE bk:=by
 have af:=rl a;obtain⟨c,f⟩:=a;cases f with
 |false=>simp[Af]at he;subst he;refine⟨bd,?_⟩;simp only[gE,aD,bP,bU]at af⊢;refine bG.mk mixed j4 Um Yg Ψ af.obj fun aQ cI=>?_;unfold KR;simp[aE];(with_reducible repeat' first|refine ak ?_|simp);(refine cL.at (gE (c,false)) Ψ (by first|exact rl _|exact rl ‹_› _) (Same.keys (by simp[gE,aD,aE]) (by simp[gE,aD,aE])) (by simp only[gE,aD,aE,bP,bU];exact aH) (by simp only[gE,aD,aE,bP,bU];exact aH) ?_;simp[cM,IY,aV,aY,aU,inObs,Pv.look,gE,aD,aE])
 |true=>
  simp only[Af,if_true,ji,gv]at he;obtain⟨⟨r,bY⟩,J,⟨f2,cw⟩,U,rfl⟩:=he;obtain⟨z2,key⟩:=xq _ _ _ U (bd.rt J);refine⟨z2,?_⟩;simp only[gE,aD,bP,bU]at af⊢;refine bG.mk mixed j4 Um Yg Ψ af.obj fun aQ cI=>?_;unfold KR;simp[aE];(with_reducible repeat' first|refine ak ?_|simp);(refine gx.ob (sw c v r bY J) bi bi (Same.keys bv bv) ba ba dl ?_;simp[cb,aP,aD,aE]);(with_reducible repeat' first|refine ak ?_|simp);(refine gx.ob (key) bi bi (Same.keys bv bv) ba ba dl ?_;simp[cb,aP,aD,aE]);cases f2 with
  |true=>(with_reducible repeat' first|refine ak ?_|simp);(refine cL.at (gE (cw,true)) Ψ (by first|exact rl _|exact rl ‹_› _) (Same.keys (by simp[gE,aD,aE]) (by simp[gE,aD,aE])) (by simp only[gE,aD,aE,bP,bU];exact aH) (by simp only[gE,aD,aE,bP,bU];exact aH) ?_;simp[cM,IY,aV,aY,aU,inObs,Pv.look,gE,aD,aE])
  |false=>(with_reducible repeat' first|refine ak ?_|simp);(refine cL.at (gE (cw,false)) Ψ (by first|exact rl _|exact rl ‹_› _) (Same.keys (by simp[gE,aD,aE]) (by simp[gE,aD,aE])) (by simp only[gE,aD,aE,bP,bU];exact aH) (by simp only[gE,aD,aE,bP,bU];exact aH) ?_;simp[cM,IY,aV,aY,aU,inObs,Pv.look,gE,aD,aE])
theorem ahe(n:Nat):∀(x:Int) (c:bu) (p:Bool×bu),re n x c=some p->nt c->nt p.2/\bG aw 167 [aE,.int .i64 x] (aP c) fun r ah=>r= .bool p.1/\ah=aP p.2:=by
 induction n with
 |zero=>intro x c p h;simp[re]at h
 |succ n bN=>
  intro x c p he bd;have af:=cl c;simp only[re]at he;by_cases U:c.col x=2
  ·rw[if_pos U]at he;cases he;have Dy:hC c.color x=2:=U;refine⟨bd,?_⟩;simp only[aP,aD]at af⊢;refine bG.mk mixed j4 Di EO Ψ af.obj fun aQ cI=>?_;unfold AB;simp[aE];(with_reducible repeat' first|refine ak ?_|simp[Dy]);(refine cL.at (aP c) Ψ bi (Same.keys bv bv) ba ba ?_;simp[cM,Cd,aV,aY,aU,inObs,Pv.look,aP,aD,aE])
  rw[if_neg U]at he;have Dy:(hC c.color x==2)=false:=by simp;exact U
  by_cases J:c.col x=1
  ·rw[if_pos J]at he;cases he;have oT:hC c.color x=1:=J;refine⟨bd,?_⟩;simp only[aP,aD]at af⊢;refine bG.mk mixed j4 Di EO Ψ af.obj fun aQ cI=>?_;unfold AB;simp[aE];(with_reducible repeat' first|refine ak ?_|simp[oT]);(refine cL.at (aP c) Ψ bi (Same.keys bv bv) ba ba ?_;simp[cM,Cd,aV,aY,aU,inObs,Pv.look,aP,aD,aE])
  rw[if_neg J]at he;have oT:(hC c.color x==1)=false:=by simp;exact J
  have Ws:nt (c.grey x):=bd.put Ω _;cases jG:(c.grey x).shd x with
  |false=>rw[if_pos jG]at he;cases he;have ur:(tg x c.shaped).getD false=false:=jG;refine⟨Ws,?_⟩;simp only[aP,aD]at af⊢;refine bG.mk mixed j4 Di EO Ψ af.obj fun aQ cI=>?_;unfold AB;simp[aE];(with_reducible repeat' first|refine ak ?_|simp[Dy,oT,ur]);(refine cL.at (aP ((c.grey x).black x)) Ψ bi (Same.keys (by simp[aP,aD,aE,bu.grey,bu.black]) (by simp[aP,aD,aE,bu.grey,bu.black])) (by simp only[aP,aD,aE,bu.grey,bu.black,bP,bU];exact aH) (by simp only[aP,aD,aE,bu.grey,bu.black,bP,bU];exact aH) ?_;simp[cM,Cd,aV,aY,aU,inObs,Pv.look,aP,aD,aE,bu.grey,bu.black])
  |true=>
   rw[if_neg (by simp[jG]),ji]at he;have ur:(tg x c.shaped).getD false=true:=jG;obtain⟨⟨e,f⟩,h3,h4⟩:=he;simp only at h4;obtain⟨abI,key⟩:=UU gE rl ab3 191 [.ptr (.obj 712) 0,.eptr aE] (fun a=>by simp[gE,aD,aE,inObs,Pv.look]) rfl (fun a=>nt a.1) (Af (re n)) (fun v a bk bd h=>ahf n bN v a bk bd h) _ _ _ Ws h3;rw[show(c.grey x).shp x=(tg x c.shape).getD .nil from rfl]at key;cases f with
   |false=>simp at h4;subst h4;refine⟨abI,?_⟩;simp only[aP,aD]at af⊢;refine bG.mk mixed j4 Di EO Ψ af.obj fun aQ cI=>?_;unfold AB;simp[aE];(with_reducible repeat' first|refine ak ?_|simp[Dy,oT,ur]);(refine cQ.ob (key) (by first|exact rl _|exact rl ‹_› _) (by simp only[gE,aD,aE,bu.grey,bP,bU];exact aH) (by simp only[gE,aD,aE,bu.grey,bP,bU];exact aH) (by simp[inObs,Pv.look,gE,aD,aE,bu.grey]) ?_;rintro r ah ⟨rfl,rfl⟩;refine⟨(Same.keys (by simp[gE,aD,aE,bu.grey]) (by simp[gE,aD,aE,bu.grey])),?_⟩;simp[cb,gE,aD,aE,bu.grey]);(with_reducible repeat' first|refine ak ?_|simp);(refine cL.at (aP e) Ψ bi (Same.keys bv bv) ba ba ?_;simp[cM,Cd,aV,aY,aU,inObs,Pv.look,aP,aD,aE])
   |true=>
    rw[if_neg Ψ,gv]at h4;obtain⟨⟨k,aF⟩,h5,rfl⟩:=h4;obtain⟨z2,b2,xA⟩:=ag5 aP cl F5 192 [.eptr aE] (fun a=>by simp[aP,aD,aE,inObs,Pv.look]) rfl nt zX (fun v a p bd h=>by simp only[zX,gv]at h;obtain⟨⟨r,bY⟩,J,rfl⟩:=h;exact⟨bd.rt J,(bd.rt J r).1,Int.le_trans (bd.rt J r).2 Ω⟩) (fun v a p _ h=>ahg a v p h) _ _ _ abI h5
    rw[show bu.shp e x=(tg x e.shape).getD .nil from rfl]at xA;refine⟨z2.put b2 _,?_⟩;simp only[aP,aD]at af⊢;refine bG.mk mixed j4 Di EO Ψ af.obj fun aQ cI=>?_;unfold AB;simp[aE];(with_reducible repeat' first|refine ak ?_|simp[Dy,oT,ur]);(refine cQ.ob (key) (by first|exact rl _|exact rl ‹_› _) (by simp only[gE,aD,aE,bu.grey,bP,bU];exact aH) (by simp only[gE,aD,aE,bu.grey,bP,bU];exact aH) (by simp[inObs,Pv.look,gE,aD,aE,bu.grey]) ?_;rintro r ah ⟨rfl,rfl⟩;refine⟨(Same.keys (by simp[gE,aD,aE,bu.grey]) (by simp[gE,aD,aE,bu.grey])),?_⟩;simp[cb,gE,aD,aE,bu.grey]);(with_reducible repeat' first|refine ak ?_|simp);(refine gx.ob (xA) bi bi (Same.keys bv bv) ba ba dl ?_;simp[cb,aP,aD,aE]);(with_reducible repeat' first|refine ak ?_|simp);(refine cL.at (aP (({aF with size:=e5 x k aF.size}:bu).black x)) Ψ bi (Same.keys (by simp[aP,aD,aE,bu.black]) (by simp[aP,aD,aE,bu.black])) (by simp only[aP,aD,aE,bu.black,bP,bU];exact aH) (by simp only[aP,aD,aE,bu.black,bP,bU];exact aH) ?_;simp[cM,Cd,aV,aY,aU,inObs,Pv.look,aP,aD,aE,bu.black])
theorem ahd(n:Nat)(xq:∀x c p,rb n x c=some p->bG aw 168 [aE,.int .i64 x] (aP c) fun r ah=>r=p.1.e/\ah=aP p.2)
  (v:Int) (c:bu) (p:T×bu) (he:CK (rb n) v c=some p):bG aw 193 [.int .i64 v,.eptr aE] (aP c) fun r ah=>r= .tuple [p.1.e,.bool true]/\ah=aP p.2:=by
 have af:=cl c;simp only[CK,ji]at he;obtain⟨⟨r,bY⟩,J,U⟩:=he;have key:=xq _ _ _ U;simp only[aP,aD]at af⊢;refine bG.mk mixed j4 aeH aly Ψ af.obj fun aQ cI=>?_;unfold RV;simp[aE];(with_reducible repeat' first|refine ak ?_|simp);(refine gx.ob (sw c v r bY J) bi bi (Same.keys bv bv) ba ba dl ?_;simp[cb,aP,aD,aE]);(with_reducible repeat' first|refine ak ?_|simp);(refine gx.ob (key) bi bi (Same.keys bv bv) ba ba dl ?_;simp[cb,aP,aD,aE]);(with_reducible repeat' first|refine ak ?_|simp);(refine cL.at (aP p.2) Ψ bi (Same.keys bv bv) ba ba ?_;simp[cM,Y0,aV,aY,aU,inObs,Pv.look,aP,aD,aE])
theorem lr(n:Int):bK aw 28 [.int .i64 n] (T.var n).e:=by refine bo j4 ae2 alT fun aQ=>?_;unfold Si;exact cz
theorem ahc(n:Nat):∀(x:Int) (c:bu) (p:T×bu),rb n x c=some p->bG aw 168 [aE,.int .i64 x] (aP c) fun r ah=>r=p.1.e/\ah=aP p.2:=by
 induction n with
 |zero=>intro x c p h;simp[rb]at h
 |succ n bN=>
  intro x c p he;have af:=cl c;simp only[rb]at he;cases aN:tg x c.full with
  |some t=>rw[aN]at he;cases he;simp only[aP,aD]at af⊢;refine bG.mk mixed j4 LD Oj Ψ af.obj fun aQ cI=>?_;unfold Gr;simp[aE];(with_reducible repeat' first|refine ak ?_|simp[aN]);(refine cL.at (aP c) Ψ bi (Same.keys bv bv) ba ba ?_;simp[cM,IX,aV,aY,aU,inObs,Pv.look,aP,aD,aE])
  |none=>
   rw[aN]at he;simp only at he;cases jG:c.shd x with
   |false=>have ur:(tg x c.shaped).getD false=false:=jG;rw[if_pos jG]at he;cases he;simp only[aP,aD]at af⊢;refine bG.mk mixed j4 LD Oj Ψ af.obj fun aQ cI=>?_;unfold Gr;simp[aE];(with_reducible repeat' first|refine ak ?_|refine aA (lr _) ?_|refine aB (lr _) ?_|simp[aN,ur]);(refine cL.at (aP {c with full:=e5 x (.var x) c.full}) Ψ bi (Same.keys bv bv) ba ba ?_;simp[cM,IX,aV,aY,aU,inObs,Pv.look,aP,aD,aE])
   |true=>have ur:(tg x c.shaped).getD false=true:=jG;rw[if_neg (by simp[jG]),gv]at he;obtain⟨⟨t,bY⟩,J,rfl⟩:=he;have key:=agS aP cl F5 193 [.eptr aE] (fun a=>by simp[aP,aD,aE,inObs,Pv.look]) rfl (CK (rb n)) (fun v a p h=>ahd n bN v a p h) _ _ _ J;rw[show c.shp x=(tg x c.shape).getD .nil from rfl]at key;simp only[aP,aD]at af⊢;refine bG.mk mixed j4 LD Oj Ψ af.obj fun aQ cI=>?_;unfold Gr;simp[aE];(with_reducible repeat' first|refine ak ?_|refine aA (lr _) ?_|refine aB (lr _) ?_|simp[aN,ur]);(refine cQ.ob (key) bi ba ba dl ?_;rintro r ah ⟨rfl,rfl⟩;refine⟨(Same.keys bv bv),?_⟩;simp[cb,aP,aD,aE]);(with_reducible repeat' first|refine ak ?_|simp);(refine cL.at (aP {bY with full:=e5 x t bY.full}) Ψ bi (Same.keys bv bv) ba ba ?_;simp[cM,IX,aV,aY,aU,inObs,Pv.look,aP,aD,aE])
theorem agU:bG aw 142 [] ⟨[],[]⟩ fun r ah=>r=aE/\ah=aP bu.new:=by have af:dP ⟨[],[]⟩:=dP.of uP Ψ Ψ;refine bG.mk mixed j4 aeP alG Ψ af.obj fun aQ cI=>?_;unfold R5;simp;refine cL.new (aP bu.new) (.inl rfl) (cl _) ⟨trivial,trivial⟩ (by simp only[aP,aD,bu.new];exact aH) (by simp only[aP,aD,bu.new];exact aH) ?_;simp[cM,Y8,aV,aY,aU,inObs,Pv.look,aP,aD,aE]
theorem aaj{a b:List Int}(h:a.Perm b):r2 a=r2 b:=by
 have aI:∀a b c:Int,(decide (a<=b))=true->(decide (b<=c))=true->(decide (a<=c))=true:=by intro a b c;simp;omega
 have Bp:∀a b:Int,(decide (a<=b)||decide (b<=a))=true:=by intro a b;simp;omega
 have J:=List.pairwise_mergeSort aI Bp a;have U:=List.pairwise_mergeSort aI Bp b;refine QI (le:=fun x y:Int=>(decide (x<=y))=true) (fun x y _ _ J U=>by simp at J U;omega) J U ?_;exact(List.mergeSort_perm a _).trans (h.trans (List.mergeSort_perm b _).symm)
def ajG(l:List Int)(k:Nat)(st:bn):Prop:=∃(seen:List Nat) (xs:List Int),seen.Nodup/\(∀b∈seen,b<l.length)/\k=l.length-seen.length/\xs=seen.filterMap (fun b=>l[b]?)/\xs.length=seen.length/\st=⟨[(3,.row 1 (.obj 306) xs.length),(7,.ptr (.loc 0) 0)],[(.obj 304,mc l),(.loc 0,cn l.length seen (.obj 304))],[(.obj 306,⟨xs.length,3,1,some (eC xs)⟩)],1,[.obj 306,.obj 304]⟩
@[simp]theorem as7(xs:List Int):(eC xs).length=xs.length:=by simp[eC]
@[simp]theorem avh(xs:List Int):dq (eC xs)=eC xs:=by
 induction xs with
 |nil=>rfl
 |cons x r bN=>simp only[eC,gZ,dq,eb]at bN⊢;rw[bN]
@[simp]theorem as8:eC []=[]:=rfl
theorem ajz(xs:List Int)(x:Int):eC xs++[aj.int .i64 x]=eC (xs++[x]):=by simp[eC]
theorem ahb(l:List Int)(av:l.length<=1000000):bG aw 166 [.gmap (.obj 304)] (ve l) fun r ah=>r= .slice 1 .no (eC (r2 l))/\ah=ve l:=by
 have af:=QS l;unfold ve at af⊢;refine bG.mk mixed fT ae0 alR Ψ af.obj fun aQ cI=>?_;unfold Sg;simp;refine n1 (ajG l) l.length _ ⟨by simp[fresh,aO,aJ,cn,inObs,Pv.look,mY,uF],ek (by simp[fresh,aO,aJ,cn,inObs,Pv.look,mY,uF]),en (by simp[fresh,aO,aJ,dW,inObs,Pv.look,mY,uF]),Ψ⟩ ⟨[],[],Ψ,Ψ,Ψ,Ψ,Ψ,rfl⟩ ?_;rintro k st ⟨seen,xs,aG,bs,ae,gA,pI,rfl⟩ jF cI;clear jF cI;have hle:=JA aG bs;simp;refine adp (mk:= .obj 304) (seen:=seen) (l:=l) Ψ Ψ rfl (fun lE=>?_) (fun b x ab ad=>?_)
 ·simp;have xp:=Pz aG bs lE;rw[<-gA]at xp;refine cQ.ob (ag9 306 xs Ω) (Ki 306 xs) (by unfold nV;exact aH) (by unfold nV;exact aH) (by simp[nV,inObs,Pv.look]) ?_;rintro r ah ⟨rfl,rfl⟩;refine⟨⟨fun _=>rfl,fun k=>by simp only[nV,Pv.look];split<;>rfl⟩,?_⟩;unfold nV;simp[cb,aai];refine cL.at _ (.inl rfl) af (Same.refl _) aH aH ?_;simp[cM,Zd,aV,aY,aU];rw[aaj xp];simp[aJ,uF]
 ·have Bf:∀f:aL->Option (List aj),f (.loc 0)=some (cn l.length (seen++[b]) (.obj 304))->f (.obj 304)=some (mc l)->qn f (.ptr (.loc 0) 0)=some (True,.tuple [.int .i64 x,.bool true]):=fun f J U=>akv f (.loc 0) (.obj 304) l.length seen b l x J U rfl ab;have fB:b<l.length:=(fD.1 ab).1;have qT:=PA aG bs fB ad;simp[Bf,ajz];refine⟨by unfold lim;omega,?_⟩;refine bR.next (l.length-(seen.length+1)) Ω ⟨seen++[b],xs++[x],Od aG ad,(by simp;intro c ao;rcases ao with ao|rfl;exact bs c ao;exact fB),Ψ,by rw[List.filterMap_append,<-gA];simp[ab],by simp[pI],rfl⟩ ⟨by simp[fresh,aO,aJ,cn,inObs,Pv.look,mY,uF],ek (by simp[fresh,aO,aJ,cn,inObs,Pv.look,mY,uF]),en (by simp[fresh,aO,aJ,dW,inObs,Pv.look,mY,uF]),Ψ⟩
@[simp]theorem atl(S:aL->Prop)(xs:List Int):aO S (eC xs)=True:=eq_true (uF S xs)
@[simp]theorem arZ:cells .junk=[.junk]:=rfl
def Sf:C:=(aa [eM 6 5,bq 7 false] (aa [c0 12 142 [],I 8 12] (.seq (aa [I 13 0,cD 14 13,cf 15 0] (ff 16 15 14 (.seq (.block 1 (aa [cC 17 5 13 15,aX 18 5 17,cR 10 iM,bD 5 10 18] (aa [I 19 8,aK 20 0 1 10,ax 21 1 20,cc 22 143 19 21] (aa [I 23 8,hZ 24 1 4 10,aX 25 4 24,cc 26 144 23 25] (.seq (.drawn false 69 [I 27 8,aK 28 0 1 10,ax 29 1 28,cH 30 28 29,hZ 31 1 4 10,aX 32 4 31,c0 33 145 [.t 27,.t 30,.t 32],cx 34 33]) (aZ 34 (aa [eM 6 5,bq 7 false] .ret) .skip)))))) (.region [aT 35 .add 15 1,I 15 35])))) (.seq (aa [I 36 1,cD 37 36,cf 38 0] (.block 2 (.loop (aa [bt 39 .lss 38 37] (.seq (aZ 39 .skip (.exit 2)) (.seq (.block 3 (aa [I 40 38,I 11 40] (aa [I 41 8,I 42 1,I 43 11,cC 44 4 42 43,aX 45 4 44,cc 46 144 41 45] (aa [I 47 8,I 48 2,I 49 11,cC 50 4 48 49,aX 51 4 50,cc 52 144 47 51] (.seq (.drawn false 69 [I 53 8,I 54 1,I 55 11,cC 56 4 54 55,aX 57 4 56,I 58 2,I 59 11,cC 60 4 58 59,aX 61 4 60,c0 62 145 [.t 53,.t 57,.t 61],cx 63 62]) (aZ 63 (aa [eM 6 5,bq 7 false] .ret) .skip)))))) (.region [aT 64 .add 38 1,I 38 64]))))))) (aa [I 65 8,cH 66 146 65,cp 67 0 66,cp 68 1 66,I 6 67,I 7 68] .ret)))))
@[simp] def OR:List bV:=[.tmp 6,.tmp 7]
def RU:C:=(aa [eM 2 5,bq 3 false] (aa [cS (.mkmap 12 (some 304)),I 4 12] (.seq (aa [I 13 0,eV 14 13,aK 15 0 1 14,ax 16 1 15,cS (.range 17 none (.t 16))] (.block 0 (.loop (aa [⟨none,.next 18 (.t 17)⟩,cp 19 0 18] (.seq (aZ 19 .skip (.exit 0)) (.block 1 (aa [bS 20 (.ment (.t 17)),cp 21 0 20,I 5 21] (.region [I 22 4,I 23 5,cS (.mput .i (.t 22) (.t 23) (.c (.bool true)))])))))))) (aa [I 24 4,cH 25 166 24,I 6 25] (aa [cS (.bslm 26 none 5 54 []),I 7 26] (.seq (aa [I 27 6,cD 28 27,cf 29 0] (.block 2 (.loop (aa [bt 30 .lss 29 28] (.seq (aZ 30 .skip (.exit 2)) (.seq (.block 3 (aa [cC 31 1 27 29,ax 32 1 31,I 9 32] (aa [I 33 0,I 34 9,cc 35 143 33 34,I 10 35] (.seq (aa [I 36 0,I 37 10,cc 38 167 36 37,cx 39 38] (aZ 39 (aa [eM 2 5,bq 3 false] .ret) .skip)) (.seq (aa [I 40 10,I 41 9,bt 42 .eql 40 41,I 43 42,bT 43 true 44 0,ar 43 true (eV 45 44),ar 43 true (aK 46 2 1 45),ar 43 true (ax 47 1 46),bT 43 true 48 10,ar 43 true (bS 49 (.mget .i (.bool false) false (.t 47) (.t 48))),ar 43 true (cx 50 49),dh 51 43 50] (aZ 51 (.exit 3) .skip)) (aa [I 52 7,I 53 9,gY 54 iM [(0,1,(.t 53))],dV 55 5 54 [.t 54],cS (.appm 56 none 5 54 (.t 52) (.t 55)),I 7 56] (aa [I 57 0,eV 58 57,aK 59 4 1 58,ax 60 1 59,I 61 10,bS 62 (.mget .i (.int .i64 0) false (.t 60) (.t 61)),aT 63 .gtr 62 5000,I 64 63,bT 64 false 65 7,ar 64 false (cD 66 65),ar 64 false (aT 67 .gtr 66 400),c3 68 64 67] (aZ 68 (aa [eM 2 5,bq 3 false] .ret) .skip)))))))) (.region [aT 69 .add 29 1,I 29 69]))))))) (.seq (aa [I 70 7,cD 71 70,cf 72 0] (.block 4 (.loop (aa [bt 73 .lss 72 71] (.seq (aZ 73 .skip (.exit 4)) (.seq (.block 5 (aa [I 74 72,I 11 74] (.region [I 75 7,I 76 11,I 77 0,I 78 0,I 79 7,I 80 11,cC 81 5 79 80,aK 82 0 1 81,ax 83 1 82,cc 84 143 78 83,cc 85 168 77 84,cH 86 136 85,cC 87 5 75 76,hZ 88 1 4 87,bD 4 88 86]))) (.region [aT 89 .add 72 1,I 72 89]))))))) (.seq (.pub 7 (.region [I 90 7,I 2 90,bq 3 true])) .ret))))))))
@[simp] def IW:List bV:=[.tmp 2,.tmp 3]
def P5:List (Nat×dy):=[
 (3,⟨1,8,.int .i64,.int .i64 0⟩),
 (4,⟨1,1,.bool,.bool false⟩),
 (23,⟨1,24,.slice 54,.slice 5 .nil []⟩),
 (34,⟨1,24,.slice 36,.slice 4 .nil []⟩),
 (36,⟨4,56,.struct [(0,3),(1,3),(2,9),(3,34)],.agg [.int .i64 0,.int .i64 0,.str [],.slice 4 .nil []]⟩),
 (51,⟨1,8,.map 3 4,.junk⟩),
 (54,⟨5,64,.struct [(0,3),(1,36)],.agg [.int .i64 0,.int .i64 0,.int .i64 0,.str [],.slice 4 .nil []]⟩),
 (57,⟨1,8,.map 3 3,.junk⟩),
 (97,⟨1,24,.slice 3,.slice 1 .nil []⟩),
 (160,⟨6,48,.struct [(0,57),(1,158),(2,51),(3,57),(4,57),(5,158)],.agg [.junk,.junk,.junk,.junk,.junk,.junk]⟩)]
theorem aaA:fJ aw P5=true:=by kernel_rfl
theorem alQ:b6 P5 Sf OR 3 Tryz.f97=true:=by kernel_rfl
theorem aeZ:aw.funcs[(97:Nat)]? =some Tryz.f97:=Tryz.func97
theorem alx:b6 P5 RU IW 1 Tryz.f146=true:=by kernel_rfl
theorem aeG:aw.funcs[(146:Nat)]? =some Tryz.f146:=Tryz.func146
def fk(o:Option (List ai)):aj:= .tuple [.slice 5 .no ((o.getD []).map ai.e),.bool o.isSome]
theorem akx(f:aL->Option (List aj))(fF mk:aL)(n:Nat)(seen:List Nat)(b:Nat)(l:List (Int×Int))(x:Int×Int)(hi:f fF=some (cn n (seen++[b]) mk))(hm:f mk=some (lI l))(au:n=l.length)(ab:l[b]? =some x):qn f (.ptr fF 0)=some (True,.tuple [.int .i64 x.1,.int .i64 x.2]):=by rw[XA f fF mk n seen b _ hi hm (by simpa using au)];simp[ab]
theorem adq{st:bn}{d:Nat}{K:bn->Prop}{fF mk:aL}{n:Nat}{seen:List Nat}{l:List (Int×Int)}(hi:Pv.look fF st.b=some (cn n seen mk))(hm:Pv.look mk st.b=some (lI l))(au:n=l.length)
  (J:(∀b,b<l.length->b∈seen)->K {st with t:=Pv.put d (.tuple [.bool false]) st.t}) (U:∀b x,l[b]? =some x->b∉seen->K {st with t:=Pv.put d (.tuple [.bool true,.int .i64 x.1,.int .i64 x.2]) st.t,b:=cB fF (cn n (seen++[b]) mk) st.b}):
  tX st d (.ptr fF 0) K:=by
 refine Ua hi hm (by simpa using au) (fun h=>J fun b ad=>h b Ω) (fun b k v ad af=>?_);simp only[List.getElem?_map,gv]at ad;obtain⟨x,aq,aF⟩:=ad;simp only[j7]at aF;obtain⟨rfl,rfl⟩:=aF;exact U b x aq af
@[simp]theorem auC(m:aL)(l:List (Int×Int)):zK m (lI l)=some (cn l.length [] m):=by simp[lI,tb]
def lz(v:Int):aj:= .agg [.int .i64 v,.int .i64 0,.int .i64 0,.str [],.slice 4 .nil []]
@[simp]theorem aj2(S:aL->Prop)(l:List Int):aO S (l.map lz)=True:=by
 apply eq_true;induction l with
 |nil=>simp[aO]
 |cons x r bN=>simp only[gZ,aO];exact⟨by simp[lz,aJ,aO],bN⟩
@[simp]theorem atw(S:aL->Prop)(v:Int):aJ S (lz v)=True:=by simp[lz,aJ,aO]
@[simp]theorem auN(v:Int):e4 (lz v)=true:=rfl
@[simp]theorem arM(v:Int):cells (lz v)=[.int .i64 v,.int .i64 0,.int .i64 0,.str [],.slice 4 .nil []]:=rfl
theorem aor(v:Int)(f:Nat)(cs:List aj):qw (lz v) f cs= .agg (o3 [.int .i64 v,.int .i64 0,.int .i64 0,.str [],.slice 4 .nil []] f cs):=rfl
theorem jK{S:aL->Prop}:∀{a b:List aj},aO S (a++b)↔(aO S a/\aO S b)
 |[],b=>by simp[aO]
 |x::a,b=>by simp[aO,jK (a:=a),and_assoc]
@[simp]theorem ati(S:aL->Prop)(k:Nat)(l:List Int):aO S (List.drop k (l.map lz))=True:=by rw[<-List.map_drop];exact aj2 S _
@[simp]theorem atE(S:aL->Prop)(o:Option (List ai)):aJ S (fk o)=True:=by simp[fk]
theorem KC(l:List Int)(v:Int):l.map lz++[.agg [.int .i64 v,.int .i64 0,.int .i64 0,.str [],.slice 4 .nil []]]=(l++[v]).map lz:=by simp[lz]
def ajB(c:bu)(k:Nat)(st:bn):Prop:=∃(seen:List Nat) (xs:List Int),seen.Nodup/\(∀b∈seen,b<c.up.length)/\k=c.up.length-seen.length/\xs=seen.filterMap (fun b=>(c.up[b]?).map (·.1))/\xs.length=seen.length/\st=⟨[(0,aE),(4,.gmap (.obj 304)),(17,.ptr (.loc 0) 0)],aD c++[(.obj 304,mc xs),(.loc 0,cn c.up.length seen (.obj 702))],[],1,[.obj 304,.obj 702,.obj 703,.obj 704,.obj 705,.obj 706,.obj 707]⟩
theorem aoH{c:bu}{seen:List Nat}(aG:seen.Nodup)(bs:∀b∈seen,b<c.up.length)(lE:∀b,b<c.up.length->b∈seen):(seen.filterMap fun b=>(c.up[b]?).map (·.1)).Perm (cv c.up):=by have:=Pz (l:=cv c.up) aG (by simpa[cv]using bs) (by simpa[cv]using lE);simpa[cv]using this
theorem aoI{c:bu}(au:(cv c.up).Nodup){seen:List Nat}{b:Nat}(ad:b∉seen){x:Int×Int}(ab:c.up[b]? =some x):x.1∉seen.filterMap fun b=>(c.up[b]?).map (·.1):=by
 intro hm;rw[List.mem_filterMap]at hm;obtain⟨b3,J,U⟩:=hm;obtain⟨y,h3,h4⟩:=gv.1 U;have aq:(cv c.up)[b]? =some x.1:=by simp[cv,ab]
 have aF:(cv c.up)[b3]? =some x.1:=by simp[cv,h3,h4]
 have bs:=(fD.1 aq).1;have xm:=(fD.1 aF).1;have f1:=(fD.1 aq).2;have f2:=(fD.1 aF).2;rcases Nat.lt_trichotomy b b3 with h|h|h
 ·exact pY.1 au b b3 bs xm h (f1.trans f2.symm)
 ·subst h;exact ad J
 ·exact pY.1 au b3 b xm bs h (f2.trans f1.symm)
theorem ag7(n:Nat)(c:bu)(o:Option (List ai))(he:Fw n (r3 (cv c.up)) c=some o)(DW:(cv c.up).Nodup)(hlen:c.up.length<=1000000)(bd:nt c):bG aw 146 [aE] (aP c) fun r ah=>r=fk o/\∃cq,ah=aP cq:=by
 have af:=cl c;simp only[aP,aD]at af⊢;refine bG.mk mixed aaA aeG alx Ψ af.obj fun aQ cI=>?_;unfold RU;simp[aE];have yY:∀S:aL->Prop,aO S (kj []):=fun S=>mY S [];refine n1 (ajB c) c.up.length _ ⟨by simp[fresh,aO,aJ,cn,inObs,Pv.look,mY,aE,aD,yY],ek (by simp[fresh,aO,aJ,cn,inObs,Pv.look,mY,aE,aD,yY]),en (by simp[fresh,aO,aJ,dW,inObs,Pv.look,mY,aE,aD,yY]),Ψ⟩ ⟨[],[],Ψ,Ψ,Ψ,Ψ,Ψ,rfl⟩ ?_;rintro k st ⟨seen,xs,aG,bs,ae,gA,pI,rfl⟩ jF cI;clear jF cI;have hle:=JA aG bs;simp[aD,aE];refine adq (mk:= .obj 702) (seen:=seen) (l:=c.up) Ψ Ψ rfl (fun lE=>?_) (fun b x ab ad=>?_);rotate_left
 ·have Bf:∀f:aL->Option (List aj),f (.loc 0)=some (cn c.up.length (seen++[b]) (.obj 702))->f (.obj 702)=some (lI c.up)->qn f (.ptr (.loc 0) 0)=some (True,.tuple [.int .i64 x.1,.int .i64 x.2]):=fun f J U=>akx f (.loc 0) (.obj 702) c.up.length seen b c.up x J U rfl ab;have fB:b<c.up.length:=(fD.1 ab).1;have qT:=PA aG bs fB ad;have ku:=aoI DW ad ab;rw[<-gA]at ku;simp[Bf,Ge,ku];refine bR.next (c.up.length-(seen.length+1)) Ω ⟨seen++[b],xs++[x.1],Od aG ad,(by simp;intro c ao;rcases ao with ao|rfl;exact bs c ao;exact fB),Ψ,by rw[List.filterMap_append,<-gA];simp[ab],by simp[pI],rfl⟩ ⟨by simp[fresh,aO,aJ,cn,inObs,Pv.look,mY,aE,aD],ek (by simp[fresh,aO,aJ,cn,inObs,Pv.look,mY,aE,aD]),en (by simp[fresh,aO,aJ,dW,inObs,Pv.look,mY,aE,aD]),Ψ⟩
 ·simp;have xp:=aoH aG bs lE;rw[<-gA]at xp;have ajh:xs.length<=1000000:=Ω
  refine cQ.ob (ahb xs ajh) (QS _) (by simp only[ve];exact aH) (by simp only[ve];exact aH) (by simp[inObs,ve,Pv.look]) ?_;rintro r ah ⟨rfl,rfl⟩;refine⟨Same.refl _,?_⟩;have Bn:r2 xs=r3 (cv c.up):=aaj xp;rw[Bn];obtain⟨a7,lf⟩:∃a7,a7=r3 (cv c.up):=⟨_,rfl⟩;rw[<-lf]at he⊢;simp[ve,cb];simp only[Fw,ji]at he;obtain⟨res,xe,pC⟩:=he;have kv:a7.length<=1000000:=by rw[lf,(Fz _).length_eq];simpa[cv]using hlen
  refine hI (α:=bu×List Int) (fun i a=>⟨[(0,aE),(27,.slice 1 .no (eC a7)),(28,.int .i64 a7.length),(7,.row 5 (.loc 1) a.2.length),(29,.int .i64 i)],aD a.1,[(.loc 1,⟨a.2.length,54,5,some (a.2.map lz)⟩)],2,[.obj 702,.obj 703,.obj 704,.obj 705,.obj 706,.obj 707]⟩) a7.length (fun i a=>tv n (a7.drop i) a.1 a.2=some res/\nt a.1/\a.2.length<=400) (c,[]) (by simp[aE,aD];exact⟨by simp[fresh,aO,aJ,cn,inObs,Pv.look,mY,aE,aD],ek (by simp[fresh,aO,aJ,cn,inObs,Pv.look,mY,aE,aD]),en (by simp[fresh,aO,aJ,dW,inObs,Pv.look,mY,aE,aD]),Ψ⟩) ⟨by simpa using xe,bd,Ψ⟩ ?_ ?_
  ·rintro⟨bY,out⟩ ⟨J,U,h3⟩ ad;simp only at J U h3 ad⊢;simp[tv]at J;subst J;simp only[gv]at pC;obtain⟨⟨L,acW⟩,ahX,rfl⟩:=pC;simp[aE,aD];refine hI (α:=bu×List ai) (fun j a=>⟨[(0,aE),(7,.row 5 (.loc 1) out.length),(71,.int .i64 out.length),(72,.int .i64 j)],aD a.1,[(.loc 1,⟨out.length,54,5,some (a.2.map ai.e++(out.drop j).map lz)⟩)],2,[.obj 702,.obj 703,.obj 704,.obj 705,.obj 706,.obj 707]⟩) out.length (fun j a=>a.2.length=j/\∃rest,zY n (out.drop j) a.1=some (rest,acW)/\a.2++rest=L) (bY,[]) (by simp[aE,aD];exact⟨by simp[fresh,aO,aJ,cn,inObs,Pv.look,aE,aD],ek (by simp[fresh,aO,aJ,cn,inObs,Pv.look,aE,aD]),en (by simp[fresh,aO,aJ,dW,inObs,Pv.look,aE,aD]),Ψ⟩) ⟨rfl,L,by simpa using ahX,rfl⟩ ?_ ?_
   ·rintro⟨cw,done⟩ ⟨h4,rest,h5,c9⟩ ad;simp only at h4 h5 c9 ad⊢;simp[zY]at h5;obtain⟨rfl,rfl⟩:=h5;simp at c9;subst c9;simp[aE,aD,h4];refine cL.at (aP cw) Ψ (cl _) (Same.keys (by simp[aP,aD]) (by simp[aP,aD])) (by simp only[aP,aD];exact aH) (by simp only[aP,aD];exact aH) ?_;simp[cM,IW,aV,aY,aU,aP,aD,fk];exact⟨cw,Ψ⟩
   ·rintro j ⟨cw,done⟩ ag ⟨h4,rest,h5,c9⟩ ad;simp only at h4 h5 c9 ad⊢;obtain⟨v,az⟩:∃v,out[j]? =some v:=⟨_,cg ag⟩;have aG:out.drop j=v::out.drop (j+1):=by rw[lu ag];rw[cg ag]at az;cases az;rfl
    rw[aG]at h5;simp only[zY,ji,gv,j7]at h5;obtain⟨⟨x,dC⟩,dX,⟨t,kO⟩,jD,⟨aoo,ar7⟩,kp,rfl,rfl⟩:=h5;simp only at jD kp;have key:=ahc n x dC _ jD;rw[aG];have h6:∀R,(done.map ai.e++lz v::R)[j]? =some (lz v):=fun R=>by rw[List.getElem?_append_right d7];simp[h4]
    have xt:∀R x,(done.map ai.e++lz v::R).set j x=done.map ai.e++x::R:=fun R x=>by rw[List.set_append_right _ _ d7];simp[h4]
    simp[aE,aD];(with_reducible repeat' first|refine ak ?_|simp[h6,ag]);(refine cQ.ob (sw cw v x dC dX) bi ba ba dl ?_;rintro r ah ⟨rfl,rfl⟩;refine⟨(Same.keys bv bv),?_⟩;simp[cb,aP,aD,aE]);(with_reducible repeat' first|refine ak ?_|simp);(refine cQ.ob (key) bi ba ba dl ?_;rintro r ah ⟨rfl,rfl⟩;refine⟨(Same.keys bv bv),?_⟩;simp[cb,aP,aD,aE]);(with_reducible repeat' first|refine ak ?_|refine aA (u4 _) ?_|refine aB (u4 _) ?_|simp[h6,xt,ag,aor,-qw]);refine bR.rng (kO,done++[⟨v,t⟩]) ag ⟨by simp[h4],aoo,kp,by simpa using c9⟩ ?_;simp[aE,aD];exact⟨by simp[fresh,aO,aJ,cn,inObs,Pv.look,aE,aD,jK],ek (by simp[fresh,aO,aJ,cn,inObs,Pv.look,aE,aD,jK]),en (by simp[fresh,aO,aJ,dW,inObs,Pv.look,aE,aD,jK]),Ψ⟩
  ·rintro i ⟨bY,out⟩ hi ⟨J,U,h3⟩ ad;simp only at J U h3 ad⊢;obtain⟨v,az⟩:∃v,a7[i]? =some v:=⟨_,cg hi⟩;have aG:a7.drop i=v::a7.drop (i+1):=by rw[lu hi];rw[cg hi]at az;cases az;rfl
   rw[aG]at J;simp only[tv,ji]at J;obtain⟨⟨x,cw⟩,h4,⟨f,dC⟩,h5,c9⟩:=J;simp only at h5 c9;obtain⟨z3,key⟩:=ahe n x cw _ h5 (U.rt h4);have aid:∀h,(eC a7)[i]'h= .int .i64 v:=fun h=>by rw[cg hi]at az;simp only[dE]at az;simp[eC,az]
   simp[aE,aD];(with_reducible repeat' first|refine ak ?_|simp[aid,hi]);(refine cQ.ob (sw bY v x cw h4) bi ba ba dl ?_;rintro r ah ⟨rfl,rfl⟩;refine⟨(Same.keys bv bv),?_⟩;simp[cb,aP,aD,aE]);(with_reducible repeat' first|refine ak ?_|simp);(refine cQ.ob (key) bi ba ba dl ?_;rintro r ah ⟨rfl,rfl⟩;refine⟨(Same.keys bv bv),?_⟩;simp[cb,aP,aD,aE]);cases f with
   |false=>simp at c9;subst c9;simp at pC;subst pC;(with_reducible repeat' first|refine ak ?_|simp);refine cL.at (aP dC) Ψ (cl _) (Same.keys (by simp[aP,aD]) (by simp[aP,aD])) (by simp only[aP,aD];exact aH) (by simp only[aP,aD];exact aH) ?_;simp[cM,IW,aV,aY,aU,aP,aD,fk];exact⟨dC,Ψ⟩
   |true=>
    simp only[Bool.true_eq_false,if_false]at c9;by_cases ao:x=v/\dC.shd x=false
    ·rw[if_pos ao]at c9;obtain⟨aji,jG⟩:=ao;subst aji;have ur:(tg x dC.shaped).getD false=false:=jG;(with_reducible repeat' first|refine ak ?_|simp[ur]);refine bR.rng (dC,out) hi ⟨c9,z3,h3⟩ ?_;exact⟨by simp[fresh,aO,aJ,cn,inObs,Pv.look,aE,aD],ek (by simp[fresh,aO,aJ,cn,inObs,Pv.look,aE,aD]),en (by simp[fresh,aO,aJ,dW,inObs,Pv.look,aE,aD]),Ψ⟩
    ·rw[if_neg ao]at c9;have V7:(x==v)=false\/((x==v)=true/\(tg x dC.shaped).getD false=true):=by
      by_cases e:x=v
      ·right;refine⟨by simp[e],?_⟩;cases aF:dC.shd x with
       |false=>exact absurd ⟨e,aF⟩ ao
       |true=>exact aF
      ·left;simp[e]
     by_cases av:5000<dC.sz x\/400<out.length+1
     ·rw[if_pos av]at c9;cases c9;simp at pC;subst pC;have ml:(decide (5000<hC dC.size x))=true\/(decide (5000<hC dC.size x)=false/\400<out.length+1):=by
       by_cases e:5000<hC dC.size x
       ·left;simp[e]
       ·right;exact⟨by simp[e],av.resolve_left e⟩
      have Bj:True:=trivial;have lb:True:=trivial;rcases V7 with bF|⟨bF,Bj⟩;all_goals
       rcases ml with bE|⟨bE,lb⟩
       all_goals
        ((with_reducible repeat' first|refine ak ?_|simp[bF,Bj,bE,lb]|((first|apply bJ|apply bM|apply bL)<;>intro h<;>try simp at h))<;>(try exact ck))
        refine cL.at (aP dC) Ψ (cl _) (Same.keys (by simp[aP,aD]) (by simp[aP,aD])) (by simp only[aP,aD];exact aH) (by simp only[aP,aD];exact aH) ?_
        simp[cM,IW,aV,aY,aU,aP,aD,fk]
        exact⟨dC,Ψ⟩
     ·rw[if_neg av]at c9;have bE:decide (5000<hC dC.size x)=false:=by simp;exact Int.not_lt.1 fun h=>av (.inl h)
      have lb:¬400<out.length+1:=fun h=>av (.inr h);have Bj:True:=trivial;rcases V7 with bF|⟨bF,Bj⟩;all_goals
       ((with_reducible repeat' first|refine ak ?_|simp[bF,Bj,bE,lb]|((first|apply bJ|apply bM|apply bL)<;>intro h<;>try simp at h))<;>(try exact ck))
       all_goals first|(refine⟨by unfold lim;omega,?_⟩)|skip
       ((with_reducible repeat' first|refine ak ?_|simp[bF,Bj,bE,lb]|((first|apply bJ|apply bM|apply bL)<;>intro h<;>try simp at h))<;>(try exact ck))
       refine bR.rng (dC,out++[v]) hi ⟨c9,z3,by simp;omega⟩ ?_
       exact⟨by simp[fresh,aO,aJ,cn,inObs,Pv.look,aE,aD,KC,jK],ek (by simp[fresh,aO,aJ,cn,inObs,Pv.look,aE,aD,KC,jK]),en (by simp[fresh,aO,aJ,dW,inObs,Pv.look,aE,aD,KC,jK]),Ψ⟩
theorem z7:∀{a b:T},a.tm=b.tm->a=b:=by
 intro a;induction a with
 |pair x y qk s5=>intro b h;cases b<;>simp[T.tm]at h;rw[qk h.1,s5 h.2]
 |_=>intro b h;cases b<;>simp[T.tm]at h⊢ <;>exact h
def ab9(l:List dO):Prop:= ∃s:List ai,l=s.map ai.b/\kW s/\gO s/\ga s
def Km(l:List dO):Prop:= ∃s:List ai,l=s.map ai.b/\kW s/\e1 s/\ga s
theorem Rn:∀{l:List dO},(∀b∈l,b.t.fits=true)->∃s:List ai,l=s.map ai.b/\wY s
 |[],_=>⟨[],rfl,fun b ad=>by simp at ad⟩
 |b::l,h=>by
  obtain⟨s,J,U⟩:=Rn (l:=l) fun c ao=>h c (by simp[ao]);obtain⟨x,h3,h4⟩:=bX.fits_ex (h b Ψ);refine⟨⟨b.v,x⟩::s,by rw[J];simp[ai.b,h3],fun c ao=>?_⟩;rcases fm.1 ao with rfl|ao
  ·exact h4
  ·exact U c ao
theorem Ae{l:List dO}:wL l↔ab9 l:=by
 constructor
 ·rintro⟨J,U⟩;obtain⟨s,rfl,ah0⟩:=Rn (l:=l) fun b ad=>by obtain⟨i,hi,e⟩:=oI ad;exact(U i hi b (by rw[cg hi,e])).2.2
  have VF:∀b∈s,b.t.ok=true/\b.t.size<=5000:=fun b ad=>by have:=ah0 b ad;simpa[T.fit]using this
  refine⟨s,rfl,fun b ad=>⟨?_,(VF b ad).1⟩,?_,by simpa using J,fun b ad=>(VF b ad).2⟩
  ·obtain⟨i,hi,e⟩:=oI ad;have:=(U i (by simpa using hi) b.b (by simp[cg hi,e])).1;exact this
  ·rw[gO,pY];have kh:∀i (h:i+1<s.length),s[i].v<s[i+1].v:=fun i h=>by have:=(U (i+1) (by simpa using h) s[i+1].b (by simp[cg h])).2.1 s[i].b Ω (by simp[cg (show i<s.length by omega)]);exact this
   have:∀(d i:Nat) (h:i+d+1<s.length),s[i].v<s[i+d+1].v:=by
    intro d;induction d with
    |zero=>intro i h;exact kh i h
    |succ d bN=>intro i h;have bA:=bN i Ω;have a2:=kh (i+d+1) Ω;simp only[Nat.add_assoc]at bA a2⊢;omega
   intro i j hi ag mj;have:=this (j-i-1) i Ω;simpa[show i+(j-i-1)+1=j from by omega]using this
 ·rintro⟨s,rfl,ay,bg,aN⟩;refine⟨by simpa using aN.1,fun i hi b ad=>?_⟩;simp only[List.getElem?_map,gv]at ad;obtain⟨c,ao,rfl⟩:=ad;have hm:=eF ao;refine⟨(ay c hm).1,fun d bz aG=>?_,?_⟩
  ·simp only[List.getElem?_map,gv]at aG;obtain⟨e,he,rfl⟩:=aG;obtain⟨J,aq⟩:=fD.1 he;obtain⟨U,aF⟩:=fD.1 ao;have:=pY.1 bg (i-1) i J U Ω;rw[aq,aF]at this;exact this
  ·show c.t.tm.fits=true;rw[bX.fits_T];simp[T.fit,(ay c hm).2,aN.2 c hm]
def wV(s:List ai)(v:Int)(f:Bool):Bool:=if 0<=ko s v then false else f
def nu(s:List ai)(b:ai):Bool:=b.t.fold (wV s) true&& !(b.t.kind==1&&decide (b.v<=b.t.int))
theorem UJ{s:List ai}(bg:gO s)(t:T):∀f:Bool,t.fold (wV s) f=true↔f=true/\∀w,t.occ w=true->cO s w=none:=by
 induction t with
 |var n=>
  intro f;simp only[T.fold,T.occ,dM,wV];have:=AV bg n;by_cases h:0<=ko s n
  ·rw[if_pos h];constructor
   ·intro h;cases h
   ·rintro⟨_,U⟩;have:=this.2 (U n rfl);omega
  ·rw[if_neg h];exact⟨fun aN=>⟨aN,fun w hw=>by subst hw;exact this.1 Ω⟩,fun h=>h.1⟩
 |pair a b dz dA=>
  intro f;simp only[T.fold,dz,dA,T.occ,lP];constructor
  ·rintro⟨⟨J,U⟩,h3⟩;exact⟨J,fun w hw=>hw.elim (U w) (h3 w)⟩
  ·rintro⟨J,U⟩;exact⟨⟨J,fun w hw=>U w (.inl hw)⟩,fun w hw=>U w (.inr hw)⟩
 |_=>intro f;simp[T.fold,T.occ]
theorem KE{s:List ai}(bg:gO s)(b:ai):nu s b=true↔(∀w,b.t.occ w=true->cO s w=none)/\∀w,b.t= .var w->w<b.v:=by
 unfold nu;rw[cr,UJ bg];simp only[true_and];refine and_congr_right fun _=>?_;constructor
 ·intro h w hw;have ae:(b.t.kind==1)=true:=by rw[hw];rfl
  have hi:b.t.int=w:=by rw[hw];rfl
  rw[ae,hi]at h;simpa using h
 ·intro h;cases ae:(b.t.kind==1)with
  |false=>rfl
  |true=>
   obtain⟨w,hw⟩:∃w,b.t= .var w:=by
    cases e:b.t with
    |var w=>exact⟨w,rfl⟩
    |_=>rw[e]at ae;simp at ae
   have hi:b.t.int=w:=by rw[hw];rfl
   have:=h w hw;rw[hi];simpa using this
theorem aag{s:List ai}(bg:gO s):e1 s↔∀b∈s,nu s b=true:=by
 constructor
 ·intro h b ad;exact(KE bg b).2 ⟨h.free b ad,h.ori b ad⟩
 ·intro h;exact⟨bg,fun b ad=>((KE bg b).1 (h b ad)).1,fun b ad=>((KE bg b).1 (h b ad)).2⟩
def mW{α:Type}(p:α->Bool)(s:List α)(i:Nat)(_:Unit):Prop:= ∀k b,k<i->s[k]? =some b->p b=true
theorem mW.step{α:Type}{p:α->Bool}{s:List α}{i:Nat}(h:mW p s i ()){b:α}(ad:s[i]? =some b)(bF:p b=true):mW p s (i+1) ():=fun k c ae ao=>by
 rcases(by omega:k<i\/k=i)with J|rfl
 ·exact h k c J ao
 ·rw[ad]at ao;cases ao;exact bF
open Classical in
noncomputable def gL(l:List dO):Bool:=decide (Km l)
theorem r5{l:List dO}:gL l=true↔Km l:=by unfold gL;simp
def jj(f:Bool):cT:=⟨[(.obj 731,[.bool f])],[]⟩
theorem wI(f:Bool):dP (jj f):=by unfold jj;exact dP.of ⟨by intro m;simp[Pv.look],by intro m;simp[Pv.look]⟩ Ψ Ψ
theorem ab1(a b:Bool):Same (jj a) (jj b):=Same.keys (by simp[jj]) (by simp[jj])
theorem agE(s:List ai)(av:s.length<=1000000)(v:Int)(f:Bool):bG aw 108 [.int .i64 v,.eptr (.slice 5 .no (s.map ai.e)),.ptr (.obj 731) 0] (jj f) fun r ah=>r= .tuple []/\ah=jj (wV s v f):=by
 have af:=wI f;simp only[jj]at af⊢;by_cases h:0<=ko s v
 ·rw[wV,if_pos h];refine bG.mk mixed r6 Uk Ye Ψ af.obj fun aQ cI=>?_;unfold KP;simp;(with_reducible repeat' first|refine ak ?_|refine aA (tB s v av) ?_|refine aB (tB s v av) ?_|simp[h]);(refine cL.at (jj false) Ψ (by first|exact wI _|exact wI ‹_› _) (Same.keys (by simp[jj]) (by simp[jj])) (by simp only[jj,bP,bU];exact aH) (by simp only[jj,bP,bU];exact aH) ?_;simp[cM,OM,aV,aY,aU,inObs,Pv.look,jj])
 ·rw[wV,if_neg h];refine bG.mk mixed r6 Uk Ye Ψ af.obj fun aQ cI=>?_;unfold KP;simp;(with_reducible repeat' first|refine ak ?_|refine aA (tB s v av) ?_|refine aB (tB s v av) ?_|simp[h]);(refine cL.at (jj f) Ψ (by first|exact wI _|exact wI ‹_› _) (Same.keys (by simp[jj]) (by simp[jj])) (by simp only[jj,bP,bU];exact aH) (by simp only[jj,bP,bU];exact aH) ?_;simp[cM,OM,aV,aY,aU,inObs,Pv.look,jj])
theorem Qd(l:List dO):bK aw 53 [.slice 5 .no (l.map dO.e)] (.bool (gL l)):=by
 have az:=ap4 l;by_cases h:wL l;rotate_left
 ·have bz:gL l=false:=by unfold gL;simp only[gD];rintro⟨s,J,U,h3,h4⟩;exact h (Ae.2 ⟨s,J,U,h3.asc,h4⟩)
  rw[bz];refine bo r6 Uj Yd fun aQ=>?_;unfold KO;exact cz
 ·obtain⟨s,rfl,ay,bg,aN⟩:=Ae.1 h;have av:s.length<=1000000:=by have:=aN.1;omega
  have aq:(s.map ai.b).map dO.e=s.map ai.e:=by rw[List.map_map];exact List.map_congr_left fun b _=>ai.b_e b
  have bz:gL (s.map ai.b)=s.all (nu s):=by
   rw[qz,fV,r5,<-aag bg];constructor
   ·rintro⟨ah,J,U,h3,h4⟩;have:ah=s:=by
     have aic:∀a b:List ai,a.map ai.b=b.map ai.b->a=b:=by
      intro a;induction a with
      |nil=>intro b ad;cases b<;>simp at ad⊢
      |cons x a bN=>
       intro b ad;cases b with
       |nil=>simp at ad
       |cons y b=>simp only[gZ,yk,ai.b,dO.mk.injEq]at ad;rw[bN b ad.2];have:=z7 ad.1.2;obtain⟨⟨kr,_⟩,_⟩:=ad;cases x;cases y;simp_all
     exact(aic _ _ J).symm
    rw[<-this];exact h3
   ·intro h3;exact⟨s,rfl,ay,h3,aN⟩
  rw[bz];rw[aq]at az⊢;refine bo r6 Uj Yd fun aQ=>?_;unfold KO;simp;(with_reducible repeat' first|refine ak ?_|refine aA az ?_|refine aB az ?_|simp[h]);refine hI (α:=Unit) (fun i _=>⟨[(1,.eptr (.slice 5 .no (s.map ai.e))),(9,.slice 5 .no (s.map ai.e)),(10,.int .i64 s.length),(11,.int .i64 i)],[],[],1,[]⟩) s.length (mW (nu s) s) () b7 (fun k b ae=>Ω) (fun _ ag _=>?_) (fun i _ hi ag _=>?_)
  ·have:s.all (nu s)=true:=by rw[fV];intro b ad;obtain⟨k,ae,e⟩:=oI ad;exact ag k b ae (by rw[cg ae,e])
   rw[this];exact cz
  ·obtain⟨b,mV⟩:∃b,s[i]? =some b:=⟨_,cg hi⟩;have gr:∀h,(s[i]'h)=b:=fun h=>by rw[cg hi]at mV;exact eZ mV
   have key:=UT jj wI ab1 108 [.eptr (.slice 5 .no (s.map ai.e)),.ptr (.obj 731) 0] (fun a=>by simp[jj,inObs,Pv.look]) Ψ (wV s) (fun v a=>agE s av v a) b.t true;have fW:nu s b=false->s.all (nu s)=false:=fun h=>by rw[Bool.eq_false_iff];intro b9;rw[fV]at b9;rw[b9 b (eF mV)]at h;cases h
   simp[hi,gr];(with_reducible repeat' first|refine ak ?_|simp[gr,hi]);(refine cQ.ob (key) (by first|exact wI _|exact wI ‹_› _) (by simp only[jj,bP,bU];exact aH) (by simp only[jj,bP,bU];exact aH) (by simp[inObs,Pv.look,jj]) ?_;rintro r ah ⟨rfl,rfl⟩;refine⟨(Same.keys (by simp[jj]) (by simp[jj])),?_⟩;simp[cb,jj]);generalize ah2:b.t.fold (wV s) true=tY;have yR:nu s b=(tY&& !(b.t.kind==1&&decide (b.v<=b.t.int))):=by unfold nu;rw[ah2]
   cases tY with
   |false=>rw[fW (by rw[yR];rfl)];exact cz
   |true=>
    cases ae:(b.t.kind==1)with
    |false=>(with_reducible repeat' first|refine ak ?_|simp[ae]);refine bR.rng () hi (ag.step mV (by rw[yR,ae];rfl)) ?_;exact b7
    |true=>
     by_cases hle:b.v<=b.t.int
     ·rw[fW (by rw[yR,ae];simp[hle])];exact cz
     ·(with_reducible repeat' first|refine ak ?_|simp[ae,hle]);refine bR.rng () hi (ag.step mV (by rw[yR,ae];simp[hle])) ?_;exact b7
@[simp]theorem atr(S:aL->Prop):aO S (kj [])=True:=eq_true (mY S [])
theorem ag6(n:Nat)(s:List ai)(l r:List T)(av:l.length=r.length)(ld:s.length<=1000000)(sM:l.length<=1000000)(o:Option (List ai))(he:Cw n (gf s++l.zip r)=some o)
  (hinv:∀c,qF n (gf s++l.zip r) bu.new=some (true,c)->(cv c.up).Nodup/\c.up.length<=1000000/\nt c):bK aw 97 [.slice 5 .no (s.map ai.e),.slice 4 .no (l.map T.e),.slice 4 .no (r.map T.e)] (fk o):=by
 obtain⟨E,c1⟩:∃E,E=gf s++l.zip r:=⟨_,rfl⟩;rw[<-c1]at he hinv;simp only[Cw,ji]at he;obtain⟨fin,xe,pC⟩:=he;have hlen:E.length=s.length+l.length:=by rw[c1];simp[gf,av]
 have ahv:∀i b,s[i]? =some b->E.drop i=(.var b.v,b.t)::E.drop (i+1):=fun i b ad=>by
  have hi:=(fD.1 ad).1;have aW:E[i]? =some (.var b.v,b.t):=by rw[c1,List.getElem?_append_left (by simp[gf];exact hi)];simp[gf,ad]
  rw[lu Ω];rw[cg Ω]at aW;simp only[dE]at aW;rw[aW]
 have ahu:∀i a b,l[i]? =some a->r[i]? =some b->E.drop (s.length+i)=(a,b)::E.drop (s.length+(i+1)):=fun i a b bg ad=>by
  have hi:=(fD.1 bg).1;have aW:E[s.length+i]? =some (a,b):=by rw[c1,List.getElem?_append_right (by simp[gf])];simp[gf,List.getElem?_zip_eq_some,bg,ad]
  rw[lu Ω];rw[cg Ω]at aW;simp only[dE]at aW;rw[aW];rfl
 refine bo aaA aeZ alQ fun aQ=>?_;unfold Sf;simp;refine cQ.new agU (dP.of uP Ψ Ψ) (fun k cs h=>by simp[Pv.look]at h) (fun k cs h=>by simp[Pv.look]at h) Ψ ?_;rintro r0 s0 ⟨rfl,rfl⟩;refine⟨fun m hm=>.inr Ψ,?_⟩;simp[aP,aD,cb,aE];refine hI (α:=bu) (fun i c=>⟨[(1,.slice 4 .no (l.map T.e)),(2,.slice 4 .no (r.map T.e)),(8,aE),(13,.slice 5 .no (s.map ai.e)),(14,.int .i64 s.length),(15,.int .i64 i)],aD c,[],0,[.obj 702,.obj 703,.obj 704,.obj 705,.obj 706,.obj 707]⟩) s.length (fun i c=>qF n (E.drop i) c=some fin) bu.new (by simp[aE,aD];exact⟨by simp[fresh,aO,aJ,cn,inObs,Pv.look,aE,aD,bu.new],ek (by simp[fresh,aO,aJ,cn,inObs,Pv.look,aE,aD,bu.new]),en (by simp[fresh,aO,aJ,dW,inObs,Pv.look,aE,aD,bu.new]),Ψ⟩) (by simpa using xe) ?_ ?_
 ·rintro c J ad;simp[aE,aD];refine hI (α:=bu) (fun i c=>⟨[(1,.slice 4 .no (l.map T.e)),(2,.slice 4 .no (r.map T.e)),(8,aE),(37,.int .i64 l.length),(38,.int .i64 i)],aD c,[],0,[.obj 702,.obj 703,.obj 704,.obj 705,.obj 706,.obj 707]⟩) l.length (fun i c=>qF n (E.drop (s.length+i)) c=some fin) c (by simp[aE,aD];exact⟨by simp[fresh,aO,aJ,cn,inObs,Pv.look,aE,aD],ek (by simp[fresh,aO,aJ,cn,inObs,Pv.look,aE,aD]),en (by simp[fresh,aO,aJ,dW,inObs,Pv.look,aE,aD]),Ψ⟩) J ?_ ?_
  ·rintro bY J ad;rw[List.drop_eq_nil_of_le Ω]at J;simp[qF]at J;subst J;simp at pC;obtain⟨a1,bm,bW⟩:=hinv bY xe;simp[aE,aD];refine cQ.ob (ag7 n bY o pC a1 bm bW) (cl _) (by simp only[aP,aD];exact aH) (by simp only[aP,aD];exact aH) dl ?_;rintro r0 s0 ⟨rfl,cq,rfl⟩;refine⟨Same.keys (by simp[aP,aD]) (by simp[aP,aD]),?_⟩;simp[cb,aP,aD,fk];exact cz
  ·rintro i c hi J ad;simp only at J ad⊢;obtain⟨a,bg⟩:∃a,l[i]? =some a:=⟨_,cg hi⟩;obtain⟨b,gd⟩:∃b,r[i]? =some b:=⟨_,cg Ω⟩;have oc:∀h,(l[i]'h)=a:=fun h=>by rw[cg hi]at bg;exact eZ bg
   have cJ:∀h,(r[i]'h)=b:=fun h=>by rw[cg h]at gd;exact eZ gd
   have sL:i<r.length:=Ω
   rw[ahu i a b bg gd]at J;simp only[qF,ji]at J;obtain⟨bY,U,cw,h3,⟨f,dC⟩,h4,h5⟩:=J;simp only at h4 h5;have key:=UW n _ _ _ _ h4;simp[aE,aD];(with_reducible repeat' first|refine ak ?_|simp[oc,cJ,hi,sL]);(refine cQ.ob (L4 c a bY U) bi ba ba dl ?_;rintro r ah ⟨rfl,rfl⟩;refine⟨(Same.keys bv bv),?_⟩;simp[cb,aP,aD,aE]);(with_reducible repeat' first|refine ak ?_|simp[oc,cJ,hi,sL]);(refine cQ.ob (L4 bY b cw h3) bi ba ba dl ?_;rintro r ah ⟨rfl,rfl⟩;refine⟨(Same.keys bv bv),?_⟩;simp[cb,aP,aD,aE]);(with_reducible repeat' first|refine ak ?_|simp[oc,cJ,hi,sL]);(refine gx.ob (key) bi bi (Same.keys bv bv) ba ba dl ?_;simp[cb,aP,aD,aE]);cases f with
   |false=>simp at h5;subst h5;simp at pC;subst pC;(with_reducible repeat' first|refine ak ?_|simp);simp[bp,OR,aV,aY,aU];simp[fk]
   |true=>simp at h5;(with_reducible repeat' first|refine ak ?_|simp);refine bR.rng dC hi h5 ?_;simp[aE,aD];exact⟨by simp[fresh,aO,aJ,cn,inObs,Pv.look,aE,aD],ek (by simp[fresh,aO,aJ,cn,inObs,Pv.look,aE,aD]),en (by simp[fresh,aO,aJ,dW,inObs,Pv.look,aE,aD]),Ψ⟩
 ·rintro i c hi J ad;simp only at J ad⊢;obtain⟨b,az,gr⟩:=eI hi;rw[ahv i b az]at J;simp only[qF,ji]at J;obtain⟨bY,U,cw,h3,⟨f,dC⟩,h4,h5⟩:=J;simp only[BM,T.foldO,gv]at U;obtain⟨⟨x,Rs⟩,U,rfl⟩:=U;simp only at U h3 h4 h5;have key:=UW n _ _ _ _ h4;simp[aE,aD];(with_reducible repeat' first|refine ak ?_|simp[gr,hi]);(refine cQ.ob (sw c b.v x Rs U) bi ba ba dl ?_;rintro r ah ⟨rfl,rfl⟩;refine⟨(Same.keys bv bv),?_⟩;simp[cb,aP,aD,aE]);(with_reducible repeat' first|refine ak ?_|simp);(refine cQ.ob (L4 Rs b.t cw h3) bi ba ba dl ?_;rintro r ah ⟨rfl,rfl⟩;refine⟨(Same.keys bv bv),?_⟩;simp[cb,aP,aD,aE]);(with_reducible repeat' first|refine ak ?_|refine aA (lr _) ?_|refine aB (lr _) ?_|simp);(refine gx.ob (key) bi bi (Same.keys bv bv) ba ba dl ?_;simp[cb,aP,aD,aE]);cases f with
  |false=>simp at h5;subst h5;simp at pC;subst pC;(with_reducible repeat' first|refine ak ?_|simp);simp[bp,OR,aV,aY,aU];simp[fk]
  |true=>simp at h5;(with_reducible repeat' first|refine ak ?_|simp);refine bR.rng dC hi h5 ?_;simp[aE,aD];exact⟨by simp[fresh,aO,aJ,cn,inObs,Pv.look,aE,aD],ek (by simp[fresh,aO,aJ,cn,inObs,Pv.look,aE,aD]),en (by simp[fresh,aO,aJ,dW,inObs,Pv.look,aE,aD]),Ψ⟩
theorem abo(s:List ai)(l r:List T)(av:l.length=r.length)(af:e1 s)(aN:ga s)(ay:kW s)(sM:l.length<=1000000)(J:∀t∈l,t.ok=true)(U:∀t∈r,t.ok=true):
  bK aw 97 [.slice 5 .no (s.map ai.e),.slice 4 .no (l.map T.e),.slice 4 .no (r.map T.e)] (fk (mgu s (l.zip r))):=by
 have c1:∀e∈gf s++l.zip r,e.1.ok=true/\e.2.ok=true:=fun e he=>by
  rcases hQ.1 he with he|he
  ·obtain⟨b,ad,rfl⟩:=hR.1 he;have:=ay b ad;exact⟨by simpa[T.ok]using this.1,this.2⟩
  ·exact⟨J _ (List.of_mem_zip he).1,U _ (List.of_mem_zip he).2⟩
 have bz:Oe (gf s++l.zip r):=fun e he v az=>by
  rcases az with az|az
  ·exact(yf (c1 e he).1 az).1
  ·exact(yf (c1 e he).2 az).1
 obtain⟨n,o,a1,bm,bW⟩:=ao5 _ bz;rw[qo (ab7.1 bm)];refine ag6 n s l r av (by have:=aN.1;omega) sM o a1 fun c ao=>?_;obtain⟨bA,a2,a3⟩:=bW c ao;have:=W1 bA fun v az=>by
  obtain⟨e,he,az⟩:=a2 v az;rcases az with az|az
  ·exact yf (c1 e he).1 az
  ·exact yf (c1 e he).2 az
 refine⟨bA,by simp[cv]at this;omega,fun x=>?_⟩;simp[bu.sz,a3,tg]
structure ev (s:List ai):Prop where
 ok:kW s
 sol:e1 s
 fits:ga s
theorem ev.len{s:List ai}(h:ev s):s.length<=1000000:=by have:=h.fits.1;omega
theorem ev.fit{s:List ai}(h:ev s):wY s:=fun b ad=>by simp[T.fit,(h.ok b ad).2,h.fits.2 b ad]
theorem ev.mgu{s:List ai}(h:ev s){E:List (T×T)}(c1:∀e∈E,e.1.ok=true/\e.2.ok=true){ah:List ai}(hm:mgu s E=some ah):ev ah:=⟨akH h.sol h.fits h.ok c1 hm,(q5 h.sol h.fits hm).1,(q5 h.sol h.fits hm).2⟩
theorem uK(s:List ai):(s.map ai.b).map dO.e=s.map ai.e:=by rw[List.map_map];exact List.map_congr_left fun b _=>ai.b_e b
theorem pT{s:List ai}(h:ev s):bK aw 53 [.slice 5 .no (s.map ai.e)] (.bool true):=by have:=Qd (s.map ai.b);rw[uK,r5.2 ⟨s,rfl,h.ok,h.sol,h.fits⟩]at this;exact this
def ajT(t:List ai)(i:Nat)(p:List T×List T):Prop:=p.1=(t.take i).map (fun b=>T.var b.v)/\p.2=(t.take i).map (·.t)
theorem ap7(t:List ai)(aI:t.length<=1000000):bK aw 137 [.slice 5 .no (t.map ai.e)] (.tuple [.slice 4 .no ((t.map fun b=>T.var b.v).map T.e),.slice 4 .no ((t.map (·.t)).map T.e)]):=by
 generalize bH:((t.map fun b=>T.var b.v).map T.e)=R1;generalize Vl:((t.map fun x=>x.t).map T.e)=R2;have gJ:∀S:aL->Prop,aO S R1=True:=fun S=>by rw[<-bH];exact W6 S _
 have jY:∀S:aL->Prop,aO S R2=True:=fun S=>by rw[<-Vl];exact W6 S _
 refine bK.mk mixed r6 aeL alC Ψ (by simp[aJ,gJ,jY]) fun aQ=>?_;unfold RZ;simp;refine hI (α:=List T×List T) (fun i p=>⟨[(10,.slice 5 .no (t.map ai.e)),(11,.int .i64 t.length),(4,.slice 4 (.own (.loc 0)) (p.1.map T.e)),(5,.slice 4 (.own (.loc 1)) (p.2.map T.e)),(12,.int .i64 i)],[],[(.loc 0,⟨p.1.length,36,4,none⟩),(.loc 1,⟨p.2.length,36,4,none⟩)],2,[]⟩) t.length (ajT t) ([],[]) b7 ⟨Ψ,Ψ⟩ (fun p ag _=>?_) (fun i p hi ag _=>?_)
 ·obtain⟨A,B⟩:=p;obtain⟨be,jE⟩:=ag;simp only at be jE⊢;rw[hl (dZ _)]at be jE;rw[<-bH,<-Vl,<-be,<-jE];simp;(with_reducible repeat' first|refine ak ?_|simp);simp[bp,Y5,aV,aY,aU]
 ·obtain⟨A,B⟩:=p;obtain⟨be,jE⟩:=ag;simp only at be jE⊢;obtain⟨b,az,gr⟩:=eI hi;have rK:t.take (i+1)=t.take i++[b]:=by rw[List.take_succ,az];rfl
  have ahr:A.length<=1000000:=by rw[be];simp;omega
  have ahs:B.length<=1000000:=by rw[jE];simp;omega
  simp[hi,gr];((with_reducible repeat' first|refine ak ?_|refine aA (lr _) ?_|refine aB (lr _) ?_|simp[gr,hi]|((first|apply bJ|apply bM|apply bL)<;>intro h<;>try simp at h))<;>(try exact ck));all_goals first|(refine⟨by unfold lim;omega,?_⟩)|skip
  (with_reducible repeat' first|refine ak ?_|simp);all_goals first|(refine⟨by unfold lim;omega,?_⟩)|skip
  (with_reducible repeat' first|refine ak ?_|simp);refine bR.rng (A++[.var b.v],B++[b.t]) hi ⟨by rw[rK,be];simp,by rw[rK,jE];simp⟩ ?_;simp;exact⟨by simp[fresh,aO,aJ,cn,inObs,Pv.look,jK],ek (by simp[fresh,aO,aJ,cn,inObs,Pv.look,jK]),en (by simp[fresh,aO,aJ,dW,inObs,Pv.look,jK]),Ψ⟩
theorem apS{s t:List ai}(af:ev s)(aI:ev t):bK aw 94 [.slice 5 .no (s.map ai.e),.slice 5 .no (t.map ai.e)] (fk (mgu s (gf t))):=by
 have bd:(t.map fun b=>T.var b.v).zip (t.map (·.t))=gf t:=by rw[gf,List.zip_map']
 have key:=abo s (t.map fun b=>T.var b.v) (t.map (·.t)) Ψ af.sol af.fits af.ok (by simpa using aI.len) (fun x ab=>by
  obtain⟨b,ad,rfl⟩:=hR.1 ab;have:=aI.ok b ad;simpa[T.ok]using this.1) (fun x ab=>by
  obtain⟨b,ad,rfl⟩:=hR.1 ab;exact(aI.ok b ad).2)
 rw[bd]at key;have heq:=ap7 t aI.len;generalize (t.map fun b=>T.var b.v)=A at key heq;generalize (t.map fun x=>x.t)=B at key heq;refine bo r6 aem alb fun aQ=>?_;unfold RA;simp;(with_reducible repeat' first|refine ak ?_|refine aA (pT af) ?_|refine aB (pT af) ?_|refine aA (pT aI) ?_|refine aB (pT aI) ?_|refine aA heq ?_|refine aB heq ?_|refine aA key ?_|refine aB key ?_|simp);simp[bp,YR,aV,aY,aU];simp[fk]
end
end Go.Proofs.YtohaalphocaebaaGreatDoor
namespace Go.Pv
section
open Go
structure j8 {α:Type} (c:α->α->Int):Prop where
 neg:∀a b,c b a= -c a b
 tr:∀a b d,c a b<=0->c b d<=0->c a d<=0
 zero:∀a b,c a b=0↔a=b
section
variable {α:Type} {c:α->α->Int}
def h8(c:α->α->Int)(a b:α):Bool:=decide (c a b<0)
theorem j8.ltOk(h:j8 c):rj (h8 c):=by
 refine⟨fun x y gV=>?_,fun x y z J U=>?_⟩
 ·simp only[h8,eN,gD]at gV⊢;rw[h.neg x y];omega
 ·simp only[h8,gD]at J U⊢;have aq:=h.neg x y;have aF:=h.neg y z;have bB:=h.neg x z;have:=h.tr x y z Ω Ω;omega
theorem j8.refl(h:j8 c)(a:α):c a a=0:=(h.zero a a).2 rfl
theorem j8.ltr(h:j8 c){a b d:α}(J:c a b<0)(U:c b d<=0):c a d<0:=by
 have h3:=h.tr a b d Ω U;rcases(by omega:c a d<0\/c a d=0)with h4|h4
 ·exact h4
 ·obtain rfl:=(h.zero a d).1 h4;have:=h.neg a b;omega
def o4(c:α->α->Int)(l:List α):List α:=l.mergeSort fun x y=>decide (c x y<=0)
theorem xZ(c:α->α->Int)(l:List α):(o4 c l).Perm l:=List.mergeSort_perm l _
theorem PR(h:j8 c)(l:List α):(o4 c l).Pairwise fun x y=>c x y<=0:=by have:=List.pairwise_mergeSort (le:=fun x y=>decide (c x y<=0)) (fun a b d J U=>by simp at J U⊢;exact h.tr a b d J U) (fun a b=>by simp;have:=h.neg a b;omega) l;exact this.imp Ψ
theorem aal(h:j8 c){l a6:List α}(bF:a6.Perm l)(af:a6.Pairwise fun x y=>h8 c y x=false):a6=o4 c l:=by refine QI (le:=fun x y=>c x y<=0) (fun x y _ _ J U=>(h.zero x y).1 (by have:=h.neg x y;omega)) (af.imp fun{x y} gV=>?_) (PR h l) (bF.trans (xZ c l).symm);simp only[h8,gD]at gV;have:=h.neg x y;omega
def cN[nl α](p:Option α):List α->List α
 |[]=>[]
 |x::r=>if p=some x then cN (some x) r else x::cN (some x) r
def asc[nl α](c:α->α->Int)(l:List α):List α:=cN none (o4 c l)
def hS(c:α->α->Int)(l:List α):Prop:=l.Pairwise fun x y=>c x y<0
variable [nl α]
theorem TQ:∀(l:List α) (p:Option α),(cN p l).length<=l.length
 |[],_=>by simp[cN]
 |x::r,p=>by have:=TQ r (some x);simp only[cN];split<;>simp<;>omega
theorem acE(c:α->α->Int)(l:List α):(asc c l).length<=l.length:=by have J:=TQ (o4 c l) none;have U:=(xZ c l).length_eq;unfold asc;omega
theorem Lj:∀(l:List α) (p:Option α) (x:α),x∈cN p l->x∈l
 |[],_,_,h=>by simp[cN]at h
 |y::r,p,x,h=>by
  simp only[cN]at h;split at h
  ·exact pd _ (Lj r _ x h)
  ·rcases fm.1 h with rfl|h
   ·simp
   ·exact pd _ (Lj r _ x h)
theorem NX:∀(l:List α) (p:Option α) (x:α),x∈l->x∈cN p l\/p=some x
 |y::r,p,x,h=>by
  simp only[cN];rcases fm.1 h with rfl|h
  ·split
   ·rename_i U;exact .inr U
   ·simp
  ·split
   ·rename_i U;rcases NX r (some y) x h with h3|h3
    ·exact .inl h3
    ·cases h3;exact .inr U
   ·rcases NX r (some y) x h with h3|h3
    ·exact .inl (pd _ h3)
    ·cases h3;simp
theorem TR(ao:j8 c):∀(l:List α) (p:Option α),l.Pairwise (fun x y=>c x y<=0)->(∀y,p=some y->∀x∈l,c y x<=0)->hS c (cN p l)/\∀y,p=some y->∀x∈cN p l,c y x<0
 |[],p,_,_=>⟨avx,fun y _ x ab=>by simp[cN]at ab⟩
 |z::r,p,h,bF=>by
  obtain⟨J,U⟩:=np.1 h;have bN:=TR ao r (some z) U (fun y aC x ab=>by cases aC;exact J x ab);simp only[cN];split
  ·rename_i h3;subst h3;exact bN
  ·rename_i h3;refine⟨np.2 ⟨fun x ab=>bN.2 z rfl x ab,bN.1⟩,fun y aC x ab=>?_⟩;subst aC;have sY:c y z<0:=by
    have h4:=bF y rfl z Ψ;rcases(by omega:c y z<0\/c y z=0)with h5|h5
    ·exact h5
    ·exact absurd (eW some ((ao.zero y z).1 h5)) h3
   rcases fm.1 ab with rfl|ab
   ·exact sY
   ·exact ao.ltr sY (by have:=bN.2 z rfl x ab;omega)
theorem Gi(ao:j8 c)(l:List α):hS c (asc c l):=(TR ao _ none (PR ao l) (fun y h=>by cases h)).1
theorem NW(l:List α)(x:α):x∈asc c l↔x∈l:=by
 constructor
 ·intro h;exact(xZ c l).mem_iff.1 (Lj _ _ _ h)
 ·intro h;rcases NX (o4 c l) none x ((xZ c l).mem_iff.2 h)with h|h
  ·exact h
  ·cases h
omit [nl α]in
theorem hS.ext(ao:j8 c){l a6:List α}(h:hS c l)(b9:hS c a6)(hm:∀x,x∈l↔x∈a6):l=a6:=by
 have aG:∀{l:List α},hS c l->l.Nodup:=fun{l} h=>h.imp fun{a b} h e=>by subst e;have:=ao.refl a;omega
 refine QI (le:=fun x y=>c x y<=0) (fun x y _ _ J U=>(ao.zero x y).1 (by have:=ao.neg x y;omega)) (h.imp fun h=>Ω) (b9.imp fun h=>Ω) ?_;exact(List.perm_ext_iff_of_nodup (aG h) (aG b9)).2 hm
omit [nl α]in
theorem hS.nodup(ao:j8 c){l:List α}(h:hS c l):l.Nodup:=h.imp fun{a b} h e=>by subst e;have:=ao.refl a;omega
end
theorem KG:∀a b:List UInt8,hP a b=true->hP b a=false
 |_,[],h=>by simp[hP]at h
 |[],_::_,_=>by simp[hP]
 |x::a,y::b,h=>by
  simp only[hP,lP,eN,cr,dM]at h;simp only[hP,Bool.or_eq_false_iff,gD,Bool.and_eq_false_iff];rcases h with h|⟨rfl,h⟩
  ·refine⟨fun U=>?_,.inl ?_⟩
   ·rw[UInt8.lt_iff_toNat_lt]at h U;omega
   ·simp;intro e;subst e;rw[UInt8.lt_iff_toNat_lt]at h;omega
  ·exact⟨fun U=>by rw[UInt8.lt_iff_toNat_lt]at U;omega,.inr (KG a b h)⟩
theorem Ri:∀a b:List UInt8,a≠b->hP a b=false->hP b a=true
 |[],[],h,_=>absurd rfl h
 |x::a,[],_,_=>by simp[hP]
 |[],_::_,_,h=>by simp[hP]at h
 |x::a,y::b,cA,h=>by
  simp only[hP,Bool.or_eq_false_iff,gD,Bool.and_eq_false_iff]at h;simp only[hP,lP,eN,cr,dM];by_cases e:x=y
  ·subst e;right;refine⟨rfl,Ri a b (fun e=>cA (by rw[e])) ?_⟩;rcases h.2 with U|U
   ·simp at U
   ·exact U
  ·left;have J:=h.1;rw[UInt8.lt_iff_toNat_lt]at J⊢;have:x.toNat≠y.toNat:=fun h=>e (UInt8.toNat_inj.1 h);omega
theorem Rh:∀a b d:List UInt8,hP a b=true->hP b d=true->hP a d=true
 |_,[],_,h,_=>by simp[hP]at h
 |_,_::_,[],_,h=>by simp[hP]at h
 |[],_::_,_::_,_,_=>by simp[hP]
 |x::a,y::b,z::d,J,U=>by
  simp only[hP,lP,eN,cr,dM,UInt8.lt_iff_toNat_lt]at J U⊢;rcases J with J|⟨rfl,J⟩<;>rcases U with U|⟨rfl,U⟩
  ·left;omega
  ·left;exact J
  ·left;exact U
  ·exact .inr ⟨rfl,Rh a b d J U⟩
theorem kX:j8 eL:=by
 refine⟨fun a b=>?_,fun a b d=>?_,fun a b=>?_⟩
 ·simp only[eL];repeat' split
  all_goals omega
 ·simp only[eL];repeat' split
  all_goals omega
 ·simp only[eL];repeat' split
  all_goals omega
theorem EW:j8 ln:=by
 have au:∀a b,ln b a= -ln a b:=fun a b=>by
  simp only[ln];by_cases e:a=b
  ·subst e;simp
  ·rw[if_neg e,if_neg (lR e)];cases h:hP a b with
   |true=>simp[KG a b h]
   |false=>simp[Ri a b e h]
 refine⟨au,fun a b d J U=>?_,fun a b=>?_⟩
 ·simp only[ln]at J U⊢;by_cases aq:a=b
  ·subst aq;exact U
  ·by_cases aF:b=d
   ·subst aF;exact J
   ·rw[if_neg aq]at J;rw[if_neg aF]at U;have g1:hP a b=true:=by cases h:hP a b<;>simp[h]at J⊢
    have g2:hP b d=true:=by cases h:hP b d<;>simp[h]at U⊢
    rw[Rh a b d g1 g2];split<;>simp
 ·simp only[ln];by_cases e:a=b
  ·simp[e]
  ·rw[if_neg e];simp[e];split<;>omega
theorem tj{a b:T}(h:a.kind≠b.kind):eK a b=eL a.kind b.kind:=by cases a<;>cases b<;>simp at h<;>simp[eK]
theorem IF:∀a b:T,eK b a= -eK a b
 | .pair a b,.pair c d=>by
  simp only[eK];have J:=IF a c;have U:=IF b d;by_cases e:eK a c=0
  ·rw[if_pos e,if_pos Ω,U]
  ·rw[if_neg e,if_neg Ω,J]
 | .nil,y=>by
  by_cases ae:T.nil.kind=y.kind
  ·cases y<;>simp at ae;simp[eK,ln]
  ·rw[tj ae,tj (lR ae),kX.neg]
 | .var n,y=>by
  by_cases ae:(T.var n).kind=y.kind
  ·cases y<;>simp at ae;rename_i m;by_cases e:n=m
   ·subst e;simp[eK,ln]
   ·simp[eK,e,lR e,kX.neg n m]
  ·rw[tj ae,tj (lR ae),kX.neg]
 | .sym s,y=>by
  by_cases ae:(T.sym s).kind=y.kind
  ·cases y<;>simp at ae;rename_i m;simp[eK,EW.neg s m]
  ·rw[tj ae,tj (lR ae),kX.neg]
 | .num n,y=>by
  by_cases ae:(T.num n).kind=y.kind
  ·cases y<;>simp at ae;rename_i m;by_cases e:n=m
   ·subst e;simp[eK,ln]
   ·simp[eK,e,lR e,kX.neg n m]
  ·rw[tj ae,tj (lR ae),kX.neg]
 | .pair a b,.nil| .pair a b,.var _| .pair a b,.sym _| .pair a b,.num _=>by simp[eK,eL]
theorem IE{a b:T}(h:eK a b<=0):a.kind<=b.kind:=by
 by_cases ae:a.kind=b.kind
 ·omega
 ·rw[tj ae]at h;simp only[eL]at h;repeat' split at h
  all_goals omega
theorem YA(n m:Int):eK (.var n) (.var m)=eL n m:=by
 simp only[eK,T.kind,T.int,T.name,ln];by_cases e:n=m
 ·subst e;simp[eL]
 ·simp[e]
theorem Yz(n m:Int):eK (.num n) (.num m)=eL n m:=by
 simp only[eK,T.kind,T.int,T.name,ln];by_cases e:n=m
 ·subst e;simp[eL]
 ·simp[e]
theorem am8(n m:List UInt8):eK (.sym n) (.sym m)=ln n m:=by simp[eK]
theorem IG(a b d:T)(bg:a.kind≠4)(J:eK a b<=0)(U:eK b d<=0):eK a d<=0:=by
 have aS:=IE J;have bf:=IE U;by_cases ae:a.kind=d.kind
 ·cases a<;>cases d<;>simp at ae bg;all_goals(cases b<;>simp at aS bf)
  ·simp[eK,ln]
  ·rw[YA]at J U⊢;exact kX.tr _ _ _ J U
  ·rw[am8]at J U⊢;exact EW.tr _ _ _ J U
  ·rw[Yz]at J U⊢;exact kX.tr _ _ _ J U
 ·rw[tj ae];simp only[eL];repeat' split
  all_goals omega
theorem am9:∀a b d:T,eK a b<=0->eK b d<=0->eK a d<=0:=by
 intro a;induction a with
 |pair bA a2 HQ HR=>
  intro b d J U;have aS:=IE J;have bf:=IE U;cases b<;>simp at aS;all_goals(cases d<;>simp at bf)
  rename_i b1 b2 d1 d2;simp only[eK]at J U⊢;by_cases aq:eK bA b1=0
  ·obtain rfl:=(rW bA b1).1 aq;rw[if_pos aq]at J;by_cases aF:eK bA d1=0
   ·rw[if_pos aF]at U⊢;exact HR b2 d2 J U
   ·rw[if_neg aF]at U⊢;exact U
  ·rw[if_neg aq]at J;by_cases aF:eK b1 d1=0
   ·obtain rfl:=(rW b1 d1).1 aF;rw[if_neg aq];exact J
   ·rw[if_neg aF]at U;have h3:=HQ b1 d1 J U;by_cases bB:eK bA d1=0
    ·obtain rfl:=(rW bA d1).1 bB;have:=IF bA b1;omega
    ·rw[if_neg bB];exact h3
 |nil=>exact fun b d=>IG _ b d Ψ
 |var n=>exact fun b d=>IG _ b d Ψ
 |sym n=>exact fun b d=>IG _ b d Ψ
 |num n=>exact fun b d=>IG _ b d Ψ
theorem Oz:j8 eK:=⟨IF,am9,rW⟩
end
end Go.Pv
namespace Go.Proofs.YtohaalphocaebaaGreatDoor
section
open Go Go.Pv
theorem mC{α:Type}{t:List α}{i:Nat}{b:α}(az:t[i]? =some b):t.take (i+1)=t.take i++[b]:=by rw[List.take_succ,az];rfl
def dN(s t:List ai):List ai:=t.filter fun b=>(cO s b.v).isNone
def rN(s t:List ai)(i:Nat)(out:List ai):Prop:=out=dN s (t.take i)
theorem aaW{s t:List ai}(af:ev s)(aI:ev t):bK aw 95 [.slice 5 .no (s.map ai.e),.slice 5 .no (t.map ai.e)] (.slice 5 .no ((dN s t).map ai.e)):=by
 have ai6:=aI.len;generalize bH:dN s t=R;refine bo r6 aer alg fun aQ=>?_;unfold RF;simp;(with_reducible repeat' first|refine ak ?_|refine aA (pT af) ?_|refine aB (pT af) ?_|refine aA (pT aI) ?_|refine aB (pT aI) ?_|simp);refine hI (α:=List ai) (fun i out=>⟨[(0,.slice 5 .no (s.map ai.e)),(17,.slice 5 .no (t.map ai.e)),(18,.int .i64 t.length),(5,.slice 5 (.own (.loc 0)) (out.map ai.e)),(19,.int .i64 i)],[],[(.loc 0,⟨out.length,54,5,none⟩)],1,[]⟩) t.length (rN s t) [] b7 (by simp[rN,dN]) (fun out ag _=>?_) (fun i out hi ag _=>?_)
 ·rw[rN,hl (dZ _),bH]at ag;rw[<-ag];exact cz
 ·obtain⟨b,az,gr⟩:=eI hi;have Bh:out.length<=1000000:=by
   have:out.length<=(t.take i).length:=by rw[ag];exact List.length_filter_le _ _
   simp at this;omega
  have qg:=AV af.sol.asc b.v;simp[hi,gr];by_cases ad:ko s b.v<0
  ·(with_reducible repeat' first|refine ak ?_|refine aA (tB s b.v af.len) ?_|refine aB (tB s b.v af.len) ?_|refine aA (u4 _) ?_|refine aB (u4 _) ?_|simp[gr,hi,ad]);all_goals first|(refine⟨by unfold lim;omega,?_⟩)|skip
   (with_reducible repeat' first|refine ak ?_|simp);refine bR.rng (out++[b]) hi (by rw[rN,mC az,dN,List.filter_append,ag];simp[dN,qg.1 ad]) ?_;simp;exact⟨by simp[fresh,aO,aJ,cn,inObs,Pv.look,jK],ek (by simp[fresh,aO,aJ,cn,inObs,Pv.look,jK]),en (by simp[fresh,aO,aJ,dW,inObs,Pv.look,jK]),Ψ⟩
  ·(with_reducible repeat' first|refine ak ?_|refine aA (tB s b.v af.len) ?_|refine aB (tB s b.v af.len) ?_|simp[gr,hi,ad]);refine bR.rng out hi (by
    have:cO s b.v≠none:=fun e=>ad (qg.2 e);rw[rN,mC az,dN,List.filter_append,ag];cases e:cO s b.v with
    |none=>exact absurd e this
    |some x=>simp[dN,e]) ?_
   exact b7
def HW(t:List ai)(i:Nat)(out:List ai):Prop:=out=t.take i
theorem FF(t:List ai)(aI:t.length<=1000000):bK aw 91 [.slice 5 .no (t.map ai.e)] (.slice 5 .no (t.map ai.e)):=by
 refine bo r6 aeJ alA fun aQ=>?_;unfold RX;simp;refine hI (α:=List ai) (fun i out=>⟨[(7,.slice 5 .no (t.map ai.e)),(8,.int .i64 t.length),(3,.slice 5 (.own (.loc 0)) (out.map ai.e)),(9,.int .i64 i)],[],[(.loc 0,⟨out.length,54,5,none⟩)],1,[]⟩) t.length (HW t) [] b7 (by simp[HW]) (fun out ag _=>?_) (fun i out hi ag _=>?_)
 ·rw[HW,hl (dZ _)]at ag;subst ag;exact cz
 ·obtain⟨b,az,gr⟩:=eI hi;have Bh:out.length<=1000000:=by rw[ag];simp;omega
  simp[hi,gr];(with_reducible repeat' first|refine ak ?_|refine aA (u4 _) ?_|refine aB (u4 _) ?_|simp[gr,hi]);all_goals first|(refine⟨by unfold lim;omega,?_⟩)|skip
  (with_reducible repeat' first|refine ak ?_|simp);refine bR.rng (out++[b]) hi (by rw[HW,mC az,ag]) ?_;simp;exact⟨by simp[fresh,aO,aJ,cn,inObs,Pv.look,jK],ek (by simp[fresh,aO,aJ,cn,inObs,Pv.look,jK]),en (by simp[fresh,aO,aJ,dW,inObs,Pv.look,jK]),Ψ⟩
def rS(t:List ai)(b:ai):Bool:=decide (aR t b.v=b.t.ap (aR t))
def kE(s t:List ai):Bool:=s.all (rS t)
theorem Ft{t:List ai}(aI:ev t)(v:Int):(aR t v).size<=5000:=by
 unfold aR;cases e:cO t v with
 |none=>simp[T.size]
 |some x=>exact aI.fits.2 _ (iG e)
theorem abi(s:List ai){t:List ai}(af:s.length<=1000000)(aI:ev t):bK aw 141 [.slice 5 .no (s.map ai.e),.slice 5 .no (t.map ai.e)] (.bool (kE s t)):=by
 refine bo r6 aeO alF fun aQ=>?_;unfold R4;simp;refine eJ [1,11,12] (fun i (_:Unit)=>[(13,.int .i64 i)]) s.length (mW (rS t) s) () b7 (fun k b ae=>Ω) (fun _ ag _=>?_) (fun i _ hi ag _=>?_)
 ·have:kE s t=true:=by rw[kE,fV];intro b ad;obtain⟨k,ae,e⟩:=oI ad;exact ag k b ae (by rw[cg ae,e])
  rw[this];exact cz
 ·obtain⟨b,az,gr⟩:=eI hi;have fW:rS t b=false->kE s t=false:=fun h=>by rw[Bool.eq_false_iff];intro b9;rw[kE,fV]at b9;rw[b9 b (eF az)]at h;cases h
  have aS:=FI t (.var b.v) aI.len aI.sol.asc aI.fit;have bf:=FI t b.t aI.len aI.sol.asc aI.fit;have zd:=Ft aI b.v;have HO:((T.var b.v).ap (aR t)).size<=5000:=zd;rw[if_pos HO,hb HO]at aS;rw[show(T.var b.v).ap (aR t)=aR t b.v from rfl]at aS;simp[hi,gr];by_cases bd:(b.t.ap (aR t)).size<=5000
  ·rw[if_pos bd,hb bd]at bf;by_cases he:aR t b.v=b.t.ap (aR t)
   ·rw[he]at aS;(with_reducible repeat' first|refine ak ?_|refine aA (lr _) ?_|refine aB (lr _) ?_|refine aA aS ?_|refine aB aS ?_|refine aA bf ?_|refine aB bf ?_|refine aA (u5 _ _) ?_|refine aB (u5 _ _) ?_|simp[gr,hi,he]);exact bR.rng () hi (ag.step az (by simp[rS,he])) b7
   ·rw[fW (by simp[rS,he])];(with_reducible repeat' first|refine ak ?_|refine aA (lr _) ?_|refine aB (lr _) ?_|refine aA aS ?_|refine aB aS ?_|refine aA bf ?_|refine aB bf ?_|refine aA (u5 _ _) ?_|refine aB (u5 _ _) ?_|simp[gr,hi,he]);simp[bp,OO,aV,aY,aU]
  ·rw[if_neg bd,h0 bd]at bf;rw[fW (by simp only[rS,gD];intro e;rw[<-e]at bd;exact bd zd)];(with_reducible repeat' first|refine ak ?_|refine aA (lr _) ?_|refine aB (lr _) ?_|refine aA aS ?_|refine aB aS ?_|refine aA bf ?_|refine aB bf ?_|refine aA (u5 _ _) ?_|refine aB (u5 _ _) ?_|simp[gr,hi]);simp[bp,OO,aV,aY,aU]
def C7:C:=(aa [cW 2 0,bq 4 false] (.seq (aa [aX 7 5 2,cH 8 31 7,cx 9 8,I 10 9,bT 10 false 11 1,ar 10 false (cH 12 32 11),ar 10 false (cx 13 12),c3 14 10 13,I 15 14,bT 15 false 16 1,ar 15 false (cD 17 16),ar 15 false (aK 18 0 1 2),ar 15 false (ax 19 1 18),ar 15 false (bt 20 .neq 17 19),c3 21 15 20] (aZ 21 (aa [bq 4 false] .ret) .skip)) (.seq (aa [I 22 1,cD 23 22,cf 24 0] (ff 25 24 23 (.seq (.block 1 (aa [I 26 24,cC 27 5 22 24,aX 28 5 27,cR 6 iM,I 5 26,bD 5 6 28] (aa [aK 29 0 1 6,ax 30 1 29,I 31 5,bt 32 .neq 30 31,I 33 32,ar 33 false (hZ 34 1 4 6),ar 33 false (aX 35 4 34),ar 33 false (cH 36 33 35),ar 33 false (cx 37 36),c3 38 33 37] (aZ 38 (aa [bq 4 false] .ret) .skip)))) (.region [aT 39 .add 24 1,I 24 39])))) (aa [aX 40 5 2,I 41 1,cc 42 34 40 41,I 4 42] .ret))))
@[simp] def OV:List bV:=[.tmp 4]
def KM:C:=(aa [cW 3 0,cW 4 1,cW 5 2,bq 6 false] (.seq (aa [aX 9 5 3,aX 10 4 4,aX 11 4 5,dV 12 4 36 [.t 10,.t 11],cc 13 39 9 12,cx 14 13] (aZ 14 (aa [bq 6 false] .ret) .skip)) (aa [aX 16 5 3,aX 17 4 4,aX 18 4 5,c0 19 16 [.t 16,.t 17,.t 18],I 15 19,cp 20 0 15,cp 21 1 15,cR 7 hf,bD 5 7 20,I 8 21] (aa [I 22 8,cx 23 22,I 6 23] .ret))))
@[simp] def YQ:List bV:=[.tmp 6]
def KL:C:=(aa [cW 3 0,cW 4 1,cW 5 2,bq 6 false] (.seq (aa [aX 9 5 3,aX 10 4 4,aX 11 4 5,dV 12 4 36 [.t 10,.t 11],cc 13 39 9 12,cx 14 13] (aZ 14 (aa [bq 6 false] .ret) .skip)) (aa [aX 16 5 3,aX 17 4 4,aX 18 4 5,c0 19 17 [.t 16,.t 17,.t 18],I 15 19,cp 20 0 15,cp 21 1 15,cR 7 hf,bD 5 7 20,I 8 21] (aa [I 22 8,cx 23 22,I 6 23] .ret))))
@[simp] def YP:List bV:=[.tmp 6]
def Gp:C:=(aa [cW 3 0,cW 4 1,cW 5 2,cR 6 hf,bq 7 false] (.seq (aa [aX 13 5 3,aX 14 4 4,aX 15 4 5,dV 16 4 36 [.t 14,.t 15],cc 17 39 13 16,cx 18 17] (aZ 18 (aa [gY 19 hf [],bD 5 6 19,bq 7 false] .ret) .skip)) (aa [aK 21 1 1 3,ax 22 1 21,aX 23 4 4,aX 24 4 5,c0 25 40 [.t 22,.t 23,.t 24],I 20 25,cp 26 0 20,cp 27 1 20,I 8 26,I 9 27] (.seq (aa [I 28 9,aT 29 .gtr 28 1] (aZ 29 (aa [gY 30 hf [],bD 5 6 30,bq 7 false] .ret) .skip)) (aa [aX 31 5 3,cH 32 41 31,cR 10 hf,bD 5 10 32] (.seq (aa [I 33 9,aT 34 .eql 33 0] (aZ 34 (.region [aK 35 2 1 10,ax 36 1 35,I 37 8,dV 38 1 23 [.t 37],gN 39 1 23 36 38,aK 40 2 1 10,bD 1 40 39]) .skip)) (aa [aX 42 5 10,cH 43 42 42,I 41 43,cp 44 0 41,cp 45 1 41,cR 11 hf,bD 5 11 44,I 12 45] (aa [aX 46 5 11,I 47 12,bD 5 6 46,I 7 47] .ret))))))))
@[simp] def YO:List bV:=[.cell 6 true 5,.tmp 7]
def KN:C:=(aa [cW 3 0,cW 4 1,cW 5 2,cR 6 hf,bq 7 false] (.seq (aa [aX 13 5 3,aX 14 4 4,aX 15 4 5,dV 16 4 36 [.t 14,.t 15],cc 17 39 13 16,cx 18 17] (aZ 18 (aa [gY 19 hf [],bD 5 6 19,bq 7 false] .ret) .skip)) (aa [aK 21 1 1 3,ax 22 1 21,aX 23 4 4,aX 24 4 5,c0 25 43 [.t 22,.t 23,.t 24],I 20 25,cp 26 0 20,cp 27 1 20,I 8 26,I 9 27] (.seq (aa [I 28 9,cx 29 28] (aZ 29 (aa [gY 30 hf [],bD 5 6 30,bq 7 false] .ret) .skip)) (aa [aX 31 5 3,cH 32 41 31,cR 10 hf,bD 5 10 32] (aa [I 33 8,aK 34 1 1 10,bD 1 34 33] (aa [aX 36 5 10,cH 37 42 36,I 35 37,cp 38 0 35,cp 39 1 35,cR 11 hf,bD 5 11 38,I 12 39] (aa [aX 40 5 11,I 41 12,bD 5 6 40,I 7 41] .ret))))))))
@[simp] def OI:List bV:=[.cell 6 true 5,.tmp 7]
def SX:C:=(aa [bq 2 false] (aa [I 3 0,cH 4 75 3,I 2 4] .ret))
@[simp] def an7:List bV:=[.tmp 2]
def K6:C:=(aa [cW 1 0,bq 2 false] (aa [aX 3 4 1,cH 4 76 3,I 5 4,ar 5 true (aX 6 4 1),⟨(some (5,true)),.call (some 7) (.c (.func 77 [])) [.t 6,(.c (.slice 1 .nil []))]⟩,ar 5 true (cD 8 7),ar 5 true (aT 9 .eql 8 0),dh 10 5 9,I 2 10] .ret))
@[simp] def Zm:List bV:=[.tmp 2]
def Tv:C:=(aa [cW 2 0,bq 4 false] (.seq (aa [aK 21 1 1 2,ax 22 1 21,cD 23 22,cf 24 0] (ff 25 24 23 (.seq (.block 1 (aa [cC 26 5 22 24,aX 27 5 26,cR 6 iM,bD 5 6 27] (aa [I 29 1,aK 30 0 1 6,ax 31 1 30,cc 32 78 29 31,I 28 32,cp 33 0 28,cp 34 1 28,cR 7 da,bD 4 7 33,I 8 34] (aa [I 36 1,hZ 37 1 4 6,aX 38 4 37,cc 39 79 36 38,I 35 39,cp 40 0 35,cp 41 1 35,cR 9 da,bD 4 9 40,I 10 41] (aa [I 42 10,cx 43 42,I 44 43,ar 44 false (aX 45 4 7),ar 44 false (aX 46 4 9),ar 44 false (cc 47 80 45 46),ar 44 false (cx 48 47),c3 49 44 48] (aZ 49 (aa [bq 4 false] .ret) .skip)))))) (.region [aT 50 .add 24 1,I 24 50])))) (.seq (aa [aK 51 2 1 2,ax 52 1 51,cD 53 52,cf 54 0] (.block 2 (.loop (aa [bt 55 .lss 54 53] (.seq (aZ 55 .skip (.exit 2)) (.seq (.block 3 (aa [cC 56 1 52 54,ax 57 1 56,I 12 57] (aa [I 58 12,I 59 1,cc 60 81 58 59,cx 61 60] (aZ 61 (aa [bq 4 false] .ret) .skip)))) (.region [aT 62 .add 54 1,I 54 62]))))))) (.seq (aa [aK 63 3 1 2,ax 64 1 63,cD 65 64,cf 66 0] (.block 4 (.loop (aa [bt 67 .lss 66 65] (.seq (aZ 67 .skip (.exit 4)) (.seq (.block 5 (aa [cC 68 2 64 66,aX 69 2 68,cS (.alloc 14 none (.agg [.int .i64 0,.int .i64 0])),bD 2 14 69] (aa [I 71 1,aK 72 0 1 14,ax 73 1 72,cc 74 78 71 73,I 70 74,cp 75 0 70,cp 76 1 70,cR 15 da,bD 4 15 75,I 16 76] (aa [aK 77 0 1 15,ax 78 1 77,aK 79 1 1 14,ax 80 1 79,bt 81 .neq 78 80] (aZ 81 (aa [bq 4 false] .ret) .skip))))) (.region [aT 82 .add 66 1,I 66 82]))))))) (.seq (aa [aK 83 4 1 2,ax 84 1 83,cD 85 84,cf 86 0] (.block 6 (.loop (aa [bt 87 .lss 86 85] (.seq (aZ 87 .skip (.exit 6)) (.seq (.block 7 (aa [cC 88 2 84 86,aX 89 2 88,cS (.alloc 18 none (.agg [.int .i64 0,.str []])),bD 2 18 89] (aa [I 91 1,aK 92 0 1 18,ax 93 1 92,cc 94 78 91 93,I 90 94,cp 95 0 90,cp 96 1 90,cR 19 da,bD 4 19 95,I 20 96] (aa [aX 97 4 19,aK 98 1 1 18,ax 99 1 98,cc 100 82 97 99] (aZ 100 (aa [bq 4 false] .ret) .skip))))) (.region [aT 101 .add 86 1,I 86 101]))))))) (aa [bq 4 true] .ret))))))
@[simp] def ZD:List bV:=[.tmp 4]
def Gs:C:=(aa [cW 2 0,bq 4 false] (.seq (.drawn true 18 [aX 5 5 2,cH 6 22 5,I 7 6,bT 7 true 8 1,ar 7 true (cH 9 87 8),dh 10 7 9,I 11 10,bT 11 true 12 1,ar 11 true (cH 13 88 12),ar 11 true (aK 14 0 1 2),ar 11 true (ax 15 1 14),ar 11 true (bt 16 .leq 13 15),dh 17 11 16,I 4 17]) .ret))
@[simp] def anJ:List bV:=[.tmp 4]
def KK:C:=(aa [cW 4 1,cW 5 2,eM 6 5,cf 7 0] (.seq (aa [I 12 0,cH 13 53 12,cx 14 13,I 15 14,ar 15 false (aX 16 4 4),ar 15 false (cH 17 89 16),ar 15 false (cx 18 17),c3 19 15 18,I 20 19,ar 20 false (aX 21 4 5),ar 20 false (cH 22 89 21),ar 20 false (cx 23 22),c3 24 20 23] (aZ 24 (aa [eM 6 5,cf 7 3] .ret) .skip)) (aa [I 26 0,aX 27 4 4,aX 28 4 5,c0 29 43 [.t 26,.t 27,.t 28],I 25 29,cp 30 0 25,cp 31 1 25,I 8 30,I 9 31] (aa [I 33 0,I 34 8,I 35 9,c0 36 90 [.t 33,.t 34,.t 35],I 32 36,cp 37 0 32,cp 38 1 32,I 10 37,I 11 38] (aa [I 39 10,I 40 11,I 6 39,I 7 40] .ret)))))
@[simp] def anv:List bV:=[.tmp 6,.tmp 7]
def KS:C:=(aa [cW 1 0,cR 2 hf] (.seq (.drawn true 39 [aK 6 0 1 1,ax 7 1 6,aK 8 1 1 1,ax 9 1 8,cH 10 91 9,dV 11 1 23 [],gY 12 hf [(0,1,(.t 7)),(1,1,(.t 10)),(2,1,(.t 11))],cR 3 hf,bD 5 3 12]) (.seq (aa [aK 13 2 1 1,ax 14 1 13,cD 15 14,cf 16 0] (ff 17 16 15 (.seq (.block 1 (aa [cC 18 1 14 16,ax 19 1 18,I 5 19] (.drawn true 39 [aK 20 2 1 3,ax 21 1 20,I 22 5,cH 23 91 22,dV 24 1 23 [.t 23],gN 25 1 23 21 24,aK 26 2 1 3,bD 1 26 25]))) (.region [aT 27 .add 16 1,I 16 27])))) (aa [dV 28 2 59 [],aK 29 3 1 1,ax 30 1 29,gN 31 2 59 28 30,aK 32 3 1 3,bD 1 32 31] (aa [dV 33 2 56 [],aK 34 4 1 1,ax 35 1 34,gN 36 2 56 33 35,aK 37 4 1 3,bD 1 37 36] (aa [aX 38 5 3,bD 5 2 38] .ret))))))
@[simp] def Y2:List bV:=[.cell 2 true 5]
def RJ:C:=(aa [cW 4 1,cW 5 2,eM 6 5,bq 7 false] (.seq (aa [I 8 0,cH 9 53 8,cx 10 9,I 11 10,ar 11 false (aX 12 4 4),ar 11 false (cH 13 89 12),ar 11 false (cx 14 13),c3 15 11 14,I 16 15,ar 16 false (aX 17 4 5),ar 16 false (cH 18 89 17),ar 16 false (cx 19 18),c3 20 16 19] (aZ 20 (aa [eM 6 5,bq 7 false] .ret) .skip)) (aa [I 21 0,aX 22 4 4,dV 23 4 36 [.t 22],aX 24 4 5,dV 25 4 36 [.t 24],c0 26 97 [.t 21,.t 23,.t 25],cp 27 0 26,cp 28 1 26,I 6 27,I 7 28] .ret)))
@[simp] def anC:List bV:=[.tmp 6,.tmp 7]
def rv:C:=(aa [cW 6 0,cW 8 2,cW 9 3,cR 12 hf,bq 13 false] (aa [aX 21 5 6,cR 14 hf,bD 5 14 21] (aa [bq 15 true] (.seq (aa [I 22 1,aT 23 .lss 22 2] (aZ 23 (aa [aK 25 1 1 6,ax 26 1 25,aX 27 4 8,aX 28 4 9,c0 29 101 [.t 26,.t 27,.t 28],I 24 29,cp 30 0 24,cp 31 1 24,I 16 30,I 17 31] (aa [I 32 1,aT 33 .eql 32 0] (aZ 33 (aa [I 34 16,aK 35 1 1 14,bD 1 35 34] (.region [I 36 17,I 15 36])) (aa [I 37 17] (aZ 37 (aa [aK 38 1 1 6,ax 39 1 38,I 40 16,cc 41 102 39 40,I 18 41] (aa [I 42 18,cD 43 42,aT 44 .gtr 43 0,I 15 44] (.region [dV 45 1 23 [],aK 46 2 1 6,ax 47 1 46,gN 48 1 23 45 47,I 49 18,dV 50 1 23 [.t 49],gN 51 1 23 48 50,aK 52 2 1 14,bD 1 52 51]))) .skip))))) (aa [aK 54 1 1 6,ax 55 1 54,aX 56 4 8,cc 57 79 55 56,I 53 57,cp 58 0 53,cp 59 1 53,cR 19 da,bD 4 19 58,I 20 59] (aa [I 60 20,I 15 60] (aa [I 61 15,I 62 61,bT 62 true 63 1,ar 62 true (aT 64 .eql 63 2),dh 65 62 64] (aZ 65 (.region [aK 67 3 1 6,ax 68 1 67,aX 69 4 19,I 70 4,c0 71 103 [.t 68,.t 69,.t 70],I 66 71,cp 72 0 66,cp 73 1 66,aK 74 3 1 14,bD 1 74 72,I 15 73]) (aa [I 75 15] (aZ 75 (.region [aK 77 4 1 6,ax 78 1 77,aX 79 4 19,I 80 5,c0 81 104 [.t 78,.t 79,.t 80],I 76 81,cp 82 0 76,cp 83 1 76,aK 84 4 1 14,bD 1 84 82,I 15 83]) .skip)))))))) (.seq (aa [I 85 15,cx 86 85] (aZ 86 (aa [gY 87 hf [],bD 5 12 87,bq 13 false] .ret) .skip)) (aa [aX 88 5 14,cH 89 73 88,cp 90 0 89,cp 91 1 89,bD 5 12 90,I 13 91] .ret))))))
@[simp] def I8:List bV:=[.cell 12 true 5,.tmp 13]
def Ts:C:=(aa [cW 1 0,cR 2 hf] (.seq (.drawn true 20 [aK 3 0 1 1,ax 4 1 3,aK 5 1 1 1,ax 6 1 5,cH 7 105 6,aK 8 2 1 1,ax 9 1 8,cH 10 106 9,dV 11 2 59 [],aK 12 3 1 1,ax 13 1 12,gN 14 2 59 11 13,dV 15 2 56 [],aK 16 4 1 1,ax 17 1 16,gN 18 2 56 15 17,gY 19 hf [(0,1,(.t 4)),(1,1,(.t 7)),(2,1,(.t 10)),(3,1,(.t 14)),(4,1,(.t 18))],bD 5 2 19]) .ret))
@[simp] def aof:List bV:=[.cell 2 true 5]
def SK:C:=(aa [bq 4 false] (.seq (aa [I 11 0,cH 12 68 11,cx 13 12] (aZ 13 (aa [bq 4 false] .ret) .skip)) (.seq (aa [I 14 0,cD 15 14,cf 16 0] (ff 17 16 15 (.seq (.block 1 (aa [cC 18 5 14 16,aX 19 5 18,cR 6 iM,bD 5 6 19] (aa [aK 21 0 1 6,ax 22 1 21,cH 23 84 22,I 24 1,cc 25 131 23 24,I 20 25,cp 26 0 20,cp 27 1 20,cR 7 da,bD 4 7 26,I 8 27] (aa [hZ 29 1 4 6,aX 30 4 29,I 31 1,cc 32 131 30 31,I 28 32,cp 33 0 28,cp 34 1 28,cR 9 da,bD 4 9 33,I 10 34] (aa [I 35 8,I 36 35,bT 36 true 37 10,dh 38 36 37,I 39 38,ar 39 true (aX 40 4 7),ar 39 true (aX 41 4 9),ar 39 true (cc 42 80 40 41),ar 39 true (cx 43 42),dh 44 39 43] (aZ 44 (aa [bq 4 true] .ret) .skip)))))) (.region [aT 45 .add 16 1,I 16 45])))) (aa [bq 4 false] .ret))))
@[simp] def an1:List bV:=[.tmp 4]
def SJ:C:=(aa [cW 2 0,bq 4 false] (aa [aX 5 4 2,cH 6 76 5,I 7 6,ar 7 true (aX 8 4 2),bT 7 true 9 1,ar 7 true (cc 10 132 8 9),dh 11 7 10,I 4 11] .ret))
@[simp] def an0:List bV:=[.tmp 4]
def Gv:C:=(aa [eM 6 5,cf 7 0] (.seq (aa [I 8 2,cx 9 8] (aZ 9 (aa [eM 6 5,cf 7 1] .ret) .skip)) (.seq (aa [I 10 0,I 11 1,cc 12 99 10 11] (aZ 12 (aa [eM 6 5,cf 7 2] .ret) .skip)) (aa [I 13 0,I 14 1,cc 15 95 13 14,I 6 15,cf 7 0] .ret))))
@[simp] def anL:List bV:=[.tmp 6,.tmp 7]
def Tf:C:=(aa [eM 2 5] (aa [dV 6 5 54 [],I 3 6] (.seq (aa [I 7 0,cD 8 7,cf 9 0] (ff 10 9 8 (.seq (.block 1 (aa [cC 11 5 7 9,aX 12 5 11,cR 5 iM,bD 5 5 12] (.drawn true 24 [I 13 3,aK 14 0 1 5,ax 15 1 14,hZ 16 1 4 5,aX 17 4 16,cH 18 37 17,gY 19 iM [(0,1,(.t 15)),(1,4,(.t 18))],dV 20 5 54 [.t 19],gN 21 5 54 13 20,I 3 21]))) (.region [aT 22 .add 9 1,I 9 22])))) (aa [I 23 3,I 2 23] .ret))))
@[simp] def an9:List bV:=[.tmp 2]
def To:C:=(aa [eM 2 1] (aa [dV 6 1 23 [],I 3 6] (.seq (aa [I 7 0,cD 8 7,cf 9 0] (ff 10 9 8 (.seq (.block 1 (aa [cC 11 1 7 9,ax 12 1 11,I 5 12] (.region [I 13 3,I 14 5,cH 15 105 14,dV 16 1 23 [.t 15],gN 17 1 23 13 16,I 3 17]))) (.region [aT 18 .add 9 1,I 9 18])))) (aa [I 19 3,I 2 19] .ret))))
@[simp] def aoc:List bV:=[.tmp 2]
def K5:C:=(aa [cW 2 0,cR 4 da,bq 5 false] (.seq (aa [aX 8 4 2,cH 9 76 8,cx 10 9,I 11 10,bT 11 false 12 1,ar 11 false (cH 13 32 12),ar 11 false (cx 14 13),c3 15 11 14] (aZ 15 (aa [gY 16 da [],bD 4 4 16,bq 5 false] .ret) .skip)) (aa [I 18 1,aX 19 4 2,cc 20 79 18 19,I 17 20,cp 21 0 17,cp 22 1 17,cR 6 da,bD 4 6 21,I 7 22] (.seq (aa [I 23 7,cx 24 23] (aZ 24 (aa [gY 25 da [],bD 4 4 25,bq 5 false] .ret) .skip)) (aa [aX 26 4 6,cH 27 37 26,bD 4 4 27,bq 5 true] .ret)))))
@[simp] def an2:List bV:=[.cell 4 true 4,.tmp 5]
def l5:List (Nat×dy):=[
 (3,⟨1,8,.int .i64,.int .i64 0⟩),
 (9,⟨1,16,.str,.str []⟩),
 (23,⟨1,24,.slice 54,.slice 5 .nil []⟩),
 (24,⟨1,24,.slice 23,.slice 1 .nil []⟩),
 (25,⟨1,24,.slice 59,.slice 2 .nil []⟩),
 (26,⟨1,24,.slice 56,.slice 2 .nil []⟩),
 (28,⟨5,104,.struct [(0,3),(1,23),(2,24),(3,25),(4,26)],.agg [.int .i64 0,.slice 5 .nil [],.slice 1 .nil [],.slice 2 .nil [],.slice 2 .nil []]⟩),
 (34,⟨1,24,.slice 36,.slice 4 .nil []⟩),
 (36,⟨4,56,.struct [(0,3),(1,3),(2,9),(3,34)],.agg [.int .i64 0,.int .i64 0,.str [],.slice 4 .nil []]⟩),
 (54,⟨5,64,.struct [(0,3),(1,36)],.agg [.int .i64 0,.int .i64 0,.int .i64 0,.str [],.slice 4 .nil []]⟩),
 (56,⟨2,24,.struct [(0,3),(1,9)],.agg [.int .i64 0,.str []]⟩),
 (59,⟨2,16,.struct [(0,3),(1,3)],.agg [.int .i64 0,.int .i64 0]⟩),
 (97,⟨1,24,.slice 3,.slice 1 .nil []⟩)]
theorem gg:fJ aw l5=true:=by kernel_rfl
theorem IA:b6 l5 C7 OV 2 Tryz.f9=true:=by kernel_rfl
theorem GS:aw.funcs[(9:Nat)]? =some Tryz.f9:=Tryz.func9
theorem Yb:b6 l5 KM YQ 3 Tryz.f14=true:=by kernel_rfl
theorem Uh:aw.funcs[(14:Nat)]? =some Tryz.f14:=Tryz.func14
theorem Ya:b6 l5 KL YP 3 Tryz.f15=true:=by kernel_rfl
theorem Ug:aw.funcs[(15:Nat)]? =some Tryz.f15:=Tryz.func15
theorem Oh:b6 l5 Gp YO 3 Tryz.f16=true:=by kernel_rfl
theorem LB:aw.funcs[(16:Nat)]? =some Tryz.f16:=Tryz.func16
theorem Yc:b6 l5 KN OI 3 Tryz.f17=true:=by kernel_rfl
theorem Ui:aw.funcs[(17:Nat)]? =some Tryz.f17:=Tryz.func17
theorem amu:b6 l5 SX an7 1 Tryz.f32=true:=by kernel_rfl
theorem afD:aw.funcs[(32:Nat)]? =some Tryz.f32:=Tryz.func32
theorem Yp:b6 l5 K6 Zm 1 Tryz.f33=true:=by kernel_rfl
theorem Uu:aw.funcs[(33:Nat)]? =some Tryz.f33:=Tryz.func33
theorem am2:b6 l5 Tv ZD 2 Tryz.f34=true:=by kernel_rfl
theorem agb:aw.funcs[(34:Nat)]? =some Tryz.f34:=Tryz.func34
theorem Ol:b6 l5 Gs anJ 2 Tryz.f39=true:=by kernel_rfl
theorem LF:aw.funcs[(39:Nat)]? =some Tryz.f39:=Tryz.func39
theorem X9:b6 l5 KK anv 3 Tryz.f40=true:=by kernel_rfl
theorem Uf:aw.funcs[(40:Nat)]? =some Tryz.f40:=Tryz.func40
theorem Yh:b6 l5 KS Y2 1 Tryz.f41=true:=by kernel_rfl
theorem Un:aw.funcs[(41:Nat)]? =some Tryz.f41:=Tryz.func41
theorem alk:b6 l5 RJ anC 3 Tryz.f43=true:=by kernel_rfl
theorem aev:aw.funcs[(43:Nat)]? =some Tryz.f43:=Tryz.func43
theorem ti:b6 l5 rv I8 6 Tryz.f49=true:=by kernel_rfl
theorem su:aw.funcs[(49:Nat)]? =some Tryz.f49:=Tryz.func49
theorem amZ:b6 l5 Ts aof 1 Tryz.f51=true:=by kernel_rfl
theorem af8:aw.funcs[(51:Nat)]? =some Tryz.f51:=Tryz.func51
theorem amk:b6 l5 SK an1 2 Tryz.f81=true:=by kernel_rfl
theorem aft:aw.funcs[(81:Nat)]? =some Tryz.f81:=Tryz.func81
theorem amj:b6 l5 SJ an0 2 Tryz.f82=true:=by kernel_rfl
theorem afs:aw.funcs[(82:Nat)]? =some Tryz.f82:=Tryz.func82
theorem Oo:b6 l5 Gv anL 3 Tryz.f90=true:=by kernel_rfl
theorem LI:aw.funcs[(90:Nat)]? =some Tryz.f90:=Tryz.func90
theorem amM:b6 l5 Tf an9 1 Tryz.f105=true:=by kernel_rfl
theorem afV:aw.funcs[(105:Nat)]? =some Tryz.f105:=Tryz.func105
theorem amV:b6 l5 To aoc 1 Tryz.f106=true:=by kernel_rfl
theorem af4:aw.funcs[(106:Nat)]? =some Tryz.f106:=Tryz.func106
theorem Yo:b6 l5 K5 an2 2 Tryz.f131=true:=by kernel_rfl
theorem Ut:aw.funcs[(131:Nat)]? =some Tryz.f131:=Tryz.func131
def Ee(t:T)(k:Nat)(st:bn):Prop:=
 (k=t.args.length/\st=⟨[(2,.ptr (.loc 1) 0),(3,.ptr (.loc 2) 0),(14,.slice 4 .no (t.args.map T.e)),(15,.int .i64 t.args.length),(16,.int .i64 0)],[(.loc 1,[.int .i64 0,.int .i64 0,.str [],.slice 4 .nil []]),(.loc 2,[.int .i64 t.kind,.int .i64 t.int,.str t.name,.slice 4 .nil []])],[],3,[]⟩)\/
 ∃i:Nat,1<=i/\i<=t.args.length/\k=t.args.length-i/\st=⟨[(2,.ptr (.loc 1) 0),(3,.ptr (.loc 2) 0),(14,.slice 4 .no (t.args.map T.e)),(15,.int .i64 t.args.length),(16,.int .i64 i)],[(.loc 1,[.int .i64 0,.int .i64 0,.str [],.slice 4 .nil []]),(.loc 2,[.int .i64 t.kind,.int .i64 t.int,.str t.name,.slice 4 (.own (.loc 29)) ((t.args.take i).map T.e)])],[(.loc 29,⟨i,36,4,none⟩)],30,[]⟩
theorem FG(t:T):bK aw 37 [t.e] t.e:=by
 induction t with
 |pair a b dz dA=>
  refine bo fT Dj EP fun aQ=>?_;unfold AD;simp;refine n1 (Ee (.pair a b)) 2 _ b7 (.inl ⟨rfl,rfl⟩) ?_;rintro k st (⟨ae,rfl⟩|⟨i,J,U,ae,rfl⟩) jF cI;all_goals clear jF cI
  ·simp;(with_reducible repeat' first|refine ak ?_|refine aA dz ?_|refine aB dz ?_|simp);refine bR.next 1 (by rw[ae];simp) (.inr ⟨1,Ω,Ψ,rfl,rfl⟩) b7
  ·rcases(by simp at U;omega:i=1\/i=2)with rfl|rfl
   ·simp;(with_reducible repeat' first|refine ak ?_|refine aA dA ?_|refine aB dA ?_|simp);refine bR.next 0 (by rw[ae];simp) (.inr ⟨2,Ω,Ψ,rfl,rfl⟩) b7
   ·exact cz
 |nil=>
  refine bo fT Dj EP fun aQ=>?_;unfold AD;simp;refine n1 (Ee (.nil)) 0 _ b7 (.inl ⟨rfl,rfl⟩) ?_;rintro k st (⟨ae,rfl⟩|⟨i,J,U,ae,rfl⟩) jF cI;all_goals clear jF cI
  ·exact cz
  ·simp at U;omega
 |var n=>
  refine bo fT Dj EP fun aQ=>?_;unfold AD;simp;refine n1 (Ee (.var n)) 0 _ b7 (.inl ⟨rfl,rfl⟩) ?_;rintro k st (⟨ae,rfl⟩|⟨i,J,U,ae,rfl⟩) jF cI;all_goals clear jF cI
  ·exact cz
  ·simp at U;omega
 |sym s=>
  refine bo fT Dj EP fun aQ=>?_;unfold AD;simp;refine n1 (Ee (.sym s)) 0 _ b7 (.inl ⟨rfl,rfl⟩) ?_;rintro k st (⟨ae,rfl⟩|⟨i,J,U,ae,rfl⟩) jF cI;all_goals clear jF cI
  ·exact cz
  ·simp at U;omega
 |num n=>
  refine bo fT Dj EP fun aQ=>?_;unfold AD;simp;refine n1 (Ee (.num n)) 0 _ b7 (.inl ⟨rfl,rfl⟩) ?_;rintro k st (⟨ae,rfl⟩|⟨i,J,U,ae,rfl⟩) jF cI;all_goals clear jF cI
  ·exact cz
  ·simp at U;omega
theorem abb(t:List ai)(aI:t.length<=1000000):bK aw 105 [.slice 5 .no (t.map ai.e)] (.slice 5 .no (t.map ai.e)):=by
 refine bo gg afV amM fun aQ=>?_;unfold Tf;simp;(with_reducible repeat' first|refine ak ?_|simp);refine hI (α:=List ai) (fun i out=>⟨[(7,.slice 5 .no (t.map ai.e)),(8,.int .i64 t.length),(3,.slice 5 (.own (.loc 0)) (out.map ai.e)),(9,.int .i64 i)],[],[(.loc 0,⟨out.length,54,5,none⟩)],1,[]⟩) t.length (fun i out=>out=t.take i) [] b7 Ψ (fun out ag _=>?_) (fun i out hi ag _=>?_)
 ·rw[hl (dZ _)]at ag;subst ag;exact cz
 ·obtain⟨b,az,gr⟩:=eI hi;have Bh:out.length<=1000000:=by rw[ag];simp;omega
  simp[hi,gr];(with_reducible repeat' first|refine ak ?_|refine aA (FG _) ?_|refine aB (FG _) ?_|simp[gr,hi]);all_goals first|(refine⟨by unfold lim;omega,?_⟩)|skip
  all_goals(with_reducible repeat' first|refine ak ?_|simp)
  all_goals refine bR.rng (out++[b]) hi (by rw[mC az,ag]) ?_
  all_goals simp
  all_goals exact⟨by simp[fresh,aO,aJ,cn,inObs,Pv.look,jK],ek (by simp[fresh,aO,aJ,cn,inObs,Pv.look,jK]),en (by simp[fresh,aO,aJ,dW,inObs,Pv.look,jK]),Ψ⟩
end
end Go.Proofs.YtohaalphocaebaaGreatDoor
namespace Go.Pv
section
open Go
section
variable {α:Type} {c:α->α->Int}
def kC(c:α->α->Int):List α->List α->Int
 |[],[]=>0
 |[],_::_=> -1
 |_::_,[]=>1
 |x::xs,y::ys=>if c x y=0 then kC c xs ys else c x y
theorem Xi(h:j8 c):∀a b:List α,kC c b a= -kC c a b
 |[],[]=>rfl
 |[],_::_=>rfl
 |_::_,[]=>rfl
 |x::xs,y::ys=>by
  simp only[kC];have J:=h.neg x y;by_cases e:c x y=0
  ·rw[if_pos e,if_pos Ω,Xi h xs ys]
  ·rw[if_neg e,if_neg Ω,J]
theorem Xk(h:j8 c):∀a b:List α,kC c a b=0↔a=b
 |[],[]=>by simp[kC]
 |[],_::_=>by simp[kC]
 |_::_,[]=>by simp[kC]
 |x::xs,y::ys=>by
  simp only[kC,yk];by_cases e:c x y=0
  ·rw[if_pos e,Xk h xs ys];simp[(h.zero x y).1 e]
  ·rw[if_neg e];exact⟨fun b9=>absurd b9 e,fun b9=>absurd ((h.zero x y).2 b9.1) e⟩
theorem Xj(h:j8 c):∀a b d:List α,kC c a b<=0->kC c b d<=0->kC c a d<=0
 |[],_,[],_,_=>by simp[kC]
 |[],_,_::_,_,_=>by simp[kC]
 |_::_,[],_,J,_=>by simp[kC]at J
 |_::_,_::_,[],_,U=>by simp[kC]at U
 |x::xs,y::ys,z::cS,J,U=>by
  simp only[kC]at J U⊢;by_cases aq:c x y=0
  ·have:=(h.zero x y).1 aq;subst this;rw[if_pos aq]at J;by_cases aF:c x z=0
   ·rw[if_pos aF]at U⊢;exact Xj h xs ys cS J U
   ·rw[if_neg aF]at U⊢;exact U
  ·rw[if_neg aq]at J;have bs:c x y<0:=Ω
   by_cases aF:c y z=0
   ·have:=(h.zero y z).1 aF;subst this;rw[if_neg aq];omega
   ·rw[if_neg aF]at U;have:=h.ltr bs U;rw[if_neg Ω];omega
theorem akg(h:j8 c):j8 (kC c):=⟨Xi h,Xj h,Xk h⟩
end
def zD(x y:ai):Int:=if eL x.v y.v=0 then eK x.t y.t else eL x.v y.v
theorem am6:j8 zD:=by
 refine⟨fun x y=>?_,fun x y z J U=>?_,fun x y=>?_⟩
 ·unfold zD;have:=kX.neg x.v y.v;have:=Oz.neg x.t y.t;by_cases e:eL x.v y.v=0
  ·rw[if_pos e,if_pos Ω];omega
  ·rw[if_neg e,if_neg Ω];omega
 ·unfold zD at J U⊢;by_cases aq:eL x.v y.v=0
  ·rw[if_pos aq]at J;rw[(kX.zero _ _).1 aq];by_cases aF:eL y.v z.v=0
   ·rw[if_pos aF]at U⊢;exact Oz.tr _ _ _ J U
   ·rw[if_neg aF]at U⊢;exact U
  ·rw[if_neg aq]at J;have bs:eL x.v y.v<0:=Ω
   by_cases aF:eL y.v z.v=0
   ·rw[<-(kX.zero _ _).1 aF,if_neg aq];exact J
   ·rw[if_neg aF]at U;have:=kX.ltr bs U;rw[if_neg Ω];omega
 ·unfold zD;by_cases e:eL x.v y.v=0
  ·rw[if_pos e,Oz.zero];have:=(kX.zero _ _).1 e;cases x;cases y;simp_all
  ·rw[if_neg e];exact⟨fun h=>absurd h e,fun h=>by rw[h]at e;exact absurd (kX.refl _) e⟩
def eE:List ai->List ai->Int:=kC zD
theorem lJ:j8 eE:=akg am6
end
section
open Go
structure b8 where
 v:Int
 k:Int
 deriving nl,Inhabited
def b8.e(b:b8):aj:= .agg [.int .i64 b.v,.int .i64 b.k]
@[simp]theorem b8.eta(b:b8):b8.mk b.v b.k=b:=rfl
@[simp]theorem Q0(v k:Int):aj.agg [.int .i64 v,.int .i64 k]=(b8.mk v k).e:=rfl
@[simp]theorem atD(S:aL->Prop)(b:b8):aJ S b.e=True:=by simp[b8.e,-Q0]
@[simp]theorem avi(b:b8):eb b.e=b.e:=by simp[b8.e,-Q0]
theorem W8(S:aL->Prop):∀l:List b8,aO S (l.map b8.e)
 |[]=>by simp[aO]
 |x::xs=>by simp[aO,W8 S xs]
@[simp]theorem att(S:aL->Prop)(l:List b8):aO S (l.map b8.e)=True:=eq_true (W8 S l)
@[simp]theorem PU:∀l:List b8,dq (l.map b8.e)=l.map b8.e
 |[]=>rfl
 |x::xs=>by simp[dq,PU xs]
@[simp]theorem au2(b:b8):e4 b.e=true:=rfl
@[simp]theorem ar0(b:b8):cells b.e=[.int .i64 b.v,.int .i64 b.k]:=rfl
@[simp]theorem atd(b:b8):Pv.isAgg 2 b.e:=⟨_,rfl,rfl⟩
@[simp]theorem ast(off:Nat)(gG:Bool)(sz:Nat)(b:b8):vt off gG sz b.e=if gG then some (off+sz<=2,.agg (([.int .i64 b.v,.int .i64 b.k].drop off).take sz))else(([.int .i64 b.v,.int .i64 b.k]:List aj)[off]?).map fun p=>(True,p):=rfl
@[simp]theorem asl(off:Nat)(gG:Bool)(sz:Nat)(b:b8):sv off gG sz (.eptr b.e)=if gG then some (off+sz<=2,.eptr (.agg (([.int .i64 b.v,.int .i64 b.k].drop off).take sz)))else(([.int .i64 b.v,.int .i64 b.k]:List aj)[off]?).map fun p=>(e4 p=true/\cells p=[p],.eptr p):=rfl
structure bj where
 v:Int
 s:List UInt8
 deriving nl,Inhabited
def bj.e(b:bj):aj:= .agg [.int .i64 b.v,.str b.s]
@[simp]theorem bj.eta(b:bj):bj.mk b.v b.s=b:=rfl
@[simp]theorem Kw(v:Int)(s:List UInt8):aj.agg [.int .i64 v,.str s]=(bj.mk v s).e:=rfl
@[simp]theorem aj4(S:aL->Prop)(b:bj):aJ S b.e=True:=by simp[bj.e,-Kw]
@[simp]theorem avj(b:bj):eb b.e=b.e:=by simp[bj.e,-Kw]
theorem Nw(S:aL->Prop):∀l:List bj,aO S (l.map bj.e)
 |[]=>by simp[aO]
 |x::xs=>by simp[aO,Nw S xs]
@[simp]theorem W9(S:aL->Prop)(l:List bj):aO S (l.map bj.e)=True:=eq_true (Nw S l)
@[simp]theorem PV:∀l:List bj,dq (l.map bj.e)=l.map bj.e
 |[]=>rfl
 |x::xs=>by simp[dq,PV xs]
@[simp]theorem au3(b:bj):e4 b.e=true:=rfl
@[simp]theorem ar1(b:bj):cells b.e=[.int .i64 b.v,.str b.s]:=rfl
@[simp]theorem ate(b:bj):Pv.isAgg 2 b.e:=⟨_,rfl,rfl⟩
@[simp]theorem asu(off:Nat)(gG:Bool)(sz:Nat)(b:bj):vt off gG sz b.e=if gG then some (off+sz<=2,.agg (([.int .i64 b.v,.str b.s].drop off).take sz))else(([.int .i64 b.v,.str b.s]:List aj)[off]?).map fun p=>(True,p):=rfl
@[simp]theorem asm(off:Nat)(gG:Bool)(sz:Nat)(b:bj):sv off gG sz (.eptr b.e)=if gG then some (off+sz<=2,.eptr (.agg (([.int .i64 b.v,.str b.s].drop off).take sz)))else(([.int .i64 b.v,.str b.s]:List aj)[off]?).map fun p=>(e4 p=true/\cells p=[p],.eptr p):=rfl
def fx(x y:bj):Int:=if eL x.v y.v=0 then ln x.s y.s else eL x.v y.v
theorem mz:j8 fx:=by
 refine⟨fun x y=>?_,fun x y z J U=>?_,fun x y=>?_⟩
 ·unfold fx;have:=kX.neg x.v y.v;have:=EW.neg x.s y.s;by_cases e:eL x.v y.v=0
  ·rw[if_pos e,if_pos Ω];omega
  ·rw[if_neg e,if_neg Ω];omega
 ·unfold fx at J U⊢;by_cases aq:eL x.v y.v=0
  ·rw[if_pos aq]at J;rw[(kX.zero _ _).1 aq];by_cases aF:eL y.v z.v=0
   ·rw[if_pos aF]at U⊢;exact EW.tr _ _ _ J U
   ·rw[if_neg aF]at U⊢;exact U
  ·rw[if_neg aq]at J;have bs:eL x.v y.v<0:=Ω
   by_cases aF:eL y.v z.v=0
   ·rw[<-(kX.zero _ _).1 aF,if_neg aq];exact J
   ·rw[if_neg aF]at U;have:=kX.ltr bs U;rw[if_neg Ω];omega
 ·unfold fx;by_cases e:eL x.v y.v=0
  ·rw[if_pos e,EW.zero];have:=(kX.zero _ _).1 e;cases x;cases y;simp_all
  ·rw[if_neg e];exact⟨fun h=>absurd h e,fun h=>by rw[h]at e;exact absurd (kX.refl _) e⟩
def uM(x y:bj):Bool:=decide (x.v<y.v)||(x.v==y.v&&hP x.s y.s)
theorem acO(a:List UInt8):hP a a=false:=by
 cases h:hP a a with
 |false=>rfl
 |true=>rw[KG a a h]at h;cases h
theorem XU(x y:bj):uM x y=h8 fx x y:=by
 unfold uM h8 fx;rw[qz];simp only[lP,eN,cr,dM];by_cases e:x.v=y.v
 ·have:eL x.v y.v=0:=(kX.zero _ _).2 e;rw[if_pos this];simp only[e,Int.lt_irrefl,false_or,true_and,ln];by_cases aF:x.s=y.s
  ·rw[if_pos aF,aF,acO];simp
  ·rw[if_neg aF];split<;>simp_all
 ·have bz:¬eL x.v y.v=0:=fun h=>e ((kX.zero _ _).1 h);rw[if_neg bz];simp only[e,false_and,or_false];unfold eL;(repeat' split)<;>omega
def iE{α:Type}(p:α->Prop)(r:α->α->Prop)(l:List α)(i:Nat):Prop:= ∀b,l[i]? =some b->p b/\∀c,0<i->l[i-1]? =some c->r c b
theorem QW{α:Type}{p:α->Prop}{r:α->α->Prop}(aI:∀a b c,r a b->r b c->r a c){l:List α}:(∀i,i<l.length->iE p r l i)↔(∀b∈l,p b)/\l.Pairwise r:=by
 constructor
 ·intro h;refine⟨fun b ad=>?_,?_⟩
  ·obtain⟨i,hi,e⟩:=oI ad;exact(h i hi b (by rw[cg hi,e])).1
  ·rw[pY];have kh:∀i (h:i+1<l.length),r l[i] l[i+1]:=fun i hi=>(h (i+1) hi l[i+1] (by simp[cg hi])).2 l[i] Ω (by simp[cg (show i<l.length by omega)]);have:∀(d i:Nat) (h:i+d+1<l.length),r l[i] l[i+d+1]:=by
    intro d;induction d with
    |zero=>intro i h;exact kh i h
    |succ d bN=>intro i h;exact aI _ _ _ (bN i Ω) (kh (i+d+1) Ω)
   intro i j hi ag mj;have:=this (j-i-1) i Ω;simpa[show i+(j-i-1)+1=j from by omega]using this
 ·rintro⟨J,U⟩ i hi b ad;refine⟨J b (eF ad),fun c bz ao=>?_⟩;obtain⟨g1,aq⟩:=fD.1 ao;obtain⟨g2,aF⟩:=fD.1 ad;have:=pY.1 U (i-1) i g1 g2 Ω;rw[aq,aF]at this;exact this
def kT{α:Type}(c:α->α->Int)(x:α):List α->List α
 |[]=>[x]
 |y::l=>if c y x<0 then y::kT c x l else if c y x=0 then y::l else x::y::l
section
variable {α:Type} {c:α->α->Int}
theorem Io(ao:j8 c){x z:α}:∀{l:List α},z∈kT c x l↔z=x\/z∈l
 |[]=>by simp[kT]
 |y::l=>by
  simp only[kT];split
  ·simp only[fm,Io ao (l:=l)];constructor
   ·rintro(h|h|h)
    ·exact .inr (.inl h)
    ·exact .inl h
    ·exact .inr (.inr h)
   ·rintro(h|h|h)
    ·exact .inr (.inl h)
    ·exact .inl h
    ·exact .inr (.inr h)
  ·split
   ·rename_i h;obtain rfl:=(ao.zero _ _).1 h;simp
   ·simp
theorem Nb(ao:j8 c){x:α}:∀{l:List α},hS c l->hS c (kT c x l)
 |[],_=>by simp[kT,hS]
 |y::l,h=>by
  obtain⟨J,U⟩:=np.1 h;simp only[kT];split
  ·rename_i h3;refine np.2 ⟨fun z bd=>?_,Nb ao U⟩;rcases(Io ao).1 bd with rfl|bd
   ·exact h3
   ·exact J z bd
  ·split
   ·exact h
   ·rename_i h3 h4;have gV:c x y<0:=by have:=ao.neg x y;omega
    refine np.2 ⟨fun z bd=>?_,h⟩;rcases fm.1 bd with rfl|bd
    ·exact gV
    ·exact ao.ltr gV (by have:=J z bd;omega)
theorem Nd(x:α):∀l:List α,(kT c x l).length<=l.length+1
 |[]=>by simp[kT]
 |y::l=>by
  have:=Nd x l;simp only[kT];split
  ·simp;omega
  ·split<;>simp
theorem Nc(ao:j8 c)(x:α):∀(l:List α) (k:Nat),(∀i y,i<k->l[i]? =some y->c y x<0)->(∀y,l[k]? =some y->0<=c y x)->k<=l.length->kT c x l=if(match l[k]? with|some y=>decide (c y x=0)|none=>false)=true then l else l.take k++x::l.drop k
 |[],k,_,_,ae=>by simp at ae;subst ae;simp[kT]
 |y::l,0,_,U,_=>by
  have:=U y rfl;by_cases e:c y x=0
  ·simp[kT,e]
  ·have h3:¬c y x<0:=Ω
   simp[kT,h3,e]
 |y::l,k+1,J,U,ae=>by
  have bz:=J 0 y Ω rfl;simp only[kT,if_pos bz,List.take_succ_cons,List.drop_succ_cons,bP,List.getElem?_cons_succ];rw[Nc ao x l k (fun i d hi aG=>J (i+1) d Ω (by simpa using aG)) (fun d aG=>U d (by simpa using aG)) (by simpa using ae)];cases l[k]? with
  |none=>rfl
  |some z=>simp only[];split<;>rfl
end
structure hj (l:List b8):Prop where
 at':∀x∈l,(0<=x.v/\x.v<=100000)/\(x.k=2\/x.k=3)
 asc:l.Pairwise fun x y=>x.v<y.v
def jd(l:List b8)(v:Int):Option Int:=(l.find? fun x=>x.v==v).map (·.k)
def mv(x:b8):List b8->List b8
 |[]=>[x]
 |y::l=>if y.v<x.v then y::mv x l else x::y::l
theorem zq{x z:b8}:∀{l:List b8},z∈mv x l↔z=x\/z∈l
 |[]=>by simp[mv]
 |y::l=>by
  simp only[mv];split
  ·simp only[fm,zq (l:=l)];constructor
   ·rintro(h|h|h)
    ·exact .inr (.inl h)
    ·exact .inl h
    ·exact .inr (.inr h)
   ·rintro(h|h|h)
    ·exact .inr (.inl h)
    ·exact .inl h
    ·exact .inr (.inr h)
  ·simp
theorem Nf(x:b8):∀l:List b8,(mv x l).Perm (x::l)
 |[]=>.refl _
 |y::l=>by
  simp only[mv];split
  ·exact((Nf x l).cons y).trans (avz _ _ _)
  ·exact .refl _
theorem HS{x:b8}:∀{l:List b8},l.Pairwise (fun x y=>x.v<y.v)->(∀y∈l,y.v≠x.v)->(mv x l).Pairwise fun x y=>x.v<y.v
 |[],_,_=>by simp[mv]
 |y::l,h,au=>by
  obtain⟨J,U⟩:=np.1 h;have aC:=au y Ψ;simp only[mv];split
  ·rename_i h3;refine np.2 ⟨fun z bd=>?_,HS U fun z bd=>au z (by simp[bd])⟩;rcases zq.1 bd with rfl|bd
   ·exact h3
   ·exact J z bd
  ·refine np.2 ⟨fun z bd=>?_,h⟩;rcases fm.1 bd with rfl|bd
   ·omega
   ·have:=J z bd;omega
theorem WC(x:b8):∀(l:List b8) (k:Nat),(∀i y,i<k->l[i]? =some y->y.v<x.v)->(∀y,l[k]? =some y->¬y.v<x.v)->k<=l.length->mv x l=l.take k++x::l.drop k
 |[],k,_,_,ae=>by simp at ae;subst ae;rfl
 |y::l,0,_,U,_=>by have:=U y rfl;simp[mv,this]
 |y::l,k+1,J,U,ae=>by have bz:=J 0 y Ω rfl;simp only[mv,if_pos bz,List.take_succ_cons,List.drop_succ_cons,bP];rw[WC x l k (fun i d hi aG=>J (i+1) d Ω (by simpa using aG)) (fun d aG=>U d (by simpa using aG)) (by simpa using ae)]
theorem WU{l a6:List b8}(bF:a6.Perm l)(aG:l.Pairwise fun x y=>x.v<y.v)(af:a6.Pairwise fun x y=>decide (y.v<x.v)=false):a6=l:=by
 refine QI (le:=fun x y:b8=>x.v<=y.v) (fun x y ab aC J U=>?_) (af.imp Ψ) (aG.imp Ω) bF;have iJ:x∈l:=bF.mem_iff.1 ab;have sW:y∈l:=aC;obtain⟨i,hi,rfl⟩:=oI iJ;obtain⟨j,ag,rfl⟩:=oI sW;have:=pY.1 aG;rcases Nat.lt_trichotomy i j with h|h|h
 ·have:=this i j hi ag h;omega
 ·subst h;rfl
 ·have:=this j i ag hi h;omega
theorem zj{l:List b8}{v:Int}:jd l v=none↔∀x∈l,x.v≠v:=by simp[jd]
theorem BD{l:List b8}{v k:Int}(h:jd l v=some k):(⟨v,k⟩:b8)∈l:=by unfold jd at h;rw[gv]at h;obtain⟨x,J,rfl⟩:=h;have U:=List.find?_some J;simp at U;subst U;exact List.mem_of_find?_eq_some J
theorem Er{l:List b8}(bg:l.Pairwise fun x y=>x.v<y.v){x:b8}(h:x∈l):jd l x.v=some x.k:=by
 induction l with
 |nil=>simp at h
 |cons y l bN=>
  obtain⟨J,U⟩:=np.1 bg;rcases fm.1 h with rfl|h
  ·simp[jd]
  ·have:=J x h;have e:=bN U h;unfold jd at e⊢;rw[List.find?_cons_of_neg d7];exact e
def ib(l:List b8)(t:T)(k:Int):Option (List b8):=match t with
 | .var n=>match jd l n with
  |some bI=>if bI=k then some l else none
  |none=>some (mv ⟨n,k⟩ l)
 |t=>if t.kind=k then some l else none
theorem Gc{l a6:List b8}{t:T}{k:Int}(h:hj l)(aI:t.ok=true)(ae:k=2\/k=3)(he:ib l t k=some a6):hj a6:=by
 unfold ib at he;split at he
 ·rename_i n;split at he
  ·split at he
   ·cases he;exact h
   ·cases he
  ·rename_i au;cases he;rw[zj]at au;refine⟨fun x ab=>?_,HS h.asc au⟩;rcases zq.1 ab with rfl|ab
   ·exact⟨by simpa[T.ok]using aI,ae⟩
   ·exact h.at' x ab
 ·split at he
  ·cases he;exact h
  ·cases he
theorem q0{l:List b8}(h:hj l):l.length<=100001:=by
 have J:(l.map (·.v)).Nodup:=by rw[List.nodup_iff_pairwise_ne,List.pairwise_map];exact h.asc.imp fun h e=>Ω
 have:=W1 J fun v az=>by obtain⟨x,ab,rfl⟩:=hR.1 az;exact(h.at' x ab).1
 simpa using this
def fM(s:List ai):List b8->List b8->Option (List b8)
 |[],acc=>some acc
 |x::r,acc=>match ib acc (aR s x.v) x.k with
  |some a=>fM s r a
  |none=>none
structure iN (l:List bj):Prop where
 at':∀x∈l,(0<=x.v/\x.v<=100000)/\iK x.s=true
 asc:hS fx l
def _root_.Go.Pv.T.has(s:List UInt8):T->Bool
 | .sym n=>n==s
 | .pair a b=>a.has s||b.has s
 |_=>false
def iV(l:List bj)(t:T)(s:List UInt8):Option (List bj):=if t.has s then none else some (asc fx (l++(oF t).map fun v=>⟨v,s⟩))
theorem FL{t:T}{v:Int}:v∈oF t↔t.occ v=true:=by
 refine⟨fun h=>?_,zr⟩;induction t with
 |var n=>simp[oF]at h;simp[T.occ,h]
 |pair a b dz dA=>simp only[oF,hQ]at h;simp only[T.occ,lP];exact h.imp dz dA
 |_=>simp[oF]at h
theorem zp{l a6:List bj}{t:T}{s:List UInt8}(h:iV l t s=some a6)(x:bj):x∈a6↔x∈l\/(x.s=s/\t.occ x.v=true):=by
 unfold iV at h;split at h
 ·cases h
 ·cases h;rw[NW,hQ,hR];refine or_congr_right ?_;constructor
  ·rintro⟨v,az,rfl⟩;exact⟨rfl,FL.1 az⟩
  ·rintro⟨J,U⟩;exact⟨x.v,FL.2 U,by rw[<-J]⟩
theorem Kr{l a6:List bj}{t:T}{s:List UInt8}(cE:t.has s=false)(bg:hS fx a6)(hm:∀x,x∈a6↔x∈l\/(x.s=s/\t.occ x.v=true)):iV l t s=some a6:=by
 have h:iV l t s=some (asc fx (l++(oF t).map fun v=>⟨v,s⟩)):=by unfold iV;rw[cE];rfl
 rw[h];congr 1;exact(Gi mz _).ext mz bg fun x=>by rw[hm,<-zp h]
theorem Gd{l a6:List bj}{t:T}{s:List UInt8}(h:iN l)(aI:t.ok=true)(af:iK s=true)(he:iV l t s=some a6):iN a6:=by
 refine⟨fun x ab=>?_,?_⟩
 ·rcases(zp he x).1 ab with J|⟨J,U⟩
  ·exact h.at' x J
  ·exact⟨yf aI U,by rw[J];exact af⟩
 ·unfold iV at he;split at he
  ·cases he
  ·cases he;exact Gi mz _
def fI(s:List ai):List bj->List bj->Option (List bj)
 |[],acc=>some acc
 |x::r,acc=>match iV acc (aR s x.v) x.s with
  |some a=>fI s r a
  |none=>none
end
end Go.Pv
namespace Go.Proofs.YtohaalphocaebaaGreatDoor
section
open Go Go.Pv
theorem Ew(c:ai->ai->Int):∀a b:List ai,a=[]\/b=[]->kC c a b=eL a.length b.length
 |[],[],_=>by simp[kC,eL]
 |[],_::_,_=>by simp[kC,eL]<;>omega
 |_::_,[],_=>by simp[kC,eL]<;>omega
 |_::_,_::_,h=>by simp at h
theorem Yx(x y:ai)(xs ys:List ai):eE (x::xs) (y::ys)=if eL x.v y.v=0 then(if eK x.t y.t=0 then eE xs ys else eK x.t y.t)else eL x.v y.v:=by
 by_cases a1:eL x.v y.v=0
 ·by_cases bm:eK x.t y.t=0<;>simp[eE,kC,zD,a1,bm]
 ·simp[eE,kC,zD,a1]
theorem Yy(a b k:Int):eL (a-k) (b-k)=eL a b:=by unfold eL;(repeat' split)<;>omega
def Ni(d e:List ai)(i:Nat):Prop:=i<=d.length/\i<=e.length/\eE (d.drop i) (e.drop i)=eE d e
theorem JX(d e:List ai):bK aw 140 [.slice 5 .no (d.map ai.e),.slice 5 .no (e.map ai.e)] (.int .i64 (eE d e)):=by
 generalize bH:eE d e=R;refine bo r6 aeS alJ fun aQ=>?_;unfold R8;have aG:d.length<=68719476736:=by simp[gQ,gi,gH,lim]at aQ;omega
 have he:e.length<=68719476736:=by simp[gQ,gi,gH,lim]at aQ;omega
 simp;refine wX [0,1] (fun(i:Nat)=>[(5,.int .i64 i)]) (fun i=>d.length-i) (Ni d e) 0 b7 ⟨Ω,Ω,Ψ⟩ (fun i ag _=>?_);obtain⟨J,U,h3⟩:=ag;rw[bH]at h3;by_cases hi:i<d.length
 ·by_cases hX:i<e.length
  ·obtain⟨x,ab⟩:∃x,d[i]? =some x:=⟨_,cg hi⟩;obtain⟨y,aC⟩:∃y,e[i]? =some y:=⟨_,cg hX⟩;have cY:∀h,(d[i]'h)=x:=fun h=>by rw[cg hi]at ab;exact eZ ab
   have eP:∀h,(e[i]'h)=y:=fun h=>by rw[cg hX]at aC;exact eZ aC
   have A7:d.drop i=x::d.drop (i+1):=by rw[lu hi,cY]
   have A8:e.drop i=y::e.drop (i+1):=by rw[lu hX,eP]
   rw[A7,A8]at h3;rw[Yx]at h3;simp[hi,hX,cY,eP];by_cases a1:eL x.v y.v=0
   ·rw[if_pos a1]at h3;by_cases bm:eK x.t y.t=0
    ·rw[if_pos bm]at h3;(with_reducible repeat' first|refine ak ?_|refine aA (o9 _ _) ?_|refine aB (o9 _ _) ?_|refine aA (CJ _ _) ?_|refine aB (CJ _ _) ?_|simp[cY,eP,hi,hX,a1,bm]);refine bR.whl (i+1) Ω ⟨Ω,Ω,by rw[bH];exact h3⟩ ?_;exact b7
    ·rw[if_neg bm]at h3;((with_reducible repeat' first|refine ak ?_|refine aA (o9 _ _) ?_|refine aB (o9 _ _) ?_|refine aA (CJ _ _) ?_|refine aB (CJ _ _) ?_|simp[cY,eP,hi,hX,a1,bm]|((first|apply bJ|apply bM|apply bL)<;>intro h<;>try simp at h))<;>(try exact ck));simp[bp,E5,aV,aY,aU];exact h3
   ·rw[if_neg a1]at h3;((with_reducible repeat' first|refine ak ?_|refine aA (o9 _ _) ?_|refine aB (o9 _ _) ?_|simp[cY,eP,hi,hX,a1]|((first|apply bJ|apply bM|apply bL)<;>intro h<;>try simp at h))<;>(try exact ck));simp[bp,E5,aV,aY,aU];exact h3
  ·have:eL d.length e.length=R:=by rw[<-h3,eE,Ew _ _ _ (.inr (List.drop_eq_nil_of_le Ω))];rw[<-Yy d.length e.length i];simp only[tG];congr 1<;>omega
   simp[hi,hX];(with_reducible repeat' first|refine ak ?_|refine aA (o9 _ _) ?_|refine aB (o9 _ _) ?_|simp[hi,hX]);simp[bp,E5,aV,aY,aU];exact this
 ·have:eL d.length e.length=R:=by rw[<-h3,eE,Ew _ _ _ (.inl (List.drop_eq_nil_of_le Ω))];rw[<-Yy d.length e.length i];simp only[tG];congr 1<;>omega
  simp[hi];(with_reducible repeat' first|refine ak ?_|refine aA (o9 _ _) ?_|refine aB (o9 _ _) ?_|simp[hi]);simp[bp,E5,aV,aY,aU];exact this
theorem Qf(a b:List ai)(bg:a.length<=1000000):bK aw 99 [.slice 5 .no (a.map ai.e),.slice 5 .no (b.map ai.e)] (.bool (decide (a=b))):=by
 by_cases av:a.length=b.length;rotate_left
 ·have bz:decide (a=b)=false:=by simp only[gD];rintro rfl;exact av rfl
  have ui:((a.length:Int) !=(b.length:Int))=true:=by simp;omega
  have ml:¬(a.length:Int)=b.length:=Ω
  rw[bz];refine bo r6 Up Yj fun aQ=>?_;unfold KU;exact cz
 ·generalize bH:decide (a=b)=R;refine bo r6 Up Yj fun aQ=>?_;unfold KU;simp;(with_reducible repeat' first|refine ak ?_|simp[av]);refine eJ [0,1,12] (fun i (_:Unit)=>[(13,.int .i64 i)]) b.length (fun i (_:Unit)=> ∀k,k<i->a[k]? =b[k]?) () b7 (fun k ae=>Ω) (fun _ ag _=>?_) (fun i _ hi ag _=>?_)
  ·have:R=true:=by
    rw[<-bH,eN];apply List.ext_getElem?;intro k;by_cases ae:k<b.length
    ·exact ag k ae
    ·rw[rf Ω,rf Ω]
   rw[this];exact cz
  ·obtain⟨x,ab⟩:∃x,a[i]? =some x:=⟨_,cg Ω⟩;obtain⟨y,aC⟩:∃y,b[i]? =some y:=⟨_,cg hi⟩;have gz:i<a.length:=Ω
   have cY:∀h,(a[i]'h)=x:=fun h=>by rw[cg gz]at ab;exact eZ ab
   have eP:∀h,(b[i]'h)=y:=fun h=>by rw[cg hi]at aC;exact eZ aC
   have fW:x≠y->R=false:=fun h=>by rw[<-bH,gD];rintro rfl;rw[ab]at aC;cases aC;exact h rfl
   simp[hi,gz,cY,eP];by_cases a1:x.v=y.v
   ·have uS:(x.v !=y.v)=false:=by simp[a1]
    by_cases bm:x.t=y.t
    ·(with_reducible repeat' first|refine ak ?_|refine aA (u5 _ _) ?_|refine aB (u5 _ _) ?_|simp[cY,eP,hi,gz,a1,uS,bm]);refine bR.rng () hi (fun k ae=>?_) ?_
     ·rcases(by omega:k<i\/k=i)with h|rfl
      ·exact ag k h
      ·rw[ab,aC];cases x;cases y;simp_all
     ·exact b7
    ·rw[fW (fun e=>bm (by rw[e]))];(with_reducible repeat' first|refine ak ?_|refine aA (u5 _ _) ?_|refine aB (u5 _ _) ?_|simp[cY,eP,hi,gz,a1,uS,bm]);simp[bp,Y3,aV,aY,aU]
   ·have uS:(x.v !=y.v)=true:=by simp[a1]
    rw[fW (fun e=>a1 (by rw[e]))];exact cz
def iL(l:List (List ai))(e:List ai):Bool:=l.all fun d=>decide (d=e)|| !kE d e
theorem ajX{l a6:List (List ai)}(h:∀x,x∈l↔x∈a6)(e:List ai):iL l e=iL a6 e:=by rw[qz,iL,iL,fV,fV];exact⟨fun J x ab=>J x ((h x).2 ab),fun J x ab=>J x ((h x).1 ab)⟩
def jL(l:List (List ai)):List (List ai):=(asc eE l).filter (iL l)
theorem rT{l:List (List ai)}{x:List ai}:x∈jL l↔x∈l/\iL l x=true:=by rw[jL,ia,NW]
theorem XJ(l:List (List ai)):hS eE (jL l):=(Gi lJ l).filter _
theorem XK{l a6:List (List ai)}(bg:hS eE a6)(hm:∀x,x∈a6↔x∈l/\iL l x=true):jL l=a6:=(XJ l).ext lJ bg fun x=>by rw[hm,rT]
theorem XL(l:List (List ai)):(jL l).length<=l.length:=ha (List.length_filter_le _ _) (acE _ _)
structure br where
 n:Int
 b:List ai
 d:List (List ai)
 k:List b8
 m:List bj
 deriving nl,Inhabited
noncomputable def fw(b:List ai)(k:List b8)(m:List bj):List (List ai)->Option (List (List ai))
 |[]=>some []
 |d::r=>match mgu b (gf d)with
  |none=>fw b k m r
  |some x=>if fM x k []=none\/fI x m []=none then fw b k m r else if dN b x=[]then none else(fw b k m r).map (dN b x:: ·)
def iO(k:List b8)(x:bj):Bool:=jd k x.v !=some 3
noncomputable def fy(s:br):Option br:=match fM s.b s.k []with
 |none=>none
 |some k=>match fI s.b s.m []with
  |none=>none
  |some m=>match fw s.b k (m.filter (iO k)) s.d with
   |none=>none
   |some L=>if(jL L).length<=30 then some ⟨s.n,s.b,jL L,k,m.filter (iO k)⟩else none
def wM(t:T)(n:Int):Prop:= ∀v,t.occ v=true->v<n
def oO(l:List ai)(n:Int):Prop:= ∀b∈l,b.v<n/\wM b.t n
structure gX (s:br):Prop where
 n:0<=s.n/\s.n<=100000
 b:ev s.b
 d:∀x∈s.d,ev x
 k:hj s.k
 m:iN s.m
 bb:oO s.b s.n
 db:∀x∈s.d,oO x s.n
 kb:∀x∈s.k,x.v<s.n
 mb:∀x∈s.m,x.v<s.n
def j3(s:br):Prop:=gX s/\fy s=some s
theorem zW{s:List ai}(af:ev s){v:Int}(az:0<=v/\v<=100000):(aR s v).ok=true:=by have:=Fs af.ok (t:= .var v) (by simpa[T.ok]using az);exact this
theorem Jc{s:List ai}(af:ev s):∀{l acc a:List b8},(∀x∈l,(0<=x.v/\x.v<=100000)/\(x.k=2\/x.k=3))->hj acc->fM s l acc=some a->hj a
 |[],acc,a,_,h,he=>by simp only[fM,dE]at he;rw[<-he];exact h
 |x::r,acc,a,av,h,he=>by
  simp only[fM]at he;split at he
  ·rename_i bA aq;have ab:=av x Ψ;exact Jc af (fun y aC=>av y (by simp[aC])) (Gc h (zW af ab.1) ab.2 aq) he
  ·cases he
theorem Fb{s:List ai}(af:ev s):∀{l acc a:List bj},(∀x∈l,(0<=x.v/\x.v<=100000)/\iK x.s=true)->iN acc->fI s l acc=some a->iN a
 |[],acc,a,_,h,he=>by simp only[fI,dE]at he;rw[<-he];exact h
 |x::r,acc,a,av,h,he=>by
  simp only[fI]at he;split at he
  ·rename_i bA aq;have ab:=av x Ψ;exact Fb af (fun y aC=>av y (by simp[aC])) (Gd h (zW af ab.1) ab.2 aq) he
  ·cases he
def kG(G:List (List UInt8))(l:List bj):Prop:= ∀x∈l,x.s∈G
theorem CY{G:List (List UInt8)}{l a6:List bj}{t:T}{s:List UInt8}(h:kG G l)(af:s∈G)(he:iV l t s=some a6):kG G a6:=fun x ab=>by
 rcases(zp he x).1 ab with J|⟨J,_⟩
 ·exact h x J
 ·rw[J];exact af
theorem Jg{G:List (List UInt8)}{s:List ai}:∀{l acc a:List bj},kG G l->kG G acc->fI s l acc=some a->kG G a
 |[],acc,a,_,h,he=>by simp only[fI,dE]at he;rw[<-he];exact h
 |x::r,acc,a,av,h,he=>by
  simp only[fI]at he;split at he
  ·rename_i bA aq;exact Jg (fun y aC=>av y (by simp[aC])) (CY h (av x Ψ) aq) he
  ·cases he
theorem anh{α:Type}[nl α]:∀{G:List α} {l:List (Nat×α)},l.Nodup->(∀x∈l,x.1<100001/\x.2∈G)->l.length<=100001*G.length:=by
 intro G l au h;have:=FW au (l₂:=(List.range 100001).flatMap fun i=>G.map fun g=>(i,g)) (fun x ab=>by obtain⟨J,U⟩:=h x ab;rw[List.mem_flatMap];exact⟨x.1,List.mem_range.2 J,hR.2 ⟨x.2,U,rfl⟩⟩)
 have e:((List.range 100001).flatMap fun i=>G.map fun g=>(i,g)).length=100001*G.length:=by
  generalize 100001=n;induction n with
  |zero=>simp
  |succ n bN=>rw[List.range_succ,List.flatMap_append,pc,bN];simp[Nat.succ_mul]
 omega
theorem ED{G:List (List UInt8)}{l:List bj}(h:iN l)(aW:kG G l):l.length<=100001*G.length:=by
 have J:(l.map fun x=>(x.v.toNat,x.s)).Nodup:=by rw[List.nodup_iff_pairwise_ne,List.pairwise_map];refine aq6 (fun{a b} bg ad cA e=>cA ?_) (h.asc.nodup mz);have:=(h.at' a bg).1;have:=(h.at' b ad).1;simp only[j7]at e;cases a;cases b;simp only[bj.mk.injEq];simp only at*;exact⟨Ω,e.2⟩
 have:=anh (G:=G) J fun x ab=>by obtain⟨y,aC,rfl⟩:=hR.1 ab;have:=(h.at' y aC).1;exact⟨by simp;omega,aW y aC⟩
 simpa using this
def kZ(m:List bj):Prop:= ∃G:List (List UInt8),G.length<=687000/\kG G m
theorem kZ.len{m:List bj}(h:kZ m)(hm:iN m):m.length<=68719470000:=by obtain⟨G,J,U⟩:=h;have:=ED hm U;omega
theorem aoF{s:List ai}(h:ev s)(p:ai->Bool):ev (s.filter p):=by
 have mU:∀b∈s.filter p,b∈s:=fun b ad=>(ia.1 ad).1;have au:∀w,cO s w=none->cO (s.filter p) w=none:=fun w hw=>by rw[wO]at hw⊢;exact fun b ad=>hw b (mU b ad)
 exact⟨fun b ad=>h.ok b (mU b ad),⟨QH p h.sol.asc,fun b ad w hw=>au w (h.sol.free b (mU b ad) w hw),fun b ad=>h.sol.ori b (mU b ad)⟩,
  ha (List.length_filter_le _ _) h.fits.1,fun b ad=>h.fits.2 b (mU b ad)⟩
theorem EJ{b x:List ai}(h:ev x):ev (dN b x):=aoF h _
theorem akZ{b x:List ai}(ad:e1 b)(ab:e1 x)(aN:ga x)(h:∀θ,dR x θ->dR b θ):jm b (gf (dN b x)) (some x):=by
 refine⟨⟨ab,aN⟩,fun θ=>⟨fun fY=>⟨h θ fY,fun e he=>?_⟩,fun⟨J,U⟩ c ao=>?_⟩⟩
 ·obtain⟨c,ao,rfl⟩:=hR.1 he;exact fY c (ia.1 ao).1
 ·have ku:∀c∈x,cO b c.v=none->θ c.v=c.t.ap θ:=fun c ao au=>by have:=U (.var c.v,c.t) (hR.2 ⟨c,ia.2 ⟨ao,by simp[au]⟩,rfl⟩);exact this
  have qO:∀w,cO b w=none->(aR x w).ap θ=θ w:=fun w hw=>by
   unfold aR;cases e:cO x w with
   |none=>rfl
   |some t=>have hm:=iG e;exact(ku _ hm hw).symm
  cases e:cO b c.v with
  |none=>exact ku c ao e
  |some t=>
   have aq:θ c.v=t.ap θ:=J _ (iG e);have aF:=h (aR x) (uY ab) _ (iG e);simp only at aF;have bB:aR x c.v=c.t:=by unfold aR;rw[pn ab.asc ao];rfl
   rw[bB]at aF;rw[aq,aF,Au];exact nY fun w hw=>(qO w (ad.free _ (iG e) w hw)).symm
theorem pN{s:List ai}(af:e1 s)(aN:ga s){E:List (T×T)}{x:List ai}(h:mgu s E=some x):∀θ,dR x θ↔dR s θ/\ir E θ:=by have:=xI af aN E;rw[h]at this;exact this.2
theorem EG{s:List ai}(af:e1 s)(aN:ga s){E:List (T×T)}{x:List ai}(h:mgu s E=some x):mgu s (gf (dN s x))=some x:=qo (akZ af (q5 af aN h).1 (q5 af aN h).2 fun θ fY=>((pN af aN h θ).1 fY).1)
theorem XH(p:Int->Prop){E:List (T×T)}:∀{s ah:List ai},e1 s->ga s->(∀b∈s,p b.v/\∀w,b.t.occ w=true->p w)->(∀e∈E,(∀w,e.1.occ w=true->p w)/\∀w,e.2.occ w=true->p w)->mgu s E=some ah->∀b∈ah,p b.v/\∀w,b.t.occ w=true->p w:=by
 induction E with
 |nil=>intro s ah af aN J _ h;rw[EH af aN]at h;cases h;exact J
 |cons e E bN=>
  intro s ah af aN J U h;rw[N4 af aN]at h;split at h
  ·rename_i s1 aq;obtain⟨V,gS⟩:∃V,V=s.flatMap (fun b=>b.v::oF b.t)++oF e.1++oF e.2:=⟨_,rfl⟩;have Vn:∀w∈V,p w:=by
    intro w hw;rw[gS]at hw;simp only[hQ,List.mem_flatMap,fm]at hw;rcases hw with(⟨b,ad,rfl|hw⟩|hw)|hw
    ·exact(J b ad).1
    ·exact(J b ad).2 w (FL.1 hw)
    ·exact(U e Ψ).1 w (FL.1 hw)
    ·exact(U e Ψ).2 w (FL.1 hw)
   obtain⟨n,o,jx,j5,ra⟩:=aaD V _ _ s e.1 e.2 af aN (fun c ao=>⟨by rw[gS];simp only[hQ,List.mem_flatMap];exact .inl (.inl ⟨c,ao,Ψ⟩),fun w hw=>by rw[gS];simp only[hQ,List.mem_flatMap];exact .inl (.inl ⟨c,ao,by simp[zr hw]⟩)⟩)
    (fun w hw=>by rw[gS];simp only[hQ];exact .inl (.inr (zr hw))) (fun w hw=>by rw[gS];simp only[hQ];exact .inr (zr hw)) rfl rfl
   have Aa:=qo j5;rw[aq]at Aa;subst Aa;obtain⟨aaC,_⟩:=ra s1 rfl;have qi:=q5 af aN aq;exact bN qi.1 qi.2 (fun b ad=>⟨Vn _ (aaC b ad).1,fun w hw=>Vn w ((aaC b ad).2 w hw)⟩) (fun fE he=>U fE (by simp[he])) h
  ·cases h
theorem aoM{s:List ai}(af:e1 s){v n:Int}(h:aR s v= .var n):cO s n=none:=by have:=PF af (t:= .var v) (w:=n) (by show(aR s v).occ n=true;rw[h];simp[T.occ]);exact this
theorem Kq{l a6:List b8}{t:T}{k:Int}(h:ib l t k=some a6):∀x∈a6,x∈l\/t= .var x.v:=by
 unfold ib at h;split at h
 ·rename_i n;split at h
  ·split at h
   ·cases h;exact fun x ab=>.inl ab
   ·cases h
  ·cases h;intro x ab;rcases zq.1 ab with rfl|ab
   ·exact .inr rfl
   ·exact .inl ab
 ·split at h
  ·cases h;exact fun x ab=>.inl ab
  ·cases h
theorem Jb{s:List ai}(af:e1 s):∀{l acc a:List b8},(∀x∈acc,cO s x.v=none)->fM s l acc=some a->∀x∈a,cO s x.v=none
 |[],acc,a,h,he=>by simp only[fM,dE]at he;rw[<-he];exact h
 |y::r,acc,a,h,he=>by
  simp only[fM]at he;split at he
  ·rename_i bA aq;refine Jb af (fun x ab=>?_) he;rcases Kq aq x ab with J|J
   ·exact h x J
   ·exact aoM af J
  ·cases he
theorem WD{x:b8}:∀{l:List b8},(∀y∈l,y.v<x.v)->mv x l=l++[x]
 |[],_=>rfl
 |y::l,h=>by simp only[mv,if_pos (h y Ψ),WD (l:=l) fun z bd=>h z (by simp[bd]),bP]
theorem ZH{s:List ai}:∀{l acc:List b8},(acc++l).Pairwise (fun x y=>x.v<y.v)->(∀x∈l,cO s x.v=none)->fM s l acc=some (acc++l)
 |[],acc,_,_=>by simp[fM]
 |x::r,acc,bg,aN=>by
  have J:∀y∈acc,y.v<x.v:=fun y aC=>(List.pairwise_append.1 bg).2.2 y aC x Ψ;have U:jd acc x.v=none:=zj.2 fun y aC=>by have:=J y aC;omega
  have h3:ib acc (aR s x.v) x.k=some (acc++[x]):=by rw[Cs (aN x Ψ)];simp only[ib,U];rw[WD J]
  simp only[fM,h3];rw[ZH (by simpa using bg) fun y aC=>aN y (by simp[aC])];simp
theorem Je{s:List ai}(af:e1 s):∀{l acc a:List bj},(∀x∈acc,cO s x.v=none)->fI s l acc=some a->∀x∈a,cO s x.v=none
 |[],acc,a,h,he=>by simp only[fI,dE]at he;rw[<-he];exact h
 |y::r,acc,a,h,he=>by
  simp only[fI]at he;split at he
  ·rename_i bA aq;refine Je af (fun x ab=>?_) he;rcases(zp aq x).1 ab with J|⟨_,J⟩
   ·exact h x J
   ·exact PF af (t:= .var y.v) J
  ·cases he
theorem Pc{s:List ai}:∀{l acc:List bj},hS fx (acc++l)->(∀x∈l,cO s x.v=none)->fI s l acc=some (acc++l)
 |[],acc,_,_=>by simp[fI]
 |x::r,acc,bg,aN=>by
  have h3:iV acc (aR s x.v) x.s=some (acc++[x]):=by
   rw[Cs (aN x Ψ)];refine Kr rfl (avy ?_ bg) fun z=>?_
   ·simp
   ·simp only[hQ,iS,T.occ,dM];refine or_congr_right ⟨fun h=>by rw[h];exact⟨rfl,rfl⟩,fun⟨J,U⟩=>?_⟩;cases z;cases x;simp_all
  simp only[fI,h3];rw[Pc (by simpa using bg) fun y aC=>aN y (by simp[aC])];simp
def x1(b:List ai)(k:List b8)(m:List bj)(d:List ai):Prop:= ∃x,mgu b (gf d)=some x/\¬(fM x k []=none\/fI x m []=none)/\dN b x=d/\d≠[]
theorem Ev{b:List ai}(ad:ev b){k:List b8}{m:List bj}:∀{l L:List (List ai)},fw b k m l=some L->∀d∈L,x1 b k m d
 |[],L,h=>by simp only[fw,dE]at h;rw[<-h];simp
 |d0::r,L,h=>by
  simp only[fw]at h;split at h
  ·exact Ev ad h
  ·rename_i x ab;split at h
   ·exact Ev ad h
   ·rename_i ae;split at h
    ·cases h
    ·rename_i au;rw[gv]at h;obtain⟨tJ,J,rfl⟩:=h;intro d aG;rcases fm.1 aG with rfl|aG
     ·exact⟨x,EG ad.sol ad.fits ab,ae,rfl,au⟩
     ·exact Ev ad J d aG
theorem NF{b:List ai}{k:List b8}{m:List bj}:∀{L:List (List ai)},(∀d∈L,x1 b k m d)->fw b k m L=some L
 |[],_=>rfl
 |d::L,h=>by obtain⟨x,J,U,h3,h4⟩:=h d Ψ;simp only[fw,J,if_neg U,h3,if_neg h4,NF (L:=L) fun e he=>h e (by simp[he]),oK]
theorem Eu{b:List ai}(ad:ev b){k:List b8}{m:List bj}:∀{l L:List (List ai)},(∀d∈l,ev d)->fw b k m l=some L->∀d∈L,ev d
 |[],L,_,h=>by simp only[fw,dE]at h;rw[<-h];simp
 |d0::r,L,av,h=>by
  simp only[fw]at h;split at h
  ·exact Eu ad (fun d aG=>av d (by simp[aG])) h
  ·rename_i x ab;split at h
   ·exact Eu ad (fun d aG=>av d (by simp[aG])) h
   ·split at h
    ·cases h
    ·rw[gv]at h;obtain⟨tJ,J,rfl⟩:=h;intro d aG;rcases fm.1 aG with rfl|aG
     ·exact EJ (ad.mgu (fun e he=>by obtain⟨c,ao,rfl⟩:=hR.1 he;have:=(av d0 Ψ).ok c ao;exact⟨by simpa[T.ok]using this.1,this.2⟩) ab)
     ·exact Eu ad (fun d aG=>av d (by simp[aG])) J d aG
theorem If{b:List ai}(ad:ev b){n:Int}(au:oO b n){k:List b8}{m:List bj}:∀{l L:List (List ai)},(∀d∈l,oO d n)->fw b k m l=some L->∀d∈L,oO d n
 |[],L,_,h=>by simp only[fw,dE]at h;rw[<-h];simp
 |d0::r,L,av,h=>by
  simp only[fw]at h;split at h
  ·exact If ad au (fun d aG=>av d (by simp[aG])) h
  ·rename_i x ab;split at h
   ·exact If ad au (fun d aG=>av d (by simp[aG])) h
   ·split at h
    ·cases h
    ·rw[gv]at h;obtain⟨tJ,J,rfl⟩:=h;intro d aG;rcases fm.1 aG with rfl|aG
     ·have:=XH (fun v=>v<n) ad.sol ad.fits au (fun e he=>by obtain⟨c,ao,rfl⟩:=hR.1 he;have:=av d0 Ψ c ao;exact⟨fun w hw=>by simp[T.occ]at hw;subst hw;exact this.1,this.2⟩) ab
      exact fun c ao=>this c (ia.1 ao).1
     ·exact If ad au (fun d aG=>av d (by simp[aG])) J d aG
theorem XM{L:List (List ai)}:jL (jL L)=jL L:=XK (XJ L) fun x=>by rw[rT,and_assoc];refine⟨fun⟨J,U⟩=>⟨J,U,?_⟩,fun⟨J,U,_⟩=>⟨J,U⟩⟩;rw[iL,fV]at U⊢;exact fun d aG=>U d (rT.1 aG).1
theorem Nq{b:List ai}(ad:ev b){n:Int}(au:oO b n){v w:Int}(az:v<n)(h:(aR b v).occ w=true):w<n:=by
 unfold aR at h;cases e:cO b v with
 |none=>rw[e]at h;simp[T.occ]at h;omega
 |some t=>rw[e]at h;exact(au _ (iG e)).2 w h
theorem ZG{b:List ai}(ad:ev b){n:Int}(au:oO b n):∀{l acc a:List b8},(∀x∈l,x.v<n)->(∀x∈acc,x.v<n)->fM b l acc=some a->∀x∈a,x.v<n
 |[],acc,a,_,h,he=>by simp only[fM,dE]at he;rw[<-he];exact h
 |y::r,acc,a,av,h,he=>by
  simp only[fM]at he;split at he
  ·rename_i bA aq;refine ZG ad au (fun x ab=>av x (by simp[ab])) (fun x ab=>?_) he;rcases Kq aq x ab with J|J
   ·exact h x J
   ·exact Nq ad au (av y Ψ) (by rw[J];simp[T.occ])
  ·cases he
theorem ZI{b:List ai}(ad:ev b){n:Int}(au:oO b n):∀{l acc a:List bj},(∀x∈l,x.v<n)->(∀x∈acc,x.v<n)->fI b l acc=some a->∀x∈a,x.v<n
 |[],acc,a,_,h,he=>by simp only[fI,dE]at he;rw[<-he];exact h
 |y::r,acc,a,av,h,he=>by
  simp only[fI]at he;split at he
  ·rename_i bA aq;refine ZI ad au (fun x ab=>av x (by simp[ab])) (fun x ab=>?_) he;rcases(zp aq x).1 ab with J|⟨_,J⟩
   ·exact h x J
   ·exact Nq ad au (av y Ψ) J
  ·cases he
theorem zV{s ah:br}(h:gX s)(he:fy s=some ah):j3 ah/\ah.n=s.n/\ah.b=s.b:=by
 unfold fy at he;split at he
 ·cases he
 rename_i k ae;split at he
 ·cases he
 rename_i m hm;split at he
 ·cases he
 rename_i L ft;split at he;rotate_left
 ·cases he
 rename_i lX;cases he;have aS:=Jc h.b h.k.at' ⟨Ψ,Ψ⟩ ae;have m1:=Fb h.b h.m.at' ⟨Ψ,by simp[hS]⟩ hm;have m2:iN (m.filter (iO k)):=⟨fun x ab=>m1.at' x (ia.1 ab).1,QH _ m1.asc⟩;have dd:=Ev h.b ft;have y9:=Eu h.b h.d ft;refine⟨⟨⟨h.n,h.b,fun x ab=>y9 x (rT.1 ab).1,aS,m2,h.bb,fun x ab=>If h.b h.bb h.db ft x (rT.1 ab).1,ZG h.b h.bb h.kb Ψ ae,fun x ab=>ZI h.b h.bb h.mb Ψ hm x (ia.1 ab).1⟩,?_⟩,rfl,rfl⟩;unfold fy;have aq:fM s.b k []=some k:=ZH (acc:=[]) aS.asc (Jb h.b.sol Ψ ae);have aF:fI s.b (m.filter (iO k)) []=some (m.filter (iO k)):=Pc (acc:=[]) m2.asc fun x ab=>Je h.b.sol Ψ hm x (ia.1 ab).1;have bB:(m.filter (iO k)).filter (iO k)=m.filter (iO k):=by rw[List.filter_filter];simp
 have ds:fw s.b k (m.filter (iO k)) (jL L)=some (jL L):=NF fun d aG=>dd d (rT.1 aG).1;simp only[aq,aF,bB,ds,XM,if_pos lX]
def RB:C:=(aa [bq 2 false] (.seq (aa [I 5 0,cD 6 5,cf 7 0] (ff 8 7 6 (.seq (.block 1 (aa [I 9 7,cC 10 2 5 7,aX 11 2 10,cS (.alloc 4 none (.agg [.int .i64 0,.int .i64 0])),I 3 9,bD 2 4 11] (.seq (.drawn true 46 [aK 12 0 1 4,ax 13 1 12,aT 14 .lss 13 0,I 15 14,ar 15 false (aK 16 0 1 4),ar 15 false (ax 17 1 16),ar 15 false (aT 18 .gtr 17 100000),c3 19 15 18,I 20 19,ar 20 false (aK 21 1 1 4),ar 20 false (ax 22 1 21),ar 20 false (aT 23 .neq 22 2),bT 20 false 24 23,ar 24 true (aK 25 1 1 4),ar 24 true (ax 26 1 25),ar 24 true (aT 27 .neq 26 3),ar 20 false (dh 28 24 27),c3 29 20 28,I 30 29,bT 30 false 31 3,ar 30 false (aT 32 .gtr 31 0),bT 30 false 33 32,bT 33 true 34 0,bT 33 true 35 3,ar 33 true (aT 36 .sub 35 1),ar 33 true (cC 37 2 34 36),ar 33 true (aK 38 0 1 37),ar 33 true (ax 39 1 38),ar 33 true (aK 40 0 1 4),ar 33 true (ax 41 1 40),ar 33 true (bt 42 .geq 39 41),ar 30 false (dh 43 33 42),c3 44 30 43]) (aZ 44 (aa [bq 2 false] .ret) .skip)))) (.region [aT 45 .add 7 1,I 7 45])))) (aa [bq 2 true] .ret)))
@[simp] def YS:List bV:=[.tmp 2]
def RC:C:=(aa [bq 2 false] (.seq (aa [I 5 0,cD 6 5,cf 7 0] (ff 8 7 6 (.seq (.block 1 (aa [I 9 7,cC 10 2 5 7,aX 11 2 10,cS (.alloc 4 none (.agg [.int .i64 0,.str []])),I 3 9,bD 2 4 11] (.seq (.drawn true 41 [aK 12 0 1 4,ax 13 1 12,aT 14 .lss 13 0,I 15 14,ar 15 false (aK 16 0 1 4),ar 15 false (ax 17 1 16),ar 15 false (aT 18 .gtr 17 100000),c3 19 15 18,I 20 19,ar 20 false (aK 21 1 1 4),ar 20 false (ax 22 1 21),ar 20 false (cH 23 109 22),ar 20 false (cx 24 23),c3 25 20 24,I 26 25,bT 26 false 27 3,ar 26 false (aT 28 .gtr 27 0),bT 26 false 29 28,bT 29 true 30 0,bT 29 true 31 3,ar 29 true (aT 32 .sub 31 1),ar 29 true (cC 33 2 30 32),ar 29 true (aX 34 2 33),ar 29 true (aX 35 2 4),ar 29 true (cc 36 110 34 35),ar 29 true (cx 37 36),ar 26 false (dh 38 29 37),c3 39 26 38]) (aZ 39 (aa [bq 2 false] .ret) .skip)))) (.region [aT 40 .add 7 1,I 7 40])))) (aa [bq 2 true] .ret)))
@[simp] def OJ:List bV:=[.tmp 2]
def Gt:C:=(aa [cW 2 0,bq 4 false] (.seq (aa [aK 5 0 1 2,ax 6 1 5,aT 7 .eql 6 4] (aZ 7 (aa [aK 8 3 1 2,ax 9 1 8,jh 10 4 9 0,aX 11 4 10,I 12 1,cc 13 66 11 12,I 14 13,ar 14 false (aK 15 3 1 2),ar 14 false (ax 16 1 15),ar 14 false (jh 17 4 16 1),ar 14 false (aX 18 4 17),bT 14 false 19 1,ar 14 false (cc 20 66 18 19),c3 21 14 20,I 4 21] .ret) .skip)) (aa [aK 22 0 1 2,ax 23 1 22,aT 24 .eql 23 2,I 25 24,ar 25 true (aK 26 2 1 2),ar 25 true (ax 27 1 26),bT 25 true 28 1,ar 25 true (bt 29 .eql 27 28),dh 30 25 29,I 4 30] .ret)))
@[simp] def IZ:List bV:=[.tmp 4]
def rs:C:=(aa [cW 6 2,eM 8 2,bq 9 false] (.seq (aa [I 15 0,cH 16 53 15,cx 17 16,I 18 17,ar 18 false (aX 19 4 6),ar 18 false (cH 20 89 19),ar 18 false (cx 21 20),c3 22 18 21,I 23 22,bT 23 false 24 1,ar 23 false (cH 25 54 24),ar 23 false (cx 26 25),c3 27 23 26,I 28 27,bT 28 false 29 3,ar 28 false (aT 30 .neq 29 2),bT 28 false 31 30,bT 31 true 32 3,ar 31 true (aT 33 .neq 32 3),ar 28 false (dh 34 31 33),c3 35 28 34] (aZ 35 (aa [eM 8 2,bq 9 false] .ret) .skip)) (aa [I 37 0,aX 38 4 6,cc 39 29 37 38,I 36 39,cp 40 0 36,cp 41 1 36,cR 10 da,bD 4 10 40,I 11 41] (.seq (aa [I 42 11,cx 43 42] (aZ 43 (aa [eM 8 2,bq 9 false] .ret) .skip)) (aa [cS (.bslm 44 (some 803) 2 59 []),I 45 1,cS (.appm 46 none 2 59 (.t 44) (.t 45)),cS (.alloc 12 (some 804) (.slice 2 .nil [])),bD 1 12 46] (.seq (aa [aK 47 0 1 10,ax 48 1 47,aT 49 .neq 48 1] (aZ 49 (.seq (aa [aK 50 0 1 10,ax 51 1 50,I 52 3,bt 53 .neq 51 52] (aZ 53 (aa [eM 8 2,bq 9 false] .ret) .skip)) (.seq (.pubB 12 (.region [ax 54 1 12,I 8 54,bq 9 true])) .ret)) .skip)) (.seq (aa [I 55 1,cD 56 55,cf 57 0] (ff 58 57 56 (.seq (.block 1 (aa [cC 59 2 55 57,aX 60 2 59,cS (.alloc 14 none (.agg [.int .i64 0,.int .i64 0])),bD 2 14 60] (aa [aK 61 0 1 14,ax 62 1 61,aK 63 1 1 10,ax 64 1 63,bt 65 .eql 62 64] (aZ 65 (.seq (aa [aK 66 1 1 14,ax 67 1 66,I 68 3,bt 69 .neq 67 68] (aZ 69 (aa [eM 8 2,bq 9 false] .ret) .skip)) (.seq (.pubB 12 (.region [ax 70 1 12,I 8 70,bq 9 true])) .ret)) .skip)))) (.region [aT 71 .add 57 1,I 57 71])))) (aa [ax 72 1 12,aK 73 1 1 10,ax 74 1 73,I 75 3,bS 76 (.build [.int .i64 0,.int .i64 0] [(0,1,(.t 74)),(1,1,(.t 75))]),dV 77 2 59 [.t 76],cS (.appm 78 none 2 59 (.t 72) (.t 77)),bD 1 12 78] (aa [ax 79 1 12,bS 80 (.mkif 25 (.t 79)),bS 81 (.mkf 148 [.t 12]),cc 82 147 80 81] (.seq (.pubB 12 (.region [ax 83 1 12,I 8 83,bq 9 true])) .ret))))))))))
@[simp] def kF:List bV:=[.tmp 8,.tmp 9]
def Gn:C:=(aa [cW 6 2,cS (.box 7 (some 811) (.t 3)),eM 8 2,bq 9 false] (.seq (aa [I 17 0,cH 18 53 17,cx 19 18,I 20 19,ar 20 false (aX 21 4 6),ar 20 false (cH 22 89 21),ar 20 false (cx 23 22),c3 24 20 23,I 25 24,bT 25 false 26 1,ar 25 false (cH 27 55 26),ar 25 false (cx 28 27),c3 29 25 28,I 30 29,ar 30 false (ax 31 1 7),ar 30 false (cH 32 109 31),ar 30 false (cx 33 32),c3 34 30 33] (aZ 34 (aa [eM 8 2,bq 9 false] .ret) .skip)) (aa [I 36 0,aX 37 4 6,cc 38 29 36 37,I 35 38,cp 39 0 35,cp 40 1 35,cR 10 da,bD 4 10 39,I 11 40] (.seq (aa [I 41 11,cx 42 41,I 43 42,ar 43 false (aX 44 4 10),ar 43 false (ax 45 1 7),ar 43 false (cc 46 66 44 45),c3 47 43 46] (aZ 47 (aa [eM 8 2,bq 9 false] .ret) .skip)) (aa [cS (.mkmap 48 (some 812)),cS (.alloc 12 (some 813) (.junk)),bD 1 12 48] (.seq (aa [I 49 1,cD 50 49,cf 51 0] (ff 52 51 50 (.seq (.block 1 (aa [cC 53 2 49 51,aX 54 2 53,cS (.alloc 14 none (.agg [.int .i64 0,.str []])),bD 2 14 54] (.region [ax 55 1 12,aX 56 2 14,cS (.mput (.a [false,true]) (.t 55) (.t 56) (.c (.bool true)))]))) (.region [aT 57 .add 51 1,I 51 57])))) (aa [aX 58 4 10,bS 59 (.mkf 149 [.t 12,.t 7]),cc 60 107 58 59] (aa [cS (.bslm 61 (some 814) 2 56 []),cS (.alloc 15 (some 815) (.slice 2 .nil [])),bD 1 15 61] (.seq (aa [ax 62 1 12,cS (.range 63 none (.t 62))] (.block 2 (.loop (aa [⟨none,.next 64 (.t 63)⟩,cp 65 0 64] (.seq (aZ 65 .skip (.exit 2)) (.block 3 (aa [bS 66 (.ment (.t 63)),cp 67 0 66,cS (.alloc 16 none (.agg [.int .i64 0,.str []])),bD 2 16 67] (.region [ax 68 1 15,aX 69 2 16,dV 70 2 56 [.t 69],cS (.appm 71 none 2 56 (.t 68) (.t 70)),bD 1 15 71])))))))) (aa [ax 72 1 15,bS 73 (.mkif 26 (.t 72)),bS 74 (.mkf 150 [.t 15]),cc 75 147 73 74] (.seq (.pubB 15 (.region [ax 76 1 15,I 8 76,bq 9 true])) .ret)))))))))))
@[simp] def IS:List bV:=[.tmp 8,.tmp 9]
def Gq:C:=(aa [cW 2 0,cW 3 1,bq 4 false] (aa [aK 5 0 1 2,ax 6 1 5,aK 7 0 1 3,ax 8 1 7,bt 9 .lss 6 8,I 10 9,ar 10 false (aK 11 0 1 2),ar 10 false (ax 12 1 11),ar 10 false (aK 13 0 1 3),ar 10 false (ax 14 1 13),ar 10 false (bt 15 .eql 12 14),bT 10 false 16 15,ar 16 true (aK 17 1 1 2),ar 16 true (ax 18 1 17),ar 16 true (aK 19 1 1 3),ar 16 true (ax 20 1 19),ar 16 true (bt 21 .lss 18 20),ar 10 false (dh 22 16 21),c3 23 10 22,I 4 23] .ret))
@[simp] def anF:List bV:=[.tmp 4]
def Rx:C:=(aa [bq 5 false] (.seq (.drawn true 17 [ax 6 1 2,I 7 0,cC 8 2 6 7,aK 9 0 1 8,ax 10 1 9,ax 11 1 2,I 12 1,cC 13 2 11 12,aK 14 0 1 13,ax 15 1 14,bt 16 .lss 10 15,I 5 16]) .ret))
@[simp] def YN:List bV:=[.tmp 5]
def Rv:C:=(.region [ax 4 1 1,I 5 0,ax 6 1 2,bS 7 (.build [.int .i64 0,.str []] [(0,1,(.t 5)),(1,1,(.t 6))]),cS (.mput (.a [false,true]) (.t 4) (.t 7) (.c (.bool true)))])
@[simp] def YL:List bV:=[]
def Rw:C:=(aa [bq 5 false] (.seq (.drawn true 15 [ax 6 1 2,I 7 0,cC 8 2 6 7,aX 9 2 8,ax 10 1 2,I 11 1,cC 12 2 10 11,aX 13 2 12,cc 14 110 9 13,I 5 14]) .ret))
@[simp] def YM:List bV:=[.tmp 5]
def u1:List (Nat×dy):=[
 (3,⟨1,8,.int .i64,.int .i64 0⟩),
 (9,⟨1,16,.str,.str []⟩),
 (25,⟨1,24,.slice 59,.slice 2 .nil []⟩),
 (26,⟨1,24,.slice 56,.slice 2 .nil []⟩),
 (34,⟨1,24,.slice 36,.slice 4 .nil []⟩),
 (36,⟨4,56,.struct [(0,3),(1,3),(2,9),(3,34)],.agg [.int .i64 0,.int .i64 0,.str [],.slice 4 .nil []]⟩),
 (56,⟨2,24,.struct [(0,3),(1,9)],.agg [.int .i64 0,.str []]⟩),
 (59,⟨2,16,.struct [(0,3),(1,3)],.agg [.int .i64 0,.int .i64 0]⟩),
 (142,⟨1,8,.map 56 4,.junk⟩)]
theorem kH:fJ aw u1=true:=by kernel_rfl
theorem alc:b6 u1 RB YS 1 Tryz.f54=true:=by kernel_rfl
theorem aen:aw.funcs[(54:Nat)]? =some Tryz.f54:=Tryz.func54
theorem ald:b6 u1 RC OJ 1 Tryz.f55=true:=by kernel_rfl
theorem aeo:aw.funcs[(55:Nat)]? =some Tryz.f55:=Tryz.func55
theorem Om:b6 u1 Gt IZ 2 Tryz.f66=true:=by kernel_rfl
theorem LG:aw.funcs[(66:Nat)]? =some Tryz.f66:=Tryz.func66
theorem th:b6 u1 rs kF 4 Tryz.f98=true:=by kernel_rfl
theorem ss:aw.funcs[(98:Nat)]? =some Tryz.f98:=Tryz.func98
theorem Og:b6 u1 Gn IS 4 Tryz.f100=true:=by kernel_rfl
theorem LA:aw.funcs[(100:Nat)]? =some Tryz.f100:=Tryz.func100
theorem Oi:b6 u1 Gq anF 2 Tryz.f110=true:=by kernel_rfl
theorem LC:aw.funcs[(110:Nat)]? =some Tryz.f110:=Tryz.func110
theorem ak8:b6 u1 Rx YN 3 Tryz.f148=true:=by kernel_rfl
theorem aej:aw.funcs[(148:Nat)]? =some Tryz.f148:=Tryz.func148
theorem ak6:b6 u1 Rv YL 3 Tryz.f149=true:=by kernel_rfl
theorem aeh:aw.funcs[(149:Nat)]? =some Tryz.f149:=Tryz.func149
theorem ak7:b6 u1 Rw YM 3 Tryz.f150=true:=by kernel_rfl
theorem aei:aw.funcs[(150:Nat)]? =some Tryz.f150:=Tryz.func150
def mX(x:b8):Prop:=(0<=x.v/\x.v<=100000)/\(x.k=2\/x.k=3)
def oq(x y:b8):Prop:=x.v<y.v
theorem H7{l:List b8}:hj l↔∀i,i<l.length->iE mX oq l i:=by rw[QW (p:=mX) (r:=oq) (fun a b c J U=>by unfold oq at*;omega)];exact⟨fun h=>⟨h.at',h.asc⟩,fun h=>⟨h.1,h.2⟩⟩
def kV(x:bj):Prop:=(0<=x.v/\x.v<=100000)/\iK x.s=true
def ll(x y:bj):Prop:=fx x y<0
theorem Ik{l:List bj}:iN l↔∀i,i<l.length->iE kV ll l i:=by rw[QW (p:=kV) (r:=ll) (fun a b c J U=>by unfold ll at*;exact mz.ltr J (Int.le_of_lt U))];exact⟨fun h=>⟨h.at',h.asc⟩,fun h=>⟨h.1,h.2⟩⟩
open Classical in
theorem aaS(l:List b8):bK aw 54 [.slice 2 .no (l.map b8.e)] (.bool (decide (hj l))):=by
 generalize bH:decide (hj l)=R;refine bo kH aen alc fun aQ=>?_;unfold RB;have h7:l.length<=68719476736:=by simp[gQ,gi,gH,lim]at aQ;omega
 simp;refine eJ [0,5,6] (fun i (_:Unit)=>[(7,.int .i64 i)]) l.length (fun i _=> ∀j,j<i->iE mX oq l j) () b7 (fun k ae=>Ω) (fun _ ag _=>?_) (fun i _ hi ag _=>?_)
 ·have:R=true:=by rw[<-bH,eN,H7];exact ag
  rw[this];exact cz
 ·obtain⟨b,ad⟩:∃b,l[i]? =some b:=⟨_,cg hi⟩;obtain⟨c,ao⟩:∃c,l[i-1]? =some c:=⟨_,cg Ω⟩;have cJ:∀h,(l[i]'h)=b:=fun h=>by rw[cg hi]at ad;exact eZ ad
  have cU:¬iE mX oq l i->R=false:=fun h=>by rw[<-bH,gD];exact fun b9=>h (H7.1 b9 i hi)
  have dd:iE mX oq l i->∀j,j<i+1->iE mX oq l j:=fun h j jX=>by
   by_cases e:j=i
   ·rw[e];exact h
   ·exact ag j Ω
  simp[hi,cJ,ao];((with_reducible repeat' first|refine ak ?_|simp[cJ,ao,hi]|((first|apply bJ|apply bM|apply bL)<;>intro h<;>try simp at h))<;>(try exact ck));all_goals first
   |(have au:¬iE mX oq l i:=by(intro b9;have J:=b9 b ad;have U:=J.2 c;have h3:=J.1;unfold mX oq at*;first|omega|(have h4:=U Ω ao;omega)|(simp_all;done)|(simp_all;omega))
     rw[cU au]
     simp[bp,YS,aV,aY,aU]
     done)
   |(refine bR.rng () hi (dd fun b3 gd=>?_) ?_
     ·rw[ad]at gd;cases gd
      refine⟨?_,fun cq bz hx=>?_⟩
      ·unfold mX;first|(simp_all;done)|(simp_all;omega)
      ·rw[ao]at hx;cases hx;unfold oq;simp_all
     ·exact b7)
theorem CG(a b:bj):bK aw 110 [a.e,b.e] (.bool (h8 fx a b)):=by
 rw[<-XU];have bH:uM a b=(decide (a.v<b.v)||(a.v==b.v&&hP a.s b.s)):=rfl;rcases Int.lt_trichotomy a.v b.v with h|h|h
 ·have:uM a b=true:=by rw[bH];simp[h]
  rw[this];refine bo kH LC Oi fun aQ=>?_;unfold Gq;exact cz
 ·have J:¬a.v<b.v:=Ω
  have U:(a.v==b.v)=true:=by simp[h]
  have:uM a b=hP a.s b.s:=by rw[bH];simp[h]
  rw[this];refine bo kH LC Oi fun aQ=>?_;unfold Gq;exact cz
 ·have J:¬a.v<b.v:=Ω
  have U:¬a.v=b.v:=Ω
  have h3:(a.v==b.v)=false:=by simp[U]
  have:uM a b=false:=by rw[bH];simp[J,U]
  rw[this];refine bo kH LC Oi fun aQ=>?_;unfold Gq;exact cz
open Classical in
theorem aaU(l:List bj):bK aw 55 [.slice 2 .no (l.map bj.e)] (.bool (decide (iN l))):=by
 generalize bH:decide (iN l)=R;refine bo kH aeo ald fun aQ=>?_;unfold RC;have h7:l.length<=68719476736:=by simp[gQ,gi,gH,lim]at aQ;omega
 simp;refine eJ [0,5,6] (fun i (_:Unit)=>[(7,.int .i64 i)]) l.length (fun i _=> ∀j,j<i->iE kV ll l j) () b7 (fun k ae=>Ω) (fun _ ag _=>?_) (fun i _ hi ag _=>?_)
 ·have:R=true:=by rw[<-bH,eN,Ik];exact ag
  rw[this];exact cz
 ·obtain⟨b,ad⟩:∃b,l[i]? =some b:=⟨_,cg hi⟩;obtain⟨c,ao⟩:∃c,l[i-1]? =some c:=⟨_,cg Ω⟩;have cJ:∀h,(l[i]'h)=b:=fun h=>by rw[cg hi]at ad;exact eZ ad
  have cU:¬iE kV ll l i->R=false:=fun h=>by rw[<-bH,gD];exact fun b9=>h (Ik.1 b9 i hi)
  have dd:iE kV ll l i->∀j,j<i+1->iE kV ll l j:=fun h j jX=>by
   by_cases e:j=i
   ·rw[e];exact h
   ·exact ag j Ω
  have fW:∀p:Prop,(p->ey)->(iE kV ll l i->p)->R=false:=fun p J U=>cU fun h=>J (U h);have qf:iE kV ll l i->kV b:=fun h=>(h b ad).1;have bs:iE kV ll l i->0<i->h8 fx c b=true:=fun h bz=>by simpa[h8,ll]using(h b ad).2 c bz ao
  have eh:kV b->(0<i->h8 fx c b=true)->iE kV ll l i:=fun J U b3 gd=>by rw[ad]at gd;cases gd;exact⟨J,fun cq bz hx=>by rw[ao]at hx;cases hx;simpa[h8,ll]using U bz⟩
  unfold kV at qf eh;by_cases g1:b.v<0
  ·rw[fW _ (fun h=>Ω) (fun h=>(qf h).1.1)];exact cz
  by_cases g2:100000<b.v
  ·rw[fW _ (fun h=>Ω) (fun h=>(qf h).1.2)];exact cz
  cases g3:iK b.s
  ·rw[fW _ (fun h=>by rw[h]at g3;cases g3) (fun h=>(qf h).2)];simp[hi,cJ,ao];(with_reducible repeat' first|refine ak ?_|refine aA (u3 _) ?_|refine aB (u3 _) ?_|simp[cJ,ao,hi,g1,g2,g3]);simp[bp,OJ,aV,aY,aU]
  by_cases g4:0<i
  ·cases g5:h8 fx c b
   ·rw[fW _ (fun h=>by rw[h]at g5;cases g5) (fun h=>bs h g4)];simp[hi,cJ,ao];(with_reducible repeat' first|refine ak ?_|refine aA (u3 _) ?_|refine aB (u3 _) ?_|refine aA (CG _ _) ?_|refine aB (CG _ _) ?_|simp[cJ,ao,hi,g1,g2,g3,g4,g5]);simp[bp,OJ,aV,aY,aU]
   ·simp[hi,cJ,ao];(with_reducible repeat' first|refine ak ?_|refine aA (u3 _) ?_|refine aB (u3 _) ?_|refine aA (CG _ _) ?_|refine aB (CG _ _) ?_|simp[cJ,ao,hi,g1,g2,g3,g4,g5]);exact bR.rng () hi (dd (eh ⟨⟨Ω,Ω⟩,g3⟩ fun _=>g5)) b7
  ·obtain rfl:i=0:=Ω
   simp[hi,cJ,ao];(with_reducible repeat' first|refine ak ?_|refine aA (u3 _) ?_|refine aB (u3 _) ?_|simp[cJ,ao,hi,g1,g2,g3,g4]);exact bR.rng () hi (dd (eh ⟨⟨Ω,Ω⟩,g3⟩ fun h=>Ω)) b7
theorem ap8(s:List UInt8):∀t:T,bK aw 66 [t.e,.str s] (.bool (t.has s)):=by
 intro t;induction t with
 |pair a b dz dA=>
  refine bo kH LG Om fun aQ=>?_;unfold Gt;simp;cases bg:a.has s<;>cases ad:b.has s<;>rw[bg]at dz<;>rw[ad]at dA;all_goals(with_reducible repeat' first|refine ak ?_|refine aA dz ?_|refine aB dz ?_|refine aA dA ?_|refine aB dA ?_|simp)
  all_goals simp[bp,IZ,aV,aY,aU]
  all_goals simp[T.has,bg,ad]
 |sym n=>
  refine bo kH LG Om fun aQ=>?_;unfold Gt;simp;(with_reducible repeat' first|refine ak ?_|simp);all_goals simp[bp,IZ,aV,aY,aU]
  all_goals simp[T.has]
 |_=>
  refine bo kH LG Om fun aQ=>?_;unfold Gt;simp;(with_reducible repeat' first|refine ak ?_|simp);all_goals simp[bp,IZ,aV,aY,aU]
  all_goals simp[T.has]
def SF:C:=(aa [cW 2 0] (aa [cf 4 20] (aa [I 8 4,cf 5 0,I 6 8] (.seq (.block 0 (.loop (.seq (aa [I 9 6,I 10 1,bt 11 .leq 9 10] (aZ 11 .skip (.exit 0))) (.block 1 (aa [aX 12 2 2,I 13 5,I 14 6,c0 15 187 [.t 12,.t 13,.t 14]] (aa [I 16 6,I 5 16] (.region [I 17 6,I 18 4,bt 19 .add 17 18,I 6 19]))))))) (aa [aX 20 2 2,I 21 5,I 22 1,c0 23 187 [.t 20,.t 21,.t 22]] (.block 2 (.loop (.seq (aa [I 24 4,I 25 1,bt 26 .lss 24 25] (aZ 26 .skip (.exit 2))) (.block 3 (aa [I 27 4,bS 28 (.bin .mul false (ef 2) (.t 27)),cf 5 0,I 6 28] (.seq (.block 4 (.loop (.seq (aa [I 29 6,I 30 1,bt 31 .leq 29 30] (aZ 31 .skip (.exit 4))) (.block 5 (aa [aX 32 2 2,I 33 5,I 34 5,I 35 4,bt 36 .add 34 35,I 37 6,c0 38 188 [.t 32,.t 33,.t 36,.t 37]] (aa [I 39 6,I 5 39] (.region [I 40 6,I 41 4,bS 42 (.bin .mul false (ef 2) (.t 41)),bt 43 .add 40 42,I 6 43]))))))) (.seq (aa [I 44 5,I 45 4,bt 46 .add 44 45,I 7 46] (aa [I 47 7,I 48 1,bt 49 .lss 47 48] (aZ 49 (.region [aX 50 2 2,I 51 5,I 52 7,I 53 1,c0 54 188 [.t 50,.t 51,.t 52,.t 53]]) .skip))) (.region [I 55 4,aT 56 .mul 55 2,I 4 56])))))))))))))
@[simp] def anY:List bV:=[]
def KZ:C:=(aa [cW 3 0] (aa [I 8 1,aT 9 .add 8 1,I 6 9] (.block 0 (.loop (.seq (aa [I 10 6,I 11 2,bt 12 .lss 10 11] (aZ 12 .skip (.exit 0))) (.seq (.block 1 (aa [I 15 6,I 7 15] (.block 2 (.loop (.seq (aa [I 16 7,I 17 1,bt 18 .gtr 16 17,I 19 18,ar 19 true (aK 20 0 1 3),ar 19 true (ax 21 1 20),bT 19 true 22 7,bT 19 true 23 7,ar 19 true (aT 24 .sub 23 1),ar 19 true (gu 25 21 [.t 22,.t 24]),dh 26 19 25] (aZ 26 .skip (.exit 2))) (.seq (.block 3 (.region [aK 29 1 1 3,ax 30 1 29,I 31 7,I 32 7,aT 33 .sub 32 1,gu 34 30 [.t 31,.t 33]])) (.region [I 27 7,aT 28 .sub 27 1,I 7 28]))))))) (.region [I 13 6,aT 14 .add 13 1,I 6 14])))))))
@[simp] def anU:List bV:=[]
def Gx:C:=(aa [I 164 16,I 165 22,bt 166 .lss 164 165,I 167 166,bT 167 true 168 22,bT 167 true 169 3,ar 167 true (bt 170 .lss 168 169),dh 171 167 170] (aZ 171 (.region [aX 172 2 4,I 173 16,I 174 22,I 175 3,c0 176 188 [.t 172,.t 173,.t 174,.t 175]]) .skip))
def Gy:C:=(.seq (aa [I 151 1,I 152 18,bt 153 .lss 151 152,I 154 153,bT 154 true 155 18,bT 154 true 156 16,ar 154 true (bt 157 .lss 155 156),dh 158 154 157] (aZ 158 (.region [aX 159 2 4,I 160 1,I 161 18,I 162 16,c0 163 188 [.t 159,.t 160,.t 161,.t 162]]) .skip)) Gx)
def K3:C:=(.seq (aa [I 138 18,I 139 2,bt 140 .lss 138 139,I 141 140,bT 141 true 142 2,bT 141 true 143 22,ar 141 true (bt 144 .lss 142 143),dh 145 141 144] (aZ 145 (.region [aX 146 2 4,I 147 18,I 148 2,I 149 22,c0 150 207 [.t 146,.t 147,.t 148,.t 149]]) .skip)) Gy)
def K4:C:=(aa [I 113 17,aT 114 .sub 113 1,I 20 114] (.seq (.block 8 (.loop (.seq (aa [I 115 18,I 116 19,bt 117 .lss 115 116] (aZ 117 .skip (.exit 8))) (.block 9 (aa [I 118 18,I 119 19,bt 120 .add 118 119,bS 121 (.conv .u64 (.t 120)),bS 122 (.bin .shr false (.t 121) (.c (.int .u64 1))),bS 123 (.conv .i64 (.t 122)),I 21 123] (aa [aK 124 0 1 4,ax 125 1 124,I 126 20,I 127 21,bt 128 .sub 126 127,I 129 21,gu 130 125 [.t 128,.t 129],cx 131 130] (aZ 131 (.region [I 132 21,aT 133 .add 132 1,I 18 133]) (.region [I 134 21,I 19 134])))))))) (aa [I 135 17,I 136 18,bt 137 .sub 135 136,I 22 137] K3)))
def SH:C:=(aa [cW 4 0] (.seq (aa [I 23 2,I 24 1,bt 25 .sub 23 24,aT 26 .eql 25 1] (aZ 26 (aa [I 27 2,I 8 27] (aa [I 28 3,I 9 28] (.seq (.block 0 (.loop (.seq (aa [I 29 8,I 30 9,bt 31 .lss 29 30] (aZ 31 .skip (.exit 0))) (.block 1 (aa [I 32 8,I 33 9,bt 34 .add 32 33,bS 35 (.conv .u64 (.t 34)),bS 36 (.bin .shr false (.t 35) (.c (.int .u64 1))),bS 37 (.conv .i64 (.t 36)),I 10 37] (aa [aK 38 0 1 4,ax 39 1 38,I 40 10,I 41 1,gu 42 39 [.t 40,.t 41]] (aZ 42 (.region [I 43 10,aT 44 .add 43 1,I 8 44]) (.region [I 45 10,I 9 45])))))))) (.seq (aa [I 46 1,I 11 46] (.block 2 (.loop (.seq (aa [I 47 11,I 48 8,aT 49 .sub 48 1,bt 50 .lss 47 49] (aZ 50 .skip (.exit 2))) (.seq (.block 3 (.region [aK 53 1 1 4,ax 54 1 53,I 55 11,I 56 11,aT 57 .add 56 1,gu 58 54 [.t 55,.t 57]])) (.region [I 51 11,aT 52 .add 51 1,I 11 52])))))) .ret)))) .skip)) (.seq (aa [I 59 3,I 60 2,bt 61 .sub 59 60,aT 62 .eql 61 1] (aZ 62 (aa [I 63 1,I 12 63] (aa [I 64 2,I 13 64] (.seq (.block 4 (.loop (.seq (aa [I 65 12,I 66 13,bt 67 .lss 65 66] (aZ 67 .skip (.exit 4))) (.block 5 (aa [I 68 12,I 69 13,bt 70 .add 68 69,bS 71 (.conv .u64 (.t 70)),bS 72 (.bin .shr false (.t 71) (.c (.int .u64 1))),bS 73 (.conv .i64 (.t 72)),I 14 73] (aa [aK 74 0 1 4,ax 75 1 74,I 76 2,I 77 14,gu 78 75 [.t 76,.t 77],cx 79 78] (aZ 79 (.region [I 80 14,aT 81 .add 80 1,I 12 81]) (.region [I 82 14,I 13 82])))))))) (.seq (aa [I 83 2,I 15 83] (.block 6 (.loop (.seq (aa [I 84 15,I 85 12,bt 86 .gtr 84 85] (aZ 86 .skip (.exit 6))) (.seq (.block 7 (.region [aK 89 1 1 4,ax 90 1 89,I 91 15,I 92 15,aT 93 .sub 92 1,gu 94 90 [.t 91,.t 93]])) (.region [I 87 15,aT 88 .sub 87 1,I 15 88])))))) .ret)))) .skip)) (aa [I 95 1,I 96 3,bt 97 .add 95 96,bS 98 (.conv .u64 (.t 97)),bS 99 (.bin .shr false (.t 98) (.c (.int .u64 1))),bS 100 (.conv .i64 (.t 99)),I 16 100] (aa [I 101 16,I 102 2,bt 103 .add 101 102,I 17 103] (aa [cf 18 0,cf 19 0] (.seq (aa [I 104 2,I 105 16,bt 106 .gtr 104 105] (aZ 106 (aa [I 107 17,I 108 3,bt 109 .sub 107 108,I 18 109] (.region [I 110 16,I 19 110])) (aa [I 111 1,I 18 111] (.region [I 112 2,I 19 112])))) K4)))))))
@[simp] def anZ:List bV:=[]
def SD:C:=(aa [cW 4 0] (aa [I 10 2,I 11 1,bt 12 .sub 10 11,I 8 12] (aa [I 13 3,I 14 2,bt 15 .sub 13 14,I 9 15] (.seq (.block 0 (.loop (.seq (aa [I 16 8,I 17 9,bt 18 .neq 16 17] (aZ 18 .skip (.exit 0))) (.block 1 (aa [I 19 8,I 20 9,bt 21 .gtr 19 20] (aZ 21 (aa [aX 22 2 4,I 23 2,I 24 8,bt 25 .sub 23 24,I 26 2,I 27 9,c0 28 216 [.t 22,.t 25,.t 26,.t 27]] (.region [I 29 8,I 30 9,bt 31 .sub 29 30,I 8 31])) (aa [aX 32 2 4,I 33 2,I 34 8,bt 35 .sub 33 34,I 36 2,I 37 9,bt 38 .add 36 37,I 39 8,bt 40 .sub 38 39,I 41 8,c0 42 216 [.t 32,.t 35,.t 40,.t 41]] (.region [I 43 9,I 44 8,bt 45 .sub 43 44,I 9 45])))))))) (.region [aX 46 2 4,I 47 2,I 48 8,bt 49 .sub 47 48,I 50 2,I 51 8,c0 52 216 [.t 46,.t 49,.t 50,.t 51]])))))
@[simp] def anW:List bV:=[]
def SG:C:=(aa [cW 4 0] (aa [cf 8 0] (.block 0 (.loop (.seq (aa [I 9 8,I 10 3,bt 11 .lss 9 10] (aZ 11 .skip (.exit 0))) (.seq (.block 1 (.region [aK 14 1 1 4,ax 15 1 14,I 16 1,I 17 8,bt 18 .add 16 17,I 19 2,I 20 8,bt 21 .add 19 20,gu 22 15 [.t 18,.t 21]])) (.region [I 12 8,aT 13 .add 12 1,I 8 13])))))))
@[simp] def Zk:List bV:=[]
def Cz:List (Nat×dy):=[
 (3,⟨1,8,.int .i64,.int .i64 0⟩),
 (117,⟨1,8,.int .u64,.int .u64 0⟩),
 (138,⟨1,8,.other,.junk⟩),
 (152,⟨1,8,.other,.junk⟩),
 (156,⟨2,16,.struct [(0,138),(1,152)],.agg [.junk,.junk]⟩)]
theorem CB:fJ aw Cz=true:=by kernel_rfl
theorem amf:b6 Cz SF anY 2 Tryz.f161=true:=by kernel_rfl
theorem afo:aw.funcs[(161:Nat)]? =some Tryz.f161:=Tryz.func161
theorem Yn:b6 Cz KZ anU 3 Tryz.f187=true:=by kernel_rfl
theorem Us:aw.funcs[(187:Nat)]? =some Tryz.f187:=Tryz.func187
theorem amh:b6 Cz SH anZ 4 Tryz.f188=true:=by kernel_rfl
theorem afq:aw.funcs[(188:Nat)]? =some Tryz.f188:=Tryz.func188
theorem amd:b6 Cz SD anW 4 Tryz.f207=true:=by kernel_rfl
theorem afm:aw.funcs[(207:Nat)]? =some Tryz.f207:=Tryz.func207
theorem amg:b6 Cz SG Zk 4 Tryz.f216=true:=by kernel_rfl
theorem afp:aw.funcs[(216:Nat)]? =some Tryz.f216:=Tryz.func216
end
end Go.Proofs.YtohaalphocaebaaGreatDoor
