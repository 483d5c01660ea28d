/- made by mk2.py: the code of the functions, and the checks against the program's own form. -/
import Derived.Shelf.Sort.Plain
import Derived.Ground.NamesProg
import Derived.Test.YtohaalphocaebaaGreatDoorProg
import Derived.Sort.OwnSortedInts
import Derived.Lib.OwnBridge
import Derived.Test.YtohaalphocaebaaGreatDoorY2
set_option linter.all false
set_option maxHeartbeats 4000000
set_option maxRecDepth 4000
open Bool renaming and_eq_true->cE,eq_iff_iff->p1,false_eq_true->gO,not_eq_true'->rC,or_eq_true->l4
open Go.Op renaming bytesLess->hE
open Go.Proofs.Tryz renaming prog->az
open Go.Value renaming cells->pe
open List renaming all_eq_true->fM,cons_append->bO,drop_eq_getElem_cons->kX,getElem?_eq_getElem->cf,getElem?_eq_none->qF,getElem?_eq_some_iff->fb,getElem_of_mem->nX,length_append->pf,length_drop->sZ,map_cons->hk,mem_append->ih,mem_cons->fD,mem_cons_of_mem->oE,mem_filter->lC,mem_map->iy,mem_of_getElem?->ed,mem_singleton->oF,nil_append->bS,pairwise_cons->mC,pairwise_iff_getElem->pg,take_of_length_le->hx
open List.Nodup renaming length_le_of_subset->Ow
open List.Pairwise renaming filter->Ox,imp_of_mem->anI,nil->ar5,sublist->ar6
open List.Perm renaming eq_of_pairwise->Oy,swap->ar7
open List.cons renaming injEq->xE
open Nat renaming le_refl->eX,le_trans->kn,strongRecOn->rF
open Ne renaming symm->ld
open Option renaming bind_eq_some_iff->iJ,bind_some->jK,getD_none->l7,getD_some->jL,map_eq_some_iff->gk,map_some->oH
open Option.some renaming inj->eJ,injEq->dC
open Prod.mk renaming injEq->jM
open _root_ renaming DecidableEq->mA,False->eW,beq_iff_eq->dL,congrArg->eK,decide_eq_false->ij,decide_eq_false_iff_not->gC,decide_eq_true->gD,decide_eq_true_eq->e6
namespace Go.Pv
section
open Go
theorem Zd{E:Int->Int->Prop}{x:Int}{r:Int->Nat}{M:Nat}(h:∀z u,z≠x->E z u->r u<r z)(gJ:∀u,E x u->r u<M)(ay:∀u,E x u->¬nl E u x):∃eM:Int->Nat,∀z u,E z u->eM u<eM z:=by
 classical
 refine⟨fun z=>if nl E z x then r z+M else r z,fun z u he=>?_⟩;show(if nl E u x then r u+M else r u)<(if nl E z x then r z+M else r z);by_cases bf:z=x
 ·subst bf;have J:=ay u he;have U:=gJ u he;rw[if_neg J,if_pos (nl.refl z)];omega
 ·have J:=h z u bf he;by_cases hu:nl E u x
  ·rw[if_pos hu,if_pos (nl.step he hu)];omega
  ·rw[if_neg hu];split<;>omega
def nv(ph:Int->Option T)(ρ:Int->Int):Nat->Int->T
 |0,v=>.var (ρ v)
 |n+1,v=>match ph (ρ v)with
  |none=>.var (ρ v)
  |some t=>t.ap (nv ph ρ n)
section
variable {ph:Int->Option T} {ρ:Int->Int} {r:Int->Nat}
theorem aa5(eZ:∀v,ρ (ρ v)=ρ v):∀(n:Nat) (v:Int),nv ph ρ n v=nv ph ρ n (ρ v)
 |0,v=>by simp[nv,eZ]
 |n+1,v=>by simp[nv,eZ]
theorem RP(eZ:∀v,ρ (ρ v)=ρ v)(aJ:∀z u,jh ph ρ z u->r u<r z):∀(n:Nat) (v:Int),r (ρ v)<n->nv ph ρ n v=nv ph ρ (n+1) v
 |0,_,h=>Ω
 |n+1,v,h=>by
  show(match ph (ρ v)with|none=>T.var (ρ v)|some t=>t.ap (nv ph ρ n))=(match ph (ρ v)with|none=>T.var (ρ v)|some t=>t.ap (nv ph ρ (n+1)));cases e:ph (ρ v)with
  |none=>rfl
  |some t=>refine p4 fun w hw=>RP eZ aJ n w ?_;have:=aJ (ρ v) (ρ w) ⟨eZ v,t,w,e,hw,rfl⟩;omega
theorem RO(eZ:∀v,ρ (ρ v)=ρ v)(aJ:∀z u,jh ph ρ z u->r u<r z){n:Nat}{v:Int}(h:r (ρ v)<n):∀k,nv ph ρ (n+k) v=nv ph ρ n v
 |0=>rfl
 |k+1=>by rw[<-RO eZ aJ h k];exact(RP eZ aJ (n+k) v Ω).symm
def gZ(ph:Int->Option T)(ρ:Int->Int)(r:Int->Nat)(v:Int):T:=nv ph ρ (r (ρ v)+1) v
theorem z1(eZ:∀v,ρ (ρ v)=ρ v)(v:Int):gZ ph ρ r v=gZ ph ρ r (ρ v):=by unfold gZ;rw[aa5 eZ,eZ]
theorem Cy{v:Int}(h:ph (ρ v)=none):gZ ph ρ r v= .var (ρ v):=by simp[gZ,nv,h]
theorem z6(eZ:∀v,ρ (ρ v)=ρ v)(aJ:∀z u,jh ph ρ z u->r u<r z){v:Int}{t:T}(h:ph (ρ v)=some t):gZ ph ρ r v=t.ap (gZ ph ρ r):=by show nv ph ρ (r (ρ v)+1) v=_;simp only[nv,h];refine p4 fun w hw=>?_;have J:=aJ (ρ v) (ρ w) ⟨eZ v,t,w,h,hw,rfl⟩;have:=RO eZ aJ (n:=r (ρ w)+1) (v:=w) Ω (r (ρ v)-(r (ρ w)+1));rw[show r (ρ w)+1+(r (ρ v)-(r (ρ w)+1))=r (ρ v)from by omega]at this;exact this
theorem aee(eZ:∀v,ρ (ρ v)=ρ v)(aJ:∀z u,jh ph ρ z u->r u<r z):ko ph ρ (gZ ph ρ r):=⟨z1 eZ,fun x t ae h=>z6 eZ aJ (by rw[ae];exact h)⟩
theorem H9{V:List Int}(gK:oL V ph){aQ:Int->T}(h:ko ph ρ aQ){z u:Int}(he:jh ph ρ z u):(aQ u).size<(aQ z).size:=by obtain⟨J,t,w,U,ar,rfl⟩:=he;rw[h.2 z t J U,<-h.1 w];exact(A6 aQ ar).2 (gK z t U).1
theorem Ia{V:List Int}(gK:oL V ph){aQ:Int->T}(h:ko ph ρ aQ){z u:Int}(he:nl (jh ph ρ) z u):(aQ u).size<=(aQ z).size:=by
 induction he with
 |refl=>exact eX _
 |step J _ bU=>have:=H9 gK h J;omega
end
theorem ZJ(r:Int->Nat)(t:T):∃M,∀w,t.occ w=true->r w<M:=by
 induction t with
 |var n=>exact⟨r n+1,fun w hw=>by simp[T.occ]at hw;subst hw;omega⟩
 |pair a b dM dN=>
  obtain⟨YY,J⟩:=dM;obtain⟨YZ,U⟩:=dN;refine⟨YY+YZ,fun w hw=>?_⟩;simp only[T.occ,l4]at hw;rcases hw with hw|hw
  ·have:=J w hw;omega
  ·have:=U w hw;omega
 |_=>exact⟨0,fun w hw=>by simp[T.occ]at hw⟩
theorem Ef{ph:Int->Option T}{ρ:Int->Int}(eZ:∀v,ρ (ρ v)=ρ v){x:Int}{r:Int->Nat}(h:∀z u,z≠x->jh ph ρ z u->r u<r z)(ay:∀u,jh ph ρ x u->¬nl (jh ph ρ) u x):∃aQ,ko ph ρ aQ:=by
 have gJ:∃M,∀u,jh ph ρ x u->r u<M:=by
  cases e:ph x with
  |none=>exact⟨0,fun u ⟨_,t,w,J,_⟩=>by rw[e]at J;cases J⟩
  |some t=>obtain⟨M,gJ⟩:=ZJ (fun w=>r (ρ w)) t;refine⟨M,fun u ⟨_,dE,w,J,U,ar⟩=>?_⟩;rw[e]at J;cases J;subst ar;exact gJ w U
 obtain⟨M,gJ⟩:=gJ;obtain⟨eM,dH⟩:=Zd h gJ ay;exact⟨_,aee eZ dH⟩
structure l8 (c:bt) (ρ:Int->Int):Prop where
 ru:jP c.up ρ
 sh:oL (cv c.up) c.ph
 sat:∃aQ,ko c.ph ρ aQ
theorem l8.sm{c cp:bt}{ρ:Int->Int}(h:l8 c ρ)(k:iM ρ c cp):l8 cp ρ:=⟨k.ru,by rw[k.keys,k.ph];exact h.sh,by rw[k.ph];exact h.sat⟩
def iA(c:bt)(ρ:Int->Int):Nat:=((cv c.up).filter fun v=>decide (ρ v=v)).length+((cv c.up).filter fun v=>decide (ρ v=v)&& !(c.ph v).isSome).length
theorem xG{c cp:bt}{ρ:Int->Int}(k:iM ρ c cp):iA cp ρ=iA c ρ:=by unfold iA;rw[k.keys,k.ph]
structure ji (c:bt) (ρ:Int->Int) (p:(Int->T)->Prop) (o:Bool×bt):Prop where
 keys:cv o.2.up=cv c.up
 rest:o.2.color=c.color/\o.2.size=c.size/\o.2.full=c.full
 yes:o.1=true->∃ρ',l8 o.2 ρ'/\(∀aQ,ko o.2.ph ρ' aQ↔ko c.ph ρ aQ/\p aQ)/\((ρ'=ρ/\o.2.ph=c.ph)\/iA o.2 ρ'<iA c ρ)
 no:o.1=false->∀aQ,ko c.ph ρ aQ->¬p aQ
theorem iM.rest{ρ:Int->Int}{c cp:bt}(h:iM ρ c cp):cp.color=c.color/\cp.size=c.size/\cp.full=c.full:=by rw[h.eq];exact⟨rfl,rfl,rfl⟩
theorem ji.sm{c cp:bt}{ρ:Int->Int}{p:(Int->T)->Prop}{o:Bool×bt}(k:iM ρ c cp)(h:ji cp ρ p o):ji c ρ p o:=⟨h.keys.trans k.keys,by rw[h.rest.1,h.rest.2.1,h.rest.2.2];exact k.rest,fun e=>by rw[<-xG k,<-k.ph];exact h.yes e,by rw[<-k.ph];exact h.no⟩
theorem ji.congr{c:bt}{ρ:Int->Int}{p q:(Int->T)->Prop}{o:Bool×bt}(kJ:∀aQ,ko c.ph ρ aQ->(p aQ↔q aQ))(h:ji c ρ p o):ji c ρ q o:=⟨h.keys,h.rest,fun e=>by obtain⟨ρ',J,U,ar⟩:=h.yes e;exact⟨ρ',J,fun aQ=>(U aQ).trans (and_congr_right fun ag=>kJ aQ ag),ar⟩,fun e aQ ag bF=>h.no e aQ ag ((kJ aQ ag).2 bF)⟩
theorem w6(c:bt)(x:Int)(t:T)(z:Int):(c.know x t).ph z=if z=x then some t else c.ph z:=by
 simp only[bt.ph,bt.know,bt.shd,bt.shp,nh];by_cases h:z=x
 ·simp[h]
 ·simp only[if_neg h];exact ite_congr rfl (fun _=>rfl) fun _=>rfl
theorem UF{c:bt}{ρ:Int->Int}(hi:l8 c ρ){x:Int}(ae:ρ x=x)(ad:x∈cv c.up)(jD:c.ph x=none){t:T}(aM:t.kind≠1)(aC:∀w,t.occ w=true->w∈cv c.up):
  ∃N o,(∀n,N<=n->vi n x t c=some o)/\ji c ρ (fun aQ=>aQ x=t.ap aQ) o:=by
 have gK:oL (cv (c.know x t).up) (c.know x t).ph:=by
  intro z u bf;rw[w6]at bf;split at bf
  ·rename_i e;cases bf;subst e;exact⟨aM,aC,ad⟩
  ·exact hi.sh z u bf
 have lu:∀aQ,ko (c.know x t).ph ρ aQ↔ko c.ph ρ aQ/\aQ x=t.ap aQ:=by
  intro aQ;constructor
  ·rintro⟨J,U⟩;refine⟨⟨J,fun z u bf hu=>U z u bf ?_⟩,U x t ae (by rw[w6];simp)⟩;rw[w6];split
   ·rename_i e;subst e;rw[jD]at hu;cases hu
   ·exact hu
  ·rintro⟨⟨J,U⟩,ar⟩;refine⟨J,fun z u bf hu=>?_⟩;rw[w6]at hu;split at hu
   ·rename_i e;subst e;cases hu;exact ar
   ·exact U z u bf hu
 obtain⟨N,a,J,U,ar⟩:=HF (x:=x) (c:=c.know x t) (t:=t) hi.ru gK aC;refine⟨N,(!a.found,a.c),fun n ay=>by simp[vi,J n ay],U.keys,U.rest,fun aR=>?_,fun aR aQ ag he=>?_⟩
 ·simp only[rC]at aR;have afy:∀u,jh (c.know x t).ph ρ x u->¬nl (jh (c.know x t).ph ρ) u x:=by rintro u ⟨_,dE,w,a6,bD,rfl⟩ aJ;rw[w6,if_pos rfl]at a6;cases a6;have:=ar.2 ⟨w,bD,aJ⟩;rw[aR]at this;cases this
  obtain⟨lb,va⟩:=hi.sat
  have afN:=Ef (ph:=(c.know x t).ph) (ρ:=ρ) hi.ru.idem (x:=x) (r:=fun z=>(lb z).size) (fun z u bf he=>by refine H9 hi.sh va ?_;obtain⟨ao,dE,w,aF,bA⟩:=he;rw[w6,if_neg bf]at aF;exact⟨ao,dE,w,aF,bA⟩) afy
  refine⟨ρ,⟨U.ru,?_,?_⟩,fun aQ=>?_,.inr ?_⟩
  ·simp only[U.keys,U.ph];exact gK
  ·simp only[U.ph];exact afN
  ·simp only[U.ph];exact lu aQ
  ·simp only[xG U];unfold iA;have ao:cv (c.know x t).up=cv c.up:=rfl;rw[ao];have:=FK (V:=cv c.up) (v:=x) (p:=fun v=>decide (ρ v=v)&& !(c.ph v).isSome) (q:=fun v=>decide (ρ v=v)&& !((c.know x t).ph v).isSome) (fun z _ bf=>by
    rw[w6]at bf;split at bf
    ·simp at bf
    ·exact bf) ad (by simp[ae,jD]) (by simp[w6])
   omega
 ·simp only[Bool.not_eq_false']at aR;obtain⟨w,a6,bD⟩:=ar.1 aR;have fF:=(lu aQ).2 ⟨ag,he⟩;have:=Ia gK fF bD;have a8:=(A6 aQ a6).2 aM;rw[<-he]at a8;rw[<-ag.1 w]at this;omega
def jn(ρ:Int->Int)(x y:Int)(v:Int):Int:=if ρ v=y then x else ρ v
section
variable {c:bt} {ρ:Int->Int} {x y:Int}
theorem qp(ae:ρ x=x)(aH:ρ y=y)(h2:x≠y){z:Int}:jn ρ x y z=z↔ρ z=z/\z≠y:=by
 unfold jn;split
 ·rename_i e;constructor
  ·intro h;subst h;rw[ae]at e;exact absurd e h2
  ·rintro⟨J,U⟩;rw[J]at e;exact absurd e U
 ·rename_i e;constructor
  ·intro h;exact⟨h,fun aF=>e (by rw[aF,aH])⟩
  ·exact fun h=>h.1
theorem jP.join(h:jP c.up ρ)(ae:ρ x=x)(aH:ρ y=y)(h2:x<y)(Dv:x∈cv c.up)(vj:y∈cv c.up):jP (c.join x y).up (jn ρ x y):=by
 have ad:cv (c.join x y).up=cv c.up:=Dt vj;refine⟨fun v u aC=>?_,fun v aC=>?_⟩
 ·rw[ad];have mn:tg v (eS y x c.up)=some u:=aC;rw[nh]at mn;by_cases e:v=y
  ·subst e;rw[if_pos rfl]at mn;cases mn;have bE:=(h.mem Dv).2;rw[ae]at bE;refine⟨⟨bE,Ω,Dv⟩,?_,⟨fun e=>?_,fun e=>Ω⟩⟩
   ·unfold jn;rw[ae,aH,if_pos rfl,if_neg Ω]
   ·have:=((qp ae aH Ω).1 e).2;exact absurd rfl this
  ·rw[if_neg e]at mn;obtain⟨bB,a2,a3⟩:=h.up v u mn;refine⟨bB,by unfold jn;rw[a2],?_⟩;rw[qp ae aH Ω,a3];exact⟨fun h=>h.1,fun h=>⟨h,e⟩⟩
 ·rw[ad]at aC;have:=h.no v aC;unfold jn;rw[this,if_neg fun e=>aC (by rw[e];exact vj)]
theorem alH{ph:Int->Option T}(ae:ρ x=x)(aH:ρ y=y)(h2:x≠y)(aQ:Int->T):(ko ph (jn ρ x y) aQ/\∀t,ph y=some t->aQ x=t.ap aQ)↔(ko ph ρ aQ/\aQ x=aQ y):=by
 constructor
 ·rintro⟨⟨J,U⟩,ar⟩;have Lf:aQ y=aQ x:=by have:=J y;simpa[jn,aH]using this
  refine⟨⟨fun v=>?_,fun z t bf aM=>?_⟩,Lf.symm⟩
  ·have:=J v;unfold jn at this;split at this
   ·rename_i e;rw[e,this,Lf]
   ·exact this
  ·by_cases e:z=y
   ·subst e;rw[Lf];exact ar t aM
   ·exact U z t ((qp ae aH h2).2 ⟨bf,e⟩) aM
 ·rintro⟨⟨J,U⟩,ar⟩;refine⟨⟨fun v=>?_,fun z t bf aM=>U z t ((qp ae aH h2).1 bf).1 aM⟩,fun t aM=>by rw[ar];exact U y t aH aM⟩;unfold jn;split
  ·rename_i e;rw[J v,e,ar]
  ·exact J v
theorem akU{V:List Int}{ph:Int->Option T}(gK:oL V ph)(ae:ρ x=x)(aH:ρ y=y)(h2:x≠y){aQ:Int->T}(h:ko ph ρ aQ){z u:Int}(bf:z≠x)(he:jh ph (jn ρ x y) z u):(if u=x then 0 else(aQ u).size)<(if z=x then 0 else(aQ z).size):=by
 obtain⟨J,t,w,U,ar,rfl⟩:=he;have aJ:=(qp ae aH h2).1 J;rw[if_neg bf];split
 ·exact T.size_pos _
 ·rename_i cK;have:jn ρ x y w=ρ w:=by
   unfold jn at cK⊢;split
   ·rename_i e;rw[if_pos e]at cK;exact absurd rfl cK
   ·rfl
  rw[this];exact H9 gK h ⟨aJ.1,t,w,U,ar,rfl⟩
theorem YV(ae:ρ x=x)(aH:ρ y=y)(h2:x≠y)(vj:y∈cv c.up):iA (c.join x y) (jn ρ x y)<iA c ρ:=by have ad:cv (c.join x y).up=cv c.up:=Dt vj;have bK:(c.join x y).ph=c.ph:=rfl;unfold iA;rw[ad,bK];have J:=FK (V:=cv c.up) (v:=y) (p:=fun v=>decide (ρ v=v)) (q:=fun v=>decide (jn ρ x y v=v)) (fun z _ bf=>by simp only[e6]at bf⊢;exact((qp ae aH h2).1 bf).1) vj (by simp[aH]) (by simp only[gC];exact fun h=>((qp ae aH h2).1 h).2 rfl);have U:=FJ (V:=cv c.up) (p:=fun v=>decide (ρ v=v)&& !(c.ph v).isSome) (q:=fun v=>decide (jn ρ x y v=v)&& !(c.ph v).isSome) (fun z _ bf=>by simp only[cE,e6]at bf⊢;exact⟨((qp ae aH h2).1 bf.1).1,bf.2⟩);omega
end
theorem Bf{c:bt}{x:Int}(h:c.shd x=false):c.ph x=none:=by simp[bt.ph,h]
theorem Bg{c:bt}{x:Int}(h:¬c.shd x=false):c.ph x=some (c.shp x):=by simp[bt.ph];simpa using h
theorem RH{c:bt}{ρ:Int->Int}(hi:l8 c ρ){x y:Int}(ae:ρ x=x)(aH:ρ y=y)(h2:x<y)(Dv:x∈cv c.up)(vj:y∈cv c.up)
  (rec:∀(bT:bt) (lB:Int->Int),l8 bT lB->cv bT.up=cv c.up->iA bT lB<iA c ρ->∀a b:T,(∀w,a.occ w=true->w∈cv c.up)->(∀w,b.occ w=true->w∈cv c.up)->∃N o,(∀n,N<=n->gF n a b bT=some o)/\ji bT lB (fun aQ=>a.ap aQ=b.ap aQ) o):
  ∃N o,(∀n,N<=n->rP (gF n) n x y (c.join x y)=some o)/\ji c ρ (fun aQ=>aQ x=aQ y) o:=by
 have cK:x≠y:=Ω
 have ad:cv (c.join x y).up=cv c.up:=Dt vj;have bK:(c.join x y).ph=c.ph:=rfl;have ml:=hi.ru.join ae aH h2 Dv vj;have c4:=YV (c:=c) ae aH cK vj;have gK:oL (cv (c.join x y).up) (c.join x y).ph:=by rw[ad,bK];exact hi.sh
 obtain⟨lb,va⟩:=hi.sat
 have Gn:∀z u,z≠x->jh c.ph (jn ρ x y) z u->(fun z=>if z=x then 0 else(lb z).size) u<(fun z=>if z=x then 0 else(lb z).size) z:=fun z u bf he=>akU hi.sh ae aH cK va bf he;have lu:=fun aQ=>alH (ph:=c.ph) ae aH cK aQ;have TJ:∀{cp:bt},iM (jn ρ x y) (c.join x y) cp->(∃aQ,ko c.ph (jn ρ x y) aQ)->c.ph y=none->ji c ρ (fun aQ=>aQ x=aQ y) (true,cp):=by intro cp k ag ay;refine⟨k.keys.trans ad,k.rest,fun _=>⟨jn ρ x y,⟨k.ru,by simp only[k.keys,k.ph];exact gK,by simp only[k.ph];exact ag⟩,fun aQ=>?_,.inr (by simp only[xG k];exact c4)⟩,fun e=>by cases e⟩;simp only[k.ph,bK];rw[<-lu aQ];exact⟨fun h=>⟨h,fun t aM=>by rw[ay]at aM;cases aM⟩,fun h=>h.1⟩
 by_cases J:(c.join x y).shd y=false
 ·have Tx:c.ph y=none:=Bf J;by_cases U:(c.join x y).shd x=false
  ·have ha:c.ph x=none:=Bf U;refine⟨0,(true,c.join x y),fun n _=>by simp only[rP,if_pos J,if_pos U],TJ (iM.refl ml) ?_ Tx⟩;exact Ef ml.idem (x:=x) Gn fun u ⟨_,t,w,q,_⟩=>by rw[ha]at q;cases q
  ·have oh:c.ph x=some ((c.join x y).shp x):=Bg U;obtain⟨N,a,ao,aF,bA⟩:=HF (x:=x) (c:=c.join x y) (t:=(c.join x y).shp x) ml gK (by rw[ad];exact(hi.sh _ _ oh).2.1);refine⟨N,(!a.found,a.c),fun n ay=>by simp only[rP,if_pos J,if_neg U,ao n ay,oH],?_⟩;cases aR:a.found with
   |false=>refine TJ aF (Ef ml.idem (x:=x) Gn fun u ⟨_,t,w,a6,bD,bY⟩ aJ=>?_) Tx;rw[oh]at a6;cases a6;subst bY;have:=bA.2 ⟨w,bD,aJ⟩;rw[aR]at this;cases this
   |true=>refine⟨aF.keys.trans ad,aF.rest,(fun e=>by cases e),fun _ aQ ag he=>?_⟩;obtain⟨w,a6,bD⟩:=bA.1 aR;have fF:=((lu aQ).2 ⟨ag,he⟩).1;have ar:=Ia hi.sh fF bD;have a8:=(A6 aQ a6).2 (hi.sh _ _ oh).1;rw[<-fF.2 x _ ((qp ae aH cK).2 ⟨ae,cK⟩) oh]at a8;rw[<-fF.1 w]at ar;omega
 ·have oi:c.ph y=some ((c.join x y).shp y):=Bg J;by_cases U:(c.join x y).shd x=false
  ·have ha:c.ph x=none:=Bf U;have mi:l8 (c.join x y) (jn ρ x y):=⟨ml,gK,Ef ml.idem (x:=x) Gn fun u ⟨_,t,w,q,_⟩=>by rw[bK,ha]at q;cases q⟩;obtain⟨N,o,ao,aF⟩:=UF mi (x:=x) ((qp ae aH cK).2 ⟨ae,cK⟩) (by rw[ad];exact Dv) ha (t:=(c.join x y).shp y) (hi.sh _ _ oi).1 (by rw[ad];exact(hi.sh _ _ oi).2.1);refine⟨N,o,fun n ay=>by simp only[rP,if_neg J,if_pos U,ao n ay],aF.keys.trans ad,aF.rest,fun aR=>?_,fun aR aQ ag he=>?_⟩
   ·obtain⟨ρ',g1,g2,g3⟩:=aF.yes aR;refine⟨ρ',g1,fun aQ=>?_,.inr ?_⟩
    ·rw[g2 aQ,<-lu aQ];refine and_congr_right fun _=>⟨fun h t aM=>by rw[oi]at aM;cases aM;exact h,fun h=>h _ oi⟩
    ·rcases g3 with⟨rfl,g3⟩|g3
     ·have:iA o.2 (jn ρ x y)=iA (c.join x y) (jn ρ x y):=by unfold iA;rw[aF.keys,g3]
      omega
     ·omega
   ·obtain⟨s1,s2⟩:=(lu aQ).2 ⟨ag,he⟩;exact aF.no aR aQ s1 (s2 _ oi)
  ·have oh:c.ph x=some ((c.join x y).shp x):=Bg U;obtain⟨hO,a,ao,aF,bA⟩:=HF (x:=x) (c:=c.join x y) (t:=(c.join x y).shp y) ml gK (by rw[ad];exact(hi.sh _ _ oi).2.1);cases aR:a.found with
   |true=>refine⟨hO,(false,a.c),fun n ay=>by simp only[rP,if_neg J,if_neg U,ao n ay,jK,aR,if_true],aF.keys.trans ad,aF.rest,(fun e=>by cases e),fun _ aQ ag he=>?_⟩;obtain⟨w,a6,bD⟩:=bA.1 aR;obtain⟨fF,pM⟩:=(lu aQ).2 ⟨ag,he⟩;have ar:=Ia hi.sh fF bD;have a8:=(A6 aQ a6).2 (hi.sh _ _ oi).1;rw[<-pM _ oi]at a8;rw[<-fF.1 w]at ar;omega
   |false=>
    have TM:a.c.shp x=(c.join x y).shp x:=aF.shp x;obtain⟨jj,b,f1,f2,f3⟩:=HF (x:=x) (c:=a.c) (t:=(c.join x y).shp x) aF.ru (by rw[aF.keys,aF.ph];exact gK) (by rw[aF.keys,ad];exact(hi.sh _ _ oh).2.1);have ei:=aF.trans f2;cases aX:b.found with
    |true=>refine⟨max hO jj,(false,b.c),fun n ay=>by simp only[rP,if_neg J,if_neg U,ao n Ω,jK,aR,TM,f1 n Ω,aX,if_true,gO,if_false],ei.keys.trans ad,ei.rest,(fun e=>by cases e),fun _ aQ ag he=>?_⟩;obtain⟨w,a6,bD⟩:=f3.1 aX;obtain⟨fF,_⟩:=(lu aQ).2 ⟨ag,he⟩;rw[aF.ph]at bD;have ar:=Ia hi.sh fF bD;have a8:=(A6 aQ a6).2 (hi.sh _ _ oh).1;rw[<-fF.2 x _ ((qp ae aH cK).2 ⟨ae,cK⟩) oh]at a8;rw[<-fF.1 w]at ar;omega
    |false=>
     have Ai:l8 b.c (jn ρ x y):=by refine⟨ei.ru,by rw[ei.keys,ei.ph];exact gK,?_⟩;rw[ei.ph];refine Ef ml.idem (x:=x) Gn fun u ⟨_,t,w,a6,bD,bY⟩ aJ=>?_;rw[bK,oh]at a6;cases a6;subst bY;have:=f3.2 ⟨w,bD,by rw[aF.ph];exact aJ⟩;rw[aX]at this;cases this
     obtain⟨zt,o,g1,g2⟩:=rec b.c (jn ρ x y) Ai (ei.keys.trans ad) (by rw[xG ei];exact c4) ((c.join x y).shp x) ((c.join x y).shp y) (hi.sh _ _ oh).2.1 (hi.sh _ _ oi).2.1;refine⟨max (max hO jj) zt,o,fun n ay=>?_,g2.keys.trans (ei.keys.trans ad),?_,fun cu=>?_,fun cu aQ ag he=>?_⟩
     ·simp only[rP,if_neg J,if_neg U,ao n Ω,jK,aR,TM,f1 n Ω,aX,gO,if_false,ei.shp];exact g1 n Ω
     ·rw[g2.rest.1,g2.rest.2.1,g2.rest.2.2];exact ei.rest
     ·obtain⟨ρ',a6,bD,bY⟩:=g2.yes cu;refine⟨ρ',a6,fun aQ=>?_,.inr ?_⟩
      ·rw[bD aQ,ei.ph,bK,<-lu aQ];refine and_congr_right fun h=>?_;have:=h.2 x _ ((qp ae aH cK).2 ⟨ae,cK⟩) oh;rw[<-this];exact⟨fun h t aM=>by rw[oi]at aM;cases aM;exact h,fun h=>h _ oi⟩
      ·have:iA b.c (jn ρ x y)<iA c ρ:=by rw[xG ei];exact c4
       rcases bY with⟨rfl,bY⟩|bY
       ·have:iA o.2 (jn ρ x y)=iA b.c (jn ρ x y):=by unfold iA;rw[g2.keys,bY]
        omega
       ·omega
     ·obtain⟨s1,s2⟩:=(lu aQ).2 ⟨ag,he⟩;refine g2.no cu aQ (by rw[ei.ph];exact s1) ?_;have:=s1.2 x _ ((qp ae aH cK).2 ⟨ae,cK⟩) oh;rw[<-this];exact s2 _ oi
def uI:T->T->Nat
 | .var _,_=>1
 |_,.var _=>2
 |_,_=>0
theorem aab(K:Nat):∀(m:Nat) (c:bt) (ρ:Int->Int) (a b:T) (lb:Int->T),l8 c ρ->ko c.ph ρ lb->(∀w,a.occ w=true->w∈cv c.up)->(∀w,b.occ w=true->w∈cv c.up)->iA c ρ=K->((a.ap lb).size+(b.ap lb).size)*3+uI a b=m->
  ∃N o,(∀n,N<=n->gF n a b c=some o)/\ji c ρ (fun aQ=>a.ap aQ=b.ap aQ) o:=by
 induction K using rF with
 |ind K aga=>
 have TW:∀(bT:bt) (lB:Int->Int),l8 bT lB->iA bT lB<K->∀a b:T,(∀w,a.occ w=true->w∈cv bT.up)->(∀w,b.occ w=true->w∈cv bT.up)->∃N o,(∀n,N<=n->gF n a b bT=some o)/\ji bT lB (fun aQ=>a.ap aQ=b.ap aQ) o:=by
  intro bT lB J U a b bk ab;obtain⟨aQ,gL⟩:=J.sat
  exact aga _ U _ bT lB a b aQ J gL bk ab rfl rfl
 intro m;induction m using rF with
 |ind m AG=>
 intro c ρ a b lb hi va bk ab c4 hm;have afg:∀{a b:T},(∀n,gF (n+1) a b c=some (decide (a=b),c))->(∀aQ,a.ap aQ=a)->(∀aQ,b.ap aQ=b)->∃N o,(∀n,N<=n->gF n a b c=some o)/\ji c ρ (fun aQ=>a.ap aQ=b.ap aQ) o:=by
  intro a b J U ar;refine⟨1,(decide (a=b),c),fun n ay=>?_,rfl,⟨rfl,rfl,rfl⟩,fun h=>?_,fun h aQ _ he=>?_⟩
  ·obtain⟨n',rfl⟩:∃n',n=n'+1:=⟨n-1,Ω⟩;exact J n'
  ·simp only[e6]at h;subst h;exact⟨ρ,hi,fun aQ=>⟨fun h=>⟨h,rfl⟩,fun h=>h.1⟩,.inl ⟨rfl,rfl⟩⟩
  ·simp only[gC]at h;rw[U,ar]at he;exact h he
 have S4:∀{a b:T},(∀n,gF (n+1) a b c=some (decide (a=b),c))->(∀aQ,a.ap aQ≠b.ap aQ)->a≠b->∃N o,(∀n,N<=n->gF n a b c=some o)/\ji c ρ (fun aQ=>a.ap aQ=b.ap aQ) o:=by intro a b J U ar;refine⟨1,(false,c),fun n ay=>?_,rfl,⟨rfl,rfl,rfl⟩,(fun h=>by cases h),fun _ aQ _ he=>U aQ he⟩;obtain⟨n',rfl⟩:∃n',n=n'+1:=⟨n-1,Ω⟩;rw[J n',ij ar]
 have wI:∀(i:Int) (b:T),b.kind≠1->(∀n,gF (n+1) (.var i) b c=(rt c i).bind fun p=>if p.2.shd p.1=false then vi n p.1 b p.2 else gF n (p.2.shp p.1) b p.2)->i∈cv c.up->(∀w,b.occ w=true->w∈cv c.up)->((lb i).size+(b.ap lb).size)*3<m->∃N o,(∀n,N<=n->gF n (.var i) b c=some o)/\ji c ρ (fun aQ=>aQ i=b.ap aQ) o:=by
  intro i b oR S6 wR ab bs;obtain⟨bT,ao,aU⟩:=uc hi.ru wR;have mi:=hi.sm aU;by_cases ag:bT.shd (ρ i)=false
  ·obtain⟨N,o,aF,du⟩:=UF mi (x:=ρ i) (hi.ru.idem i) (by rw[aU.keys];exact(hi.ru.mem wR).1) (Bf ag) oR (by rw[aU.keys];exact ab);refine⟨N+1,o,fun n ay=>?_,ji.sm aU (ji.congr (fun aQ h=>?_) du)⟩
   ·obtain⟨n',rfl⟩:∃n',n=n'+1:=⟨n-1,Ω⟩;rw[S6,ao];simp only[jK,if_pos ag];exact aF n' Ω
   ·rw[<-h.1 i]
  ·have oh:bT.ph (ρ i)=some (bT.shp (ρ i)):=Bg ag;have lu:∀aQ,ko bT.ph ρ aQ->aQ i=(bT.shp (ρ i)).ap aQ:=fun aQ h=>by rw[h.1 i];exact h.2 _ _ (hi.ru.idem i) oh
   have hA:=(mi.sh _ _ oh).1;have aeR:uI (bT.shp (ρ i)) b=0:=by cases e:bT.shp (ρ i)<;>cases b<;>simp_all[uI,T.kind]
   have TV:ko bT.ph ρ lb:=by rw[aU.ph];exact va
   obtain⟨N,o,aF,du⟩:=AG (((bT.shp (ρ i)).ap lb).size*3+(b.ap lb).size*3) (by rw[<-lu lb TV];omega) bT ρ (bT.shp (ρ i)) b lb mi TV (mi.sh _ _ oh).2.1 (by rw[aU.keys];exact ab) (by rw[xG aU];exact c4) (by rw[aeR];omega);refine⟨N+1,o,fun n ay=>?_,ji.sm aU (ji.congr (fun aQ h=>?_) du)⟩
   ·obtain⟨n',rfl⟩:∃n',n=n'+1:=⟨n-1,Ω⟩;rw[S6,ao];simp only[jK,if_neg ag];exact aF n' Ω
   ·rw[lu aQ h]
 have Dd:∀(i j:Int),i∈cv c.up->j∈cv c.up->∃N o,(∀n,N<=n->gF n (.var i) (.var j) c=some o)/\ji c ρ (fun aQ=>aQ i=aQ j) o:=by
  intro i j wR GK;obtain⟨bT,ao,aU⟩:=uc hi.ru wR;obtain⟨cx,aF,bp⟩:=uc aU.ru (by rw[aU.keys];exact GK:j∈cv bT.up);have tL:=aU.trans bp;have hL:=hi.sm tL;have u3:ρ i∈cv cx.up:=by rw[tL.keys];exact(hi.ru.mem wR).1
  have Ti:ρ j∈cv cx.up:=by rw[tL.keys];exact(hi.ru.mem GK).1
  have wC:∀(bT:bt) (lB:Int->Int),l8 bT lB->cv bT.up=cv cx.up->iA bT lB<iA cx ρ->∀a b:T,(∀w,a.occ w=true->w∈cv cx.up)->(∀w,b.occ w=true->w∈cv cx.up)->∃N o,(∀n,N<=n->gF n a b bT=some o)/\ji bT lB (fun aQ=>a.ap aQ=b.ap aQ) o:=fun dy ρ3 J U ar a b bk ab=>TW dy ρ3 J (by rw[xG tL,c4]at ar;exact ar) a b (by rw[U];exact bk) (by rw[U];exact ab);rcases Int.lt_trichotomy (ρ i) (ρ j)with h|h|h
  ·obtain⟨N,o,bA,jd⟩:=RH hL (hi.ru.idem i) (hi.ru.idem j) h u3 Ti wC;refine⟨N+1,o,fun n ay=>?_,ji.sm tL (ji.congr (fun aQ h=>?_) jd)⟩
   ·obtain⟨n',rfl⟩:∃n',n=n'+1:=⟨n-1,Ω⟩;simp only[gF,ao,aF,jK];rw[if_neg Ω,if_neg Ω];exact bA n' Ω
   ·rw[h.1 i,h.1 j]
  ·refine⟨1,(true,cx),fun n ay=>?_,tL.keys,tL.rest,fun _=>⟨ρ,hL,fun aQ=>?_,.inl ⟨rfl,tL.ph⟩⟩,fun e=>by cases e⟩
   ·obtain⟨n',rfl⟩:∃n',n=n'+1:=⟨n-1,Ω⟩;simp only[gF,ao,aF,jK,if_pos h]
   ·simp only[tL.ph];exact⟨fun ag=>⟨ag,by rw[ag.1 i,ag.1 j,h]⟩,fun ag=>ag.1⟩
  ·obtain⟨N,o,bA,jd⟩:=RH hL (hi.ru.idem j) (hi.ru.idem i) h Ti u3 wC;refine⟨N+1,o,fun n ay=>?_,ji.sm tL (ji.congr (fun aQ h=>?_) jd)⟩
   ·obtain⟨n',rfl⟩:∃n',n=n'+1:=⟨n-1,Ω⟩;simp only[gF,ao,aF,jK];rw[if_neg Ω,if_pos h];exact bA n' Ω
   ·rw[h.1 i,h.1 j];exact⟨Eq.symm,Eq.symm⟩
 have Ax:∀(a:T) (j:Int),a.kind≠1->(∀n,gF (n+1) a (.var j) c=gF n (.var j) a c)->(∀n,gF (n+1) (.var j) a c=(rt c j).bind fun p=>if p.2.shd p.1=false then vi n p.1 a p.2 else gF n (p.2.shp p.1) a p.2)->j∈cv c.up->(∀w,a.occ w=true->w∈cv c.up)->((lb j).size+(a.ap lb).size)*3<m->∃N o,(∀n,N<=n->gF n a (.var j) c=some o)/\ji c ρ (fun aQ=>a.ap aQ=aQ j) o:=by intro a j J U ar GK bk bs;obtain⟨N,o,ao,c0⟩:=wI j a J ar GK bk bs;refine⟨N+1,o,fun n ay=>?_,ji.congr (fun aQ _=>⟨Eq.symm,Eq.symm⟩) c0⟩;obtain⟨n',rfl⟩:∃n',n=n'+1:=⟨n-1,Ω⟩;rw[U];exact ao n' Ω
 cases a with
 |var i=>
  have wR:i∈cv c.up:=bk i (by simp[T.occ]);cases b with
  |var j=>exact Dd i j wR (ab j (by simp[T.occ]))
  |_=>exact wI i _ (by simp[T.kind]) (fun n=>rfl) wR ab (by simp only[T.ap,uI]at hm⊢;omega)
 |pair bB a2=>
  cases b with
  |var j=>exact Ax _ j (by simp[T.kind]) (fun n=>rfl) (fun n=>rfl) (ab j (by simp[T.occ])) bk (by simp only[T.ap,uI]at hm⊢;omega)
  |pair ck ca=>
   have qe:∀p q:T,uI p q<=2:=fun p q=>by cases p<;>cases q<;>simp[uI]
   have ln:∀w,bB.occ w=true->w∈cv c.up:=fun w hw=>bk w (by simp[T.occ,hw]);have qc:∀w,a2.occ w=true->w∈cv c.up:=fun w hw=>bk w (by simp[T.occ,hw]);have j5:∀w,ck.occ w=true->w∈cv c.up:=fun w hw=>ab w (by simp[T.occ,hw]);have nC:∀w,ca.occ w=true->w∈cv c.up:=fun w hw=>ab w (by simp[T.occ,hw]);simp only[T.ap,T.size,uI]at hm;have f1:=qe bB ck;have f2:=qe a2 ca;obtain⟨hO,hf,ao,c0⟩:=AG _ (by rw[<-hm];omega) c ρ bB ck lb hi va ln j5 c4 rfl;obtain⟨ahN,bT⟩:=hf;cases ahN with
   |false=>refine⟨hO+1,(false,bT),fun n ay=>?_,c0.keys,c0.rest,(fun e=>by cases e),fun _ aQ ag he=>c0.no rfl aQ ag (by simp only[T.ap,T.pair.injEq]at he;exact he.1)⟩;obtain⟨n',rfl⟩:∃n',n=n'+1:=⟨n-1,Ω⟩;simp only[gF,ao n' Ω,jK,gO,if_false]
   |true=>
    obtain⟨lB,a6,bD,bY⟩:=c0.yes rfl;simp only at a6 bD bY;have yg:cv bT.up=cv c.up:=c0.keys;have C7:∃jj gU,(∀n,jj<=n->gF n a2 ca bT=some gU)/\ji bT lB (fun aQ=>a2.ap aQ=ca.ap aQ) gU:=by
     rcases bY with⟨rfl,bY⟩|bY
     ·exact AG _ (by rw[<-hm];omega) bT lB a2 ca lb a6 (by rw[bY];exact va) (by rw[yg];exact qc) (by rw[yg];exact nC) (by unfold iA;rw[yg,bY];exact c4) rfl
     ·exact TW bT lB a6 Ω a2 ca (by rw[yg];exact qc) (by rw[yg];exact nC)
    obtain⟨jj,gU,aF,du⟩:=C7;refine⟨max hO jj+1,gU,fun n ay=>?_,du.keys.trans yg,?_,fun aR=>?_,fun aR aQ ag he=>?_⟩
    ·obtain⟨n',rfl⟩:∃n',n=n'+1:=⟨n-1,Ω⟩;simp only[gF,ao n' Ω,jK,if_true];exact aF n' Ω
    ·rw[du.rest.1,du.rest.2.1,du.rest.2.2];exact c0.rest
    ·obtain⟨ρ2,s1,s2,s3⟩:=du.yes aR;refine⟨ρ2,s1,fun aQ=>?_,?_⟩
     ·rw[s2 aQ,bD aQ];simp only[T.ap,T.pair.injEq,and_assoc]
     ·rcases bY with⟨rfl,bY⟩|bY
      ·rcases s3 with⟨rfl,s3⟩|s3
       ·exact .inl ⟨rfl,s3.trans bY⟩
       ·have:iA bT lB=iA c lB:=by unfold iA;rw[yg,bY]
        exact .inr Ω
      ·rcases s3 with⟨rfl,s3⟩|s3
       ·have:iA gU.2 ρ2=iA bT ρ2:=by unfold iA;rw[du.keys,s3]
        exact .inr Ω
       ·exact .inr Ω
    ·simp only[T.ap,T.pair.injEq]at he;exact du.no aR aQ ((bD aQ).2 ⟨ag,he.1⟩) he.2
  |_=>exact S4 (fun n=>rfl) (fun aQ=>by simp[T.ap]) Ψ
 |_=>
  cases b with
  |var j=>exact Ax _ j (by simp[T.kind]) (fun n=>rfl) (fun n=>rfl) (ab j (by simp[T.occ])) bk (by simp only[T.ap,uI]at hm⊢;omega)
  |_=>first|exact afg (fun n=>rfl) (fun aQ=>rfl) (fun aQ=>rfl)|exact S4 (fun n=>rfl) (fun aQ=>by simp[T.ap]) Ψ
end
section
open Go
def zm(rec:Int->bt->Option (Bool×bt))(v:Int)(a:bt×Bool):Option (bt×Bool):=if a.2=true then(rt a.1 v).bind fun p=>(rec p.1 p.2).map fun q=>(q.2,q.1)else some a
def zd(v:Int)(c:bt):Option (Int×bt):=(rt c v).map fun p=>(p.2.sz p.1,p.2)
def bt.grey(c:bt)(x:Int):bt:={c with color:=eS x 1 c.color,size:=eS x 1 c.size}
def bt.black(c:bt)(x:Int):bt:={c with color:=eS x 2 c.color}
def qE:Nat->Int->bt->Option (Bool×bt)
 |0,_,_=>none
 |n+1,x,c=>if c.col x=2 then some (true,c)else if c.col x=1 then some (false,c)else
   if(c.grey x).shd x=false then some (true,(c.grey x).black x)else
   (((c.grey x).shp x).foldO (zm (qE n)) (c.grey x,true)).bind fun a=>if a.2=false then some (false,a.1)else
   (((a.1.shp x).sizeO zd a.1).map fun p=>(true,{p.2 with size:=eS x p.1 p.2.size}.black x))
def BP(rec:Int->bt->Option (T×bt))(v:Int)(c:bt):Option (T×bt):=(rt c v).bind fun p=>rec p.1 p.2
def qD:Nat->Int->bt->Option (T×bt)
 |0,_,_=>none
 |n+1,x,c=>match tg x c.full with
  |some t=>some (t,c)
  |none=>if c.shd x=false then some (.var x,{c with full:=eS x (.var x) c.full})else
   ((c.shp x).mapO (BP (qD n)) c).map fun p=>(p.1,{p.2 with full:=eS x p.1 p.2.full})
def sN(n:Nat):List Int->bt->List Int->Option (Option (List Int)×bt)
 |[],c,out=>some (some out,c)
 |v::ba,c,out=>(rt c v).bind fun p=>(qE n p.1 p.2).bind fun q=>if q.1=false then some (none,q.2)else
   if p.1=v/\q.2.shd p.1=false then sN n ba q.2 out else
   if 5000<q.2.sz p.1\/400<out.length+1 then some (none,q.2)else sN n ba q.2 (out++[v])
def ze(n:Nat):List Int->bt->Option (List ak×bt)
 |[],c=>some ([],c)
 |v::ba,c=>(rt c v).bind fun p=>(qD n p.1 p.2).bind fun q=>(ze n ba q.2).map fun r=>(⟨v,q.1⟩::r.1,r.2)
def En(n:Nat)(ba:List Int)(c:bt):Option (Option (List ak)):=(sN n ba c []).bind fun a=>match a.1 with
 |none=>some none
 |some out=>(ze n out a.2).map fun r=>some r.1
def p9(n:Nat):List (T×T)->bt->Option (Bool×bt)
 |[],c=>some (true,c)
 |e::es,c=>(AU e.1 c).bind fun bT=>(AU e.2 bT).bind fun cx=>(gF n e.1 e.2 cx).bind fun p=>if p.1=true then p9 n es p.2 else some (false,p.2)
theorem l8.rank{c:bt}{ρ:Int->Int}(h:l8 c ρ):∃r:Int->Nat,∀z u,jh c.ph ρ z u->r u<r z:=by
 obtain⟨aQ,gL⟩:=h.sat
 exact⟨fun z=>(aQ z).size,fun z u he=>H9 h.sh gL he⟩
structure ur (V:List Int) (ph:Int->Option T) (ρ:Int->Int) (c:bt):Prop where
 ru:jP c.up ρ
 keys:cv c.up=V
 ph:c.ph=ph
theorem ur.sm{V:List Int}{ph:Int->Option T}{ρ:Int->Int}{c cp:bt}(h:ur V ph ρ c)(k:iM ρ c cp):ur V ph ρ cp:=⟨k.ru,k.keys.trans h.keys,k.ph.trans h.ph⟩
def cut(n:Nat):Int:=if 5001<(n:Int)then 5001 else n
section
variable {V:List Int} {ph:Int->Option T} {ρ:Int->Int} {r:Int->Nat}
theorem alx(EL:Int->T):∀(t:T) (c:bt),ur V ph ρ c->(∀w,t.occ w=true->w∈V/\c.sz (ρ w)=cut (EL w).size)->∃cp,t.sizeO zd c=some (cut (t.ap EL).size,cp)/\iM ρ c cp:=by
 intro t;induction t with
 |var v=>
  intro c h aM;obtain⟨aC,bf⟩:=aM v (by simp[T.occ]);obtain⟨bT,J,U⟩:=uc h.ru (by rw[h.keys];exact aC:v∈cv c.up);refine⟨bT,?_,U⟩;have:bT.sz (ρ v)=cut (EL v).size:=by rw[<-bf,U.eq];rfl
  simp only[T.sizeO,zd,J,oH,this,T.ap,dC,jM,and_true];unfold cut;split<;>omega
 |pair a b dM dN=>
  intro c h aM;obtain⟨bT,J,aU⟩:=dM c h fun w hw=>aM w (by simp[T.occ,hw]);obtain⟨cx,U,bp⟩:=dN bT (h.sm aU) fun w hw=>⟨(aM w (by simp[T.occ,hw])).1,by rw[<-(aM w (by simp[T.occ,hw])).2,aU.eq];rfl⟩;have ab:=T.size_pos (b.ap EL);simp only[T.sizeO,J,jK,T.ap,T.size];by_cases aq:5000<cut (a.ap EL).size
  ·rw[if_pos aq];refine⟨bT,?_,aU⟩;simp only[dC,jM,and_true];unfold cut at aq⊢;split at aq<;>split<;>(try split)<;>omega
  ·rw[if_neg aq,U];refine⟨cx,?_,aU.trans bp⟩;simp only[oH,dC,jM,and_true];unfold cut at aq⊢;split at aq<;>(repeat' split)<;>omega
 |_=>intro c h aM;exact⟨c,by simp[T.sizeO,T.ap,T.size,cut],iM.refl h.ru⟩
structure qM (V:List Int) (ph:Int->Option T) (ρ:Int->Int) (r:Int->Nat) (d:Nat) (c:bt):Prop where
 fin:ur V ph ρ c
 col:∀z,r z<d->c.col z=0\/(c.col z=2/\c.sz z=cut (gZ ph ρ r z).size)
structure nq (ph:Int->Option T) (ρ:Int->Int) (r:Int->Nat) (d:Nat) (c cp:bt):Prop where
 full:cp.full=c.full
 hi:∀z,d<=r z->cp.col z=c.col z/\cp.sz z=c.sz z
 lo:∀z,c.col z=2->cp.col z=2/\cp.sz z=c.sz z
theorem nq.refl{c:bt}{d:Nat}:nq ph ρ r d c c:=⟨rfl,fun _ _=>⟨rfl,rfl⟩,fun _ h=>⟨h,rfl⟩⟩
theorem nq.trans{a b c:bt}{d:Nat}(h:nq ph ρ r d a b)(k:nq ph ρ r d b c):nq ph ρ r d a c:=⟨k.full.trans h.full,fun z bf=>⟨(k.hi z bf).1.trans (h.hi z bf).1,(k.hi z bf).2.trans (h.hi z bf).2⟩,fun z bf=>⟨(k.lo z (h.lo z bf).1).1,(k.lo z (h.lo z bf).1).2.trans (h.lo z bf).2⟩⟩
theorem nq.mono{a b:bt}{d cl:Nat}(aN:d<=cl)(h:nq ph ρ r d a b):nq ph ρ r cl a b:=⟨h.full,fun z bf=>h.hi z Ω,h.lo⟩
theorem nq.sm{c cp:bt}{d:Nat}(k:iM ρ c cp):nq ph ρ r d c cp:=by
 have ao:∀z,cp.col z=c.col z:=fun z=>by rw[k.eq];rfl
 have aF:∀z,cp.sz z=c.sz z:=fun z=>by rw[k.eq];rfl
 exact⟨k.rest.2.2,fun z _=>⟨ao z,aF z⟩,fun z h=>⟨by rw[ao];exact h,aF z⟩⟩
theorem qM.sm{c cp:bt}{d:Nat}(h:qM V ph ρ r d c)(k:iM ρ c cp):qM V ph ρ r d cp:=by
 have ao:∀z,cp.col z=c.col z:=fun z=>by rw[k.eq];rfl
 have aF:∀z,cp.sz z=c.sz z:=fun z=>by rw[k.eq];rfl
 exact⟨h.fin.sm k,fun z bf=>by rw[ao,aF];exact h.col z bf⟩
theorem anq(gK:oL V ph)(eZ:∀v,ρ (ρ v)=ρ v)(aJ:∀z u,jh ph ρ z u->r u<r z)(d:Nat):∀(x:Int) (c:bt),r x<d->ρ x=x->x∈V->qM V ph ρ r d c->
  ∃N cp,(∀n,N<=n->qE n x c=some (true,cp))/\qM V ph ρ r d cp/\nq ph ρ r (r x+1) c cp/\cp.col x=2/\cp.sz x=cut (gZ ph ρ r x).size:=by
 induction d using rF with
 |ind d bU=>
 intro x c aN ae jA hw;rcases hw.col x aN with bE|⟨U,ar⟩;rotate_left
 ·refine⟨1,c,fun n ay=>?_,hw,nq.refl,U,ar⟩;obtain⟨n',rfl⟩:∃n',n=n'+1:=⟨n-1,Ω⟩;simp only[qE,if_pos U]
 have x5:∀z,(c.grey x).col z=if z=x then 1 else c.col z:=fun z=>by simp only[bt.grey,bt.col,nh];split<;>rfl
 have Cz:∀z,(c.grey x).sz z=if z=x then 1 else c.sz z:=fun z=>by simp only[bt.grey,bt.sz,nh];split<;>rfl
 have zZ:ur V ph ρ (c.grey x):=⟨hw.fin.ru,hw.fin.keys,hw.fin.ph⟩;have af4:qM V ph ρ r (r x) (c.grey x):=⟨zZ,fun z bf=>by
  have cK:z≠x:=fun e=>by subst e;omega
  rw[x5,Cz,if_neg cK,if_neg cK];exact hw.col z Ω⟩
 have CY:¬c.col x=2:=Ω
 have sb:¬c.col x=1:=Ω
 have e8:∀(e:bt) (z:Int),(e.black x).col z=(if z=x then 2 else e.col z):=fun e z=>by simp only[bt.black,bt.col,nh];split<;>rfl
 by_cases ag:(c.grey x).shd x=false
 ·have jD:ph x=none:=by rw[<-zZ.ph];exact Bf ag
  have aX:gZ ph ρ r x= .var x:=by rw[Cy (by rw[ae];exact jD),ae]
  have dS:∀z,((c.grey x).black x).sz z=if z=x then 1 else c.sz z:=Cz
  refine⟨1,(c.grey x).black x,fun n ay=>?_,⟨⟨zZ.ru,zZ.keys,zZ.ph⟩,fun z bf=>?_⟩,⟨rfl,fun z bf=>?_,fun z bf=>?_⟩,?_,?_⟩
  ·obtain⟨n',rfl⟩:∃n',n=n'+1:=⟨n-1,Ω⟩;simp only[qE,if_neg CY,if_neg sb,if_pos ag]
  ·rw[e8,dS,x5];by_cases e:z=x
   ·subst e;simp only[if_true,aX];exact .inr ⟨trivial,by simp[T.size,cut]⟩
   ·simp only[if_neg e];exact hw.col z bf
  ·have e:z≠x:=fun e=>by subst e;omega
   rw[e8,dS,x5];simp only[if_neg e];exact⟨trivial,trivial⟩
  ·have e:z≠x:=fun e=>by subst e;omega
   rw[e8,dS,x5];simp only[if_neg e];exact⟨bf,trivial⟩
  ·rw[e8,if_pos rfl]
  ·rw[dS,if_pos rfl,aX];simp[T.size,cut]
 ·have jD:ph x=some ((c.grey x).shp x):=by rw[<-zZ.ph];exact Bg ag
  obtain⟨g1,g2,g3⟩:=gK _ _ jD;have aeT:∀(t:T) (e:bt),(∀w,t.occ w=true->((c.grey x).shp x).occ w=true)->qM V ph ρ r (r x) e->∃N fo,(∀n,N<=n->t.foldO (zm (qE n)) (e,true)=some (fo,true))/\qM V ph ρ r (r x) fo/\nq ph ρ r (r x) e fo/\∀w,t.occ w=true->fo.col (ρ w)=2/\fo.sz (ρ w)=cut (gZ ph ρ r w).size:=by
   intro t;induction t with
   |var v=>intro e mm he;have aC:=g2 v (mm v (by simp[T.occ]));have wD:r (ρ v)<r x:=aJ x (ρ v) ⟨ae,_,v,jD,mm v (by simp[T.occ]),rfl⟩;obtain⟨ao,a6,aU⟩:=uc he.fin.ru (by rw[he.fin.keys];exact aC:v∈cv e.up);obtain⟨N,aF,bD,dP,du,cx,s2⟩:=bU (r x) aN (ρ v) ao wD (eZ v) (by rw[<-he.fin.keys];exact(he.fin.ru.mem (by rw[he.fin.keys];exact aC)).1) (he.sm aU);refine⟨N,aF,fun n ay=>by simp[T.foldO,zm,a6,bD n ay],dP,(nq.sm aU).trans (du.mono Ω),fun w hw=>?_⟩;simp[T.occ]at hw;subst hw;exact⟨cx,by rw[s2,<-z1 eZ]⟩
   |pair a b dM dN=>
    intro e mm he;obtain⟨hO,ao,a6,eV,c0,s1⟩:=dM e (fun w hw=>mm w (by simp[T.occ,hw])) he;obtain⟨jj,aF,bD,dP,du,s2⟩:=dN ao (fun w hw=>mm w (by simp[T.occ,hw])) eV;refine⟨max hO jj,aF,fun n ay=>by simp only[T.foldO];rw[a6 n Ω];exact bD n Ω,dP,c0.trans du,fun w hw=>?_⟩;simp only[T.occ,l4]at hw;rcases hw with hw|hw
    ·obtain⟨la,z2⟩:=s1 w hw;exact⟨(du.lo _ la).1,by rw[(du.lo _ la).2];exact z2⟩
    ·exact s2 w hw
   |_=>intro e _ he;exact⟨0,e,fun n _=>rfl,he,nq.refl,fun w hw=>by simp[T.occ]at hw⟩
  obtain⟨N,e,a6,eV,c0,s1⟩:=aeT ((c.grey x).shp x) (c.grey x) (fun w h=>h) af4;have afO:e.shp x=(c.grey x).shp x:=by
   have J:e.ph x=some ((c.grey x).shp x):=by rw[eV.fin.ph];exact jD
   unfold bt.ph at J;split at J
   ·exact eJ J
   ·cases J
  obtain⟨aF,bD,bp⟩:=alx (V:=V) (ph:=ph) (ρ:=ρ) (gZ ph ρ r) ((c.grey x).shp x) e eV.fin (fun w hw=>⟨g2 w hw,(s1 w hw).2⟩);have nH:gZ ph ρ r x=((c.grey x).shp x).ap (gZ ph ρ r):=z6 eZ aJ (by rw[ae];exact jD);have Gh:=c0.trans (nq.sm (ph:=ph) (r:=r) (d:=r x) bp);have dP:=eV.sm bp;let bA:bt:={aF with size:=eS x (cut (gZ ph ρ r x).size) aF.size}.black x
  have dy:∀z,bA.col z=if z=x then 2 else aF.col z:=fun z=>e8 _ z
  have s3:∀z,bA.sz z=if z=x then cut (gZ ph ρ r x).size else aF.sz z:=fun z=>by show(tg z (eS x _ aF.size)).getD 0=_;rw[nh];split<;>rfl
  refine⟨N+1,bA,fun n ay=>?_,⟨⟨dP.fin.ru,dP.fin.keys,dP.fin.ph⟩,fun z bf=>?_⟩,⟨Gh.full,fun z bf=>?_,fun z bf=>?_⟩,by rw[dy,if_pos rfl],by rw[s3,if_pos rfl]⟩
  ·obtain⟨n',rfl⟩:∃n',n=n'+1:=⟨n-1,Ω⟩;simp only[qE,if_neg CY,if_neg sb,if_neg ag,a6 n' Ω,jK,Bool.true_eq_false,if_false,afO,bD,oH,nH,bA]
  ·rw[dy,s3];by_cases n7:z=x
   ·subst n7;simp only[if_true];exact .inr ⟨trivial,trivial⟩
   ·simp only[if_neg n7];by_cases bs:r z<r x
    ·exact dP.col z bs
    ·obtain⟨bB,a2⟩:=Gh.hi z Ω;rw[bB,a2,x5,Cz,if_neg n7,if_neg n7];exact hw.col z bf
  ·have n7:z≠x:=fun e=>by subst e;omega
   obtain⟨bB,a2⟩:=Gh.hi z Ω;rw[dy,s3,if_neg n7,if_neg n7,bB,a2,x5,Cz,if_neg n7,if_neg n7];exact⟨rfl,rfl⟩
  ·have n7:z≠x:=fun e=>by subst e;omega
   obtain⟨bB,a2⟩:=Gh.lo z (by rw[x5,if_neg n7];exact bf);rw[dy,s3,if_neg n7,if_neg n7,bB,a2,Cz,if_neg n7];exact⟨rfl,rfl⟩
structure rI (V:List Int) (ph:Int->Option T) (ρ:Int->Int) (r:Int->Nat) (c:bt):Prop where
 fin:ur V ph ρ c
 full:∀x t,tg x c.full=some t->t=gZ ph ρ r x
theorem rI.sm{c cp:bt}(h:rI V ph ρ r c)(k:iM ρ c cp):rI V ph ρ r cp:=⟨h.fin.sm k,by rw[k.rest.2.2];exact h.full⟩
theorem ano(gK:oL V ph)(eZ:∀v,ρ (ρ v)=ρ v)(aJ:∀z u,jh ph ρ z u->r u<r z)(d:Nat):∀(x:Int) (c:bt),r x<d->ρ x=x->x∈V->rI V ph ρ r c->
  ∃N cp,(∀n,N<=n->qD n x c=some (gZ ph ρ r x,cp))/\rI V ph ρ r cp:=by
 induction d with
 |zero=>intro x c h;omega
 |succ d bU=>
 intro x c aN ae jA aC;cases aR:tg x c.full with
 |some t=>refine⟨1,c,fun n ay=>?_,aC⟩;obtain⟨n',rfl⟩:∃n',n=n'+1:=⟨n-1,Ω⟩;simp only[qD,aR,aC.full x t aR]
 |none=>
  have TE:∀(e:bt),rI V ph ρ r e->rI V ph ρ r {e with full:=eS x (gZ ph ρ r x) e.full}:=fun e he=>⟨⟨he.fin.ru,he.fin.keys,he.fin.ph⟩,fun z t bf=>by
   have sn:tg z (eS x (gZ ph ρ r x) e.full)=some t:=bf;rw[nh]at sn;split at sn
   ·rename_i e;subst e;cases sn;rfl
   ·exact he.full z t sn⟩
  by_cases ag:c.shd x=false
  ·have jD:ph x=none:=by rw[<-aC.fin.ph];exact Bf ag
   have aX:gZ ph ρ r x= .var x:=by rw[Cy (by rw[ae];exact jD),ae]
   refine⟨1,_,fun n ay=>?_,TE c aC⟩;obtain⟨n',rfl⟩:∃n',n=n'+1:=⟨n-1,Ω⟩;simp only[qD,aR,if_pos ag,aX]
  ·have jD:ph x=some (c.shp x):=by rw[<-aC.fin.ph];exact Bg ag
   obtain⟨g1,g2,g3⟩:=gK _ _ jD;have afl:∀(t:T) (e:bt),(∀w,t.occ w=true->(c.shp x).occ w=true)->rI V ph ρ r e->∃N fo,(∀n,N<=n->t.mapO (BP (qD n)) e=some (t.ap (gZ ph ρ r),fo))/\rI V ph ρ r fo:=by
    intro t;induction t with
    |var v=>intro e mm he;have wH:=g2 v (mm v (by simp[T.occ]));have wD:r (ρ v)<r x:=aJ x (ρ v) ⟨ae,_,v,jD,mm v (by simp[T.occ]),rfl⟩;obtain⟨ao,a6,aU⟩:=uc he.fin.ru (by rw[he.fin.keys];exact wH:v∈cv e.up);obtain⟨N,aF,bD,dP⟩:=bU (ρ v) ao Ω (eZ v) (by rw[<-he.fin.keys];exact(he.fin.ru.mem (by rw[he.fin.keys];exact wH)).1) (he.sm aU);exact⟨N,aF,fun n ay=>by simp only[T.mapO,BP,a6,jK,bD n ay,T.ap];rw[<-z1 eZ],dP⟩
    |pair a b dM dN=>intro e mm he;obtain⟨hO,ao,a6,eV⟩:=dM e (fun w hw=>mm w (by simp[T.occ,hw])) he;obtain⟨jj,aF,bD,dP⟩:=dN ao (fun w hw=>mm w (by simp[T.occ,hw])) eV;exact⟨max hO jj,aF,fun n ay=>by simp only[T.mapO,a6 n Ω,jK,bD n Ω,oH,T.ap],dP⟩
    |_=>intro e _ he;exact⟨0,e,fun n _=>rfl,he⟩
   obtain⟨N,e,a6,eV⟩:=afl (c.shp x) c (fun w h=>h) aC;have nH:gZ ph ρ r x=(c.shp x).ap (gZ ph ρ r):=z6 eZ aJ (by rw[ae];exact jD);refine⟨N+1,_,fun n ay=>?_,TE e eV⟩;obtain⟨n',rfl⟩:∃n',n=n'+1:=⟨n-1,Ω⟩;simp only[qD,aR,if_neg ag,a6 n' Ω,oH,nH]
def n3(ph:Int->Option T)(ρ:Int->Int)(v:Int):Bool:= !(decide (ρ v=v)&&(ph v).isNone)
theorem alA(gK:oL V ph)(eZ:∀v,ρ (ρ v)=ρ v)(aJ:∀z u,jh ph ρ z u->r u<r z)(hB:∀v∈V,ρ v∈V):∀(ba:List Int) (c:bt) (out:List Int),(∀v∈ba,v∈V)->(∀d,qM V ph ρ r d c)->out.length<=400->(∀v∈out,(gZ ph ρ r v).size<=5000)->
  ∃N cp o,(∀n,N<=n->sN n ba c out=some (o,cp))/\ur V ph ρ cp/\cp.full=c.full/\(∀l,o=some l->l=out++ba.filter (n3 ph ρ)/\l.length<=400/\∀v∈l,(gZ ph ρ r v).size<=5000)/\(o=none->¬((out++ba.filter (n3 ph ρ)).length<=400/\∀v∈out++ba.filter (n3 ph ρ),(gZ ph ρ r v).size<=5000)):=by
 intro ba;induction ba with
 |nil=>intro c out _ hw J U;exact⟨0,c,some out,fun n _=>rfl,(hw 0).fin,rfl,fun l e=>by cases e;simp;exact⟨J,U⟩,fun e=>by cases e⟩
 |cons v ba bU=>
  intro c out aC hw J U;have wH:=aC v Ψ;obtain⟨bT,a6,aU⟩:=uc (hw 0).fin.ru (by rw[(hw 0).fin.keys];exact wH:v∈cv c.up);have yw:∀d,qM V ph ρ r d bT:=fun d=>(hw d).sm aU;obtain⟨hO,cx,bD,dP,du,aF,s2⟩:=anq gK eZ aJ (r (ρ v)+1) (ρ v) bT Ω (eZ v) (hB v wH) (yw _);have mS:∀d,qM V ph ρ r d cx:=fun d=>⟨dP.fin,fun z bf=>by
   by_cases bs:r z<r (ρ v)+1
   ·exact dP.col z bs
   ·obtain⟨bB,a2⟩:=du.hi z Ω;rw[bB,a2];exact(yw d).col z bf⟩
  have KH:cx.full=c.full:=du.full.trans aU.rest.2.2;have TK:(cx.shd (ρ v)=false)=((ph (ρ v)).isNone=true):=by rw[<-dP.fin.ph];unfold bt.ph;cases cx.shd (ρ v)<;>simp
  have jW:∀n,hO<=n->sN n (v::ba) c out=(if ρ v=v/\cx.shd (ρ v)=false then sN n ba cx out else if 5000<cx.sz (ρ v)\/400<out.length+1 then some (none,cx)else sN n ba cx (out++[v])):=fun n ay=>by simp only[sN,a6,jK,bD n ay,Bool.true_eq_false,if_false]
  have Te:gZ ph ρ r (ρ v)=gZ ph ρ r v:=(z1 eZ v).symm;by_cases aq:ρ v=v/\cx.shd (ρ v)=false
  ·have ab:n3 ph ρ v=false:=by have ar:=aq.2;rw[TK]at ar;rw[aq.1]at ar;simp[n3,aq.1,ar]
   obtain⟨jj,dy,o,bY,f3,qC,Iv,jr⟩:=bU cx out (fun w hw=>aC w (by simp[hw])) mS J U;refine⟨max hO jj,dy,o,fun n ay=>by rw[jW n Ω,if_pos aq];exact bY n Ω,f3,qC.trans KH,?_,?_⟩
   ·simp only[List.filter_cons,ab,gO,if_false];exact Iv
   ·simp only[List.filter_cons,ab,gO,if_false];exact jr
  ·have ab:n3 ph ρ v=true:=by
    cases e:n3 ph ρ v with
    |true=>rfl
    |false=>simp only[n3,Bool.not_eq_false',cE,e6]at e;exact absurd ⟨e.1,by rw[TK,e.1];exact e.2⟩ aq
   by_cases av:5000<cx.sz (ρ v)\/400<out.length+1
   ·refine⟨hO,cx,none,fun n ay=>by rw[jW n ay,if_neg aq,if_pos av],dP.fin,KH,(fun l e=>by cases e),fun _=>?_⟩;simp only[List.filter_cons,ab,if_true];rintro⟨bB,a2⟩;rcases av with av|av
    ·rw[s2,Te]at av;have:=a2 v Ψ;unfold cut at av;split at av<;>omega
    ·simp at bB;omega
   ·have bf:(gZ ph ρ r v).size<=5000:=by have:¬5000<cx.sz (ρ v):=fun h=>av (.inl h);rw[s2,Te]at this;unfold cut at this;split at this<;>omega
    obtain⟨jj,dy,o,bY,f3,qC,Iv,jr⟩:=bU cx (out++[v]) (fun w hw=>aC w (by simp[hw])) mS d7 (fun w hw=>by
     rcases ih.1 hw with hw|hw
     ·exact U w hw
     ·simp at hw;subst hw;exact bf)
    refine⟨max hO jj,dy,o,fun n ay=>by rw[jW n Ω,if_neg aq,if_neg av];exact bY n Ω,f3,qC.trans KH,?_,?_⟩
    ·simp only[List.filter_cons,ab,if_true];simpa using Iv
    ·simp only[List.filter_cons,ab,if_true];simpa using jr
theorem alB(gK:oL V ph)(eZ:∀v,ρ (ρ v)=ρ v)(aJ:∀z u,jh ph ρ z u->r u<r z)(hB:∀v∈V,ρ v∈V):∀(ba:List Int) (c:bt),(∀v∈ba,v∈V)->rI V ph ρ r c->∃N cp,∀n,N<=n->ze n ba c=some (ba.map fun v=>⟨v,gZ ph ρ r v⟩,cp):=by
 intro ba;induction ba with
 |nil=>intro c _ _;exact⟨0,c,fun n _=>rfl⟩
 |cons v ba bU=>intro c aC hw;have wH:=aC v Ψ;obtain⟨bT,a6,aU⟩:=uc hw.fin.ru (by rw[hw.fin.keys];exact wH:v∈cv c.up);obtain⟨hO,cx,bD,dP⟩:=ano gK eZ aJ (r (ρ v)+1) (ρ v) bT Ω (eZ v) (hB v wH) (hw.sm aU);obtain⟨jj,dy,bY⟩:=bU cx (fun w hw=>aC w (by simp[hw])) dP;refine⟨max hO jj,dy,fun n ay=>?_⟩;simp only[ze,a6,jK,bD n Ω,bY n Ω,oH,hk];rw[<-z1 eZ]
end
end
section
open Go
def bt.new:bt:=⟨[],[],[],[],[],[]⟩
def rk(l:List Int):List Int:=l.mergeSort fun x y=>decide (x<=y)
def BB(n:Nat)(E:List (T×T)):Option (Option (List ak)):=(p9 n E bt.new).bind fun p=>if p.1=false then some none else En n (rk (cv p.2.up)) p.2
theorem Es(l:List Int):(rk l).Perm l:=List.mergeSort_perm l _
theorem alQ{l:List Int}(h:l.Nodup):(rk l).Pairwise (· < ·):=by have J:(rk l).Pairwise fun x y=>decide (x<=y)=true:=List.pairwise_mergeSort (fun a b c=>by simp;omega) (fun a b=>by simp;omega) l;have U:(rk l).Pairwise (· ≠ ·):=List.nodup_iff_pairwise_ne.1 ((Es l).nodup_iff.2 h);exact(J.and U).imp fun h=>by simp at h;omega
structure Y0 (c:bt) (ρ:Int->Int) (cp:bt) (Vy:Int->Prop):Prop where
 inv:l8 cp ρ
 ph:cp.ph=c.ph
 nd:(cv cp.up).Nodup
 sub:∀v∈cv c.up,v∈cv cp.up
 occ:∀v,Vy v->v∈cv cp.up
 rest:cp.color=c.color/\cp.size=c.size/\cp.full=c.full
 new:∀v∈cv cp.up,v∈cv c.up\/Vy v
theorem U1{ρ:Int->Int}(t:T):∀(c:bt),l8 c ρ->(cv c.up).Nodup->(∀v,t.occ v=true->0<=v)->∃cp,AU t c=some cp/\Y0 c ρ cp fun v=>t.occ v=true:=by
 unfold AU;induction t with
 |var v=>
  intro c hi ay bE;by_cases aC:v∈cv c.up
  ·obtain⟨bT,a6,aU⟩:=uc hi.ru aC;refine⟨bT,by simp[T.foldO,a6],hi.sm aU,aU.ph,by rw[aU.keys];exact ay,fun w hw=>by rw[aU.keys];exact hw,fun w hw=>?_,aU.rest,fun w hw=>.inl (by rw[aU.keys]at hw;exact hw)⟩;simp[T.occ]at hw;subst hw;rw[aU.keys];exact aC
  ·obtain⟨a6,bD,bY⟩:=ak6 hi.ru (bE v (by simp[T.occ])) aC;refine⟨{c with up:=eS v v c.up},by simp only[T.foldO,a6,oH],⟨bD,?_,hi.sat⟩,rfl,?_,fun w hw=>by rw[bY];simp[hw],fun w hw=>?_,⟨rfl,rfl,rfl⟩,fun w hw=>?_⟩
   ·intro x u ae;obtain⟨bB,a2,a3⟩:=hi.sh x u ae;refine⟨bB,fun w hw=>?_,?_⟩
    ·show w∈cv (eS v v c.up);rw[bY];simp[a2 w hw]
    ·show x∈cv (eS v v c.up);rw[bY];simp[a3]
   ·rw[bY];rw[List.nodup_append];exact⟨ay,Ψ,fun a bk b ab e=>by simp at ab;subst ab;subst e;exact aC bk⟩
   ·simp[T.occ]at hw;subst hw;rw[bY];simp
   ·rw[bY]at hw;simp at hw;rcases hw with hw|rfl;exact .inl hw;exact .inr (by simp[T.occ])
 |pair a b dM dN=>
  intro c hi ay bE;obtain⟨bT,a6,m1⟩:=dM c hi ay fun v aC=>bE v (by simp[T.occ,aC]);obtain⟨cx,bD,m2⟩:=dN bT m1.inv m1.nd fun v aC=>bE v (by simp[T.occ,aC]);refine⟨cx,by simp only[T.foldO,a6,jK,bD],m2.inv,m2.ph.trans m1.ph,m2.nd,fun v aC=>m2.sub v (m1.sub v aC),fun v aC=>?_,?_,fun v aC=>?_⟩
  ·simp only[T.occ,l4]at aC;rcases aC with aC|aC
   ·exact m2.sub v (m1.occ v aC)
   ·exact m2.occ v aC
  ·rw[m2.rest.1,m2.rest.2.1,m2.rest.2.2];exact m1.rest
  ·rcases m2.new v aC with h|h
   ·rcases m1.new v h with h|h
    ·exact .inl h
    ·exact .inr (by simp[T.occ,h])
   ·exact .inr (by simp[T.occ,h])
 |_=>intro c hi ay bE;exact⟨c,rfl,hi,rfl,ay,fun v aC=>aC,fun v aC=>by simp[T.occ]at aC,⟨rfl,rfl,rfl⟩,fun v aC=>.inl aC⟩
def Mg(E:List (T×T)):Prop:= ∀e∈E,∀v,(e.1.occ v=true\/e.2.occ v=true)->0<=v
theorem Ck:∀(E:List (T×T)) (c:bt) (ρ:Int->Int),l8 c ρ->(cv c.up).Nodup->Mg E->∃N o,(∀n,N<=n->p9 n E c=some o)/\((o.2.color=c.color/\o.2.size=c.size/\o.2.full=c.full)/\∀v∈cv o.2.up,v∈cv c.up\/ ∃e∈E,e.1.occ v=true\/e.2.occ v=true)/\(o.1=true->∃ρ',l8 o.2 ρ'/\(cv o.2.up).Nodup/\∀aQ,ko o.2.ph ρ' aQ↔ko c.ph ρ aQ/\jQ E aQ)/\(o.1=false->∀aQ,ko c.ph ρ aQ->¬jQ E aQ):=by
 intro E;induction E with
 |nil=>intro c ρ hi ay _;exact⟨0,(true,c),fun n _=>rfl,⟨⟨rfl,rfl,rfl⟩,fun v aC=>.inl aC⟩,fun _=>⟨ρ,hi,ay,fun aQ=>⟨fun h=>⟨h,Ep aQ⟩,fun h=>h.1⟩⟩,fun e=>by cases e⟩
 |cons e E bU=>
  intro c ρ hi ay bE;obtain⟨bT,a6,m1⟩:=U1 e.1 c hi ay fun v aC=>bE e Ψ v (.inl aC);obtain⟨cx,bD,m2⟩:=U1 e.2 bT m1.inv m1.nd fun v aC=>bE e Ψ v (.inr aC);obtain⟨lb,va⟩:=m2.inv.sat
  obtain⟨hO,hf,bY,jd⟩:=aab _ _ cx ρ e.1 e.2 lb m2.inv va (fun w hw=>m2.sub w (m1.occ w hw)) (fun w hw=>m2.occ w hw) rfl rfl;have jD:cx.ph=c.ph:=m2.ph.trans m1.ph;have mQ:hf.2.color=c.color/\hf.2.size=c.size/\hf.2.full=c.full:=by rw[jd.rest.1,jd.rest.2.1,jd.rest.2.2,m2.rest.1,m2.rest.2.1,m2.rest.2.2];exact m1.rest
  have F9:∀v∈cv hf.2.up,v∈cv c.up\/e.1.occ v=true\/e.2.occ v=true:=fun v aC=>by
   rw[jd.keys]at aC;rcases m2.new v aC with h|h
   ·rcases m1.new v h with h|h
    ·exact .inl h
    ·exact .inr (.inl h)
   ·exact .inr (.inr h)
  obtain⟨f,dy⟩:=hf;cases f with
  |false=>refine⟨hO,(false,dy),fun n ay=>?_,⟨mQ,fun v aC=>(F9 v aC).imp id fun h=>⟨e,Ψ,h⟩⟩,(fun e=>by cases e),fun _ aQ ag he=>jd.no rfl aQ (by rw[jD];exact ag) (ri.1 he).1⟩;simp only[p9,a6,bD,jK,bY n ay,gO,if_false]
  |true=>
   obtain⟨lB,bB,a2,_⟩:=jd.yes rfl;simp only at bB a2;obtain⟨jj,gU,ck,ca,gf,uD⟩:=bU dy lB bB (by have:=jd.keys;simp only at this;rw[this];exact m2.nd) fun fo he=>bE fo (by simp[he]);refine⟨max hO jj,gU,fun n ay=>?_,?_,fun aR=>?_,fun aR aQ ag he=>?_⟩
   ·simp only[p9,a6,bD,jK,bY n Ω,if_true];exact ck n Ω
   ·refine⟨by rw[ca.1.1,ca.1.2.1,ca.1.2.2];exact mQ,fun v aC=>?_⟩;rcases ca.2 v aC with h|⟨fo,J,U⟩
    ·exact(F9 v h).imp id fun h=>⟨e,Ψ,h⟩
    ·exact .inr ⟨fo,by simp[J],U⟩
   ·obtain⟨ρ2,d1,d2,d3⟩:=gf aR;exact⟨ρ2,d1,d2,fun aQ=>by rw[d3 aQ,a2 aQ,jD,ri,and_assoc]⟩
   ·exact uD aR aQ ((a2 aQ).2 ⟨by rw[jD];exact ag,(ri.1 he).1⟩) (ri.1 he).2
theorem E8{ph:Int->Option T}{ρ:Int->Int}{v:Int}:n3 ph ρ v=false↔ρ v=v/\ph v=none:=by simp[n3]
theorem SI{ph:Int->Option T}{ρ:Int->Int}{r:Int->Nat}(eZ:∀v,ρ (ρ v)=ρ v):∀(n:Nat) (v w:Int),(nv ph ρ n v).occ w=true->(∀z u,jh ph ρ z u->r u<r z)->r (ρ v)<n->ρ w=w/\ph w=none
 |0,v,w,_,_,h=>Ω
 |n+1,v,w,h,aJ,ay=>by
  simp only[nv]at h;cases e:ph (ρ v)with
  |none=>rw[e]at h;simp[T.occ]at h;subst h;exact⟨eZ v,e⟩
  |some t=>rw[e]at h;obtain⟨u,J,U⟩:=A5.1 h;have:=aJ (ρ v) (ρ u) ⟨eZ v,t,u,e,J,rfl⟩;exact SI eZ n u w U aJ Ω
section
variable {V:List Int} {ph:Int->Option T} {ρ:Int->Int} {r:Int->Nat}
def ud(ph:Int->Option T)(ρ:Int->Int)(r:Int->Nat)(V:List Int):List ak:=((rk V).filter (n3 ph ρ)).map fun v=>⟨v,gZ ph ρ r v⟩
theorem Nz(ay:V.Nodup):gQ (ud ph ρ r V):=by unfold ud;rw[gQ,List.pairwise_map];exact((alQ ay).filter _)
theorem Xr(ay:V.Nodup)(gK:oL V ph)(cF:∀v,v∉V->ρ v=v)(v:Int):cU (ud ph ρ r V) v=if n3 ph ρ v then some (gZ ph ρ r v)else none:=by
 by_cases ab:n3 ph ρ v=true
 ·rw[if_pos ab];have aC:v∈V:=by
   refine Classical.byContradiction fun h=>?_;have J:=cF v h;have U:ph v=none:=by cases e:ph v with
    |none=>rfl
    |some t=>exact absurd (gK v t e).2.2 h
   rw[E8.2 ⟨J,U⟩]at ab;cases ab
  have:(⟨v,gZ ph ρ r v⟩:ak)∈ud ph ρ r V:=iy.2 ⟨v,lC.2 ⟨(Es V).mem_iff.2 aC,ab⟩,rfl⟩;exact p5 (Nz ay) this
 ·rw[if_neg ab];refine vR.2 fun b fZ e=>?_;obtain⟨u,J,rfl⟩:=iy.1 fZ;simp only at e;subst e;exact ab (lC.1 J).2
theorem alD(ay:V.Nodup)(gK:oL V ph)(cF:∀v,v∉V->ρ v=v)(eZ:∀v,ρ (ρ v)=ρ v)(hle:∀v,ρ v<=v)(aJ:∀z u,jh ph ρ z u->r u<r z):ft (ud ph ρ r V):=by
 refine⟨Nz ay,fun b ab w hw=>?_,fun b ab w hw=>?_⟩
 ·obtain⟨u,J,rfl⟩:=iy.1 ab;rw[Xr ay gK cF];have:=SI eZ _ u w hw aJ Ω;rw[E8.2 this];rfl
 ·obtain⟨u,J,rfl⟩:=iy.1 ab;have nC:=(lC.1 J).2;simp only at hw⊢;cases e:ph (ρ u)with
  |none=>
   rw[Cy e]at hw;cases hw;have U:=hle u;have ar:ρ u≠u:=fun h=>by rw[E8.2 ⟨h,by rw[h]at e;exact e⟩]at nC;cases nC
   omega
  |some t=>rw[z6 eZ aJ e]at hw;have:=(gK _ _ e).1;cases t<;>simp[T.ap,T.kind]at hw this
theorem aed(eZ:∀v,ρ (ρ v)=ρ v)(aJ:∀z u,jh ph ρ z u->r u<r z)(aQ:Int->T):ko ph ρ aQ↔∀v,aQ v=(gZ ph ρ r v).ap aQ:=by
 constructor
 ·intro h;have:∀(n:Nat) (v:Int),r (ρ v)<n->aQ v=(gZ ph ρ r v).ap aQ:=by
   intro n;induction n with
   |zero=>intro v h;omega
   |succ n bU=>
    intro v aC;cases e:ph (ρ v)with
    |none=>rw[Cy e];exact h.1 v
    |some t=>rw[z6 eZ aJ e,B5,h.1 v,h.2 _ t (eZ v) e];refine p4 fun w hw=>bU w ?_;have:=aJ (ρ v) (ρ w) ⟨eZ v,t,w,e,hw,rfl⟩;omega
  exact fun v=>this _ v (Nat.lt_succ_self _)
 ·intro h;refine⟨fun v=>by rw[h v,h (ρ v),<-z1 eZ],fun x t ae aM=>?_⟩;rw[h x,z6 eZ aJ (by rw[ae];exact aM),B5];exact p4 fun w _=>(h w).symm
theorem alC(ay:V.Nodup)(gK:oL V ph)(cF:∀v,v∉V->ρ v=v)(eZ:∀v,ρ (ρ v)=ρ v)(aJ:∀z u,jh ph ρ z u->r u<r z)(aQ:Int->T):gv (ud ph ρ r V) aQ↔ko ph ρ aQ:=by
 rw[aed eZ aJ,alJ (Nz ay)];refine forall_congr' fun v=>?_;rw[bh,Xr ay gK cF];cases e:n3 ph ρ v with
 |true=>simp
 |false=>obtain⟨J,U⟩:=E8.1 e;rw[Cy (by rw[J];exact U),J];simp
end
theorem alL(E:List (T×T))(bE:Mg E):∃n o,BB n E=some o/\iN [] E o/\∀c,p9 n E bt.new=some (true,c)->(cv c.up).Nodup/\(∀v∈cv c.up,∃e∈E,e.1.occ v=true\/e.2.occ v=true)/\c.size=[]:=by
 have hi:l8 bt.new id:=⟨⟨fun v u h=>by simp[bt.new,tg]at h,fun v _=>rfl⟩,fun x t h=>by simp[bt.new,bt.ph,bt.shd,tg]at h,⟨.var,fun v=>rfl,fun x t _ h=>by simp[bt.new,bt.ph,bt.shd,tg]at h⟩⟩;have uT:∀aQ,ko bt.new.ph id aQ:=fun aQ=>⟨fun v=>rfl,fun x t _ h=>by simp[bt.new,bt.ph,bt.shd,tg]at h⟩;obtain⟨hO,hf,a6,c0,du,jd⟩:=Ck E bt.new id hi (by simp[bt.new,cv]) bE;obtain⟨c0,V2⟩:=c0;obtain⟨f,c⟩:=hf;cases f with
 |false=>refine⟨hO,none,by simp[BB,a6 hO (eX _)],E0 fun aQ _ he=>jd rfl aQ (uT aQ) he,fun c h=>?_⟩;rw[a6 hO (eX _)]at h;cases h
 |true=>
  obtain⟨ρ,bB,a2,a3⟩:=du rfl;simp only at bB a2 a3 c0 V2;have Ta:∀n,hO<=n->∀cp,p9 n E bt.new=some (true,cp)->(cv cp.up).Nodup/\(∀v∈cv cp.up,∃e∈E,e.1.occ v=true\/e.2.occ v=true)/\cp.size=[]:=fun n ay cp h=>by rw[a6 n ay]at h;cases h;exact⟨a2,fun v aC=>(V2 v aC).resolve_left (by simp[bt.new,cv]),c0.2.1⟩
  obtain⟨r,aJ⟩:=bB.rank;have eZ:=bB.ru.idem;have hB:∀v∈cv c.up,ρ v∈cv c.up:=fun v aC=>(bB.ru.mem aC).1;have dG:ur (cv c.up) c.ph ρ c:=⟨bB.ru,rfl,rfl⟩;have hw:∀d,qM (cv c.up) c.ph ρ r d c:=fun d=>⟨dG,fun z _=>.inl (by simp[bt.col,c0.1,bt.new,tg])⟩;obtain⟨jj,cx,o,ck,ca,gf,uD,b5⟩:=alA bB.sh eZ aJ hB (rk (cv c.up)) c [] (fun v aC=>(Es _).mem_iff.1 aC) hw Ψ (fun v aC=>by simp at aC);have dm:=alD (r:=r) a2 bB.sh bB.ru.no eZ bB.ru.le aJ;have lu:∀aQ,gv (ud c.ph ρ r (cv c.up)) aQ↔gv [] aQ/\jQ E aQ:=fun aQ=>by rw[alC a2 bB.sh bB.ru.no eZ aJ,a3 aQ];exact⟨fun h=>⟨fun b ab=>by simp at ab,h.2⟩,fun h=>⟨uT aQ,h.2⟩⟩
  have Tc:fS (ud c.ph ρ r (cv c.up))↔(([]++(rk (cv c.up)).filter (n3 c.ph ρ)).length<=400/\∀v∈[]++(rk (cv c.up)).filter (n3 c.ph ρ),(gZ c.ph ρ r v).size<=5000):=by unfold fS ud;simp only[List.length_map,bS,iy,forall_exists_index,and_imp,forall_apply_eq_imp_iff₂]
  cases o with
  |none=>refine⟨max hO jj,none,by simp[BB,a6 (max hO jj) Ω,En,ck (max hO jj) Ω],?_,Ta _ Ω⟩;exact fun ah J U ar=>b5 rfl (Tc.1 (R8 dm J (fun aQ gL=>(lu aQ).2 (U aQ gL)) ar))
  |some l=>
   obtain⟨ao,aF,bA⟩:=uD l rfl;have af1:rI (cv c.up) c.ph ρ r cx:=⟨ca,fun x t h=>by rw[gf,c0.2.2]at h;simp[bt.new,tg]at h⟩;simp only[bS]at ao;obtain⟨zt,dy,d1⟩:=alB bB.sh eZ aJ hB l cx (fun v aC=>by rw[ao]at aC;exact(Es _).mem_iff.1 (lC.1 aC).1) af1;refine⟨max (max hO jj) zt,some (ud c.ph ρ r (cv c.up)),?_,⟨⟨dm,Tc.2 ?_⟩,lu⟩,Ta _ Ω⟩
   ·simp only[BB,a6 (max (max hO jj) zt) Ω,jK,Bool.true_eq_false,if_false,En,ck (max (max hO jj) zt) Ω,d1 (max (max hO jj) zt) Ω,oH];rw[ao];rfl
   ·rw[bS,<-ao];exact⟨aF,bA⟩
def gY(s:List ak):List (T×T):=s.map fun b=>(.var b.v,b.t)
theorem alI{s:List ak}{aQ:Int->T}:jQ (gY s) aQ↔gv s aQ:=by simp[jQ,gY,gv,T.ap]
theorem Za{s:List ak}{E:List (T×T)}{o:Option (List ak)}:iN [] (gY s++E) o↔iN s E o:=by
 have h:∀aQ,(gv [] aQ/\jQ (gY s++E) aQ)↔(gv s aQ/\jQ E aQ):=fun aQ=>by rw[Eo,alI];exact⟨fun h=>h.2,fun h=>⟨fun b ab=>by simp at ab,h⟩⟩
 exact⟨zw h,zw fun aQ=>(h aQ).symm⟩
end
section
open Go
open Classical in
noncomputable def mgu(s:List ak)(E:List (T×T)):Option (List ak):=if h:∃o,iN s E o then h.choose else none
theorem pR{s:List ak}{E:List (T×T)}{o:Option (List ak)}(h:iN s E o):mgu s E=o:=by have ae:∃o,iN s E o:=⟨o,h⟩;unfold mgu;rw[dif_pos ae];exact Zb ae.choose_spec h
def j1(s:List ak):Prop:= ∀b∈s,(0<=b.v/\b.v<=100000)/\b.t.ok=true
theorem IZ{aQ:Int->T}{t:T}(aM:t.ok=true)(h:∀v,t.occ v=true->(aQ v).ok=true):(t.ap aQ).ok=true:=by
 induction t with
 |var n=>exact h n (by simp[T.occ])
 |pair a b dM dN=>simp only[T.ok,cE]at aM;simp only[T.ap,T.ok,cE];exact⟨dM aM.1 fun v aC=>h v (by simp[T.occ,aC]),dN aM.2 fun v aC=>h v (by simp[T.occ,aC])⟩
 |_=>exact aM
theorem xA{t:T}(aM:t.ok=true){v:Int}(h:t.occ v=true):0<=v/\v<=100000:=by
 induction t with
 |var n=>simp[T.occ]at h;subst h;simpa[T.ok]using aM
 |pair a b dM dN=>
  simp only[T.ok,cE]at aM;simp only[T.occ,l4]at h;rcases h with h|h
  ·exact dM aM.1 h
  ·exact dN aM.2 h
 |_=>simp[T.occ]at h
theorem Ej{s:List ak}(ag:j1 s){t:T}(aM:t.ok=true):(t.ap (bh s)).ok=true:=IZ aM fun v aC=>by
 unfold bh;cases e:cU s v with
 |none=>have:=xA aM aC;simpa[T.ok]using this
 |some x=>exact(ag _ (iP e)).2
theorem B8{s:List ak}(ag:j1 s){v:Int}{t:T}(aC:0<=v/\v<=100000)(aM:t.ok=true){ah:List ak}(h:n2 s v t=some ah):j1 ah:=by
 unfold n2 at h;split at h
 ·cases h;intro b ab;rcases qv.1 ab with rfl|⟨c,aq,rfl⟩
  ·exact⟨aC,Ej ag aM⟩
  ·refine⟨(ag c aq).1,IZ (ag c aq).2 fun w hw=>?_⟩;unfold one;split
   ·exact Ej ag aM
   ·have:=xA (ag c aq).2 hw;simpa[T.ok]using this
 ·cases h
theorem Yv{s:List ak}(ag:j1 s){t:T}(aM:t.ok=true):(ht s t).ok=true:=by
 cases t with
 |var n=>have:=Ej ag aM;simpa[ht,T.ap]using this
 |_=>exact aM
theorem NR:∀(n:Nat) (s:List ak) (a b:T) (ah:List ak),j1 s->a.ok=true->b.ok=true->kV n s a b=some (some ah)->j1 ah
 |0,_,_,_,_,_,_,_,h=>by simp[kV]at h
 |n+1,s,a,b,ah,ag,bk,ab,h=>by
  have ae:=Yv ag bk;have aH:=Yv ag ab;simp only[kV]at h;generalize ht s a=x at h ae;generalize ht s b=y at h aH;have wI:∀{i:Int},(T.var i).ok=true->0<=i/\i<=100000:=fun h=>xA h (by simp[T.occ]);cases x with
  |var i=>
   cases y with
   |var j=>
    simp only[kj,dC]at h;split at h
    ·exact B8 ag (wI aH) ae h
    ·split at h
     ·cases h;exact ag
     ·exact B8 ag (wI ae) aH h
   |_=>simp only[kj,dC]at h;exact B8 ag (wI ae) aH h
  |pair bB a2=>
   cases y with
   |var j=>simp only[kj,dC]at h;exact B8 ag (wI aH) ae h
   |pair ck ca=>
    simp only[T.ok,cE]at ae aH;simp only[kj]at h;split at h
    ·cases h
    ·cases h
    ·rename_i s1 ao;exact NR n s1 a2 ca ah (NR n s bB ck s1 ag ae.1 aH.1 ao) ae.2 aH.2 h
   |_=>simp[kj]at h
  |_=>
   cases y with
   |var j=>simp only[kj,dC]at h;exact B8 ag (wI aH) ae h
   |_=>
    simp only[kj,dC]at h;split at h
    ·cases h;exact ag
    ·cases h
def nV:T->List Int
 | .var n=>[n]
 | .pair a b=>nV a++nV b
 |_=>[]
theorem yJ{t:T}{v:Int}(h:t.occ v=true):v∈nV t:=by
 induction t with
 |var n=>simp[T.occ]at h;subst h;simp[nV]
 |pair a b dM dN=>simp only[T.occ,l4]at h;simp only[nV,ih];exact h.imp dM dN
 |_=>simp[T.occ]at h
theorem Ih{s:List ak}(ag:ft s)(aR:fS s)(a b:T):∃n o,kV n s a b=some o/\iN s [(a,b)] o:=by obtain⟨n,o,J,U⟩:=XP (s.flatMap (fun b=>b.v::nV b.t)++nV a++nV b) _ _ s a b ag aR (fun c aq=>⟨by simp only[ih,List.mem_flatMap];exact .inl (.inl ⟨c,aq,Ψ⟩),fun w hw=>by simp only[ih,List.mem_flatMap];exact .inl (.inl ⟨c,aq,by simp[yJ hw]⟩)⟩) (fun w hw=>by simp[yJ hw]) (fun w hw=>by simp[yJ hw]) rfl rfl;exact⟨n,o,J,U.1⟩
theorem OH{s:List ak}{e:T×T}{E:List (T×T)}{s1:List ak}(h:iN s [e] (some s1)){o:Option (List ak)}(U:iN s1 E o):iN s (e::E) o:=IL (E:=[e]) h U
theorem yM{s:List ak}(ag:ft s)(aR:fS s)(E:List (T×T)):iN s E (mgu s E):=by
 induction E generalizing s with
 |nil=>rw[pR (IM ag aR)];exact IM ag aR
 |cons e E bU=>
  obtain⟨n,o,_,U⟩:=Ih ag aR e.1 e.2;cases o with
  |none=>have ar:iN s (e::E) none:=E1 E U;rw[pR ar];exact ar
  |some s1=>have ar:=OH U (bU U.1.1 U.1.2);rw[pR ar];exact ar
theorem G2{s:List ak}(ag:ft s)(aR:fS s):mgu s []=some s:=pR (IM ag aR)
theorem L7{s:List ak}(ag:ft s)(aR:fS s)(e:T×T)(E:List (T×T)):mgu s (e::E)=match mgu s [e]with|some s1=>mgu s1 E|none=>none:=by
 have J:=yM ag aR [e];cases h:mgu s [e]with
 |none=>rw[h]at J;have ar:iN s (e::E) none:=E1 E J;exact pR ar
 |some s1=>rw[h]at J;exact pR (OH J (yM J.1.1 J.1.2 E))
theorem sv{s:List ak}(ag:ft s)(aR:fS s){E:List (T×T)}{ah:List ak}(h:mgu s E=some ah):ft ah/\fS ah:=by have J:=yM ag aR E;rw[h]at J;exact J.1
theorem aht{s:List ak}(ag:ft s)(aR:fS s)(ax:j1 s){E:List (T×T)}(dp:∀e∈E,e.1.ok=true/\e.2.ok=true){ah:List ak}(h:mgu s E=some ah):j1 ah:=by
 induction E generalizing s with
 |nil=>rw[G2 ag aR]at h;cases h;exact ax
 |cons e E bU=>
  rw[L7 ag aR]at h;split at h
  ·rename_i s1 J;obtain⟨n,o,U,ar⟩:=Ih ag aR e.1 e.2;have a8:=pR ar;rw[J]at a8;subst a8;exact bU ar.1.1 ar.1.2 (NR n s e.1 e.2 s1 ax (dp e Ψ).1 (dp e Ψ).2 U) (fun fo he=>dp fo (by simp[he])) h
  ·cases h
theorem Ut{l:List Int}(ay:l.Nodup)(h:∀v∈l,0<=v/\v<=100000):l.length<=100001:=by
 have J:(l.map Int.toNat).Nodup:=by rw[List.nodup_iff_pairwise_ne,List.pairwise_map];exact anI (fun{a b} bk ab cK e=>cK (by have:=h a bk;have:=h b ab;omega)) ay
 have:=Ow J (l₂:=List.range 100001) (fun x ae=>by obtain⟨v,aC,rfl⟩:=iy.1 ae;have:=h v aC;simp;omega)
 simpa using this
end
end Go.Pv
namespace Go.Proofs.YtohaalphocaebaaGreatDoor
section
open Go Go.Pv
theorem NB(p:Nat->Bool)(n:Nat)(hm:∀k bI,k<=bI->bI<n->p k=true->p bI=true):∀(m i j:Nat),j-i<=m->i<=j->j<=n->(∀k,k<i->p k=false)->(∀k,j<=k->k<n->p k=true)->
  (i<=mx p i j/\mx p i j<=j)/\(∀k,k<mx p i j->p k=false)/\(∀k,mx p i j<=k->k<n->p k=true)
 |m,i,j,aN,lM,af,J,U=>by
  rw[mx];split
  ·rename_i bs;obtain⟨m,rfl⟩:∃h5,m=h5+1:=⟨m-1,Ω⟩;split
   ·rename_i bK;have:=NB p n hm m i ((i+j)/2) Ω Ω Ω J (fun k ad F9=>hm _ k ad F9 bK);exact⟨⟨this.1.1,Ω⟩,this.2⟩
   ·rename_i bK;have:=NB p n hm m ((i+j)/2+1) j Ω Ω af (fun k ad=>by
     by_cases mO:p k=true
     ·exact absurd (hm k ((i+j)/2) Ω Ω mO) bK
     ·simpa using mO) U
    exact⟨⟨Ω,this.1.2⟩,this.2⟩
  ·obtain rfl:i=j:=Ω
   exact⟨⟨eX _,eX _⟩,J,U⟩
theorem Hj{l:List ak}(ag:gQ l)(v:Int):rf l v=cU l v:=by
 have bs:∀(i j:Nat) (x y:ak),i<j->l[i]? =some x->l[j]? =some y->x.v<y.v:=by intro i j x y lM ae aH;obtain⟨J,rfl⟩:=fb.1 ae;obtain⟨U,rfl⟩:=fb.1 aH;exact pg.1 ag i j J U lM
 obtain⟨p,bK⟩:∃p:Nat->Bool,p=(fun i=>match l[i]? with|some b=>decide (v<=b.v)|none=>false):=⟨_,rfl⟩;have Gi:∀i b,l[i]? =some b->p i=decide (v<=b.v):=fun i b ab=>by rw[bK];simp[ab]
 have hm:∀k bI,k<=bI->bI<l.length->p k=true->p bI=true:=by
  intro k bI ad mO h;have ao:l[k]? =some l[k]:=cf Ω;have aF:l[bI]? =some l[bI]:=cf mO;rw[Gi k _ ao]at h;rw[Gi bI _ aF];simp only[e6]at h⊢;rcases Nat.lt_or_eq_of_le ad with wz|rfl
  ·have:=bs k bI _ _ wz ao aF;omega
  ·exact h
 obtain⟨⟨_,hle⟩,hbef,haft⟩:=NB p l.length hm l.length 0 l.length Ω Ω (eX _) (fun k ad=>Ω) (fun k J U=>Ω);have KF:j4 l v=(match l[mx p 0 l.length]? with|some b=>if b.v=v then((mx p 0 l.length:Nat):Int)else-1|none=> -1):=by rw[bK];rfl
 generalize mx p 0 l.length=r at hle hbef haft KF;by_cases hex:∃(k:Nat) (b:ak),l[k]? =some b/\b.v=v
 ·obtain⟨k,b,ab,SY⟩:=hex;have hM:k<l.length:=(fb.1 ab).1;have gy:r<=k:=by
   rcases Nat.lt_or_ge k r with h|h
   ·have:=hbef k h;rw[Gi k b ab]at this;simp at this;omega
   ·exact h
  have aJ:l[r]? =some l[r]:=cf Ω;have Av:=haft r (eX _) Ω;rw[Gi r _ aJ]at Av;simp only[e6]at Av;have afJ:r=k:=by
   rcases Nat.lt_or_eq_of_le gy with h|h
   ·have:=bs r k _ _ h aJ ab;omega
   ·exact h
  subst afJ;have KI:j4 l v=r:=by rw[KF,ab];simp[SY]
  have J:rf l v=some b.t:=by unfold rf;rw[KI,if_neg Ω];simp[ab]
  have U:l.find? (fun b=>b.v==v)=some b:=by
   rw[List.find?_eq_some_iff_getElem];refine⟨by simp[SY],r,hM,?_,fun j af=>?_⟩
   ·rw[cf hM]at ab;simpa using ab
   ·have:=bs j r l[j] b af (cf Ω) ab;simp;omega
  rw[J];simp[cU,U]
 ·have U:l.find? (fun b=>b.v==v)=none:=by rw[List.find?_eq_none];intro b ab;obtain⟨k,ad,rfl⟩:=List.mem_iff_getElem.1 ab;simp;intro e;exact hex ⟨k,l[k],cf ad,e⟩
  have KI:j4 l v= -1:=by
   rw[KF];split
   ·rename_i b ab;rw[if_neg (fun e=>hex ⟨r,b,ab,e⟩)]
   ·rfl
  unfold rf;rw[KI];simp[cU,U]
theorem zX{l:List ak}(ag:gQ l)(v:Int):j4 l v<0↔cU l v=none:=by
 rw[<-Hj ag v];unfold rf;have J:=J5 l v;by_cases h:j4 l v<0
 ·simp[h]
 ·simp only[h,if_false,false_iff];intro e;rw[Option.map_eq_none_iff,List.getElem?_eq_none_iff]at e;omega
def v8(s:List ak):Prop:= ∀b∈s,b.t.fit=true
theorem ado{l:List ak}(ag:gQ l)(h:v8 l)(v:Int):uP l v=(bh l v).size:=by
 unfold uP bh;rw[Hj ag];cases ab:cU l v with
 |none=>simp[T.size]
 |some x=>have:=h _ (iP ab);simp only[T.fit,cE,e6]at this;simp only[jL];rw[G8,if_pos ⟨this.1,Ω⟩]
theorem aly{l:List ak}(ag:gQ l)(h:v8 l)(t:T):lx (uP l) t=cut (t.ap (bh l)).size:=by
 induction t with
 |var n=>simp only[lx,ado ag h,T.ap];rfl
 |pair a b dM dN=>have ab:=T.size_pos (b.ap (bh l));simp only[lx,dM,dN,T.ap,T.size];unfold cut;(repeat' split)<;>omega
 |_=>simp[lx,T.ap,T.size,cut]
theorem aj4{l:List ak}(ag:gQ l)(h:v8 l)(t:T):tZ l t=decide ((t.ap (bh l)).size<=5000):=by unfold tZ;rw[aly ag h];unfold cut;split<;>simp<;>omega
theorem aj5{l:List ak}(ag:gQ l)(t:T):D0 l t=t.ap (bh l):=by unfold D0;rw[XC];exact p4 fun v _=>by rw[Hj ag];rfl
theorem xz(l:List ak)(t:T)(av:l.length<=1000000)(ag:gQ l)(h:v8 l):bZ az 29 [.slice 5 .no (l.map ak.e),t.e] (.tuple [(if(t.ap (bh l)).size<=5000 then t.ap (bh l)else .nil).e,.bool (decide ((t.ap (bh l)).size<=5000))]):=by have:=am7 l t av;rw[aj4 ag h,aj5 ag]at this;simpa using this
def UT(l:List (Int×T)):List ai:=jX (l.map fun x=>(x.1,x.2.e))
@[simp]theorem aqr:UT []=jX []:=rfl
@[simp]theorem aqY(l:List (Int×T)):hV (UT l)=false:=rfl
def alh(x:Int×T):Bool:= !(decide (x.2= .var x.1))
end
end Go.Proofs.YtohaalphocaebaaGreatDoor
namespace Go.Proofs
section
open Go.Shelf
def Tryz.lays191_ren:Go.Shelf.Ren:=⟨fun|191=>190|189=>208|125=>169|257=>217|128=>194|129=>195|294=>219|295=>220|296=>221|297=>222|298=>223|299=>224|216=>225|300=>226|301=>227|328=>228|329=>229|330=>230|331=>231|332=>232|215=>233|343=>234|n=>n,fun|28=>97|0=>0|3=>3|46=>117|51=>181|53=>170|4=>4|183=>204|182=>203|131=>161|5=>5|9=>9|218=>209|222=>194|228=>212|229=>198|n=>n,fun|n=>n⟩
theorem Tryz.lays191:Go.Proofs.Lays.n191 az Tryz.lays191_ren:={
 mixed:=by kernel_rfl
 f125:=Tryz.func169.trans (eK some ci)
 f128:=Tryz.func194.trans (eK some ci)
 f129:=Tryz.func195.trans (eK some ci)
 f189:=Tryz.func208.trans (eK some ci)
 f191:=Tryz.func190.trans (eK some ci)
 f215:=Tryz.func233.trans (eK some ci)
 f216:=Tryz.func225.trans (eK some ci)
 f257:=Tryz.func217.trans (eK some ci)
 f294:=Tryz.func219.trans (eK some ci)
 f295:=Tryz.func220.trans (eK some ci)
 f296:=Tryz.func221.trans (eK some ci)
 f297:=Tryz.func222.trans (eK some ci)
 f298:=Tryz.func223.trans (eK some ci)
 f299:=Tryz.func224.trans (eK some ci)
 f300:=Tryz.func226.trans (eK some ci)
 f301:=Tryz.func227.trans (eK some ci)
 f328:=Tryz.func228.trans (eK some ci)
 f329:=Tryz.func229.trans (eK some ci)
 f330:=Tryz.func230.trans (eK some ci)
 f331:=Tryz.func231.trans (eK some ci)
 f332:=Tryz.func232.trans (eK some ci)
 f343:=Tryz.func234.trans (eK some ci)
 t0:=Tryz.underlying0
 a0:=Tryz.isAgg0
 z0:=Tryz.sizeOf0
 v0:=Tryz.zeroValue0
 t3:=Tryz.underlying3
 a3:=Tryz.isAgg3
 z3:=Tryz.sizeOf3
 v3:=Tryz.zeroValue3
 t4:=Tryz.underlying4
 a4:=Tryz.isAgg4
 z4:=Tryz.sizeOf4
 v4:=Tryz.zeroValue4
 t5:=Tryz.underlying5
 a5:=Tryz.isAgg5
 z5:=Tryz.sizeOf5
 v5:=Tryz.zeroValue5
 t9:=Tryz.underlying9
 a9:=Tryz.isAgg9
 z9:=Tryz.sizeOf9
 v9:=Tryz.zeroValue9
 t28:=Tryz.underlying97
 a28:=Tryz.isAgg97
 z28:=Tryz.sizeOf97
 v28:=Tryz.zeroValue97
 t46:=Tryz.underlying117
 a46:=Tryz.isAgg117
 z46:=Tryz.sizeOf117
 v46:=Tryz.zeroValue117
 t51:=Tryz.underlying181
 a51:=Tryz.isAgg181
 z51:=Tryz.sizeOf181
 v51:=Tryz.zeroValue181
 t53:=Tryz.underlying170
 a53:=Tryz.isAgg170
 z53:=Tryz.sizeOf170
 v53:=Tryz.zeroValue170
 t131:=Tryz.underlying161
 a131:=Tryz.isAgg161
 z131:=Tryz.sizeOf161
 v131:=Tryz.zeroValue161
 t182:=Tryz.underlying203
 a182:=Tryz.isAgg203
 z182:=Tryz.sizeOf203
 v182:=Tryz.zeroValue203
 t183:=Tryz.underlying204
 a183:=Tryz.isAgg204
 z183:=Tryz.sizeOf204
 v183:=Tryz.zeroValue204
 t218:=Tryz.underlying209
 a218:=Tryz.isAgg209
 z218:=Tryz.sizeOf209
 v218:=Tryz.zeroValue209
 t222:=Tryz.underlying194
 a222:=Tryz.isAgg194
 z222:=Tryz.sizeOf194
 v222:=Tryz.zeroValue194
 t228:=Tryz.underlying212
 a228:=Tryz.isAgg212
 z228:=Tryz.sizeOf212
 v228:=Tryz.zeroValue212
 t229:=Tryz.underlying198
 a229:=Tryz.isAgg198
 z229:=Tryz.sizeOf198
 v229:=Tryz.zeroValue198}
end
end Go.Proofs

namespace Go.Proofs.YtohaalphocaebaaGreatDoor
section
open Go Go.Pv
def ek(xs:List Int):List ai:=xs.map (ai.int .i64)
theorem W9{w:World}{Z:bc}:∀{xs:List Int} {us:List Value},dB w Z 1 (ek xs) us->us=xs.map (Value.int .i64)
 |[],us,h=>by simpa[ek,dB]using h
 |x::xs,us,h=>by simp only[ek,hk,dB]at h;obtain⟨u,cm,rfl,⟨J,_,_⟩,U⟩:=h;simp only[bd]at J;subst J;rw[W9 U];rfl
theorem T7(w:World)(Z:bc):∀xs:List Int,dB w Z 1 (ek xs) (xs.map (Value.int .i64))
 |[]=>by simp[ek,dB]
 |x::xs=>by simp only[ek,hk,dB];exact⟨.int .i64 x,_,rfl,⟨by simp[bd],rfl,by intro c aq;simp[pe]at aq;subst aq;rfl⟩,T7 w Z xs⟩
def nm(K:Nat)(xs:List Int):cS:=⟨[],[(.obj K,⟨xs.length,3,1,some (ek xs)⟩)]⟩
theorem tO(S:aL->Prop)(xs:List Int):aP S (ek xs):=by
 induction xs with
 |nil=>simp[ek,aP]
 |cons x r bU=>simp only[ek,hk,aP,aG];exact⟨trivial,bU⟩
theorem IE(K:Nat)(xs:List Int):dR (nm K xs):=by unfold nm;refine dR.of ⟨by intro m;simp[Pv.look],by intro m;simp[Pv.look]⟩ Ψ ?_;intro x ae ys aH;simp at ae;subst ae;simp at aH;subst aH;exact tO _ xs
def rj(xs:List Int):List Int:=xs.mergeSort fun x y=>decide (x<=y)
theorem Xv(xs:List Int):(rj xs).length=xs.length:=List.length_mergeSort xs
theorem ad3(K:Nat)(xs:List Int)(av:xs.length<=1000000):bH az 190 [.row 1 (.obj K) xs.length] (nm K xs) fun r ah=>r= .tuple []/\ah=nm K (rj xs):=by
 refine bH.sem (IE K xs).obj fun w Z ba k6 aJ=>?_;refine .inl ⟨⟨Tryz.f190,Tryz.func190,by kernel_rfl,by kernel_rfl⟩,?_⟩;have se:=aJ.slot 0;simp only[kh,Pv.get,if_true]at se;have k4:Pv.look (.obj K) (nm K xs).e=some ⟨xs.length,3,1,some (ek xs)⟩:=by simp[nm,Pv.look]
 obtain⟨v,us,a6,bD,bY,c5⟩:=aJ.good.own (.obj K) _ k4;obtain⟨dc,oq,vu⟩:=c5 _ rfl;have q3:=W9 oq;subst q3;simp only[bd]at se;obtain⟨⟨B6,ZN,r5⟩,_,n',u,ao,aF,bA⟩:=se;rw[a6]at ao;simp only[dC,jM]at ao;obtain⟨rfl,rfl⟩:=ao;have aC:=bA rfl;have afZ:ba= #[v]:=by
  have J:ba.size=1:=by simpa using k6
  apply Array.ext (by simpa using J);intro i U ar;simp at ar;subst ar;rw[<-aC];simp[Array.getD,J]
 have cK:v≠ .slice none 0 0:=by rw[<-aC,r5];simp
 obtain⟨g,cap,rfl,_,qZ,qg,aeV,CQ,CD⟩:=Lib.holds_of_ownsRow bD cK;have aq:=Any.sort_Ints Tryz.lays191 g 0 cap xs w CD qZ Ω;subst afZ;refine aq.mono ?_;rintro e w' ⟨rfl,n,os,rfl⟩;have qk:=Xv xs;have lO:=Lib.ownsRow_putRow (q:=n) (k:=xs.length) (ys:=rj xs) bD qk (eX _);rw[hx Ω]at lO;obtain⟨c0,du,_⟩:=aJ.setRowM (w':=Sort.putRow (Value.int .i64) (Sort.ahead w n) g 0 (rj xs).toArray) k4 rfl a6 (bl:=g) rfl (v':= .slice (some ⟨g,0,none⟩) xs.length cap) rfl (xs':=ek (rj xs)) (us:=(rj xs).map (Value.int .i64)) (.inl ⟨by simp[ek,qk],rfl⟩) rfl rfl rfl
  (fun j af=>by simp[Sort.putRow,Sort.mapBlock,Sort.ahead,Array.getElem?_modify,ld af]) (by simp[Sort.putRow,Sort.mapBlock,Sort.ahead]) (by simpa[ek,qk]using lO) (T7 _ _ _)
 have jd:=c0.grown (w':=Sort.grow (Sort.putRow (Value.int .i64) (Sort.ahead w n) g 0 (rj xs).toArray) os) ⟨rfl,rfl,rfl,Ψ,fun k ad _=>Sort.heap_grow_old _ _ ad⟩;refine⟨_,_,_,_,.tuple [],nm K (rj xs),rfl,jd,by simp[bd,cX],by simp[nm,kQ],?_,?_,?_,(IE K _).obj,by simp[aG,aP],rfl,rfl⟩
 ·simp[nm,kQ,inObs,Pv.look]
 ·intro k cs ad;simp[nm,Pv.look]at ad
 ·intro k o ad;have hm:=tQ ad;simp[nm]at hm;obtain⟨rfl,rfl⟩:=hm;refine⟨by simp[nm,Pv.look,cA,ek,qk],.inr (by simp[ad]),fun ys aH=>?_⟩;simp at aH;subst aH;exact tO _ _
def lG(l:List Int):List ai:=jX (l.map fun x=>(x,.bool true))
theorem mq(S:aL->Prop)(l:List Int):aP S (lG l):=by
 have:∀l:List Int,aP S (kE (l.map fun x=>(x,.bool true))):=by
  intro l;induction l with
  |nil=>simp[kE,aP]
  |cons x r bU=>simp[kE,aP,bU,aG]
 simp[lG,jX,aP,this,aG]
def E4(v:Int)(l:List Int):List Int:=if v∈l then l else l++[v]
theorem OX(k:Int):∀l:List Int,pt k (.bool true) (l.map fun x=>(x,ai.bool true))=if k∈l then some (l.map fun x=>(x,ai.bool true))else none
 |[]=>rfl
 |i::r=>by
  by_cases h:k=i
  ·simp[pt,h]
  ·by_cases U:k∈r<;>simp[pt,h,U,OX k r]
@[simp]theorem aqJ(k:Int)(l:List Int):nK .i (.int .i64 k) (.bool true) (lG l)=some (lG (E4 k l)):=by
 simp only[lG,Vo,E6,OX,E4];split<;>rename_i h
 ·split at h
  ·simp at h;subst h;simp[*]
  ·cases h
 ·split at h
  ·cases h
  ·simp[*]
@[simp]theorem anW:lG []=jX []:=rfl
@[simp]theorem aqW(l:List Int):hV (lG l)=false:=rfl
@[simp]theorem aq5(m:aL)(l:List Int):y2 m (lG l)=some (cn l.length [] m):=by simp[lG]
theorem ahi(f:aL->Option (List ai))(fp mk:aL)(n:Nat)(seen:List Nat)(b:Nat)(l:List Int)(x:Int)(hi:f fp=some (cn n (seen++[b]) mk))(hm:f mk=some (lG l))(ay:n=l.length)(ae:l[b]? =some x):pQ f (.ptr fp 0)=some (True,.tuple [.int .i64 x,.bool true]):=by rw[U5 f fp mk n seen b _ hi hm (by simpa using ay)];simp[ae]
theorem aag{st:bm}{d:Nat}{K:bm->Prop}{fp mk:aL}{n:Nat}{seen:List Nat}{l:List Int}(hi:Pv.look fp st.b=some (cn n seen mk))(hm:Pv.look mk st.b=some (lG l))(ay:n=l.length)
  (J:(∀b,b<l.length->b∈seen)->K {st with t:=Pv.put d (.tuple [.bool false]) st.t}) (U:∀b x,l[b]? =some x->b∉seen->K {st with t:=Pv.put d (.tuple [.bool true,.int .i64 x,.bool true]) st.t,b:=cA fp (cn n (seen++[b]) mk) st.b}):
  tl st d (.ptr fp 0) K:=by
 refine RL hi hm (by simpa using ay) (fun h=>J fun b ab=>h b Ω) (fun b k v ab ag=>?_);simp only[List.getElem?_map,gk]at ab;obtain⟨x,ao,aF⟩:=ab;simp only[jM]at aF;obtain⟨rfl,rfl⟩:=aF;exact U b x ao ag
def _root_.Go.Pv.T.fold{α:Type}(f:Int->α->α):T->α->α
 | .var n,a=>f n a
 | .pair x y,a=>y.fold f (x.fold f a)
 |_,a=>a
theorem Kb{α:Type}(S:α->cS)(dm:∀a,dR (S a))(ei:∀a b,Same (S a) (S b))(g:Nat)(dn:List ai)(aq:∀a,aP (inObs (S a)) dn)(da:dv dn=dn)(f:Int->α->α)(aR:∀v a,bH az g (.int .i64 v::dn) (S a) fun r ah=>r= .tuple []/\ah=S (f v a))(t:T):
  ∀a,bH az 107 [t.e,.func g dn] (S a) fun r ah=>r= .tuple []/\ah=S (t.fold f a):=by
 have ay:∀a m,Pv.look (.loc m) (S a).b=none:=fun a=>(dm a).obj.1;have hu:∀a m cs,cA (.loc m) cs (S a).b=(S a).b++[(.loc m,cs)]:=fun a m cs=>kk (ay a m);have ax:∀a m,aL.loc m∉c2 (S a):=fun a=>kf (dm a).obj;induction t with
 |pair x y oj ql=>intro a;have ag:=dm a;refine bH.mk mixed fJ zQ A8 Ψ ag.obj fun aT cI=>?_;unfold xR;simp[hu,ax,cV,ay,da];(with_reducible repeat' first|refine aj ?_|simp[hu,ax,cV,ay]);refine cW.ob (oj a) ag aK aK (by simp[aq]) ?_;rintro r ah ⟨rfl,rfl⟩;refine⟨ei _ _,?_⟩;simp[hh,iH,cb,ay];(with_reducible repeat' first|refine aj ?_|simp[hu,ax,cV,ay]);rw[da];refine cW.ob (ql (x.fold f a)) (dm (x.fold f a)) aK aK (by simp[aq]) ?_;rintro r ah ⟨rfl,rfl⟩;refine⟨ei _ _,?_⟩;simp[hh,iH,cb,ay];refine cO.at (S (y.fold f (x.fold f a))) (.inr rfl) (dm _) (ei _ _) aK aK ?_;simp[cT,yZ,aW,aY,aV];simp[T.fold]
 |var n=>intro a;have ag:=dm a;refine bH.mk mixed fJ zQ A8 Ψ ag.obj fun aT cI=>?_;unfold xR;simp[hu,ax,cV,ay,da];(with_reducible repeat' first|refine aj ?_|simp[hu,ax,cV,ay]);refine cW.ob (aR n a) ag aK aK (by simp[aq]) ?_;rintro r ah ⟨rfl,rfl⟩;refine⟨ei _ _,?_⟩;simp[hh,iH,cb,ay,cV];refine cO.at (S (f n a)) (.inr rfl) (dm _) (ei _ _) aK aK ?_;simp[cT,yZ,aW,aY,aV];simp[T.fold]
 |_=>intro a;have ag:=dm a;refine bH.mk mixed fJ zQ A8 Ψ ag.obj fun aT cI=>?_;unfold xR;simp[hu,ax,cV,ay,da];(with_reducible repeat' first|refine aj ?_|simp[hu,ax,cV,ay]);refine cO.at (S a) (.inr rfl) ag (Same.refl _) aK aK ?_;simp[cT,yZ,aW,aY,aV];simp[T.fold]
def uw(l:List Int):cS:=⟨[(.obj 304,lG l)],[]⟩
theorem OF(l:List Int):dR (uw l):=by unfold uw;exact dR.of ⟨by intro m;simp[Pv.look],by intro m;simp[Pv.look]⟩ (by simp[mq,aP,aG,inObs,Pv.look]) Ψ
def Ja:C:=(aa [c8 1 0,bq 2 false] (.seq (.seq (.fz false 1 (.region [aw 6 1 1,cR 7 62 6,cJ 8 7])) (aZ 8 (aa [bq 2 false] .ret) .skip)) (.seq (aa [aw 9 1 1,cz 10 9,cd 11 0] (e5 12 11 10 (.seq (.block 1 (aa [cy 13 5 9 11,a7 14 5 13,c1 4 hT,bN 5 4 14] (aa [cN (.alloc 5 (some 731) (.bool false)),cN (.store 1 (.t 5) (.c (.bool true)))] (aa [gI 15 1 4 4,a7 16 4 15,bR 17 (.mkf 108 [.t 1,.t 5]),ch 18 107 16 17] (aa [aw 19 1 5,cJ 20 19,I 21 20,au 21 false (gI 22 1 4 4),au 21 false (aI 23 0 1 22),au 21 false (aw 24 1 23),au 21 false (aS 25 .eql 24 1),bW 21 false 26 25,au 26 true (gI 27 1 4 4),au 26 true (aI 28 1 1 27),au 26 true (aw 29 1 28),au 26 true (aI 30 0 1 4),au 26 true (aw 31 1 30),au 26 true (br 32 .geq 29 31),au 21 false (dq 33 26 32),c6 34 21 33] (aZ 34 (aa [bq 2 false] .ret) .skip)))))) (.region [aS 35 .add 11 1,I 11 35])))) (aa [bq 2 true] .ret))))
@[simp] def akh:List bX:=[.tmp 2]
def PK:C:=(aa [e4 2 5] (aa [eE 6 5 54 [],I 3 6] (.seq (aa [I 7 0,cz 8 7,cd 9 0] (e5 10 9 8 (.seq (.block 1 (aa [cy 11 5 7 9,a7 12 5 11,c1 5 hT,bN 5 5 12] (.drawn true 24 [I 13 3,aI 14 0 1 5,aw 15 1 14,gI 16 1 4 5,a7 17 4 16,cR 18 136 17,hD 19 hT [(0,1,(.t 15)),(1,4,(.t 18))],eE 20 5 54 [.t 19],hj 21 5 54 13 20,I 3 21]))) (.region [aS 22 .add 9 1,I 9 22])))) (aa [I 23 3,I 2 23] .ret))))
@[simp] def akm:List bX:=[.tmp 2]
def Pn:C:=(aa [e4 4 5,bq 5 false] (.seq (aa [I 8 0,cR 9 53 8,cJ 10 9,I 11 10,bW 11 false 12 1,au 11 false (cR 13 53 12),au 11 false (cJ 14 13),c6 15 11 14] (aZ 15 (aa [e4 4 5,bq 5 false] .ret) .skip)) (aa [I 17 1,cR 18 137 17,I 16 18,cC 19 0 16,cC 20 1 16,I 6 19,I 7 20] (aa [I 21 0,I 22 6,I 23 7,dj 24 97 [.t 21,.t 22,.t 23],cC 25 0 24,cC 26 1 24,I 4 25,I 5 26] .ret))))
@[simp] def Wb:List bX:=[.tmp 4,.tmp 5]
def Ps:C:=(aa [e4 4 5] (.seq (aa [I 8 0,cR 9 53 8,cJ 10 9,I 11 10,bW 11 false 12 1,au 11 false (cR 13 53 12),au 11 false (cJ 14 13),c6 15 11 14] (aZ 15 (aa [e4 4 5] .ret) .skip)) (aa [eE 16 5 54 [],I 5 16] (.seq (aa [I 17 1,cz 18 17,cd 19 0] (e5 20 19 18 (.seq (.block 1 (aa [cy 21 5 17 19,a7 22 5 21,c1 7 hT,bN 5 7 22] (aa [I 23 0,aI 24 0 1 7,aw 25 1 24,ch 26 24 23 25,aS 27 .lss 26 0] (aZ 27 (.drawn true 39 [I 28 5,aI 29 0 1 7,aw 30 1 29,gI 31 1 4 7,a7 32 4 31,cR 33 136 32,hD 34 hT [(0,1,(.t 30)),(1,4,(.t 33))],eE 35 5 54 [.t 34],hj 36 5 54 28 35,I 5 36]) .skip)))) (.region [aS 37 .add 19 1,I 19 37])))) (aa [I 38 5,I 4 38] .ret)))))
@[simp] def akf:List bX:=[.tmp 4]
def Jf:C:=(aa [bq 4 false] (.seq (aa [I 6 0,cz 7 6,I 8 1,cz 9 8,br 10 .neq 7 9] (aZ 10 (aa [bq 4 false] .ret) .skip)) (.seq (aa [I 11 0,cz 12 11,cd 13 0] (e5 14 13 12 (.seq (.block 1 (aa [I 15 13,I 5 15] (.seq (.drawn true 42 [I 16 0,I 17 5,cy 18 5 16 17,aI 19 0 1 18,aw 20 1 19,I 21 1,I 22 5,cy 23 5 21 22,aI 24 0 1 23,aw 25 1 24,br 26 .neq 20 25,I 27 26,bW 27 false 28 0,bW 27 false 29 5,au 27 false (cy 30 5 28 29),au 27 false (gI 31 1 4 30),au 27 false (a7 32 4 31),bW 27 false 33 1,bW 27 false 34 5,au 27 false (cy 35 5 33 34),au 27 false (gI 36 1 4 35),au 27 false (a7 37 4 36),au 27 false (ch 38 64 32 37),au 27 false (cJ 39 38),c6 40 27 39]) (aZ 40 (aa [bq 4 false] .ret) .skip)))) (.region [aS 41 .add 13 1,I 13 41])))) (aa [bq 4 true] .ret))))
@[simp] def Wm:List bX:=[.tmp 4]
def Jb:C:=(aa [aw 4 1 1,I 5 0,ch 6 24 4 5,aS 7 .geq 6 0] (aZ 7 (.region [cN (.store 1 (.t 2) (.c (.bool false)))]) .skip))
@[simp] def ME:List bX:=[]
def PM:C:=(aa [e4 2 4,e4 3 4] (aa [eE 8 4 36 [],I 4 8] (aa [eE 9 4 36 [],I 5 9] (.seq (aa [I 10 0,cz 11 10,cd 12 0] (e5 13 12 11 (.seq (.block 1 (aa [cy 14 5 10 12,a7 15 5 14,c1 7 hT,bN 5 7 15] (aa [I 16 4,aI 17 0 1 7,aw 18 1 17,cR 19 28 18,eE 20 4 36 [.t 19],hj 21 4 36 16 20,I 4 21] (.region [I 22 5,gI 23 1 4 7,a7 24 4 23,eE 25 4 36 [.t 24],hj 26 4 36 22 25,I 5 26])))) (.region [aS 27 .add 12 1,I 12 27])))) (aa [I 28 4,I 29 5,I 2 28,I 3 29] .ret)))))
@[simp] def Wo:List bX:=[.tmp 2,.tmp 3]
def PW:C:=(aa [cd 4 0] (.seq (aa [cd 5 0] (.block 0 (.loop (.seq (aa [I 8 5,I 9 0,cz 10 9,br 11 .lss 8 10,I 12 11,bW 12 true 13 5,bW 12 true 14 1,au 12 true (cz 15 14),au 12 true (br 16 .lss 13 15),dq 17 12 16] (aZ 17 .skip (.exit 0))) (.seq (.block 1 (.seq (.seq (.drawn true 53 [I 20 0,I 21 5,cy 22 5 20 21,aI 23 0 1 22,aw 24 1 23,I 25 1,I 26 5,cy 27 5 25 26,aI 28 0 1 27,aw 29 1 28,ch 30 155 24 29,I 6 30]) (aa [I 31 6,aS 32 .neq 31 0] (aZ 32 (aa [I 33 6,I 4 33] .ret) .skip))) (.seq (.drawn true 53 [I 34 0,I 35 5,cy 36 5 34 35,gI 37 1 4 36,a7 38 4 37,I 39 1,I 40 5,cy 41 5 39 40,gI 42 1 4 41,a7 43 4 42,ch 44 117 38 43,I 7 44]) (aa [I 45 7,aS 46 .neq 45 0] (aZ 46 (aa [I 47 7,I 4 47] .ret) .skip))))) (.region [I 18 5,aS 19 .add 18 1,I 5 19])))))) (aa [I 48 0,cz 49 48,I 50 1,cz 51 50,ch 52 155 49 51,I 4 52] .ret)))
@[simp] def D1:List bX:=[.tmp 4]
def PS:C:=(aa [bq 4 false] (.seq (aa [I 11 0,cz 12 11,cd 13 0] (e5 14 13 12 (.seq (.block 1 (aa [cy 15 5 11 13,a7 16 5 15,c1 6 hT,bN 5 6 16] (aa [I 18 1,aI 19 0 1 6,aw 20 1 19,cR 21 28 20,ch 22 29 18 21,I 17 22,cC 23 0 17,cC 24 1 17,c1 7 dd,bN 4 7 23,I 8 24] (aa [I 26 1,gI 27 1 4 6,a7 28 4 27,ch 29 29 26 28,I 25 29,cC 30 0 25,cC 31 1 25,c1 9 dd,bN 4 9 30,I 10 31] (aa [I 32 8,cJ 33 32,I 34 33,bW 34 false 35 10,au 34 false (cJ 36 35),c6 37 34 36,I 38 37,au 38 false (a7 39 4 7),au 38 false (a7 40 4 9),au 38 false (ch 41 64 39 40),au 38 false (cJ 42 41),c6 43 38 42] (aZ 43 (aa [bq 4 false] .ret) .skip)))))) (.region [aS 44 .add 13 1,I 13 44])))) (aa [bq 4 true] .ret)))
@[simp] def MG:List bX:=[.tmp 4]
def uf:List (Nat×dz):=[
 (3,⟨1,8,.int .i64,.int .i64 0⟩),
 (4,⟨1,1,.bool,.bool false⟩),
 (23,⟨1,24,.slice 54,.slice 5 .nil []⟩),
 (34,⟨1,24,.slice 36,.slice 4 .nil []⟩),
 (36,⟨4,56,.struct [(0,3),(1,3),(2,9),(3,34)],.agg [.int .i64 0,.int .i64 0,.str [],.slice 4 .nil []]⟩),
 (54,⟨5,64,.struct [(0,3),(1,36)],.agg [.int .i64 0,.int .i64 0,.int .i64 0,.str [],.slice 4 .nil []]⟩)]
theorem rq:fI az uf=true:=by kernel_rfl
theorem VB:b7 uf Ja akh 1 Tryz.f53=true:=by kernel_rfl
theorem RR:az.funcs[(53:Nat)]? =some Tryz.f53:=Tryz.func53
theorem aii:b7 uf PK akm 1 Tryz.f91=true:=by kernel_rfl
theorem abB:az.funcs[(91:Nat)]? =some Tryz.f91:=Tryz.func91
theorem ahV:b7 uf Pn Wb 2 Tryz.f94=true:=by kernel_rfl
theorem abe:az.funcs[(94:Nat)]? =some Tryz.f94:=Tryz.func94
theorem ah0:b7 uf Ps akf 2 Tryz.f95=true:=by kernel_rfl
theorem abj:az.funcs[(95:Nat)]? =some Tryz.f95:=Tryz.func95
theorem VG:b7 uf Jf Wm 2 Tryz.f99=true:=by kernel_rfl
theorem RW:az.funcs[(99:Nat)]? =some Tryz.f99:=Tryz.func99
theorem VC:b7 uf Jb ME 3 Tryz.f108=true:=by kernel_rfl
theorem RS:az.funcs[(108:Nat)]? =some Tryz.f108:=Tryz.func108
theorem aik:b7 uf PM Wo 1 Tryz.f137=true:=by kernel_rfl
theorem abD:az.funcs[(137:Nat)]? =some Tryz.f137:=Tryz.func137
theorem ait:b7 uf PW D1 2 Tryz.f140=true:=by kernel_rfl
theorem abM:az.funcs[(140:Nat)]? =some Tryz.f140:=Tryz.func140
theorem aip:b7 uf PS MG 2 Tryz.f141=true:=by kernel_rfl
theorem abI:az.funcs[(141:Nat)]? =some Tryz.f141:=Tryz.func141
def P7:C:=(aa [c1 2 dd] (aa [I 3 0,hD 4 dd [(0,1,(eF 1)),(1,1,(.t 3))],bN 4 2 4] .ret))
@[simp] def akr:List bX:=[.cell 2 true 4]
def PT:C:=(aa [bR 0 (.mov (.c (.nilp)))] (aa [cN (.mkmap 1 (some 702)),cN (.mkmap 2 (some 703)),cN (.mkmap 3 (some 704)),cN (.mkmap 4 (some 705)),cN (.mkmap 5 (some 706)),cN (.mkmap 6 (some 707)),bR 7 (.build [.junk,.junk,.junk,.junk,.junk,.junk] [(0,1,(.t 1)),(1,1,(.t 2)),(2,1,(.t 3)),(3,1,(.t 4)),(4,1,(.t 5)),(5,1,(.t 6))]),c8 8 7,I 0 8] (.fz true 0 .ret)))
@[simp] def Wt:List bX:=[.tmp 0]
def PG:C:=(aa [cd 4 0] (.seq (aa [I 8 0,eI 9 8,aI 10 0 1 9,aw 11 1 10,I 12 1,bR 13 (.mget .i (.int .i64 0) true (.t 11) (.t 12)),I 7 13,cC 14 0 7,cC 15 1 7,I 5 14,I 6 15] (aa [I 16 6,cJ 17 16] (aZ 17 (.region [I 18 0,eI 19 18,aI 20 0 1 19,aw 21 1 20,I 22 1,I 23 1,cN (.mput .i (.t 21) (.t 22) (.t 23))]) .skip))) (.seq (.block 0 (.loop (.seq (aa [I 24 0,eI 25 24,aI 26 0 1 25,aw 27 1 26,I 28 1,bR 29 (.mget .i (.int .i64 0) false (.t 27) (.t 28)),I 30 1,br 31 .neq 29 30] (aZ 31 .skip (.exit 0))) (.block 1 (.seq (.drawn true 55 [I 32 0,eI 33 32,aI 34 0 1 33,aw 35 1 34,I 36 1,I 37 0,eI 38 37,aI 39 0 1 38,aw 40 1 39,I 41 0,eI 42 41,aI 43 0 1 42,aw 44 1 43,I 45 1,bR 46 (.mget .i (.int .i64 0) false (.t 44) (.t 45)),bR 47 (.mget .i (.int .i64 0) false (.t 40) (.t 46)),cN (.mput .i (.t 35) (.t 36) (.t 47))]) (.region [I 48 0,eI 49 48,aI 50 0 1 49,aw 51 1 50,I 52 1,bR 53 (.mget .i (.int .i64 0) false (.t 51) (.t 52)),I 1 53])))))) (aa [I 54 1,I 4 54] .ret))))
@[simp] def Wj:List bX:=[.tmp 4]
def PC:C:=(aa [c8 2 0,c8 3 1] (.fz false 2 (.region [a7 4 4 3,bR 5 (.mkf 163 [.t 2]),ch 6 107 4 5])))
@[simp] def Wg:List bX:=[]
def vU:C:=(aa [c8 4 1,c8 5 2,bq 6 false] (.seq (.block 0 (aa [aI 12 0 1 4,aw 13 1 12,aS 14 .eql 13 1,I 15 14,au 15 true (aI 16 0 1 5),au 15 true (aw 17 1 16),au 15 true (aS 18 .eql 17 1),dq 19 15 18,I 11 19] (aZ 11 (aa [I 20 0,aI 21 1 1 4,aw 22 1 21,ch 23 143 20 22,I 7 23] (aa [I 24 0,aI 25 1 1 5,aw 26 1 25,ch 27 143 24 26,I 8 27] (.seq (aa [I 28 7,I 29 8,br 30 .eql 28 29] (aZ 30 (aa [bq 6 true] .ret) .skip)) (.seq (aa [I 31 8,I 32 7,br 33 .lss 31 32] (aZ 33 (.region [I 34 8,I 35 7,I 7 34,I 8 35]) .skip)) (aa [I 36 0,eI 37 36,aI 38 0 1 37,aw 39 1 38,I 40 8,I 41 7,cN (.mput .i (.t 39) (.t 40) (.t 41))] (.seq (aa [I 42 0,eI 43 42,aI 44 2 1 43,aw 45 1 44,I 46 8,bR 47 (.mget .i (.bool false) false (.t 45) (.t 46)),cJ 48 47] (aZ 48 (aa [I 49 0,eI 50 49,aI 51 2 1 50,aw 52 1 51,I 53 7,bR 54 (.mget .i (.bool false) false (.t 52) (.t 53)),cJ 55 54,I 56 55,bW 56 false 57 0,bW 56 false 58 0,au 56 false (eI 59 58),au 56 false (aI 60 1 1 59),au 56 false (aw 61 1 60),bW 56 false 62 7,xD 56 false 63 (.mget .i (.agg dd) false (.t 61) (.t 62)),bW 56 false 64 7,ys 56 false (.mkmap 65 (some 715)),au 56 false (dj 66 164 [.t 57,.t 63,.t 64,.t 65]),au 56 false (cJ 67 66),c6 68 56 67,I 6 68] .ret) .skip)) (aa [I 69 0,eI 70 69,aI 71 1 1 70,aw 72 1 71,I 73 8,bR 74 (.mget .i (.agg dd) false (.t 72) (.t 73)),c1 9 dd,bN 4 9 74] (.seq (aa [I 75 0,eI 76 75,aI 77 2 1 76,aw 78 1 77,I 79 7,bR 80 (.mget .i (.bool false) false (.t 78) (.t 79)),cJ 81 80] (aZ 81 (aa [I 82 0,I 83 7,a7 84 4 9,dj 85 165 [.t 82,.t 83,.t 84],I 6 85] .ret) .skip)) (.seq (.drawnW [715,716] 198 [I 86 0,a7 87 4 9,I 88 7,cN (.mkmap 89 (some 715)),dj 90 164 [.t 86,.t 87,.t 88,.t 89],cJ 91 90,I 92 91,bW 92 true 93 0,bW 92 true 94 0,au 92 true (eI 95 94),au 92 true (aI 96 1 1 95),au 92 true (aw 97 1 96),bW 92 true 98 7,xD 92 true 99 (.mgetB .i (.agg dd) false (.t 97) (.t 98)),bW 92 true 100 7,ys 92 true (.mkmap 101 (some 716)),au 92 true (dj 102 164 [.t 93,.t 99,.t 100,.t 101]),au 92 true (cJ 103 102),dq 104 92 103,I 105 104,bW 105 true 106 0,bW 105 true 107 0,au 105 true (eI 108 107),au 105 true (aI 109 1 1 108),au 105 true (aw 110 1 109),bW 105 true 111 7,xD 105 true 112 (.mgetB .i (.agg dd) false (.t 110) (.t 111)),au 105 true (a7 113 4 9),au 105 true (dj 114 145 [.t 106,.t 112,.t 113]),dq 115 105 114,I 6 115]) .ret))))))))) (aa [aI 117 0 1 4,aw 118 1 117,aS 119 .eql 118 1,I 116 119] (aZ 116 (aa [I 120 0,aI 121 1 1 4,aw 122 1 121,ch 123 143 120 122,I 10 123] (.seq (aa [I 124 0,eI 125 124,aI 126 2 1 125,aw 127 1 126,I 128 10,bR 129 (.mget .i (.bool false) false (.t 127) (.t 128)),cJ 130 129] (aZ 130 (aa [I 131 0,I 132 10,a7 133 4 5,dj 134 165 [.t 131,.t 132,.t 133],I 6 134] .ret) .skip)) (.seq (.drawn false 198 [I 135 0,I 136 0,eI 137 136,aI 138 1 1 137,aw 139 1 138,I 140 10,bR 141 (.mgetB .i (.agg dd) false (.t 139) (.t 140)),a7 142 4 5,dj 143 145 [.t 135,.t 141,.t 142],I 6 143]) .ret))) (aa [aI 145 0 1 5,aw 146 1 145,aS 147 .eql 146 1,I 144 147] (aZ 144 (aa [I 148 0,a7 149 4 5,a7 150 4 4,dj 151 145 [.t 148,.t 149,.t 150],I 6 151] .ret) (aa [aI 153 0 1 4,aw 154 1 153,aI 155 0 1 5,aw 156 1 155,br 157 .neq 154 156,I 158 157,au 158 false (aI 159 1 1 4),au 158 false (aw 160 1 159),au 158 false (aI 161 1 1 5),au 158 false (aw 162 1 161),au 158 false (br 163 .neq 160 162),c6 164 158 163,I 165 164,au 165 false (aI 166 2 1 4),au 165 false (aw 167 1 166),au 165 false (aI 168 2 1 5),au 165 false (aw 169 1 168),au 165 false (br 170 .neq 167 169),c6 171 165 170,I 152 171] (aZ 152 (aa [bq 6 false] .ret) (aa [aI 173 0 1 4,aw 174 1 173,aS 175 .eql 174 4,I 172 175] (aZ 172 (.seq (.drawn false 198 [I 176 0,aI 177 3 1 4,aw 178 1 177,jv 179 4 178 0,a7 180 4 179,aI 181 3 1 5,aw 182 1 181,jv 183 4 182 0,a7 184 4 183,dj 185 145 [.t 176,.t 180,.t 184],I 186 185,bW 186 true 187 0,au 186 true (aI 188 3 1 4),au 186 true (aw 189 1 188),au 186 true (jv 190 4 189 1),au 186 true (a7 191 4 190),au 186 true (aI 192 3 1 5),au 186 true (aw 193 1 192),au 186 true (jv 194 4 193 1),au 186 true (a7 195 4 194),au 186 true (dj 196 145 [.t 187,.t 191,.t 195]),dq 197 186 196,I 6 197]) .ret) .skip))))))))))) (aa [bq 6 true] .ret)))
@[simp] def ot:List bX:=[.tmp 6]
def PD:C:=(.region [aw 3 1 1,I 4 0,ch 5 143 3 4])
@[simp] def Wh:List bX:=[]
def PE:C:=(aa [c8 4 0,c8 5 1,c8 6 2,c8 7 3,bq 8 false] (aa [cN (.alloc 9 (some 712) (.bool false)),cN (.store 1 (.t 9) (.c (.bool false)))] (.seq (.fz false 7 (.fz false 6 (.fz false 4 (.region [a7 10 4 5,bR 11 (.mkf 189 [.t 4,.t 9,.t 6,.t 7]),ch 12 107 10 11])))) (aa [aw 13 1 9,I 8 13] .ret))))
@[simp] def Wi:List bX:=[.tmp 8]
def PB:C:=(aa [c8 5 2,bq 6 false] (.seq (.drawn true 24 [I 7 0,eI 8 7,aI 9 1 1 8,aw 10 1 9,I 11 1,a7 12 4 5,cN (.mput .i (.t 10) (.t 11) (.t 12))]) (aa [I 13 0,eI 14 13,aI 15 2 1 14,aw 16 1 15,I 17 1,cN (.mput .i (.t 16) (.t 17) (.c (.bool true)))] (aa [I 18 0,a7 19 4 5,I 20 1,cN (.mkmap 21 (some 715)),dj 22 164 [.t 18,.t 19,.t 20,.t 21],cJ 23 22,I 6 23] .ret))))
@[simp] def Wf:List bX:=[.tmp 6]
def zE:C:=(aa [c8 2 0,bq 4 false] (.seq (.seq (.fz false 2 (.region [aw 6 1 2,eI 7 6,aI 8 3 1 7,aw 9 1 8,I 10 1,bR 11 (.mget .i (.int .i64 0) false (.t 9) (.t 10)),aS 12 .eql 11 2])) (aZ 12 (aa [bq 4 true] .ret) .skip)) (.seq (aa [aw 13 1 2,eI 14 13,aI 15 3 1 14,aw 16 1 15,I 17 1,bR 18 (.mget .i (.int .i64 0) false (.t 16) (.t 17)),aS 19 .eql 18 1] (aZ 19 (aa [bq 4 false] .ret) .skip)) (aa [aw 20 1 2,eI 21 20,aI 22 3 1 21,aw 23 1 22,I 24 1,cN (.mput .i (.t 23) (.t 24) (eF 1))] (aa [aw 25 1 2,eI 26 25,aI 27 4 1 26,aw 28 1 27,I 29 1,cN (.mput .i (.t 28) (.t 29) (eF 1))] (.seq (aa [aw 30 1 2,eI 31 30,aI 32 2 1 31,aw 33 1 32,I 34 1,bR 35 (.mget .i (.bool false) false (.t 33) (.t 34))] (aZ 35 (aa [cN (.alloc 5 (some 712) (.bool false)),cN (.store 1 (.t 5) (.c (.bool true)))] (aa [aw 36 1 2,eI 37 36,aI 38 1 1 37,aw 39 1 38,I 40 1,bR 41 (.mget .i (.agg dd) false (.t 39) (.t 40)),bR 42 (.mkf 191 [.t 5,.t 2]),ch 43 107 41 42] (.seq (aa [aw 44 1 5,cJ 45 44] (aZ 45 (aa [bq 4 false] .ret) .skip)) (.drawn false 64 [aw 46 1 2,eI 47 46,aI 48 4 1 47,aw 49 1 48,I 50 1,aw 51 1 2,eI 52 51,aI 53 1 1 52,aw 54 1 53,I 55 1,bR 56 (.mgetB .i (.agg dd) false (.t 54) (.t 55)),bR 57 (.mkf 192 [.t 2]),ch 58 112 56 57,cN (.mput .i (.t 49) (.t 50) (.t 58))])))) .skip)) (aa [aw 59 1 2,eI 60 59,aI 61 3 1 60,aw 62 1 61,I 63 1,cN (.mput .i (.t 62) (.t 63) (eF 2))] (aa [bq 4 true] .ret))))))))
@[simp] def Bk:List bX:=[.tmp 4]
def Fe:C:=(aa [c8 2 0,c1 4 dd] (.seq (.seq (.fz false 2 (.region [aw 9 1 2,eI 10 9,aI 11 5 1 10,aw 12 1 11,I 13 1,bR 14 (.mget .i (.agg dd) true (.t 12) (.t 13)),I 8 14,cC 15 0 8,cC 16 1 8,c1 5 dd,bN 4 5 15,I 6 16])) (aa [I 17 6] (aZ 17 (aa [a7 18 4 5,bN 4 4 18] .ret) .skip))) (aa [I 19 1,cR 20 28 19,c1 7 dd,bN 4 7 20] (.seq (aa [aw 21 1 2,eI 22 21,aI 23 2 1 22,aw 24 1 23,I 25 1,bR 26 (.mget .i (.bool false) false (.t 24) (.t 25))] (aZ 26 (.region [aw 27 1 2,eI 28 27,aI 29 1 1 28,aw 30 1 29,I 31 1,bR 32 (.mget .i (.agg dd) false (.t 30) (.t 31)),bR 33 (.mkf 193 [.t 2]),ch 34 115 32 33,bN 4 7 34]) .skip)) (.seq (.drawn true 42 [aw 35 1 2,eI 36 35,aI 37 5 1 36,aw 38 1 37,I 39 1,a7 40 4 7,cN (.mput .i (.t 38) (.t 39) (.t 40))]) (aa [a7 41 4 7,bN 4 4 41] .ret))))))
@[simp] def Hr:List bX:=[.cell 4 true 4]
def PF:C:=(aa [aw 7 1 1,I 8 0,ch 9 143 7 8,I 6 9] (.seq (aa [aw 10 1 2,I 11 10,bW 11 false 12 6,au 11 false (aw 13 1 3),au 11 false (br 14 .eql 12 13),c6 15 11 14] (aZ 15 (aa [cN (.store 1 (.t 2) (.c (.bool true)))] .ret) .skip)) (aa [aw 16 1 4,I 17 6,bR 18 (.mget .i (.bool false) false (.t 16) (.t 17)),cJ 19 18,I 20 19,au 20 true (aw 21 1 1),au 20 true (eI 22 21),au 20 true (aI 23 2 1 22),au 20 true (aw 24 1 23),bW 20 true 25 6,au 20 true (bR 26 (.mget .i (.bool false) false (.t 24) (.t 25))),dq 27 20 26] (aZ 27 (aa [aw 28 1 4,I 29 6,cN (.mput .i (.t 28) (.t 29) (.c (.bool true)))] (.drawn false 40 [aw 30 1 1,aw 31 1 1,eI 32 31,aI 33 1 1 32,aw 34 1 33,I 35 6,bR 36 (.mgetB .i (.agg dd) false (.t 34) (.t 35)),aw 37 1 3,aw 38 1 4,dj 39 164 [.t 30,.t 36,.t 37,.t 38],bN 1 2 39])) .skip))))
@[simp] def Bj:List bX:=[]
def Jd:C:=(.seq (.drawn false 13 [bR 4 (.loadB false 1 (.t 1)),I 5 4,au 5 true (aw 6 1 2),au 5 true (aw 7 1 2),bW 5 true 8 0,au 5 true (ch 9 143 7 8),au 5 true (ch 10 167 6 9),au 5 true (cJ 11 10),dq 12 5 11]) (aZ 12 (.region [cN (.store 1 (.t 1) (.c (.bool false)))]) .skip))
@[simp] def Hs:List bX:=[]
def PJ:C:=(aa [cd 3 0] (.seq (.drawn false 12 [aw 4 1 1,eI 5 4,aI 6 4 1 5,aw 7 1 6,aw 8 1 1,I 9 0,ch 10 143 8 9,bR 11 (.mgetB .i (.int .i64 0) false (.t 7) (.t 10)),I 3 11]) .ret))
@[simp] def Wl:List bX:=[.tmp 3]
def PI:C:=(aa [c1 3 dd,bq 4 false] (.seq (.drawn false 10 [aw 5 1 1,aw 6 1 1,I 7 0,ch 8 143 6 7,ch 9 168 5 8,bN 4 3 9,bq 4 true]) .ret))
@[simp] def Wk:List bX:=[.cell 3 true 4,.tmp 4]
def o8:List (Nat×dz):=[
 (3,⟨1,8,.int .i64,.int .i64 0⟩),
 (4,⟨1,1,.bool,.bool false⟩),
 (9,⟨1,16,.str,.str []⟩),
 (34,⟨1,24,.slice 36,.slice 4 .nil []⟩),
 (36,⟨4,56,.struct [(0,3),(1,3),(2,9),(3,34)],.agg [.int .i64 0,.int .i64 0,.str [],.slice 4 .nil []]⟩),
 (51,⟨1,8,.map 3 4,.junk⟩),
 (57,⟨1,8,.map 3 3,.junk⟩),
 (139,⟨1,8,.other,.nilp⟩),
 (158,⟨1,8,.map 3 36,.junk⟩),
 (160,⟨6,48,.struct [(0,57),(1,158),(2,51),(3,57),(4,57),(5,158)],.agg [.junk,.junk,.junk,.junk,.junk,.junk]⟩)]
theorem jI:fI az o8=true:=by kernel_rfl
theorem aiE:b7 o8 P7 akr 1 Tryz.f28=true:=by kernel_rfl
theorem abX:az.funcs[(28:Nat)]? =some Tryz.f28:=Tryz.func28
theorem aiq:b7 o8 PT Wt 0 Tryz.f142=true:=by kernel_rfl
theorem abJ:az.funcs[(142:Nat)]? =some Tryz.f142:=Tryz.func142
theorem aid:b7 o8 PG Wj 2 Tryz.f143=true:=by kernel_rfl
theorem abx:az.funcs[(143:Nat)]? =some Tryz.f143:=Tryz.func143
theorem ah9:b7 o8 PC Wg 2 Tryz.f144=true:=by kernel_rfl
theorem abt:az.funcs[(144:Nat)]? =some Tryz.f144:=Tryz.func144
theorem yS:b7 o8 vU ot 3 Tryz.f145=true:=by kernel_rfl
theorem xW:az.funcs[(145:Nat)]? =some Tryz.f145:=Tryz.func145
theorem aia:b7 o8 PD Wh 2 Tryz.f163=true:=by kernel_rfl
theorem abu:az.funcs[(163:Nat)]? =some Tryz.f163:=Tryz.func163
theorem aib:b7 o8 PE Wi 4 Tryz.f164=true:=by kernel_rfl
theorem abv:az.funcs[(164:Nat)]? =some Tryz.f164:=Tryz.func164
theorem ah8:b7 o8 PB Wf 3 Tryz.f165=true:=by kernel_rfl
theorem abr:az.funcs[(165:Nat)]? =some Tryz.f165:=Tryz.func165
theorem DL:b7 o8 zE Bk 2 Tryz.f167=true:=by kernel_rfl
theorem Cn:az.funcs[(167:Nat)]? =some Tryz.f167:=Tryz.func167
theorem Mj:b7 o8 Fe Hr 2 Tryz.f168=true:=by kernel_rfl
theorem JT:az.funcs[(168:Nat)]? =some Tryz.f168:=Tryz.func168
theorem aic:b7 o8 PF Bj 5 Tryz.f189=true:=by kernel_rfl
theorem abw:az.funcs[(189:Nat)]? =some Tryz.f189:=Tryz.func189
theorem VE:b7 o8 Jd Hs 3 Tryz.f191=true:=by kernel_rfl
theorem RU:az.funcs[(191:Nat)]? =some Tryz.f191:=Tryz.func191
theorem aih:b7 o8 PJ Wl 2 Tryz.f192=true:=by kernel_rfl
theorem abA:az.funcs[(192:Nat)]? =some Tryz.f192:=Tryz.func192
theorem aif:b7 o8 PI Wk 2 Tryz.f193=true:=by kernel_rfl
theorem abz:az.funcs[(193:Nat)]? =some Tryz.f193:=Tryz.func193
end
section
open Go Go.Pv
section
variable {α:Type} (S:α->cS) (dm:∀a,dR (S a)) (ei:∀a b,Same (S a) (S b)) (g:Nat) (dn:List ai) (aq:∀a,aP (inObs (S a)) dn) (da:dv dn=dn)
include dm ei aq da in
theorem Sp(hl:α->Prop)(f:Int->α->Option α)(aR:∀v a bj,hl a->f v a=some bj->hl bj/\bH az g (.int .i64 v::dn) (S a) fun r ah=>r= .tuple []/\ah=S bj)(t:T):
  ∀a bj,hl a->t.foldO f a=some bj->hl bj/\bH az 107 [t.e,.func g dn] (S a) fun r ah=>r= .tuple []/\ah=S bj:=by
 have ay:∀a m,Pv.look (.loc m) (S a).b=none:=fun a=>(dm a).obj.1;have hu:∀a m cs,cA (.loc m) cs (S a).b=(S a).b++[(.loc m,cs)]:=fun a m cs=>kk (ay a m);have ax:∀a m,aL.loc m∉c2 (S a):=fun a=>kf (dm a).obj;induction t with
 |pair x y oj ql=>intro a bj hi he;have ag:=dm a;simp only[T.foldO,iJ]at he;obtain⟨bB,J,U⟩:=he;obtain⟨i1,g1⟩:=oj a bB hi J;obtain⟨i2,g2⟩:=ql bB bj i1 U;refine⟨i2,?_⟩;refine bH.mk mixed fJ zQ A8 Ψ ag.obj fun aT cI=>?_;unfold xR;simp[hu,ax,cV,ay,da];(with_reducible repeat' first|refine aj ?_|simp[hu,ax,cV,ay]);refine cW.ob g1 ag aK aK (by simp[aq]) ?_;rintro r ah ⟨rfl,rfl⟩;refine⟨ei _ _,?_⟩;simp[hh,iH,cb,ay];(with_reducible repeat' first|refine aj ?_|simp[hu,ax,cV,ay]);rw[da];refine cW.ob g2 (dm bB) aK aK (by simp[aq]) ?_;rintro r ah ⟨rfl,rfl⟩;refine⟨ei _ _,?_⟩;simp[hh,iH,cb,ay];refine cO.at (S bj) (.inr rfl) (dm _) (ei _ _) aK aK ?_;simp[cT,yZ,aW,aY,aV]
 |var n=>intro a bj hi he;have ag:=dm a;simp only[T.foldO]at he;obtain⟨i1,g1⟩:=aR n a bj hi he;refine⟨i1,?_⟩;refine bH.mk mixed fJ zQ A8 Ψ ag.obj fun aT cI=>?_;unfold xR;simp[hu,ax,cV,ay,da];(with_reducible repeat' first|refine aj ?_|simp[hu,ax,cV,ay]);refine cW.ob g1 ag aK aK (by simp[aq]) ?_;rintro r ah ⟨rfl,rfl⟩;refine⟨ei _ _,?_⟩;simp[hh,iH,cb,ay,cV];refine cO.at (S bj) (.inr rfl) (dm _) (ei _ _) aK aK ?_;simp[cT,yZ,aW,aY,aV]
 |_=>intro a bj hi he;have ag:=dm a;simp only[T.foldO,dC]at he;subst he;refine⟨hi,?_⟩;refine bH.mk mixed fJ zQ A8 Ψ ag.obj fun aT cI=>?_;unfold xR;simp[hu,ax,cV,ay,da];(with_reducible repeat' first|refine aj ?_|simp[hu,ax,cV,ay]);refine cO.at (S a) (.inr rfl) ag (Same.refl _) aK aK ?_;simp[cT,yZ,aW,aY,aV]
include dm ei aq da in
theorem Kc(f:Int->α->Option α)(aR:∀v a bj,f v a=some bj->bH az g (.int .i64 v::dn) (S a) fun r ah=>r= .tuple []/\ah=S bj)(t:T)(a bj:α)(h:t.foldO f a=some bj):bH az 107 [t.e,.func g dn] (S a) fun r ah=>r= .tuple []/\ah=S bj:=(Sp S dm ei g dn aq da (fun _=>True) f (fun v a bj _ h=>⟨trivial,aR v a bj h⟩) t a bj trivial h).2
include dm ei aq da in
theorem adM(f:Int->α->Option (T×α))(aR:∀v a p,f v a=some p->bH az g (.int .i64 v::dn) (S a) fun r ah=>r= .tuple [p.1.e,.bool true]/\ah=S p.2)(t:T):
  ∀a p,t.mapO f a=some p->bH az 115 [t.e,.func g dn] (S a) fun r ah=>r=p.1.e/\ah=S p.2:=by
 have ay:∀a m,Pv.look (.loc m) (S a).b=none:=fun a=>(dm a).obj.1;have cK:∀a m,Pv.look (.loc m) (S a).e=none:=fun a=>(dm a).obj.2;have hu:∀a m cs,cA (.loc m) cs (S a).b=(S a).b++[(.loc m,cs)]:=fun a m cs=>kk (ay a m);have ax:∀a m,aL.loc m∉c2 (S a):=fun a=>kf (dm a).obj;have lS:∀a m p r,cA (.loc m) p ((S a).b++r)=(S a).b++cA (.loc m) p r:=fun a m p r=>BJ (ay a m);induction t with
 |pair x y oj ql=>intro a p he;have ag:=dm a;simp only[T.mapO,iJ,gk]at he;obtain⟨c0,J,du,U,rfl⟩:=he;refine bH.mk mixed fJ zR A9 Ψ ag.obj fun aT cI=>?_;unfold xS;simp[hu,ax,cV,ay,cK,da,lS];(with_reducible repeat' first|refine aj ?_|simp[hu,ax,cV,ay,cK,lS]);refine gW.ob (oj a c0 J) ag (dm c0.2) (ei _ _) aK aK (by simp[aq]) ?_;simp[hh,iH,cb,ay,da];(with_reducible repeat' first|refine aj ?_|simp[hu,ax,cV,ay,cK,lS]);refine gW.ob (ql c0.2 du U) (dm c0.2) (dm du.2) (ei _ _) aK aK (by simp[aq,da]) ?_;simp[hh,iH,cb,ay,da];(with_reducible repeat' first|refine aj ?_|refine aD (Ir _ _) ?_|refine aE (Ir _ _) ?_|simp[cV,ay,lS]);refine cO.at (S du.2) (.inl rfl) (dm _) (ei _ _) aK aK ?_;simp[cT,y0,aW,aY,aV,cV,ay]
 |var n=>
  intro a p he;have ag:=dm a;simp only[T.mapO]at he;refine bH.mk mixed fJ zR A9 Ψ ag.obj fun aT cI=>?_;unfold xS;simp[hu,ax,cV,ay,da,lS];(with_reducible repeat' first|refine aj ?_|simp[hu,ax,cV,ay,lS]);refine cW.ob (aR n a p he) ag aK aK (by simp[aq]) ?_;rintro r ah ⟨rfl,rfl⟩;refine⟨ei _ _,?_⟩;simp[hh,iH,cb,ay,hu,ax,cV];(with_reducible repeat' first|refine aj ?_|refine aD (uj _) ?_|refine aE (uj _) ?_|simp[hu,ax,cV,ay,lS]);all_goals refine cO.at (S p.2) (.inl rfl) (dm _) (ei _ _) aK aK ?_
  all_goals simp[cT,y0,aW,aY,aV,cV,ay]
 |_=>intro a p he;have ag:=dm a;simp only[T.mapO,dC]at he;subst he;refine bH.mk mixed fJ zR A9 Ψ ag.obj fun aT cI=>?_;unfold xS;simp[hu,ax,cV,ay,da,lS];(with_reducible repeat' first|refine aj ?_|simp[hu,ax,cV,ay,lS]);refine cO.at (S a) (.inl rfl) ag (Same.refl _) aK aK ?_;simp[cT,y0,aW,aY,aV,cV,ay]
include dm ei aq da in
theorem adZ(hl:α->Prop)(f:Int->α->Option (Int×α))(CO:∀v a p,hl a->f v a=some p->hl p.2/\0<=p.1/\p.1<=1000000)(aR:∀v a p,hl a->f v a=some p->bH az g (.int .i64 v::dn) (S a) fun r ah=>r= .int .i64 p.1/\ah=S p.2)(t:T):
  ∀a p,hl a->t.sizeO f a=some p->hl p.2/\(0<=p.1/\p.1<=5001)/\bH az 112 [t.e,.func g dn] (S a) fun r ah=>r= .int .i64 p.1/\ah=S p.2:=by
 have ay:∀a m,Pv.look (.loc m) (S a).b=none:=fun a=>(dm a).obj.1;have hu:∀a m cs,cA (.loc m) cs (S a).b=(S a).b++[(.loc m,cs)]:=fun a m cs=>kk (ay a m);have ax:∀a m,aL.loc m∉c2 (S a):=fun a=>kf (dm a).obj;induction t with
 |pair x y oj ql=>
  intro a p hi he;have ag:=dm a;simp only[T.sizeO,iJ]at he;obtain⟨c0,J,U⟩:=he;obtain⟨i1,ck,g1⟩:=oj a c0 hi J;by_cases CJ:5000<c0.1
  ·rw[if_pos CJ]at U;cases U;refine⟨i1,ck,?_⟩;refine bH.mk mixed fJ xX yT Ψ ag.obj fun aT cI=>?_;unfold vV;simp[hu,ax,cV,ay,da];(with_reducible repeat' first|refine aj ?_|simp[hu,ax,cV,ay]);refine cW.ob g1 ag aK aK (by simp[aq]) ?_;rintro r ah ⟨rfl,rfl⟩;refine⟨ei _ _,?_⟩;simp[hh,iH,cb,ay];((with_reducible repeat' first|((first|apply bJ|apply bM|apply bL)<;>intro h<;>try simp at h)|refine aj ?_|simp[hu,ax,cV,ay])<;>(try contradiction));all_goals first|omega|(refine cO.at (S p.2) (.inl rfl) (dm _) (ei _ _) aK aK ?_;simp[cT,vw,aW,aY,aV])
  ·rw[if_neg CJ,gk]at U;obtain⟨du,U,rfl⟩:=U;obtain⟨i2,ca,g2⟩:=ql c0.2 du i1 U;refine⟨i2,by simp only;split<;>omega,?_⟩;refine bH.mk mixed fJ xX yT Ψ ag.obj fun aT cI=>?_;unfold vV;simp[hu,ax,cV,ay,da];(with_reducible repeat' first|((first|apply bJ|apply bM|apply bL)<;>intro h<;>try simp at h)|refine aj ?_|simp[hu,ax,cV,ay]);refine cW.ob g1 ag aK aK (by simp[aq]) ?_;rintro r ah ⟨rfl,rfl⟩;refine⟨ei _ _,?_⟩;simp[hh,iH,cb,ay];((with_reducible repeat' first|refine aj ?_|simp[hu,ax,cV,ay]|((first|apply bJ|apply bM|apply bL)<;>intro h<;>try simp at h))<;>(try exact cc));all_goals first|omega|skip
   rw[da];refine cW.ob g2 (dm c0.2) aK aK (by simp[aq]) ?_;rintro r s2 ⟨rfl,rfl⟩;refine⟨ei _ _,?_⟩;simp[hh,iH,cb,ay];(with_reducible repeat' first|refine aj ?_|simp[hu,ax,cV,ay]);refine cO.at (S du.2) (.inl rfl) (dm _) (ei _ _) aK aK ?_;simp[cT,vw,aW,aY,aV]
 |var n=>intro a p hi he;have ag:=dm a;simp only[T.sizeO,gk]at he;obtain⟨c0,J,rfl⟩:=he;have ab:=CO n a c0 hi J;refine⟨ab.1,by simp only;split<;>omega,?_⟩;refine bH.mk mixed fJ xX yT Ψ ag.obj fun aT cI=>?_;unfold vV;simp[hu,ax,cV,ay,da];(with_reducible repeat' first|refine aj ?_|simp[hu,ax,cV,ay]);refine cW.ob (aR n a c0 hi J) ag aK aK (by simp[aq]) ?_;rintro r ah ⟨rfl,rfl⟩;refine⟨ei _ _,?_⟩;simp[hh,iH,cb,ay];refine cO.at (S c0.2) (.inl rfl) (dm _) (ei _ _) aK aK ?_;simp[cT,vw,aW,aY,aV]
 |_=>intro a p hi he;have ag:=dm a;simp only[T.sizeO,dC]at he;subst he;refine⟨hi,Ψ,?_⟩;refine bH.mk mixed fJ xX yT Ψ ag.obj fun aT cI=>?_;unfold vV;simp[hu,ax,cV,ay,da];(with_reducible repeat' first|refine aj ?_|simp[hu,ax,cV,ay]);refine cO.at (S a) (.inl rfl) ag (Same.refl _) aK aK ?_;simp[cT,vw,aW,aY,aV]
end
end
section
open Go Go.Pv
theorem LO{α β:Type}(k:aL):∀{l:List (aL×α)} {a1:List (aL×β)},l.map (·.1)=a1.map (·.1)->(Pv.look k l).isSome=(Pv.look k a1).isSome
 |[],[],_=>rfl
 |[],_::_,h=>by simp at h
 |_::_,[],h=>by simp at h
 |(i,x)::r,(j,y)::eM,h=>by
  simp only[hk,xE]at h;simp only[Pv.look];obtain⟨rfl,h⟩:=h;split
  ·rfl
  ·exact LO k h
theorem _root_.Go.Pv.Same.keys{s ah:cS}(ab:s.b.map (·.1)=ah.b.map (·.1))(he:s.e.map (·.1)=ah.e.map (·.1)):Same s ah:=⟨fun k=>LO k ab,fun k=>LO k he⟩
section
variable {α:Type} (e:α->ai)
def sr(l:List (Int×α)):List ai:=jX (l.map fun x=>(x.1,e x.2))
theorem OR(k:Int):∀l:List (Int×α),tb k (l.map fun x=>(x.1,e x.2))=(tg k l).map e
 |[]=>rfl
 |(i,v)::r=>by
  simp only[hk,tb,tg];split
  ·rfl
  ·exact OR k r
theorem OZ(k:Int)(v:α):∀l:List (Int×α),pt k (e v) (l.map fun x=>(x.1,e x.2))=if(tg k l).isSome then some ((eS k v l).map fun x=>(x.1,e x.2))else none
 |[]=>rfl
 |(i,w)::r=>by
  simp only[hk,pt,tg,eS];by_cases h:k=i
  ·subst h;simp
  ·simp only[h,if_false,OZ k v r];cases (tg k r).isSome<;>simp
theorem XK{k:Int}{v:α}:∀{l:List (Int×α)},tg k l=none->eS k v l=l++[(k,v)]
 |[],_=>rfl
 |(i,w)::r,h=>by
  simp only[tg]at h;split at h
  ·cases h
  ·rename_i cK;simp[eS,cK,XK h]
theorem L9(k:Int)(v:α)(l:List (Int×α)):nK .i (.int .i64 k) (e v) (sr e l)=some (sr e (eS k v l)):=by
 simp only[sr,Vo,E6,OZ];cases h:tg k l with
 |some w=>simp
 |none=>simp[XK h]
theorem L5(f:aL->Option (List ai))(m:aL)(l:List (Int×α))(z:ai)(ok:Bool)(k:Int)(hm:f m=some (sr e l)):nb f .i z ok (.gmap m) (.int .i64 k)=some (True,if ok then .tuple [((tg k l).map e).getD z,.bool (tg k l).isSome]else((tg k l).map e).getD z):=by rw[Va f m _ z ok k hm,OR];cases tg k l<;>rfl
@[simp]theorem aq2(l:List (Int×α)):hV (sr e l)=false:=rfl
theorem LB(S:aL->Prop)(he:∀x,aG S (e x))(l:List (Int×α)):aP S (sr e l):=by
 have:∀l:List (Int×α),aP S (kE (l.map fun x=>(x.1,e x.2))):=by
  intro l;induction l with
  |nil=>simp[kE,aP]
  |cons x r bU=>simp[kE,aP,bU,he]
 simp[sr,jX,aP,this,aG]
end
def k7:List (Int×Int)->List ai:=sr (ai.int .i64)
def qt:List (Int×Bool)->List ai:=sr ai.bool
def tT:List (Int×T)->List ai:=sr T.e
@[simp]theorem aqZ(l):hV (k7 l)=false:=rfl
@[simp]theorem aqX(l):hV (qt l)=false:=rfl
@[simp]theorem aq1(l):hV (tT l)=false:=rfl
@[simp]theorem apW(S:aL->Prop)(l):aP S (k7 l)=True:=eq_true (LB _ S (fun _=>by simp) l)
@[simp]theorem apV(S:aL->Prop)(l):aP S (qt l)=True:=eq_true (LB _ S (fun _=>by simp) l)
@[simp]theorem apX(S:aL->Prop)(l):aP S (tT l)=True:=eq_true (LB _ S (fun _=>by simp) l)
@[simp]theorem aqL(k v:Int)(l):nK .i (.int .i64 k) (.int .i64 v) (k7 l)=some (k7 (eS k v l)):=L9 _ k v l
@[simp]theorem aqK(k:Int)(v:Bool)(l):nK .i (.int .i64 k) (.bool v) (qt l)=some (qt (eS k v l)):=L9 _ k v l
@[simp]theorem aqN(k:Int)(v:T)(l):nK .i (.int .i64 k) v.e (tT l)=some (tT (eS k v l)):=L9 _ k v l
def yK(cg:jO)(z:ai)(ok:Bool)(o:Option (List ai))(k:ai):Option (Prop×ai):=nb (fun _=>o) cg z ok (.gmap (.loc 0)) k
@[simp]theorem aqI(f:aL->Option (List ai))(cg:jO)(z:ai)(ok:Bool)(m:aL)(k:ai):nb f cg z ok (.gmap m) k=yK cg z ok (f m) k:=by simp only[yK,L6]
theorem ahq(f:aL->Option (List ai))(m:aL)(l:List (Int×Int))(ok:Bool)(k:Int)(hm:f m=some (k7 l)):nb f .i (.int .i64 0) ok (.gmap m) (.int .i64 k)=some (True,if ok then .tuple [.int .i64 (hq l k),.bool (tg k l).isSome]else .int .i64 (hq l k)):=by rw[L5 _ f m l _ ok k hm];unfold hq;cases tg k l<;>rfl
theorem ahp(f:aL->Option (List ai))(m:aL)(l:List (Int×Bool))(ok:Bool)(k:Int)(hm:f m=some (qt l)):nb f .i (.bool false) ok (.gmap m) (.int .i64 k)=some (True,if ok then .tuple [.bool ((tg k l).getD false),.bool (tg k l).isSome]else .bool ((tg k l).getD false)):=by rw[L5 _ f m l _ ok k hm];cases tg k l<;>rfl
def XF:ai:= .agg [.int .i64 0,.int .i64 0,.str [],.slice 4 .nil []]
def xm(o:Option T):ai:=(o.map T.e).getD XF
theorem ahr(f:aL->Option (List ai))(m:aL)(l:List (Int×T))(ok:Bool)(k:Int)(hm:f m=some (tT l)):nb f .i (.agg [.int .i64 0,.int .i64 0,.str [],.slice 4 .nil []]) ok (.gmap m) (.int .i64 k)=some (True,if ok then .tuple [xm (tg k l),.bool (tg k l).isSome]else xm (tg k l)):=by rw[L5 _ f m l _ ok k hm];rfl
@[simp]theorem aqF(l:List (Int×Int))(ok:Bool)(k:Int):yK .i (.int .i64 0) ok (some (k7 l)) (.int .i64 k)=some (True,if ok then .tuple [.int .i64 (hq l k),.bool (tg k l).isSome]else .int .i64 (hq l k)):=ahq _ _ l ok k rfl
@[simp]theorem aqE(l:List (Int×Bool))(ok:Bool)(k:Int):yK .i (.bool false) ok (some (qt l)) (.int .i64 k)=some (True,if ok then .tuple [.bool ((tg k l).getD false),.bool (tg k l).isSome]else .bool ((tg k l).getD false)):=ahp _ _ l ok k rfl
@[simp]theorem aqG(l:List (Int×T))(ok:Bool)(k:Int):yK .i (.agg [.int .i64 0,.int .i64 0,.str [],.slice 4 .nil []]) ok (some (tT l)) (.int .i64 k)=some (True,if ok then .tuple [xm (tg k l),.bool (tg k l).isSome]else xm (tg k l)):=ahr _ _ l ok k rfl
@[simp]theorem arS(o:Option T):ey (xm o)=(o.getD .nil).e:=by cases o<;>simp[xm,XF,ey,dv]
@[simp]theorem aqs:[ai.hdm 0 []]=jX []:=rfl
def aB:ai:= .eptr (.agg [.gmap (.obj 702),.gmap (.obj 703),.gmap (.obj 704),.gmap (.obj 705),.gmap (.obj 706),.gmap (.obj 707)])
def aA(c:bt):List (aL×List ai):=[(.obj 702,k7 c.up),(.obj 703,tT c.shape),(.obj 704,qt c.shaped),(.obj 705,k7 c.color),(.obj 706,k7 c.size),(.obj 707,tT c.full)]
def aO(c:bt):cS:=⟨aA c,[]⟩
theorem cj(c:bt):dR (aO c):=by unfold aO aA;exact dR.of ⟨by intro m;simp[Pv.look],by intro m;simp[Pv.look]⟩ Ψ Ψ
theorem EV(c cp:bt):Same (aO c) (aO cp):=by
 refine⟨fun k=>?_,fun k=>rfl⟩;simp only[aO,aA,Pv.look];repeat' split
 all_goals rfl
theorem rW(c:bt)(v r:Int)(cp:bt)(he:rt c v=some (r,cp)):bH az 143 [aB,.int .i64 v] (aO c) fun eM ah=>eM= .int .i64 r/\ah=aO cp:=by
 have ag:=cj c;have fF:=cj cp;have ei:=EV c cp;simp only[rt,gk,jM]at he;obtain⟨⟨eU,m1⟩,he,rfl,rfl⟩:=he;unfold aO aA at ag fF ei⊢;simp only at fF ei⊢;unfold aB;refine bH.mk mixed jI abx aid Ψ ag.obj fun aT cI=>?_;unfold PG;simp;(with_reducible repeat' first|((first|apply bJ|apply bM|apply bL)<;>intro h<;>try simp at h)|refine aj ?_|simp);all_goals
  refine nu (α:=Nat×Int×List (Int×Int)) (fun a=>⟨[(0,aB),(1,.int .i64 a.2.1)],[(.obj 702,k7 a.2.2),(.obj 703,tT c.shape),(.obj 704,qt c.shaped),(.obj 705,k7 c.color),(.obj 706,k7 c.size),(.obj 707,tT c.full)],[],0,[.obj 702,.obj 703,.obj 704,.obj 705,.obj 706,.obj 707]⟩) (fun a=>a.1) (fun a=>xd a.1 a.2.2 a.2.1=some (eU,m1)) (v.toNat+1,v,zx v c.up) (by simp[zx,h,aB];exact⟨by simp[fresh,aP,aG,cn,inObs,Pv.look,aB],en (by simp[fresh,aP,aG,cn,inObs,Pv.look,aB]),eo (by simp[fresh,aP,aG,dV,inObs,Pv.look,aB]),Ψ⟩) he ?_
  rintro⟨n,u,m⟩ af ab
  simp only at af ab⊢
  cases n with
  |zero=>simp[xd]at af
  |succ n=>
   simp only[xd]at af
   simp[aB]
   (with_reducible repeat' first|((first|apply bJ|apply bM|apply bL)<;>intro h<;>try simp at h)|refine aj ?_|simp)
   ·rw[if_neg h]at af
    refine bQ.whl (n,hq (eS u (hq m (hq m u)) m) u,eS u (hq m (hq m u)) m) (Nat.lt_succ_self n) af ?_
    simp[aB]
    exact⟨by simp[fresh,aP,aG,cn,inObs,Pv.look,aB],en (by simp[fresh,aP,aG,cn,inObs,Pv.look,aB]),eo (by simp[fresh,aP,aG,dV,inObs,Pv.look,aB]),Ψ⟩
   ·rw[if_pos h]at af
    cases af
    refine cO.at _ (.inl rfl) fF ei aK aK ?_
    simp[cT,Wj,aW,aY,aV]
end
section
open Go Go.Pv
theorem adN(c:bt)(v r:Int)(cp:bt)(he:rt c v=some (r,cp)):bH az 163 [.int .i64 v,.eptr aB] (aO c) fun eM ah=>eM= .tuple []/\ah=aO cp:=by have ag:=cj c;simp only[aO,aA]at ag⊢;refine bH.mk mixed jI abu aia Ψ ag.obj fun aT cI=>?_;unfold PD;simp[aB];(refine cW.ob (rW c v r cp he) bi be be dl ?_;rintro r ah ⟨rfl,rfl⟩;refine⟨(Same.keys bv bv),?_⟩;simp[cb,aO,aA,aB]);(refine cO.at (aO cp) Ψ bi (Same.keys bv bv) be be ?_;simp[cT,Wh,aW,aY,aV,inObs,Pv.look,aO,aA,aB])
theorem Kf(c:bt)(t:T)(cp:bt)(he:AU t c=some cp):bH az 144 [aB,t.e] (aO c) fun eM ah=>eM= .tuple []/\ah=aO cp:=by
 have ag:=cj c;have key:=Kc aO cj EV 163 [.eptr aB] (fun a=>by simp[aO,aA,aB,inObs,Pv.look]) rfl (fun(v:Int) (c:bt)=>(rt c v).map Prod.snd) (fun v a bj h=>by rw[gk]at h;obtain⟨⟨r,bT⟩,J,rfl⟩:=h;exact adN a v r bT J) t c cp he
 simp only[aO,aA]at ag⊢;refine bH.mk mixed jI abt ah9 Ψ ag.obj fun aT cI=>?_;unfold PC;simp[aB];(refine cW.ob (key) bi be be dl ?_;rintro r ah ⟨rfl,rfl⟩;refine⟨(Same.keys bv bv),?_⟩;simp[cb,aO,aA,aB]);(refine cO.at (aO cp) Ψ bi (Same.keys bv bv) be be ?_;simp[cT,Wg,aW,aY,aV,inObs,Pv.look,aO,aA,aB])
def ez(K:Nat)(a:bt×List (Int×Bool)):cS:=⟨aA a.1++[(.obj K,qt a.2)],[]⟩
def gd(K:Nat)(a:uv):cS:=⟨aA a.c++[(.obj K,qt a.seen),(.obj 712,[.bool a.found])],[]⟩
def yQ(K:Nat):Prop:=K=715\/K=716
theorem il{K:Nat}(c4:yQ K)(a):dR (ez K a):=by unfold ez aA;rcases c4 with rfl|rfl;all_goals exact dR.of ⟨by intro m;simp[Pv.look],by intro m;simp[Pv.look]⟩ Ψ Ψ
theorem p3{K:Nat}(c4:yQ K)(a):dR (gd K a):=by unfold gd aA;rcases c4 with rfl|rfl;all_goals exact dR.of ⟨by intro m;simp[Pv.look],by intro m;simp[Pv.look]⟩ Ψ Ψ
theorem IC{K:Nat}(a b):Same (gd K a) (gd K b):=by
 refine⟨fun k=>?_,fun k=>rfl⟩;simp only[gd,aA,bO,bS,Pv.look];repeat' split
 all_goals rfl
theorem adT{K:Nat}(c4:yQ K)(n:Nat)(x:Int)(wC:∀t c seen a,pV n x t c seen=some a->bH az 164 [aB,t.e,.int .i64 x,.gmap (.obj K)] (ez K (c,seen)) fun r ah=>r= .bool a.found/\ah=ez K (a.c,a.seen))
  (v:Int) (a bj:uv) (he:xc (pV n x) x v a=some bj):bH az 189 [.int .i64 v,.eptr aB,.ptr (.obj 712) 0,.eptr (.int .i64 x),.eptr (.gmap (.obj K))] (gd K a) fun r ah=>r= .tuple []/\ah=gd K bj:=by
 have ag:=p3 c4 a;simp only[xc,iJ]at he;obtain⟨⟨r,bT⟩,J,U⟩:=he;simp only at U;have ad:=c4;rcases ad with rfl|rfl;all_goals
  simp only[gd,aA,bO,bS]at ag⊢
  refine bH.mk mixed jI abw aic Ψ ag.obj fun aT cI=>?_;unfold PF
  simp[aB]
  (refine cW.ob (rW a.c v r bT J) bi be be dl ?_;rintro r ah ⟨rfl,rfl⟩;refine⟨(Same.keys bv bv),?_⟩;simp[cb,aO,aA,aB])
  obtain⟨ac,ue,IT⟩:=a
  cases IT with
  |true=>
   simp at U;subst U
   (with_reducible repeat' first|refine aj ?_|simp)
   (refine cO.at (gd _ ⟨bT,ue,true⟩) Ψ (by first|exact p3 _|exact p3 ‹_› _) (Same.keys (by simp[gd,aA,aB]) (by simp[gd,aA,aB])) gc gc ?_;simp[cT,Bj,aW,aY,aV,inObs,Pv.look,gd,aA,aB])
  |false=>
   by_cases ae:r=x
   ·simp[ae]at U;subst U
    (with_reducible repeat' first|refine aj ?_|simp[ae])
    (refine cO.at (gd _ ⟨bT,ue,true⟩) Ψ (by first|exact p3 _|exact p3 ‹_› _) (Same.keys (by simp[gd,aA,aB]) (by simp[gd,aA,aB])) gc gc ?_;simp[cT,Bj,aW,aY,aV,inObs,Pv.look,gd,aA,aB])
   ·have iu:(r==x)=false:=by simp[ae]
    simp only[ae,gO,or_self,if_false]at U
    cases lQ:(tg r ue).getD false with
    |true=>
     simp[lQ]at U;subst U
     (with_reducible repeat' first|refine aj ?_|simp[iu,lQ])
     (refine cO.at (gd _ ⟨bT,ue,false⟩) Ψ (by first|exact p3 _|exact p3 ‹_› _) (Same.keys (by simp[gd,aA,aB]) (by simp[gd,aA,aB])) gc gc ?_;simp[cT,Bj,aW,aY,aV,inObs,Pv.look,gd,aA,aB])
    |false=>
     cases gK:bT.shd r with
     |false=>
      have K3:(tg r bT.shaped).getD false=false:=gK
      simp[lQ,gK]at U;subst U
      (with_reducible repeat' first|refine aj ?_|simp[iu,lQ,K3])
      (refine cO.at (gd _ ⟨bT,ue,false⟩) Ψ (by first|exact p3 _|exact p3 ‹_› _) (Same.keys (by simp[gd,aA,aB]) (by simp[gd,aA,aB])) gc gc ?_;simp[cT,Bj,aW,aY,aV,inObs,Pv.look,gd,aA,aB])
     |true=>
      have K3:(tg r bT.shaped).getD false=true:=gK
      simp[lQ,gK]at U
      have aJ:=wC _ _ _ _ U
      (with_reducible repeat' first|refine aj ?_|simp[iu,lQ,K3])
      (refine gW.ob (aJ) d8 d8 (Same.keys (by simp[ez,aA,aB]) (by simp[ez,aA,aB])) (by simp only[ez,aA,aB,bO,bS];exact aK) (by simp only[ez,aA,aB,bO,bS];exact aK) (by simp[inObs,Pv.look,ez,aA,aB]) ?_;simp[cb,ez,aA,aB])
      (with_reducible repeat' first|refine aj ?_|simp)
      (refine cO.at (gd _ bj) Ψ (by first|exact p3 _|exact p3 ‹_› _) (Same.keys (by simp[gd,aA,aB]) (by simp[gd,aA,aB])) gc gc ?_;simp[cT,Bj,aW,aY,aV,inObs,Pv.look,gd,aA,aB])
theorem FO{K:Nat}(c4:yQ K)(x:Int)(n:Nat):∀(t:T) (c:bt) (seen:List (Int×Bool)) (a:uv),pV n x t c seen=some a->bH az 164 [aB,t.e,.int .i64 x,.gmap (.obj K)] (ez K (c,seen)) fun r ah=>r= .bool a.found/\ah=ez K (a.c,a.seen):=by
 induction n with
 |zero=>intro t c seen a h;simp[pV]at h
 |succ n bU=>
  intro t c seen a h;simp only[pV]at h;have ag:=il c4 (c,seen);have key:=Kc (gd K) (p3 c4) IC 189 [.eptr aB,.ptr (.obj 712) 0,.eptr (.int .i64 x),.eptr (.gmap (.obj K))] (fun a=>by rcases c4 with rfl|rfl<;>simp[gd,aA,aB,inObs,Pv.look]) rfl (xc (pV n x) x) (fun v a bj h=>adT c4 n x bU v a bj h) t ⟨c,seen,false⟩ a h;have ad:=c4;rcases ad with rfl|rfl;all_goals
   simp only[ez,aA,bO,bS]at ag⊢
   refine bH.mk mixed jI abv aib Ψ ag.obj fun aT cI=>?_;unfold PE
   simp[aB]
   refine cW.new key (p3 c4 _) gc gc (by simp[inObs,Pv.look,gd,aA,aB]) ?_
   rintro r ah ⟨rfl,rfl⟩
   refine⟨fun m hm=>.inl ⟨?_,IC _ _⟩,?_⟩
   ·exact((IC _ _).inObs _).2 hm
   simp[cb,gd,aA]
   (with_reducible repeat' first|refine aj ?_|simp)
   (refine cO.at (ez _ (a.c,a.seen)) Ψ d8 (Same.keys (by simp[ez,aA,aB]) (by simp[ez,aA,aB])) (by simp only[ez,aA,aB,bO,bS];exact aK) (by simp only[ez,aA,aB,bO,bS];exact aK) ?_;simp[cT,Wi,aW,aY,aV,inObs,Pv.look,ez,aA,aB])
@[simp]theorem LQ:qt []=jX []:=rfl
@[simp]theorem arU(t:T):xm (some t)=t.e:=rfl
@[simp]theorem arT:xm none= .agg [.int .i64 0,.int .i64 0,.str [],.slice 4 .nil []]:=rfl
theorem Ss(n:Nat)(x:Int)(t:T)(c:bt)(p:Bool×bt)(he:vi n x t c=some p):bH az 165 [aB,.int .i64 x,t.e] (aO c) fun r ah=>r= .bool p.1/\ah=aO p.2:=by have ag:=cj c;simp only[vi,gk]at he;obtain⟨a,J,rfl⟩:=he;have c4:yQ 715:= .inl rfl;have key:=FO c4 x n t (c.know x t) [] a J;simp only[aO,aA]at ag⊢;refine bH.mk mixed jI abr ah8 Ψ ag.obj fun aT cI=>?_;unfold PB;simp[aB];(refine cW.ob (key) d8 (by simp only[ez,aA,aB,bt.know,bO,bS];exact aK) (by simp only[ez,aA,aB,bt.know,bO,bS];exact aK) (by simp[inObs,Pv.look,ez,aA,aB,bt.know]) ?_;rintro r ah ⟨rfl,rfl⟩;refine⟨(Same.keys (by simp[ez,aA,aB,bt.know]) (by simp[ez,aA,aB,bt.know])),?_⟩;simp[cb,ez,aA,aB,bt.know]);(refine cO.at (aO a.c) Ψ bi (Same.keys bv bv) be be ?_;simp[cT,Wf,aW,aY,aV,inObs,Pv.look,aO,aA,aB])
theorem Sq(n:Nat):∀(a b:T) (c:bt) (p:Bool×bt),gF n a b c=some p->bH az 145 [aB,a.e,b.e] (aO c) fun r ah=>r= .bool p.1/\ah=aO p.2:=by
 induction n with
 |zero=>intro a b c p h;simp[gF]at h
 |succ n bU=>
  intro a b c p he;have ag:=cj c;have Dd:∀i j,a= .var i->b= .var j->bH az 145 [aB,a.e,b.e] (aO c) fun r ah=>r= .bool p.1/\ah=aO p.2:=by
   rintro i j rfl rfl;simp only[gF,iJ]at he;obtain⟨⟨x,bT⟩,J,⟨y,cx⟩,U,ar⟩:=he;simp only at U ar;simp only[aO,aA]at ag⊢;refine bH.mk mixed jI xW yS Ψ ag.obj fun aT cI=>?_;unfold vU;simp[aB];(refine cW.ob (rW c i x bT J) bi be be dl ?_;rintro r ah ⟨rfl,rfl⟩;refine⟨(Same.keys bv bv),?_⟩;simp[cb,aO,aA,aB]);(with_reducible repeat' first|refine aj ?_|simp);(refine cW.ob (rW bT j y cx U) bi be be dl ?_;rintro r ah ⟨rfl,rfl⟩;refine⟨(Same.keys bv bv),?_⟩;simp[cb,aO,aA,aB]);by_cases h2:x=y
   ·rw[if_pos h2]at ar;cases ar;(with_reducible repeat' first|refine aj ?_|simp[h2]);(refine cO.at (aO cx) Ψ bi (Same.keys bv bv) be be ?_;simp[cT,ot,aW,aY,aV,inObs,Pv.look,aO,aA,aB])
   ·rw[if_neg h2]at ar;have AE:(x==y)=false:=by simp[h2]
    have SM:yQ 715:= .inl rfl;have aet:yQ 716:= .inr rfl;obtain⟨u,v,AA,a8⟩:∃u v,((u=y/\v=x/\y<x)\/(u=x/\v=y/\¬y<x))/\rP (gF n) n u v (cx.join u v)=some p:=by
     by_cases bs:y<x
     ·rw[if_pos bs]at ar;exact⟨y,x,.inl ⟨rfl,rfl,bs⟩,ar⟩
     ·rw[if_neg bs]at ar;exact⟨x,y,.inr ⟨rfl,rfl,bs⟩,ar⟩
    clear ar;obtain⟨d,aN⟩:∃d,d=cx.join u v:=⟨_,rfl⟩;have fk:d.up=eS v u cx.up:=by rw[aN];rfl
    have eQ:d.shape=cx.shape:=by rw[aN];rfl
    have gG:d.shaped=cx.shaped:=by rw[aN];rfl
    have hI:d.color=cx.color:=by rw[aN];rfl
    have hJ:d.size=cx.size:=by rw[aN];rfl
    have hK:d.full=cx.full:=by rw[aN];rfl
    rw[<-aN]at a8;simp only[rP]at a8;cases aC:d.shd v with
    |false=>
     have mn:(tg v cx.shaped).getD false=false:=by rw[<-gG];exact aC
     rw[if_pos aC]at a8;cases hu:d.shd u with
     |false=>
      have u6:(tg u cx.shaped).getD false=false:=by rw[<-gG];exact hu
      rw[if_pos hu]at a8;cases a8;rcases AA with⟨rfl,rfl,bs⟩|⟨rfl,rfl,bs⟩;all_goals
       (with_reducible repeat' first|refine aj ?_|simp[AE,bs,mn,u6])
       (refine cO.at (aO d) Ψ bi (Same.keys (by simp[aO,aA,aB,fk,eQ,gG,hI,hJ,hK]) (by simp[aO,aA,aB,fk,eQ,gG,hI,hJ,hK])) (by simp only[aO,aA,aB,fk,eQ,gG,hI,hJ,hK,bO,bS];exact aK) (by simp only[aO,aA,aB,fk,eQ,gG,hI,hJ,hK,bO,bS];exact aK) ?_;simp[cT,ot,aW,aY,aV,inObs,Pv.look,aO,aA,aB,fk,eQ,gG,hI,hJ,hK])
     |true=>
      have u6:(tg u cx.shaped).getD false=true:=by rw[<-gG];exact hu
      rw[if_neg (by simp[hu]),gk]at a8;obtain⟨a,b8,rfl⟩:=a8;have key:=FO SM u n _ _ _ _ b8;rw[show d.shp u=(tg u cx.shape).getD .nil from by rw[<-eQ];rfl]at key;rcases AA with⟨rfl,rfl,bs⟩|⟨rfl,rfl,bs⟩;all_goals
       (with_reducible repeat' first|refine aj ?_|simp[AE,bs,mn,u6])
       (refine cW.ob (key) d8 ge ge (by simp[inObs,Pv.look,ez,aA,aB,fk,eQ,gG,hI,hJ,hK]) ?_;rintro r ah ⟨rfl,rfl⟩;refine⟨(Same.keys (by simp[ez,aA,aB,fk,eQ,gG,hI,hJ,hK]) (by simp[ez,aA,aB,fk,eQ,gG,hI,hJ,hK])),?_⟩;simp[cb,ez,aA,aB,fk,eQ,gG,hI,hJ,hK])
       (with_reducible repeat' first|refine aj ?_|simp)
       (refine cO.at (aO a.c) Ψ bi (Same.keys bv bv) be be ?_;simp[cT,ot,aW,aY,aV,inObs,Pv.look,aO,aA,aB])
    |true=>
     have mn:(tg v cx.shaped).getD false=true:=by rw[<-gG];exact aC
     rw[if_neg (by simp[aC])]at a8;rw[show d.shp v=(tg v cx.shape).getD .nil from by rw[<-eQ];rfl]at a8;cases hu:d.shd u with
     |false=>
      have u6:(tg u cx.shaped).getD false=false:=by rw[<-gG];exact hu
      rw[if_pos hu]at a8;have key:=Ss n u _ d p a8;cases aM:tg v cx.shape;all_goals
       rw[aM]at key
       simp only[jL,l7]at key
       rcases AA with⟨rfl,rfl,bs⟩|⟨rfl,rfl,bs⟩
       all_goals
        (with_reducible repeat' first|refine aj ?_|simp[AE,bs,mn,u6,aM])
        (refine cW.ob (key) bi (by simp only[aO,aA,aB,fk,eQ,gG,hI,hJ,hK,bO,bS];exact aK) (by simp only[aO,aA,aB,fk,eQ,gG,hI,hJ,hK,bO,bS];exact aK) (by simp[inObs,Pv.look,aO,aA,aB,fk,eQ,gG,hI,hJ,hK]) ?_;rintro r ah ⟨rfl,rfl⟩;refine⟨(Same.keys (by simp[aO,aA,aB,fk,eQ,gG,hI,hJ,hK]) (by simp[aO,aA,aB,fk,eQ,gG,hI,hJ,hK])),?_⟩;simp[cb,aO,aA,aB,fk,eQ,gG,hI,hJ,hK])
        (with_reducible repeat' first|refine aj ?_|simp)
        (refine cO.at (aO p.2) Ψ bi (Same.keys bv bv) be be ?_;simp[cT,ot,aW,aY,aV,inObs,Pv.look,aO,aA,aB])
     |true=>
      have u6:(tg u cx.shaped).getD false=true:=by rw[<-gG];exact hu
      rw[if_neg (by simp[hu]),iJ]at a8;obtain⟨a,b8,de⟩:=a8;have key:=FO SM u n _ _ _ _ b8;obtain⟨o,aM⟩:∃o,tg v cx.shape=o:=⟨_,rfl⟩;rw[aM]at key de;obtain⟨ac,ue,IT⟩:=a;cases IT with
      |true=>
       simp at de;subst de;cases o;all_goals
        simp only[jL,l7]at key
        rcases AA with⟨rfl,rfl,bs⟩|⟨rfl,rfl,bs⟩
        all_goals
         (with_reducible repeat' first|refine aj ?_|simp[AE,bs,mn,u6,aM])
         (refine gW.ob (key) d8 d8 (Same.keys (by simp[ez,aA,aB,fk,eQ,gG,hI,hJ,hK]) (by simp[ez,aA,aB,fk,eQ,gG,hI,hJ,hK])) ge ge (by simp[inObs,Pv.look,ez,aA,aB,fk,eQ,gG,hI,hJ,hK]) ?_;simp[cb,ez,aA,aB,fk,eQ,gG,hI,hJ,hK])
         (with_reducible repeat' first|refine aj ?_|simp)
         (refine cO.at (aO ac) Ψ bi (Same.keys bv bv) be be ?_;simp[cT,ot,aW,aY,aV,inObs,Pv.look,aO,aA,aB])
      |false=>
       simp only[gO,if_false,iJ]at de;obtain⟨b,dX,ll⟩:=de;have wQ:=FO aet u n _ _ _ _ dX;rw[show ac.shp u=(tg u ac.shape).getD .nil from rfl]at wQ;obtain⟨I2,aog,ZE⟩:=b;cases ZE with
       |true=>
        simp at ll;subst ll;cases o;all_goals
         simp only[jL,l7]at key
         rcases AA with⟨rfl,rfl,bs⟩|⟨rfl,rfl,bs⟩
         all_goals
          (with_reducible repeat' first|refine aj ?_|simp[AE,bs,mn,u6,aM])
          (refine gW.ob (key) d8 d8 (Same.keys (by simp[ez,aA,aB,fk,eQ,gG,hI,hJ,hK]) (by simp[ez,aA,aB,fk,eQ,gG,hI,hJ,hK])) ge ge (by simp[inObs,Pv.look,ez,aA,aB,fk,eQ,gG,hI,hJ,hK]) ?_;simp[cb,ez,aA,aB,fk,eQ,gG,hI,hJ,hK])
          (with_reducible repeat' first|refine aj ?_|simp)
          (refine gW.ob (wQ) d8 d8 (Same.keys (by simp[ez,aA,aB]) (by simp[ez,aA,aB])) (by simp only[ez,aA,aB,bO,bS];exact aK) (by simp only[ez,aA,aB,bO,bS];exact aK) (by simp[inObs,Pv.look,ez,aA,aB]) ?_;simp[cb,ez,aA,aB])
          (with_reducible repeat' first|refine aj ?_|simp)
          (refine cO.at (aO I2) Ψ bi (Same.keys bv bv) be be ?_;simp[cT,ot,aW,aY,aV,inObs,Pv.look,aO,aA,aB])
       |false=>
        simp only[gO,if_false]at ll;have Lw:=bU _ _ _ _ ll;rw[show I2.shp u=(tg u I2.shape).getD .nil from rfl]at Lw;cases o;all_goals
         simp only[jL,l7]at key Lw
         rcases AA with⟨rfl,rfl,bs⟩|⟨rfl,rfl,bs⟩
         all_goals
          (with_reducible repeat' first|refine aj ?_|simp[AE,bs,mn,u6,aM])
          (refine gW.ob (key) d8 d8 (Same.keys (by simp[ez,aA,aB,fk,eQ,gG,hI,hJ,hK]) (by simp[ez,aA,aB,fk,eQ,gG,hI,hJ,hK])) ge ge (by simp[inObs,Pv.look,ez,aA,aB,fk,eQ,gG,hI,hJ,hK]) ?_;simp[cb,ez,aA,aB,fk,eQ,gG,hI,hJ,hK])
          (with_reducible repeat' first|refine aj ?_|simp)
          (refine gW.ob (wQ) d8 d8 (Same.keys (by simp[ez,aA,aB]) (by simp[ez,aA,aB])) (by simp only[ez,aA,aB,bO,bS];exact aK) (by simp only[ez,aA,aB,bO,bS];exact aK) (by simp[inObs,Pv.look,ez,aA,aB]) ?_;simp[cb,ez,aA,aB])
          (with_reducible repeat' first|refine aj ?_|simp)
          (refine gW.ob (Lw) bi bi (Same.keys bv bv) be be dl ?_;simp[cb,aO,aA,aB])
          (with_reducible repeat' first|refine aj ?_|simp)
          (refine cO.at (aO p.2) Ψ bi (Same.keys bv bv) be be ?_;simp[cT,ot,aW,aY,aV,inObs,Pv.look,aO,aA,aB])
  have aC:∀i,a= .var i->b.kind≠1->bH az 145 [aB,a.e,b.e] (aO c) fun r ah=>r= .bool p.1/\ah=aO p.2:=by
   rintro i rfl ab;have wk:((rt c i).bind fun p=>if p.2.shd p.1=false then vi n p.1 b p.2 else gF n (p.2.shp p.1) b p.2)=some p:=by cases b<;>first|exact he|simp at ab
   simp only[iJ]at wk;obtain⟨⟨x,bT⟩,J,U⟩:=wk;simp only at U;have fZ:(b.kind==1)=false:=by simp[ab]
   simp only[aO,aA]at ag⊢;refine bH.mk mixed jI xW yS Ψ ag.obj fun aT cI=>?_;unfold vU;simp[aB];(with_reducible repeat' first|refine aj ?_|simp[fZ,ab]);(refine cW.ob (rW c i x bT J) bi be be dl ?_;rintro r ah ⟨rfl,rfl⟩;refine⟨(Same.keys bv bv),?_⟩;simp[cb,aO,aA,aB]);cases ae:bT.shd x with
   |false=>have iu:(tg x bT.shaped).getD false=false:=ae;rw[if_pos ae]at U;(with_reducible repeat' first|refine aj ?_|simp[iu]);(refine cW.ob (Ss n x b bT p U) bi be be dl ?_;rintro r ah ⟨rfl,rfl⟩;refine⟨(Same.keys bv bv),?_⟩;simp[cb,aO,aA,aB]);(refine cO.at (aO p.2) Ψ bi (Same.keys bv bv) be be ?_;simp[cT,ot,aW,aY,aV,inObs,Pv.look,aO,aA,aB])
   |true=>have iu:(tg x bT.shaped).getD false=true:=ae;rw[if_neg (by simp[ae])]at U;have key:=bU _ _ _ _ U;(with_reducible repeat' first|refine aj ?_|simp[iu]);(refine gW.ob (key) bi bi (Same.keys bv bv) be be dl ?_;simp[cb,aO,aA,aB]);(with_reducible repeat' first|refine aj ?_|simp);(refine cO.at (aO p.2) Ψ bi (Same.keys bv bv) be be ?_;simp[cT,ot,aW,aY,aV,inObs,Pv.look,aO,aA,aB])
  cases a with
  |var i=>
   cases b with
   |var j=>exact Dd i j rfl rfl
   |_=>exact aC i rfl Ψ
  |pair bB a2=>
   cases b with
   |var j=>simp only[gF]at he;have key:=bU _ _ _ _ he;simp only[aO,aA]at ag⊢;refine bH.mk mixed jI xW yS Ψ ag.obj fun aT cI=>?_;unfold vU;simp[aB];(refine cW.ob (key) bi be be dl ?_;rintro r ah ⟨rfl,rfl⟩;refine⟨(Same.keys bv bv),?_⟩;simp[cb,aO,aA,aB]);(refine cO.at (aO p.2) Ψ bi (Same.keys bv bv) be be ?_;simp[cT,ot,aW,aY,aV,inObs,Pv.look,aO,aA,aB])
   |pair ck ca=>
    simp only[gF,iJ]at he;obtain⟨⟨f1,bT⟩,J,U⟩:=he;have key:=bU _ _ _ _ J;simp only[aO,aA]at ag⊢;refine bH.mk mixed jI xW yS Ψ ag.obj fun aT cI=>?_;unfold vU;simp[aB];(with_reducible repeat' first|refine aj ?_|simp);(refine gW.ob (key) bi bi (Same.keys bv bv) be be dl ?_;simp[cb,aO,aA,aB]);cases f1 with
    |false=>simp at U;subst U;(with_reducible repeat' first|refine aj ?_|simp);(refine cO.at (aO bT) Ψ bi (Same.keys bv bv) be be ?_;simp[cT,ot,aW,aY,aV,inObs,Pv.look,aO,aA,aB])
    |true=>simp at U;have wQ:=bU _ _ _ _ U;(with_reducible repeat' first|refine aj ?_|simp);(refine gW.ob (wQ) bi bi (Same.keys bv bv) be be dl ?_;simp[cb,aO,aA,aB]);(with_reducible repeat' first|refine aj ?_|simp);(refine cO.at (aO p.2) Ψ bi (Same.keys bv bv) be be ?_;simp[cT,ot,aW,aY,aV,inObs,Pv.look,aO,aA,aB])
   |_=>simp[gF]at he;subst he;simp only[aO,aA]at ag⊢;refine bH.mk mixed jI xW yS Ψ ag.obj fun aT cI=>?_;unfold vU;simp[aB];(refine cO.at (aO c) Ψ bi (Same.keys bv bv) be be ?_;simp[cT,ot,aW,aY,aV,inObs,Pv.look,aO,aA,aB])
  |_=>
   cases b with
   |var j=>simp only[gF]at he;have key:=bU _ _ _ _ he;simp only[aO,aA]at ag⊢;refine bH.mk mixed jI xW yS Ψ ag.obj fun aT cI=>?_;unfold vU;simp[aB];(refine cW.ob (key) bi be be dl ?_;rintro r ah ⟨rfl,rfl⟩;refine⟨(Same.keys bv bv),?_⟩;simp[cb,aO,aA,aB]);(refine cO.at (aO p.2) Ψ bi (Same.keys bv bv) be be ?_;simp[cT,ot,aW,aY,aV,inObs,Pv.look,aO,aA,aB])
   |_=>
    simp[gF]at he;subst he;simp only[aO,aA]at ag⊢;refine bH.mk mixed jI xW yS Ψ ag.obj fun aT cI=>?_;unfold vU;simp[aB];((with_reducible repeat' first|refine aj ?_|simp|((first|apply bJ|apply bM|apply bL)<;>intro h<;>try simp at h))<;>(try exact cc));all_goals(refine cO.at (aO c) Ψ bi (Same.keys bv bv) be be ?_;simp[cT,ot,aW,aY,aV,inObs,Pv.look,aO,aA,aB])
    all_goals simp_all
def mF(c:bt):Prop:= ∀x,0<=c.sz x/\c.sz x<=5001
theorem mF.rt{c:bt}(h:mF c){v r:Int}{cp:bt}(he:rt c v=some (r,cp)):mF cp:=by simp only[Pv.rt,gk,jM]at he;obtain⟨p,_,_,rfl⟩:=he;exact h
theorem mF.put{c:bt}(h:mF c){x k:Int}(ad:0<=k/\k<=5001)(m:List (Int×Int)):mF {c with size:=eS x k c.size,color:=m}:=fun z=>by
 show 0<=(tg z (eS x k c.size)).getD 0/\(tg z (eS x k c.size)).getD 0<=5001;rw[nh];split
 ·exact ad
 ·exact h z
theorem aea(c:bt)(v:Int)(p:Int×bt)(he:zd v c=some p):bH az 192 [.int .i64 v,.eptr aB] (aO c) fun r ah=>r= .int .i64 p.1/\ah=aO p.2:=by have ag:=cj c;simp only[zd,gk]at he;obtain⟨⟨r,bT⟩,J,rfl⟩:=he;simp only[aO,aA]at ag⊢;refine bH.mk mixed jI abA aih Ψ ag.obj fun aT cI=>?_;unfold PJ;simp[aB];(refine gW.ob (rW c v r bT J) bi bi (Same.keys bv bv) be be dl ?_;simp[cb,aO,aA,aB]);(with_reducible repeat' first|refine aj ?_|simp);(refine cO.at (aO bT) Ψ bi (Same.keys bv bv) be be ?_;simp[cT,Wl,aW,aY,aV,inObs,Pv.look,aO,aA,aB]);all_goals rfl
def gr(a:bt×Bool):cS:=⟨aA a.1++[(.obj 712,[.bool a.2])],[]⟩
theorem qL(a):dR (gr a):=by unfold gr aA;exact dR.of ⟨by intro m;simp[Pv.look],by intro m;simp[Pv.look]⟩ Ψ Ψ
theorem Y5(a b):Same (gr a) (gr b):=Same.keys (by simp[gr,aA]) (by simp[gr,aA])
theorem ad9(n:Nat)(wC:∀x c p,qE n x c=some p->mF c->mF p.2/\bH az 167 [aB,.int .i64 x] (aO c) fun r ah=>r= .bool p.1/\ah=aO p.2)
  (v:Int) (a bj:bt×Bool) (bf:mF a.1) (he:zm (qE n) v a=some bj):mF bj.1/\bH az 191 [.int .i64 v,.ptr (.obj 712) 0,.eptr aB] (gr a) fun r ah=>r= .tuple []/\ah=gr bj:=by
 have ag:=qL a;obtain⟨c,f⟩:=a;cases f with
 |false=>simp[zm]at he;subst he;refine⟨bf,?_⟩;simp only[gr,aA,bO,bS]at ag⊢;refine bH.mk mixed jI RU VE Ψ ag.obj fun aT cI=>?_;unfold Jd;simp[aB];(with_reducible repeat' first|refine aj ?_|simp);(refine cO.at (gr (c,false)) Ψ (by first|exact qL _|exact qL ‹_› _) (Same.keys (by simp[gr,aA,aB]) (by simp[gr,aA,aB])) (by simp only[gr,aA,aB,bO,bS];exact aK) (by simp only[gr,aA,aB,bO,bS];exact aK) ?_;simp[cT,Hs,aW,aY,aV,inObs,Pv.look,gr,aA,aB])
 |true=>
  simp only[zm,if_true,iJ,gk]at he;obtain⟨⟨r,bT⟩,J,⟨f2,cx⟩,U,rfl⟩:=he;obtain⟨z2,key⟩:=wC _ _ _ U (bf.rt J);refine⟨z2,?_⟩;simp only[gr,aA,bO,bS]at ag⊢;refine bH.mk mixed jI RU VE Ψ ag.obj fun aT cI=>?_;unfold Jd;simp[aB];(with_reducible repeat' first|refine aj ?_|simp);(refine gW.ob (rW c v r bT J) bi bi (Same.keys bv bv) be be dl ?_;simp[cb,aO,aA,aB]);(with_reducible repeat' first|refine aj ?_|simp);(refine gW.ob (key) bi bi (Same.keys bv bv) be be dl ?_;simp[cb,aO,aA,aB]);cases f2 with
  |true=>(with_reducible repeat' first|refine aj ?_|simp);(refine cO.at (gr (cx,true)) Ψ (by first|exact qL _|exact qL ‹_› _) (Same.keys (by simp[gr,aA,aB]) (by simp[gr,aA,aB])) (by simp only[gr,aA,aB,bO,bS];exact aK) (by simp only[gr,aA,aB,bO,bS];exact aK) ?_;simp[cT,Hs,aW,aY,aV,inObs,Pv.look,gr,aA,aB])
  |false=>(with_reducible repeat' first|refine aj ?_|simp);(refine cO.at (gr (cx,false)) Ψ (by first|exact qL _|exact qL ‹_› _) (Same.keys (by simp[gr,aA,aB]) (by simp[gr,aA,aB])) (by simp only[gr,aA,aB,bO,bS];exact aK) (by simp only[gr,aA,aB,bO,bS];exact aK) ?_;simp[cT,Hs,aW,aY,aV,inObs,Pv.look,gr,aA,aB])
theorem ad8(n:Nat):∀(x:Int) (c:bt) (p:Bool×bt),qE n x c=some p->mF c->mF p.2/\bH az 167 [aB,.int .i64 x] (aO c) fun r ah=>r= .bool p.1/\ah=aO p.2:=by
 induction n with
 |zero=>intro x c p h;simp[qE]at h
 |succ n bU=>
  intro x c p he bf;have ag:=cj c;simp only[qE]at he;by_cases U:c.col x=2
  ·rw[if_pos U]at he;cases he;have CB:hq c.color x=2:=U;refine⟨bf,?_⟩;simp only[aO,aA]at ag⊢;refine bH.mk mixed jI Cn DL Ψ ag.obj fun aT cI=>?_;unfold zE;simp[aB];(with_reducible repeat' first|refine aj ?_|simp[CB]);(refine cO.at (aO c) Ψ bi (Same.keys bv bv) be be ?_;simp[cT,Bk,aW,aY,aV,inObs,Pv.look,aO,aA,aB])
  rw[if_neg U]at he;have CB:(hq c.color x==2)=false:=by simp;exact U
  by_cases J:c.col x=1
  ·rw[if_pos J]at he;cases he;have oa:hq c.color x=1:=J;refine⟨bf,?_⟩;simp only[aO,aA]at ag⊢;refine bH.mk mixed jI Cn DL Ψ ag.obj fun aT cI=>?_;unfold zE;simp[aB];(with_reducible repeat' first|refine aj ?_|simp[oa]);(refine cO.at (aO c) Ψ bi (Same.keys bv bv) be be ?_;simp[cT,Bk,aW,aY,aV,inObs,Pv.look,aO,aA,aB])
  rw[if_neg J]at he;have oa:(hq c.color x==1)=false:=by simp;exact J
  have TU:mF (c.grey x):=bf.put Ω _;cases iX:(c.grey x).shd x with
  |false=>rw[if_pos iX]at he;cases he;have tH:(tg x c.shaped).getD false=false:=iX;refine⟨TU,?_⟩;simp only[aO,aA]at ag⊢;refine bH.mk mixed jI Cn DL Ψ ag.obj fun aT cI=>?_;unfold zE;simp[aB];(with_reducible repeat' first|refine aj ?_|simp[CB,oa,tH]);(refine cO.at (aO ((c.grey x).black x)) Ψ bi (Same.keys (by simp[aO,aA,aB,bt.grey,bt.black]) (by simp[aO,aA,aB,bt.grey,bt.black])) (by simp only[aO,aA,aB,bt.grey,bt.black,bO,bS];exact aK) (by simp only[aO,aA,aB,bt.grey,bt.black,bO,bS];exact aK) ?_;simp[cT,Bk,aW,aY,aV,inObs,Pv.look,aO,aA,aB,bt.grey,bt.black])
  |true=>
   rw[if_neg (by simp[iX]),iJ]at he;have tH:(tg x c.shaped).getD false=true:=iX;obtain⟨⟨e,f⟩,ar,a8⟩:=he;simp only at a8;obtain⟨YM,key⟩:=Sp gr qL Y5 191 [.ptr (.obj 712) 0,.eptr aB] (fun a=>by simp[gr,aA,aB,inObs,Pv.look]) rfl (fun a=>mF a.1) (zm (qE n)) (fun v a bj bf h=>ad9 n bU v a bj bf h) _ _ _ TU ar;rw[show(c.grey x).shp x=(tg x c.shape).getD .nil from rfl]at key;cases f with
   |false=>simp at a8;subst a8;refine⟨YM,?_⟩;simp only[aO,aA]at ag⊢;refine bH.mk mixed jI Cn DL Ψ ag.obj fun aT cI=>?_;unfold zE;simp[aB];(with_reducible repeat' first|refine aj ?_|simp[CB,oa,tH]);(refine cW.ob (key) (by first|exact qL _|exact qL ‹_› _) (by simp only[gr,aA,aB,bt.grey,bO,bS];exact aK) (by simp only[gr,aA,aB,bt.grey,bO,bS];exact aK) (by simp[inObs,Pv.look,gr,aA,aB,bt.grey]) ?_;rintro r ah ⟨rfl,rfl⟩;refine⟨(Same.keys (by simp[gr,aA,aB,bt.grey]) (by simp[gr,aA,aB,bt.grey])),?_⟩;simp[cb,gr,aA,aB,bt.grey]);(with_reducible repeat' first|refine aj ?_|simp);(refine cO.at (aO e) Ψ bi (Same.keys bv bv) be be ?_;simp[cT,Bk,aW,aY,aV,inObs,Pv.look,aO,aA,aB])
   |true=>
    rw[if_neg Ψ,gk]at a8;obtain⟨⟨k,aF⟩,b8,rfl⟩:=a8;obtain⟨z2,ca,wQ⟩:=adZ aO cj EV 192 [.eptr aB] (fun a=>by simp[aO,aA,aB,inObs,Pv.look]) rfl mF zd (fun v a p bf h=>by simp only[zd,gk]at h;obtain⟨⟨r,bT⟩,J,rfl⟩:=h;exact⟨bf.rt J,(bf.rt J r).1,Int.le_trans (bf.rt J r).2 Ω⟩) (fun v a p _ h=>aea a v p h) _ _ _ YM b8
    rw[show bt.shp e x=(tg x e.shape).getD .nil from rfl]at wQ;refine⟨z2.put ca _,?_⟩;simp only[aO,aA]at ag⊢;refine bH.mk mixed jI Cn DL Ψ ag.obj fun aT cI=>?_;unfold zE;simp[aB];(with_reducible repeat' first|refine aj ?_|simp[CB,oa,tH]);(refine cW.ob (key) (by first|exact qL _|exact qL ‹_› _) (by simp only[gr,aA,aB,bt.grey,bO,bS];exact aK) (by simp only[gr,aA,aB,bt.grey,bO,bS];exact aK) (by simp[inObs,Pv.look,gr,aA,aB,bt.grey]) ?_;rintro r ah ⟨rfl,rfl⟩;refine⟨(Same.keys (by simp[gr,aA,aB,bt.grey]) (by simp[gr,aA,aB,bt.grey])),?_⟩;simp[cb,gr,aA,aB,bt.grey]);(with_reducible repeat' first|refine aj ?_|simp);(refine gW.ob (wQ) bi bi (Same.keys bv bv) be be dl ?_;simp[cb,aO,aA,aB]);(with_reducible repeat' first|refine aj ?_|simp);(refine cO.at (aO (({aF with size:=eS x k aF.size}:bt).black x)) Ψ bi (Same.keys (by simp[aO,aA,aB,bt.black]) (by simp[aO,aA,aB,bt.black])) (by simp only[aO,aA,aB,bt.black,bO,bS];exact aK) (by simp only[aO,aA,aB,bt.black,bO,bS];exact aK) ?_;simp[cT,Bk,aW,aY,aV,inObs,Pv.look,aO,aA,aB,bt.black])
theorem ad7(n:Nat)(wC:∀x c p,qD n x c=some p->bH az 168 [aB,.int .i64 x] (aO c) fun r ah=>r=p.1.e/\ah=aO p.2)
  (v:Int) (c:bt) (p:T×bt) (he:BP (qD n) v c=some p):bH az 193 [.int .i64 v,.eptr aB] (aO c) fun r ah=>r= .tuple [p.1.e,.bool true]/\ah=aO p.2:=by
 have ag:=cj c;simp only[BP,iJ]at he;obtain⟨⟨r,bT⟩,J,U⟩:=he;have key:=wC _ _ _ U;simp only[aO,aA]at ag⊢;refine bH.mk mixed jI abz aif Ψ ag.obj fun aT cI=>?_;unfold PI;simp[aB];(with_reducible repeat' first|refine aj ?_|simp);(refine gW.ob (rW c v r bT J) bi bi (Same.keys bv bv) be be dl ?_;simp[cb,aO,aA,aB]);(with_reducible repeat' first|refine aj ?_|simp);(refine gW.ob (key) bi bi (Same.keys bv bv) be be dl ?_;simp[cb,aO,aA,aB]);(with_reducible repeat' first|refine aj ?_|simp);(refine cO.at (aO p.2) Ψ bi (Same.keys bv bv) be be ?_;simp[cT,Wk,aW,aY,aV,inObs,Pv.look,aO,aA,aB])
theorem jg(n:Int):bZ az 28 [.int .i64 n] (T.var n).e:=by refine bz jI abX aiE fun aT=>?_;unfold P7;exact cD
theorem ad6(n:Nat):∀(x:Int) (c:bt) (p:T×bt),qD n x c=some p->bH az 168 [aB,.int .i64 x] (aO c) fun r ah=>r=p.1.e/\ah=aO p.2:=by
 induction n with
 |zero=>intro x c p h;simp[qD]at h
 |succ n bU=>
  intro x c p he;have ag:=cj c;simp only[qD]at he;cases aR:tg x c.full with
  |some t=>rw[aR]at he;cases he;simp only[aO,aA]at ag⊢;refine bH.mk mixed jI JT Mj Ψ ag.obj fun aT cI=>?_;unfold Fe;simp[aB];(with_reducible repeat' first|refine aj ?_|simp[aR]);(refine cO.at (aO c) Ψ bi (Same.keys bv bv) be be ?_;simp[cT,Hr,aW,aY,aV,inObs,Pv.look,aO,aA,aB])
  |none=>
   rw[aR]at he;simp only at he;cases iX:c.shd x with
   |false=>have tH:(tg x c.shaped).getD false=false:=iX;rw[if_pos iX]at he;cases he;simp only[aO,aA]at ag⊢;refine bH.mk mixed jI JT Mj Ψ ag.obj fun aT cI=>?_;unfold Fe;simp[aB];(with_reducible repeat' first|refine aj ?_|refine aD (jg _) ?_|refine aE (jg _) ?_|simp[aR,tH]);(refine cO.at (aO {c with full:=eS x (.var x) c.full}) Ψ bi (Same.keys bv bv) be be ?_;simp[cT,Hr,aW,aY,aV,inObs,Pv.look,aO,aA,aB])
   |true=>have tH:(tg x c.shaped).getD false=true:=iX;rw[if_neg (by simp[iX]),gk]at he;obtain⟨⟨t,bT⟩,J,rfl⟩:=he;have key:=adM aO cj EV 193 [.eptr aB] (fun a=>by simp[aO,aA,aB,inObs,Pv.look]) rfl (BP (qD n)) (fun v a p h=>ad7 n bU v a p h) _ _ _ J;rw[show c.shp x=(tg x c.shape).getD .nil from rfl]at key;simp only[aO,aA]at ag⊢;refine bH.mk mixed jI JT Mj Ψ ag.obj fun aT cI=>?_;unfold Fe;simp[aB];(with_reducible repeat' first|refine aj ?_|refine aD (jg _) ?_|refine aE (jg _) ?_|simp[aR,tH]);(refine cW.ob (key) bi be be dl ?_;rintro r ah ⟨rfl,rfl⟩;refine⟨(Same.keys bv bv),?_⟩;simp[cb,aO,aA,aB]);(with_reducible repeat' first|refine aj ?_|simp);(refine cO.at (aO {bT with full:=eS x t bT.full}) Ψ bi (Same.keys bv bv) be be ?_;simp[cT,Hr,aW,aY,aV,inObs,Pv.look,aO,aA,aB])
theorem adO:bH az 142 [] ⟨[],[]⟩ fun r ah=>r=aB/\ah=aO bt.new:=by have ag:dR ⟨[],[]⟩:=dR.of yP Ψ Ψ;refine bH.mk mixed jI abJ aiq Ψ ag.obj fun aT cI=>?_;unfold PT;simp;refine cO.new (aO bt.new) (.inl rfl) (cj _) ⟨trivial,trivial⟩ (by simp only[aO,aA,bt.new];exact aK) (by simp only[aO,aA,bt.new];exact aK) ?_;simp[cT,Wt,aW,aY,aV,inObs,Pv.look,aO,aA,aB]
theorem Xw{a b:List Int}(h:a.Perm b):rj a=rj b:=by
 have aM:∀a b c:Int,(decide (a<=b))=true->(decide (b<=c))=true->(decide (a<=c))=true:=by intro a b c;simp;omega
 have Ay:∀a b:Int,(decide (a<=b)||decide (b<=a))=true:=by intro a b;simp;omega
 have J:=List.pairwise_mergeSort aM Ay a;have U:=List.pairwise_mergeSort aM Ay b;refine Oy (le:=fun x y:Int=>(decide (x<=y))=true) (fun x y _ _ J U=>by simp at J U;omega) J U ?_;exact(List.mergeSort_perm a _).trans (h.trans (List.mergeSort_perm b _).symm)
def agw(l:List Int)(k:Nat)(st:bm):Prop:=∃(seen:List Nat) (xs:List Int),seen.Nodup/\(∀b∈seen,b<l.length)/\k=l.length-seen.length/\xs=seen.filterMap (fun b=>l[b]?)/\xs.length=seen.length/\st=⟨[(3,.row 1 (.obj 306) xs.length),(7,.ptr (.loc 0) 0)],[(.obj 304,lG l),(.loc 0,cn l.length seen (.obj 304))],[(.obj 306,⟨xs.length,3,1,some (ek xs)⟩)],1,[.obj 306,.obj 304]⟩
@[simp]theorem apG(xs:List Int):(ek xs).length=xs.length:=by simp[ek]
@[simp]theorem arP(xs:List Int):dv (ek xs)=ek xs:=by
 induction xs with
 |nil=>rfl
 |cons x r bU=>simp only[ek,hk,dv,ey]at bU⊢;rw[bU]
@[simp]theorem apH:ek []=[]:=rfl
theorem agn(xs:List Int)(x:Int):ek xs++[ai.int .i64 x]=ek (xs++[x]):=by simp[ek]
theorem ad5(l:List Int)(av:l.length<=1000000):bH az 166 [.gmap (.obj 304)] (uw l) fun r ah=>r= .slice 1 .no (ek (rj l))/\ah=uw l:=by
 have ag:=OF l;unfold uw at ag⊢;refine bH.mk mixed fJ abU aiB Ψ ag.obj fun aT cI=>?_;unfold P4;simp;refine n5 (agw l) l.length _ ⟨by simp[fresh,aP,aG,cn,inObs,Pv.look,mq,tO],en (by simp[fresh,aP,aG,cn,inObs,Pv.look,mq,tO]),eo (by simp[fresh,aP,aG,dV,inObs,Pv.look,mq,tO]),Ψ⟩ ⟨[],[],Ψ,Ψ,Ψ,Ψ,Ψ,rfl⟩ ?_;rintro k st ⟨seen,xs,aN,bs,ad,hN,oY,rfl⟩ jT cI;clear jT cI;have hle:=H3 aN bs;simp;refine aag (mk:= .obj 304) (seen:=seen) (l:=l) Ψ Ψ rfl (fun k3=>?_) (fun b x ae ab=>?_)
 ·simp;have wB:=Nr aN bs k3;rw[<-hN]at wB;refine cW.ob (ad3 306 xs Ω) (IE 306 xs) (by unfold nm;exact aK) (by unfold nm;exact aK) (by simp[nm,inObs,Pv.look]) ?_;rintro r ah ⟨rfl,rfl⟩;refine⟨⟨fun _=>rfl,fun k=>by simp only[nm,Pv.look];split<;>rfl⟩,?_⟩;unfold nm;simp[cb,Xv];refine cO.at _ (.inl rfl) ag (Same.refl _) aK aK ?_;simp[cT,Wy,aW,aY,aV];rw[Xw wB];simp[aG,tO]
 ·have Ao:∀f:aL->Option (List ai),f (.loc 0)=some (cn l.length (seen++[b]) (.obj 304))->f (.obj 304)=some (lG l)->pQ f (.ptr (.loc 0) 0)=some (True,.tuple [.int .i64 x,.bool true]):=fun f J U=>ahi f (.loc 0) (.obj 304) l.length seen b l x J U rfl ae;have e8:b<l.length:=(fb.1 ae).1;have qk:=Ns aN bs e8 ab;simp[Ao,agn];refine⟨by unfold lim;omega,?_⟩;refine bQ.next (l.length-(seen.length+1)) Ω ⟨seen++[b],xs++[x],Mf aN ab,(by simp;intro c aq;rcases aq with aq|rfl;exact bs c aq;exact e8),Ψ,by rw[List.filterMap_append,<-hN];simp[ae],by simp[oY],rfl⟩ ⟨by simp[fresh,aP,aG,cn,inObs,Pv.look,mq,tO],en (by simp[fresh,aP,aG,cn,inObs,Pv.look,mq,tO]),eo (by simp[fresh,aP,aG,dV,inObs,Pv.look,mq,tO]),Ψ⟩
@[simp]theorem apU(S:aL->Prop)(xs:List Int):aP S (ek xs)=True:=eq_true (tO S xs)
@[simp]theorem aox:cells .junk=[.junk]:=rfl
def P3:C:=(aa [e4 6 5,bq 7 false] (aa [dj 12 142 [],I 8 12] (.seq (aa [I 13 0,cz 14 13,cd 15 0] (e5 16 15 14 (.seq (.block 1 (aa [cy 17 5 13 15,a7 18 5 17,c1 10 hT,bN 5 10 18] (aa [I 19 8,aI 20 0 1 10,aw 21 1 20,ch 22 143 19 21] (aa [I 23 8,gI 24 1 4 10,a7 25 4 24,ch 26 144 23 25] (.seq (.drawn false 69 [I 27 8,aI 28 0 1 10,aw 29 1 28,cR 30 28 29,gI 31 1 4 10,a7 32 4 31,dj 33 145 [.t 27,.t 30,.t 32],cJ 34 33]) (aZ 34 (aa [e4 6 5,bq 7 false] .ret) .skip)))))) (.region [aS 35 .add 15 1,I 15 35])))) (.seq (aa [I 36 1,cz 37 36,cd 38 0] (.block 2 (.loop (aa [br 39 .lss 38 37] (.seq (aZ 39 .skip (.exit 2)) (.seq (.block 3 (aa [I 40 38,I 11 40] (aa [I 41 8,I 42 1,I 43 11,cy 44 4 42 43,a7 45 4 44,ch 46 144 41 45] (aa [I 47 8,I 48 2,I 49 11,cy 50 4 48 49,a7 51 4 50,ch 52 144 47 51] (.seq (.drawn false 69 [I 53 8,I 54 1,I 55 11,cy 56 4 54 55,a7 57 4 56,I 58 2,I 59 11,cy 60 4 58 59,a7 61 4 60,dj 62 145 [.t 53,.t 57,.t 61],cJ 63 62]) (aZ 63 (aa [e4 6 5,bq 7 false] .ret) .skip)))))) (.region [aS 64 .add 38 1,I 38 64]))))))) (aa [I 65 8,cR 66 146 65,cC 67 0 66,cC 68 1 66,I 6 67,I 7 68] .ret)))))
@[simp] def MJ:List bX:=[.tmp 6,.tmp 7]
def PH:C:=(aa [e4 2 5,bq 3 false] (aa [cN (.mkmap 12 (some 304)),I 4 12] (.seq (aa [I 13 0,eI 14 13,aI 15 0 1 14,aw 16 1 15,cN (.range 17 none (.t 16))] (.block 0 (.loop (aa [⟨none,.next 18 (.t 17)⟩,cC 19 0 18] (.seq (aZ 19 .skip (.exit 0)) (.block 1 (aa [bR 20 (.ment (.t 17)),cC 21 0 20,I 5 21] (.region [I 22 4,I 23 5,cN (.mput .i (.t 22) (.t 23) (.c (.bool true)))])))))))) (aa [I 24 4,cR 25 166 24,I 6 25] (aa [cN (.bslm 26 none 5 54 []),I 7 26] (.seq (aa [I 27 6,cz 28 27,cd 29 0] (.block 2 (.loop (aa [br 30 .lss 29 28] (.seq (aZ 30 .skip (.exit 2)) (.seq (.block 3 (aa [cy 31 1 27 29,aw 32 1 31,I 9 32] (aa [I 33 0,I 34 9,ch 35 143 33 34,I 10 35] (.seq (aa [I 36 0,I 37 10,ch 38 167 36 37,cJ 39 38] (aZ 39 (aa [e4 2 5,bq 3 false] .ret) .skip)) (.seq (aa [I 40 10,I 41 9,br 42 .eql 40 41,I 43 42,bW 43 true 44 0,au 43 true (eI 45 44),au 43 true (aI 46 2 1 45),au 43 true (aw 47 1 46),bW 43 true 48 10,au 43 true (bR 49 (.mget .i (.bool false) false (.t 47) (.t 48))),au 43 true (cJ 50 49),dq 51 43 50] (aZ 51 (.exit 3) .skip)) (aa [I 52 7,I 53 9,hD 54 hT [(0,1,(.t 53))],eE 55 5 54 [.t 54],cN (.appm 56 none 5 54 (.t 52) (.t 55)),I 7 56] (aa [I 57 0,eI 58 57,aI 59 4 1 58,aw 60 1 59,I 61 10,bR 62 (.mget .i (.int .i64 0) false (.t 60) (.t 61)),aS 63 .gtr 62 5000,I 64 63,bW 64 false 65 7,au 64 false (cz 66 65),au 64 false (aS 67 .gtr 66 400),c6 68 64 67] (aZ 68 (aa [e4 2 5,bq 3 false] .ret) .skip)))))))) (.region [aS 69 .add 29 1,I 29 69]))))))) (.seq (aa [I 70 7,cz 71 70,cd 72 0] (.block 4 (.loop (aa [br 73 .lss 72 71] (.seq (aZ 73 .skip (.exit 4)) (.seq (.block 5 (aa [I 74 72,I 11 74] (.region [I 75 7,I 76 11,I 77 0,I 78 0,I 79 7,I 80 11,cy 81 5 79 80,aI 82 0 1 81,aw 83 1 82,ch 84 143 78 83,ch 85 168 77 84,cR 86 136 85,cy 87 5 75 76,gI 88 1 4 87,bN 4 88 86]))) (.region [aS 89 .add 72 1,I 72 89]))))))) (.seq (.pub 7 (.region [I 90 7,I 2 90,bq 3 true])) .ret))))))))
@[simp] def Hq:List bX:=[.tmp 2,.tmp 3]
def NQ:List (Nat×dz):=[
 (3,⟨1,8,.int .i64,.int .i64 0⟩),
 (4,⟨1,1,.bool,.bool false⟩),
 (23,⟨1,24,.slice 54,.slice 5 .nil []⟩),
 (34,⟨1,24,.slice 36,.slice 4 .nil []⟩),
 (36,⟨4,56,.struct [(0,3),(1,3),(2,9),(3,34)],.agg [.int .i64 0,.int .i64 0,.str [],.slice 4 .nil []]⟩),
 (51,⟨1,8,.map 3 4,.junk⟩),
 (54,⟨5,64,.struct [(0,3),(1,36)],.agg [.int .i64 0,.int .i64 0,.int .i64 0,.str [],.slice 4 .nil []]⟩),
 (57,⟨1,8,.map 3 3,.junk⟩),
 (97,⟨1,24,.slice 3,.slice 1 .nil []⟩),
 (160,⟨6,48,.struct [(0,57),(1,158),(2,51),(3,57),(4,57),(5,158)],.agg [.junk,.junk,.junk,.junk,.junk,.junk]⟩)]
theorem XM:fI az NQ=true:=by kernel_rfl
theorem aiA:b7 NQ P3 MJ 3 Tryz.f97=true:=by kernel_rfl
theorem abT:az.funcs[(97:Nat)]? =some Tryz.f97:=Tryz.func97
theorem aie:b7 NQ PH Hq 1 Tryz.f146=true:=by kernel_rfl
theorem aby:az.funcs[(146:Nat)]? =some Tryz.f146:=Tryz.func146
def fH(o:Option (List ak)):ai:= .tuple [.slice 5 .no ((o.getD []).map ak.e),.bool o.isSome]
theorem ahk(f:aL->Option (List ai))(fp mk:aL)(n:Nat)(seen:List Nat)(b:Nat)(l:List (Int×Int))(x:Int×Int)(hi:f fp=some (cn n (seen++[b]) mk))(hm:f mk=some (k7 l))(ay:n=l.length)(ae:l[b]? =some x):pQ f (.ptr fp 0)=some (True,.tuple [.int .i64 x.1,.int .i64 x.2]):=by rw[U5 f fp mk n seen b _ hi hm (by simpa using ay)];simp[ae]
theorem aah{st:bm}{d:Nat}{K:bm->Prop}{fp mk:aL}{n:Nat}{seen:List Nat}{l:List (Int×Int)}(hi:Pv.look fp st.b=some (cn n seen mk))(hm:Pv.look mk st.b=some (k7 l))(ay:n=l.length)
  (J:(∀b,b<l.length->b∈seen)->K {st with t:=Pv.put d (.tuple [.bool false]) st.t}) (U:∀b x,l[b]? =some x->b∉seen->K {st with t:=Pv.put d (.tuple [.bool true,.int .i64 x.1,.int .i64 x.2]) st.t,b:=cA fp (cn n (seen++[b]) mk) st.b}):
  tl st d (.ptr fp 0) K:=by
 refine RL hi hm (by simpa using ay) (fun h=>J fun b ab=>h b Ω) (fun b k v ab ag=>?_);simp only[List.getElem?_map,gk]at ab;obtain⟨x,ao,aF⟩:=ab;simp only[jM]at aF;obtain⟨rfl,rfl⟩:=aF;exact U b x ao ag
@[simp]theorem aq6(m:aL)(l:List (Int×Int)):y2 m (k7 l)=some (cn l.length [] m):=by simp[k7,sr]
def n1(v:Int):ai:= .agg [.int .i64 v,.int .i64 0,.int .i64 0,.str [],.slice 4 .nil []]
@[simp]theorem agQ(S:aL->Prop)(l:List Int):aP S (l.map n1)=True:=by
 apply eq_true;induction l with
 |nil=>simp[aP]
 |cons x r bU=>simp only[hk,aP];exact⟨by simp[n1,aG,aP],bU⟩
@[simp]theorem ap5(S:aL->Prop)(v:Int):aG S (n1 v)=True:=by simp[n1,aG,aP]
@[simp]theorem arj(v:Int):eO (n1 v)=true:=rfl
@[simp]theorem aok(v:Int):cells (n1 v)=[.int .i64 v,.int .i64 0,.int .i64 0,.str [],.slice 4 .nil []]:=rfl
theorem ak4(v:Int)(f:Nat)(cs:List ai):pY (n1 v) f cs= .agg (ov [.int .i64 v,.int .i64 0,.int .i64 0,.str [],.slice 4 .nil []] f cs):=rfl
theorem jq{S:aL->Prop}:∀{a b:List ai},aP S (a++b)↔(aP S a/\aP S b)
 |[],b=>by simp[aP]
 |x::a,b=>by simp[aP,jq (a:=a),and_assoc]
@[simp]theorem apR(S:aL->Prop)(k:Nat)(l:List Int):aP S (List.drop k (l.map n1))=True:=by rw[<-List.map_drop];exact agQ S _
@[simp]theorem aqd(S:aL->Prop)(o:Option (List ak)):aG S (fH o)=True:=by simp[fH]
theorem I1(l:List Int)(v:Int):l.map n1++[.agg [.int .i64 v,.int .i64 0,.int .i64 0,.str [],.slice 4 .nil []]]=(l++[v]).map n1:=by simp[n1]
def agr(c:bt)(k:Nat)(st:bm):Prop:=∃(seen:List Nat) (xs:List Int),seen.Nodup/\(∀b∈seen,b<c.up.length)/\k=c.up.length-seen.length/\xs=seen.filterMap (fun b=>(c.up[b]?).map (·.1))/\xs.length=seen.length/\st=⟨[(0,aB),(4,.gmap (.obj 304)),(17,.ptr (.loc 0) 0)],aA c++[(.obj 304,lG xs),(.loc 0,cn c.up.length seen (.obj 702))],[],1,[.obj 304,.obj 702,.obj 703,.obj 704,.obj 705,.obj 706,.obj 707]⟩
theorem alj{c:bt}{seen:List Nat}(aN:seen.Nodup)(bs:∀b∈seen,b<c.up.length)(k3:∀b,b<c.up.length->b∈seen):(seen.filterMap fun b=>(c.up[b]?).map (·.1)).Perm (cv c.up):=by have:=Nr (l:=cv c.up) aN (by simpa[cv]using bs) (by simpa[cv]using k3);simpa[cv]using this
theorem alk{c:bt}(ay:(cv c.up).Nodup){seen:List Nat}{b:Nat}(ab:b∉seen){x:Int×Int}(ae:c.up[b]? =some x):x.1∉seen.filterMap fun b=>(c.up[b]?).map (·.1):=by
 intro hm;rw[List.mem_filterMap]at hm;obtain⟨b0,J,U⟩:=hm;obtain⟨y,ar,a8⟩:=gk.1 U;have ao:(cv c.up)[b]? =some x.1:=by simp[cv,ae]
 have aF:(cv c.up)[b0]? =some x.1:=by simp[cv,ar,a8]
 have bs:=(fb.1 ao).1;have wz:=(fb.1 aF).1;have f1:=(fb.1 ao).2;have f2:=(fb.1 aF).2;rcases Nat.lt_trichotomy b b0 with h|h|h
 ·exact pg.1 ay b b0 bs wz h (f1.trans f2.symm)
 ·subst h;exact ab J
 ·exact pg.1 ay b0 b wz bs h (f2.trans f1.symm)
theorem ad1(n:Nat)(c:bt)(o:Option (List ak))(he:En n (rk (cv c.up)) c=some o)(CZ:(cv c.up).Nodup)(hlen:c.up.length<=1000000)(bf:mF c):bH az 146 [aB] (aO c) fun r ah=>r=fH o/\∃cp,ah=aO cp:=by
 have ag:=cj c;simp only[aO,aA]at ag⊢;refine bH.mk mixed XM aby aie Ψ ag.obj fun aT cI=>?_;unfold PH;simp[aB];have CV:∀S:aL->Prop,aP S (jX []):=fun S=>mq S [];refine n5 (agr c) c.up.length _ ⟨by simp[fresh,aP,aG,cn,inObs,Pv.look,mq,aB,aA,CV],en (by simp[fresh,aP,aG,cn,inObs,Pv.look,mq,aB,aA,CV]),eo (by simp[fresh,aP,aG,dV,inObs,Pv.look,mq,aB,aA,CV]),Ψ⟩ ⟨[],[],Ψ,Ψ,Ψ,Ψ,Ψ,rfl⟩ ?_;rintro k st ⟨seen,xs,aN,bs,ad,hN,oY,rfl⟩ jT cI;clear jT cI;have hle:=H3 aN bs;simp[aA,aB];refine aah (mk:= .obj 702) (seen:=seen) (l:=c.up) Ψ Ψ rfl (fun k3=>?_) (fun b x ae ab=>?_);rotate_left
 ·have Ao:∀f:aL->Option (List ai),f (.loc 0)=some (cn c.up.length (seen++[b]) (.obj 702))->f (.obj 702)=some (k7 c.up)->pQ f (.ptr (.loc 0) 0)=some (True,.tuple [.int .i64 x.1,.int .i64 x.2]):=fun f J U=>ahk f (.loc 0) (.obj 702) c.up.length seen b c.up x J U rfl ae;have e8:b<c.up.length:=(fb.1 ae).1;have qk:=Ns aN bs e8 ab;have j8:=alk CZ ab ae;rw[<-hN]at j8;simp[Ao,E4,j8];refine bQ.next (c.up.length-(seen.length+1)) Ω ⟨seen++[b],xs++[x.1],Mf aN ab,(by simp;intro c aq;rcases aq with aq|rfl;exact bs c aq;exact e8),Ψ,by rw[List.filterMap_append,<-hN];simp[ae],by simp[oY],rfl⟩ ⟨by simp[fresh,aP,aG,cn,inObs,Pv.look,mq,aB,aA],en (by simp[fresh,aP,aG,cn,inObs,Pv.look,mq,aB,aA]),eo (by simp[fresh,aP,aG,dV,inObs,Pv.look,mq,aB,aA]),Ψ⟩
 ·simp;have wB:=alj aN bs k3;rw[<-hN]at wB;have af6:xs.length<=1000000:=Ω
  refine cW.ob (ad5 xs af6) (OF _) (by simp only[uw];exact aK) (by simp only[uw];exact aK) (by simp[inObs,uw,Pv.look]) ?_;rintro r ah ⟨rfl,rfl⟩;refine⟨Same.refl _,?_⟩;have Aw:rj xs=rk (cv c.up):=Xw wB;rw[Aw];obtain⟨ba,k6⟩:∃ba,ba=rk (cv c.up):=⟨_,rfl⟩;rw[<-k6]at he⊢;simp[uw,cb];simp only[En,iJ]at he;obtain⟨res,wm,oS⟩:=he;have jl:ba.length<=1000000:=by rw[k6,(Es _).length_eq];simpa[cv]using hlen
  refine hQ (α:=bt×List Int) (fun i a=>⟨[(0,aB),(27,.slice 1 .no (ek ba)),(28,.int .i64 ba.length),(7,.row 5 (.loc 1) a.2.length),(29,.int .i64 i)],aA a.1,[(.loc 1,⟨a.2.length,54,5,some (a.2.map n1)⟩)],2,[.obj 702,.obj 703,.obj 704,.obj 705,.obj 706,.obj 707]⟩) ba.length (fun i a=>sN n (ba.drop i) a.1 a.2=some res/\mF a.1/\a.2.length<=400) (c,[]) (by simp[aB,aA];exact⟨by simp[fresh,aP,aG,cn,inObs,Pv.look,mq,aB,aA],en (by simp[fresh,aP,aG,cn,inObs,Pv.look,mq,aB,aA]),eo (by simp[fresh,aP,aG,dV,inObs,Pv.look,mq,aB,aA]),Ψ⟩) ⟨by simpa using wm,bf,Ψ⟩ ?_ ?_
  ·rintro⟨bT,out⟩ ⟨J,U,ar⟩ ab;simp only at J U ar ab⊢;simp[sN]at J;subst J;simp only[gk]at oS;obtain⟨⟨L,ZQ⟩,aeN,rfl⟩:=oS;simp[aB,aA];refine hQ (α:=bt×List ak) (fun j a=>⟨[(0,aB),(7,.row 5 (.loc 1) out.length),(71,.int .i64 out.length),(72,.int .i64 j)],aA a.1,[(.loc 1,⟨out.length,54,5,some (a.2.map ak.e++(out.drop j).map n1)⟩)],2,[.obj 702,.obj 703,.obj 704,.obj 705,.obj 706,.obj 707]⟩) out.length (fun j a=>a.2.length=j/\∃rest,ze n (out.drop j) a.1=some (rest,ZQ)/\a.2++rest=L) (bT,[]) (by simp[aB,aA];exact⟨by simp[fresh,aP,aG,cn,inObs,Pv.look,aB,aA],en (by simp[fresh,aP,aG,cn,inObs,Pv.look,aB,aA]),eo (by simp[fresh,aP,aG,dV,inObs,Pv.look,aB,aA]),Ψ⟩) ⟨rfl,L,by simpa using aeN,rfl⟩ ?_ ?_
   ·rintro⟨cx,done⟩ ⟨a8,rest,b8,de⟩ ab;simp only at a8 b8 de ab⊢;simp[ze]at b8;obtain⟨rfl,rfl⟩:=b8;simp at de;subst de;simp[aB,aA,a8];refine cO.at (aO cx) Ψ (cj _) (Same.keys (by simp[aO,aA]) (by simp[aO,aA])) (by simp only[aO,aA];exact aK) (by simp only[aO,aA];exact aK) ?_;simp[cT,Hq,aW,aY,aV,aO,aA,fH];exact⟨cx,Ψ⟩
   ·rintro j ⟨cx,done⟩ af ⟨a8,rest,b8,de⟩ ab;simp only at a8 b8 de ab⊢;obtain⟨v,aC⟩:∃v,out[j]? =some v:=⟨_,cf af⟩;have aN:out.drop j=v::out.drop (j+1):=by rw[kX af];rw[cf af]at aC;cases aC;rfl
    rw[aN]at b8;simp only[ze,iJ,gk,jM]at b8;obtain⟨⟨x,dy⟩,dX,⟨t,kp⟩,ll,⟨ak0,aoF⟩,pI,rfl,rfl⟩:=b8;simp only at ll pI;have key:=ad6 n x dy _ ll;rw[aN];have hR:∀R,(done.map ak.e++n1 v::R)[j]? =some (n1 v):=fun R=>by rw[List.getElem?_append_right d7];simp[a8]
    have wE:∀R x,(done.map ak.e++n1 v::R).set j x=done.map ak.e++x::R:=fun R x=>by rw[List.set_append_right _ _ d7];simp[a8]
    simp[aB,aA];(with_reducible repeat' first|refine aj ?_|simp[hR,af]);(refine cW.ob (rW cx v x dy dX) bi be be dl ?_;rintro r ah ⟨rfl,rfl⟩;refine⟨(Same.keys bv bv),?_⟩;simp[cb,aO,aA,aB]);(with_reducible repeat' first|refine aj ?_|simp);(refine cW.ob (key) bi be be dl ?_;rintro r ah ⟨rfl,rfl⟩;refine⟨(Same.keys bv bv),?_⟩;simp[cb,aO,aA,aB]);(with_reducible repeat' first|refine aj ?_|refine aD (uj _) ?_|refine aE (uj _) ?_|simp[hR,wE,af,ak4,-pY]);refine bQ.rng (kp,done++[⟨v,t⟩]) af ⟨by simp[a8],ak0,pI,by simpa using de⟩ ?_;simp[aB,aA];exact⟨by simp[fresh,aP,aG,cn,inObs,Pv.look,aB,aA,jq],en (by simp[fresh,aP,aG,cn,inObs,Pv.look,aB,aA,jq]),eo (by simp[fresh,aP,aG,dV,inObs,Pv.look,aB,aA,jq]),Ψ⟩
  ·rintro i ⟨bT,out⟩ hi ⟨J,U,ar⟩ ab;simp only at J U ar ab⊢;obtain⟨v,aC⟩:∃v,ba[i]? =some v:=⟨_,cf hi⟩;have aN:ba.drop i=v::ba.drop (i+1):=by rw[kX hi];rw[cf hi]at aC;cases aC;rfl
   rw[aN]at J;simp only[sN,iJ]at J;obtain⟨⟨x,cx⟩,a8,⟨f,dy⟩,b8,de⟩:=J;simp only at b8 de;obtain⟨z3,key⟩:=ad8 n x cx _ b8 (U.rt a8);have ae2:∀h,(ek ba)[i]'h= .int .i64 v:=fun h=>by rw[cf hi]at aC;simp only[dC]at aC;simp[ek,aC]
   simp[aB,aA];(with_reducible repeat' first|refine aj ?_|simp[ae2,hi]);(refine cW.ob (rW bT v x cx a8) bi be be dl ?_;rintro r ah ⟨rfl,rfl⟩;refine⟨(Same.keys bv bv),?_⟩;simp[cb,aO,aA,aB]);(with_reducible repeat' first|refine aj ?_|simp);(refine cW.ob (key) bi be be dl ?_;rintro r ah ⟨rfl,rfl⟩;refine⟨(Same.keys bv bv),?_⟩;simp[cb,aO,aA,aB]);cases f with
   |false=>simp at de;subst de;simp at oS;subst oS;(with_reducible repeat' first|refine aj ?_|simp);refine cO.at (aO dy) Ψ (cj _) (Same.keys (by simp[aO,aA]) (by simp[aO,aA])) (by simp only[aO,aA];exact aK) (by simp only[aO,aA];exact aK) ?_;simp[cT,Hq,aW,aY,aV,aO,aA,fH];exact⟨dy,Ψ⟩
   |true=>
    simp only[Bool.true_eq_false,if_false]at de;by_cases aq:x=v/\dy.shd x=false
    ·rw[if_pos aq]at de;obtain⟨af7,iX⟩:=aq;subst af7;have tH:(tg x dy.shaped).getD false=false:=iX;(with_reducible repeat' first|refine aj ?_|simp[tH]);refine bQ.rng (dy,out) hi ⟨de,z3,ar⟩ ?_;exact⟨by simp[fresh,aP,aG,cn,inObs,Pv.look,aB,aA],en (by simp[fresh,aP,aG,cn,inObs,Pv.look,aB,aA]),eo (by simp[fresh,aP,aG,dV,inObs,Pv.look,aB,aA]),Ψ⟩
    ·rw[if_neg aq]at de;have TA:(x==v)=false\/((x==v)=true/\(tg x dy.shaped).getD false=true):=by
      by_cases e:x=v
      ·right;refine⟨by simp[e],?_⟩;cases aF:dy.shd x with
       |false=>exact absurd ⟨e,aF⟩ aq
       |true=>exact aF
      ·left;simp[e]
     by_cases av:5000<dy.sz x\/400<out.length+1
     ·rw[if_pos av]at de;cases de;simp at oS;subst oS;have od:(decide (5000<hq dy.size x))=true\/(decide (5000<hq dy.size x)=false/\400<out.length+1):=by
       by_cases e:5000<hq dy.size x
       ·left;simp[e]
       ·right;exact⟨by simp[e],av.resolve_left e⟩
      have Ar:True:=trivial;have kK:True:=trivial;rcases TA with bK|⟨bK,Ar⟩;all_goals
       rcases od with bF|⟨bF,kK⟩
       all_goals
        ((with_reducible repeat' first|refine aj ?_|simp[bK,Ar,bF,kK]|((first|apply bJ|apply bM|apply bL)<;>intro h<;>try simp at h))<;>(try exact cc))
        refine cO.at (aO dy) Ψ (cj _) (Same.keys (by simp[aO,aA]) (by simp[aO,aA])) (by simp only[aO,aA];exact aK) (by simp only[aO,aA];exact aK) ?_
        simp[cT,Hq,aW,aY,aV,aO,aA,fH]
        exact⟨dy,Ψ⟩
     ·rw[if_neg av]at de;have bF:decide (5000<hq dy.size x)=false:=by simp;exact Int.not_lt.1 fun h=>av (.inl h)
      have kK:¬400<out.length+1:=fun h=>av (.inr h);have Ar:True:=trivial;rcases TA with bK|⟨bK,Ar⟩;all_goals
       ((with_reducible repeat' first|refine aj ?_|simp[bK,Ar,bF,kK]|((first|apply bJ|apply bM|apply bL)<;>intro h<;>try simp at h))<;>(try exact cc))
       all_goals first|(refine⟨by unfold lim;omega,?_⟩)|skip
       ((with_reducible repeat' first|refine aj ?_|simp[bK,Ar,bF,kK]|((first|apply bJ|apply bM|apply bL)<;>intro h<;>try simp at h))<;>(try exact cc))
       refine bQ.rng (dy,out++[v]) hi ⟨de,z3,by simp;omega⟩ ?_
       exact⟨by simp[fresh,aP,aG,cn,inObs,Pv.look,aB,aA,I1,jq],en (by simp[fresh,aP,aG,cn,inObs,Pv.look,aB,aA,I1,jq]),eo (by simp[fresh,aP,aG,dV,inObs,Pv.look,aB,aA,I1,jq]),Ψ⟩
theorem XH:∀{a b:T},a.tm=b.tm->a=b:=by
 intro a;induction a with
 |pair x y oj ql=>intro b h;cases b<;>simp[T.tm]at h;rw[oj h.1,ql h.2]
 |_=>intro b h;cases b<;>simp[T.tm]at h⊢ <;>exact h
def Zc(l:List dF):Prop:= ∃s:List ak,l=s.map ak.b/\j1 s/\gQ s/\fS s
def IJ(l:List dF):Prop:= ∃s:List ak,l=s.map ak.b/\j1 s/\ft s/\fS s
theorem O8:∀{l:List dF},(∀b∈l,b.t.fits=true)->∃s:List ak,l=s.map ak.b/\v8 s
 |[],_=>⟨[],rfl,fun b ab=>by simp at ab⟩
 |b::l,h=>by
  obtain⟨s,J,U⟩:=O8 (l:=l) fun c aq=>h c (by simp[aq]);obtain⟨x,ar,a8⟩:=b3.fits_ex (h b Ψ);refine⟨⟨b.v,x⟩::s,by rw[J];simp[ak.b,ar],fun c aq=>?_⟩;rcases fD.1 aq with rfl|aq
  ·exact a8
  ·exact U c aq
theorem uk{l:List dF}:uz l↔Zc l:=by
 constructor
 ·rintro⟨J,U⟩;obtain⟨s,rfl,aeQ⟩:=O8 (l:=l) fun b ab=>by obtain⟨i,hi,e⟩:=nX ab;exact(U i hi b (by rw[cf hi,e])).2.2
  have Tb:∀b∈s,b.t.ok=true/\b.t.size<=5000:=fun b ab=>by have:=aeQ b ab;simpa[T.fit]using this
  refine⟨s,rfl,fun b ab=>⟨?_,(Tb b ab).1⟩,?_,by simpa using J,fun b ab=>(Tb b ab).2⟩
  ·obtain⟨i,hi,e⟩:=nX ab;have:=(U i (by simpa using hi) b.b (by simp[cf hi,e])).1;exact this
  ·rw[gQ,pg];have jW:∀i (h:i+1<s.length),s[i].v<s[i+1].v:=fun i h=>by have:=(U (i+1) (by simpa using h) s[i+1].b (by simp[cf h])).2.1 s[i].b Ω (by simp[cf (show i<s.length by omega)]);exact this
   have:∀(d i:Nat) (h:i+d+1<s.length),s[i].v<s[i+d+1].v:=by
    intro d;induction d with
    |zero=>intro i h;exact jW i h
    |succ d bU=>intro i h;have bB:=bU i Ω;have a2:=jW (i+d+1) Ω;simp only[Nat.add_assoc]at bB a2⊢;omega
   intro i j hi af lM;have:=this (j-i-1) i Ω;simpa[show i+(j-i-1)+1=j from by omega]using this
 ·rintro⟨s,rfl,ax,bk,aR⟩;refine⟨by simpa using aR.1,fun i hi b ab=>?_⟩;simp only[List.getElem?_map,gk]at ab;obtain⟨c,aq,rfl⟩:=ab;have hm:=ed aq;refine⟨(ax c hm).1,fun d bE aN=>?_,?_⟩
  ·simp only[List.getElem?_map,gk]at aN;obtain⟨e,he,rfl⟩:=aN;obtain⟨J,ao⟩:=fb.1 he;obtain⟨U,aF⟩:=fb.1 aq;have:=pg.1 bk (i-1) i J U Ω;rw[ao,aF]at this;exact this
  ·show c.t.tm.fits=true;rw[b3.fits_T];simp[T.fit,(ax c hm).2,aR.2 c hm]
def vY(s:List ak)(v:Int)(f:Bool):Bool:=if 0<=j4 s v then false else f
def mG(s:List ak)(b:ak):Bool:=b.t.fold (vY s) true&& !(b.t.kind==1&&decide (b.v<=b.t.int))
theorem Se{s:List ak}(bk:gQ s)(t:T):∀f:Bool,t.fold (vY s) f=true↔f=true/\∀w,t.occ w=true->cU s w=none:=by
 induction t with
 |var n=>
  intro f;simp only[T.fold,T.occ,dL,vY];have:=zX bk n;by_cases h:0<=j4 s n
  ·rw[if_pos h];constructor
   ·intro h;cases h
   ·rintro⟨_,U⟩;have:=this.2 (U n rfl);omega
  ·rw[if_neg h];exact⟨fun aR=>⟨aR,fun w hw=>by subst hw;exact this.1 Ω⟩,fun h=>h.1⟩
 |pair a b dM dN=>
  intro f;simp only[T.fold,dM,dN,T.occ,l4];constructor
  ·rintro⟨⟨J,U⟩,ar⟩;exact⟨J,fun w hw=>hw.elim (U w) (ar w)⟩
  ·rintro⟨J,U⟩;exact⟨⟨J,fun w hw=>U w (.inl hw)⟩,fun w hw=>U w (.inr hw)⟩
 |_=>intro f;simp[T.fold,T.occ]
theorem I3{s:List ak}(bk:gQ s)(b:ak):mG s b=true↔(∀w,b.t.occ w=true->cU s w=none)/\∀w,b.t= .var w->w<b.v:=by
 unfold mG;rw[cE,Se bk];simp only[true_and];refine and_congr_right fun _=>?_;constructor
 ·intro h w hw;have ad:(b.t.kind==1)=true:=by rw[hw];rfl
  have hi:b.t.int=w:=by rw[hw];rfl
  rw[ad,hi]at h;simpa using h
 ·intro h;cases ad:(b.t.kind==1)with
  |false=>rfl
  |true=>
   obtain⟨w,hw⟩:∃w,b.t= .var w:=by
    cases e:b.t with
    |var w=>exact⟨w,rfl⟩
    |_=>rw[e]at ad;simp at ad
   have hi:b.t.int=w:=by rw[hw];rfl
   have:=h w hw;rw[hi];simpa using this
theorem Xu{s:List ak}(bk:gQ s):ft s↔∀b∈s,mG s b=true:=by
 constructor
 ·intro h b ab;exact(I3 bk b).2 ⟨h.free b ab,h.ori b ab⟩
 ·intro h;exact⟨bk,fun b ab=>((I3 bk b).1 (h b ab)).1,fun b ab=>((I3 bk b).1 (h b ab)).2⟩
def kM{α:Type}(p:α->Bool)(s:List α)(i:Nat)(_:Unit):Prop:= ∀k b,k<i->s[k]? =some b->p b=true
theorem kM.step{α:Type}{p:α->Bool}{s:List α}{i:Nat}(h:kM p s i ()){b:α}(ab:s[i]? =some b)(bK:p b=true):kM p s (i+1) ():=fun k c ad aq=>by
 rcases(by omega:k<i\/k=i)with J|rfl
 ·exact h k c J aq
 ·rw[ab]at aq;cases aq;exact bK
open Classical in
noncomputable def gz(l:List dF):Bool:=decide (IJ l)
theorem rn{l:List dF}:gz l=true↔IJ l:=by unfold gz;simp
def iK(f:Bool):cS:=⟨[(.obj 731,[.bool f])],[]⟩
theorem vN(f:Bool):dR (iK f):=by unfold iK;exact dR.of ⟨by intro m;simp[Pv.look],by intro m;simp[Pv.look]⟩ Ψ Ψ
theorem Y3(a b:Bool):Same (iK a) (iK b):=Same.keys (by simp[iK]) (by simp[iK])
theorem ady(s:List ak)(av:s.length<=1000000)(v:Int)(f:Bool):bH az 108 [.int .i64 v,.eptr (.slice 5 .no (s.map ak.e)),.ptr (.obj 731) 0] (iK f) fun r ah=>r= .tuple []/\ah=iK (vY s v f):=by
 have ag:=vN f;simp only[iK]at ag⊢;by_cases h:0<=j4 s v
 ·rw[vY,if_pos h];refine bH.mk mixed rq RS VC Ψ ag.obj fun aT cI=>?_;unfold Jb;simp;(with_reducible repeat' first|refine aj ?_|refine aD (sT s v av) ?_|refine aE (sT s v av) ?_|simp[h]);(refine cO.at (iK false) Ψ (by first|exact vN _|exact vN ‹_› _) (Same.keys (by simp[iK]) (by simp[iK])) (by simp only[iK,bO,bS];exact aK) (by simp only[iK,bO,bS];exact aK) ?_;simp[cT,ME,aW,aY,aV,inObs,Pv.look,iK])
 ·rw[vY,if_neg h];refine bH.mk mixed rq RS VC Ψ ag.obj fun aT cI=>?_;unfold Jb;simp;(with_reducible repeat' first|refine aj ?_|refine aD (sT s v av) ?_|refine aE (sT s v av) ?_|simp[h]);(refine cO.at (iK f) Ψ (by first|exact vN _|exact vN ‹_› _) (Same.keys (by simp[iK]) (by simp[iK])) (by simp only[iK,bO,bS];exact aK) (by simp only[iK,bO,bS];exact aK) ?_;simp[cT,ME,aW,aY,aV,inObs,Pv.look,iK])
theorem NY(l:List dF):bZ az 53 [.slice 5 .no (l.map dF.e)] (.bool (gz l)):=by
 have aC:=N1 l;by_cases h:uz l;rotate_left
 ·have bE:gz l=false:=by unfold gz;simp only[gC];rintro⟨s,J,U,ar,a8⟩;exact h (uk.2 ⟨s,J,U,ar.asc,a8⟩)
  rw[bE];refine bz rq RR VB fun aT=>?_;unfold Ja;exact cD
 ·obtain⟨s,rfl,ax,bk,aR⟩:=uk.1 h;have av:s.length<=1000000:=by have:=aR.1;omega
  have ao:(s.map ak.b).map dF.e=s.map ak.e:=by rw[List.map_map];exact List.map_congr_left fun b _=>ak.b_e b
  have bE:gz (s.map ak.b)=s.all (mG s):=by
   rw[p1,fM,rn,<-Xu bk];constructor
   ·rintro⟨ah,J,U,ar,a8⟩;have:ah=s:=by
     have ae1:∀a b:List ak,a.map ak.b=b.map ak.b->a=b:=by
      intro a;induction a with
      |nil=>intro b ab;cases b<;>simp at ab⊢
      |cons x a bU=>
       intro b ab;cases b with
       |nil=>simp at ab
       |cons y b=>simp only[hk,xE,ak.b,dF.mk.injEq]at ab;rw[bU b ab.2];have:=XH ab.1.2;obtain⟨⟨j5,_⟩,_⟩:=ab;cases x;cases y;simp_all
     exact(ae1 _ _ J).symm
    rw[<-this];exact ar
   ·intro ar;exact⟨s,rfl,ax,ar,aR⟩
  rw[bE];rw[ao]at aC⊢;refine bz rq RR VB fun aT=>?_;unfold Ja;simp;(with_reducible repeat' first|refine aj ?_|refine aD aC ?_|refine aE aC ?_|simp[h]);refine hQ (α:=Unit) (fun i _=>⟨[(1,.eptr (.slice 5 .no (s.map ak.e))),(9,.slice 5 .no (s.map ak.e)),(10,.int .i64 s.length),(11,.int .i64 i)],[],[],1,[]⟩) s.length (kM (mG s) s) () bV (fun k b ad=>Ω) (fun _ af _=>?_) (fun i _ hi af _=>?_)
  ·have:s.all (mG s)=true:=by rw[fM];intro b ab;obtain⟨k,ad,e⟩:=nX ab;exact af k b ad (by rw[cf ad,e])
   rw[this];exact cD
  ·obtain⟨b,mn⟩:∃b,s[i]? =some b:=⟨_,cf hi⟩;have gi:∀h,(s[i]'h)=b:=fun h=>by rw[cf hi]at mn;exact eJ mn
   have key:=Kb iK vN Y3 108 [.eptr (.slice 5 .no (s.map ak.e)),.ptr (.obj 731) 0] (fun a=>by simp[iK,inObs,Pv.look]) Ψ (vY s) (fun v a=>ady s av v a) b.t true;have e1:mG s b=false->s.all (mG s)=false:=fun h=>by rw[Bool.eq_false_iff];intro b4;rw[fM]at b4;rw[b4 b (ed mn)]at h;cases h
   simp[hi,gi];(with_reducible repeat' first|refine aj ?_|simp[gi,hi]);(refine cW.ob (key) (by first|exact vN _|exact vN ‹_› _) (by simp only[iK,bO,bS];exact aK) (by simp only[iK,bO,bS];exact aK) (by simp[inObs,Pv.look,iK]) ?_;rintro r ah ⟨rfl,rfl⟩;refine⟨(Same.keys (by simp[iK]) (by simp[iK])),?_⟩;simp[cb,iK]);generalize aeS:b.t.fold (vY s) true=tn;have x9:mG s b=(tn&& !(b.t.kind==1&&decide (b.v<=b.t.int))):=by unfold mG;rw[aeS]
   cases tn with
   |false=>rw[e1 (by rw[x9];rfl)];exact cD
   |true=>
    cases ad:(b.t.kind==1)with
    |false=>(with_reducible repeat' first|refine aj ?_|simp[ad]);refine bQ.rng () hi (af.step mn (by rw[x9,ad];rfl)) ?_;exact bV
    |true=>
     by_cases hle:b.v<=b.t.int
     ·rw[e1 (by rw[x9,ad];simp[hle])];exact cD
     ·(with_reducible repeat' first|refine aj ?_|simp[ad,hle]);refine bQ.rng () hi (af.step mn (by rw[x9,ad];simp[hle])) ?_;exact bV
@[simp]theorem ap0(S:aL->Prop):aP S (jX [])=True:=eq_true (mq S [])
theorem ad0(n:Nat)(s:List ak)(l r:List T)(av:l.length=r.length)(kL:s.length<=1000000)(yi:l.length<=1000000)(o:Option (List ak))(he:BB n (gY s++l.zip r)=some o)
  (hinv:∀c,p9 n (gY s++l.zip r) bt.new=some (true,c)->(cv c.up).Nodup/\c.up.length<=1000000/\mF c):bZ az 97 [.slice 5 .no (s.map ak.e),.slice 4 .no (l.map T.e),.slice 4 .no (r.map T.e)] (fH o):=by
 obtain⟨E,dp⟩:∃E,E=gY s++l.zip r:=⟨_,rfl⟩;rw[<-dp]at he hinv;simp only[BB,iJ]at he;obtain⟨fin,wm,oS⟩:=he;have hlen:E.length=s.length+l.length:=by rw[dp];simp[gY,av]
 have aeo:∀i b,s[i]? =some b->E.drop i=(.var b.v,b.t)::E.drop (i+1):=fun i b ab=>by
  have hi:=(fb.1 ab).1;have aX:E[i]? =some (.var b.v,b.t):=by rw[dp,List.getElem?_append_left (by simp[gY];exact hi)];simp[gY,ab]
  rw[kX Ω];rw[cf Ω]at aX;simp only[dC]at aX;rw[aX]
 have aen:∀i a b,l[i]? =some a->r[i]? =some b->E.drop (s.length+i)=(a,b)::E.drop (s.length+(i+1)):=fun i a b bk ab=>by
  have hi:=(fb.1 bk).1;have aX:E[s.length+i]? =some (a,b):=by rw[dp,List.getElem?_append_right (by simp[gY])];simp[gY,List.getElem?_zip_eq_some,bk,ab]
  rw[kX Ω];rw[cf Ω]at aX;simp only[dC]at aX;rw[aX];rfl
 refine bz XM abT aiA fun aT=>?_;unfold P3;simp;refine cW.new adO (dR.of yP Ψ Ψ) (fun k cs h=>by simp[Pv.look]at h) (fun k cs h=>by simp[Pv.look]at h) Ψ ?_;rintro r0 s0 ⟨rfl,rfl⟩;refine⟨fun m hm=>.inr Ψ,?_⟩;simp[aO,aA,cb,aB];refine hQ (α:=bt) (fun i c=>⟨[(1,.slice 4 .no (l.map T.e)),(2,.slice 4 .no (r.map T.e)),(8,aB),(13,.slice 5 .no (s.map ak.e)),(14,.int .i64 s.length),(15,.int .i64 i)],aA c,[],0,[.obj 702,.obj 703,.obj 704,.obj 705,.obj 706,.obj 707]⟩) s.length (fun i c=>p9 n (E.drop i) c=some fin) bt.new (by simp[aB,aA];exact⟨by simp[fresh,aP,aG,cn,inObs,Pv.look,aB,aA,bt.new],en (by simp[fresh,aP,aG,cn,inObs,Pv.look,aB,aA,bt.new]),eo (by simp[fresh,aP,aG,dV,inObs,Pv.look,aB,aA,bt.new]),Ψ⟩) (by simpa using wm) ?_ ?_
 ·rintro c J ab;simp[aB,aA];refine hQ (α:=bt) (fun i c=>⟨[(1,.slice 4 .no (l.map T.e)),(2,.slice 4 .no (r.map T.e)),(8,aB),(37,.int .i64 l.length),(38,.int .i64 i)],aA c,[],0,[.obj 702,.obj 703,.obj 704,.obj 705,.obj 706,.obj 707]⟩) l.length (fun i c=>p9 n (E.drop (s.length+i)) c=some fin) c (by simp[aB,aA];exact⟨by simp[fresh,aP,aG,cn,inObs,Pv.look,aB,aA],en (by simp[fresh,aP,aG,cn,inObs,Pv.look,aB,aA]),eo (by simp[fresh,aP,aG,dV,inObs,Pv.look,aB,aA]),Ψ⟩) J ?_ ?_
  ·rintro bT J ab;rw[List.drop_eq_nil_of_le Ω]at J;simp[p9]at J;subst J;simp at oS;obtain⟨a6,bD,bY⟩:=hinv bT wm;simp[aB,aA];refine cW.ob (ad1 n bT o oS a6 bD bY) (cj _) (by simp only[aO,aA];exact aK) (by simp only[aO,aA];exact aK) dl ?_;rintro r0 s0 ⟨rfl,cp,rfl⟩;refine⟨Same.keys (by simp[aO,aA]) (by simp[aO,aA]),?_⟩;simp[cb,aO,aA,fH];exact cD
  ·rintro i c hi J ab;simp only at J ab⊢;obtain⟨a,bk⟩:∃a,l[i]? =some a:=⟨_,cf hi⟩;obtain⟨b,fZ⟩:∃b,r[i]? =some b:=⟨_,cf Ω⟩;have nB:∀h,(l[i]'h)=a:=fun h=>by rw[cf hi]at bk;exact eJ bk
   have cw:∀h,(r[i]'h)=b:=fun h=>by rw[cf h]at fZ;exact eJ fZ
   have r9:i<r.length:=Ω
   rw[aen i a b bk fZ]at J;simp only[p9,iJ]at J;obtain⟨bT,U,cx,ar,⟨f,dy⟩,a8,b8⟩:=J;simp only at a8 b8;have key:=Sq n _ _ _ _ a8;simp[aB,aA];(with_reducible repeat' first|refine aj ?_|simp[nB,cw,hi,r9]);(refine cW.ob (Kf c a bT U) bi be be dl ?_;rintro r ah ⟨rfl,rfl⟩;refine⟨(Same.keys bv bv),?_⟩;simp[cb,aO,aA,aB]);(with_reducible repeat' first|refine aj ?_|simp[nB,cw,hi,r9]);(refine cW.ob (Kf bT b cx ar) bi be be dl ?_;rintro r ah ⟨rfl,rfl⟩;refine⟨(Same.keys bv bv),?_⟩;simp[cb,aO,aA,aB]);(with_reducible repeat' first|refine aj ?_|simp[nB,cw,hi,r9]);(refine gW.ob (key) bi bi (Same.keys bv bv) be be dl ?_;simp[cb,aO,aA,aB]);cases f with
   |false=>simp at b8;subst b8;simp at oS;subst oS;(with_reducible repeat' first|refine aj ?_|simp);simp[bu,MJ,aW,aY,aV];simp[fH]
   |true=>simp at b8;(with_reducible repeat' first|refine aj ?_|simp);refine bQ.rng dy hi b8 ?_;simp[aB,aA];exact⟨by simp[fresh,aP,aG,cn,inObs,Pv.look,aB,aA],en (by simp[fresh,aP,aG,cn,inObs,Pv.look,aB,aA]),eo (by simp[fresh,aP,aG,dV,inObs,Pv.look,aB,aA]),Ψ⟩
 ·rintro i c hi J ab;simp only at J ab⊢;obtain⟨b,aC,gi⟩:=ec hi;rw[aeo i b aC]at J;simp only[p9,iJ]at J;obtain⟨bT,U,cx,ar,⟨f,dy⟩,a8,b8⟩:=J;simp only[AU,T.foldO,gk]at U;obtain⟨⟨x,Pd⟩,U,rfl⟩:=U;simp only at U ar a8 b8;have key:=Sq n _ _ _ _ a8;simp[aB,aA];(with_reducible repeat' first|refine aj ?_|simp[gi,hi]);(refine cW.ob (rW c b.v x Pd U) bi be be dl ?_;rintro r ah ⟨rfl,rfl⟩;refine⟨(Same.keys bv bv),?_⟩;simp[cb,aO,aA,aB]);(with_reducible repeat' first|refine aj ?_|simp);(refine cW.ob (Kf Pd b.t cx ar) bi be be dl ?_;rintro r ah ⟨rfl,rfl⟩;refine⟨(Same.keys bv bv),?_⟩;simp[cb,aO,aA,aB]);(with_reducible repeat' first|refine aj ?_|refine aD (jg _) ?_|refine aE (jg _) ?_|simp);(refine gW.ob (key) bi bi (Same.keys bv bv) be be dl ?_;simp[cb,aO,aA,aB]);cases f with
  |false=>simp at b8;subst b8;simp at oS;subst oS;(with_reducible repeat' first|refine aj ?_|simp);simp[bu,MJ,aW,aY,aV];simp[fH]
  |true=>simp at b8;(with_reducible repeat' first|refine aj ?_|simp);refine bQ.rng dy hi b8 ?_;simp[aB,aA];exact⟨by simp[fresh,aP,aG,cn,inObs,Pv.look,aB,aA],en (by simp[fresh,aP,aG,cn,inObs,Pv.look,aB,aA]),eo (by simp[fresh,aP,aG,dV,inObs,Pv.look,aB,aA]),Ψ⟩
theorem anl(s:List ak)(l r:List T)(av:l.length=r.length)(ag:ft s)(aR:fS s)(ax:j1 s)(yi:l.length<=1000000)(J:∀t∈l,t.ok=true)(U:∀t∈r,t.ok=true):
  bZ az 97 [.slice 5 .no (s.map ak.e),.slice 4 .no (l.map T.e),.slice 4 .no (r.map T.e)] (fH (mgu s (l.zip r))):=by
 have dp:∀e∈gY s++l.zip r,e.1.ok=true/\e.2.ok=true:=fun e he=>by
  rcases ih.1 he with he|he
  ·obtain⟨b,ab,rfl⟩:=iy.1 he;have:=ax b ab;exact⟨by simpa[T.ok]using this.1,this.2⟩
  ·exact⟨J _ (List.of_mem_zip he).1,U _ (List.of_mem_zip he).2⟩
 have bE:Mg (gY s++l.zip r):=fun e he v aC=>by
  rcases aC with aC|aC
  ·exact(xA (dp e he).1 aC).1
  ·exact(xA (dp e he).2 aC).1
 obtain⟨n,o,a6,bD,bY⟩:=alL _ bE;rw[pR (Za.1 bD)];refine ad0 n s l r av (by have:=aR.1;omega) yi o a6 fun c aq=>?_;obtain⟨bB,a2,a3⟩:=bY c aq;have:=Ut bB fun v aC=>by
  obtain⟨e,he,aC⟩:=a2 v aC;rcases aC with aC|aC
  ·exact xA (dp e he).1 aC
  ·exact xA (dp e he).2 aC
 refine⟨bB,by simp[cv]at this;omega,fun x=>?_⟩;simp[bt.sz,a3,tg]
structure eN (s:List ak):Prop where
 ok:j1 s
 sol:ft s
 fits:fS s
theorem eN.len{s:List ak}(h:eN s):s.length<=1000000:=by have:=h.fits.1;omega
theorem eN.fit{s:List ak}(h:eN s):v8 s:=fun b ab=>by simp[T.fit,(h.ok b ab).2,h.fits.2 b ab]
theorem eN.mgu{s:List ak}(h:eN s){E:List (T×T)}(dp:∀e∈E,e.1.ok=true/\e.2.ok=true){ah:List ak}(hm:mgu s E=some ah):eN ah:=⟨aht h.sol h.fits h.ok dp hm,(sv h.sol h.fits hm).1,(sv h.sol h.fits hm).2⟩
theorem qu(s:List ak):(s.map ak.b).map dF.e=s.map ak.e:=by rw[List.map_map];exact List.map_congr_left fun b _=>ak.b_e b
theorem p0{s:List ak}(h:eN s):bZ az 53 [.slice 5 .no (s.map ak.e)] (.bool true):=by have:=NY (s.map ak.b);rw[qu,rn.2 ⟨s,rfl,h.ok,h.sol,h.fits⟩]at this;exact this
def agH(t:List ak)(i:Nat)(p:List T×List T):Prop:=p.1=(t.take i).map (fun b=>T.var b.v)/\p.2=(t.take i).map (·.t)
theorem amE(t:List ak)(aM:t.length<=1000000):bZ az 137 [.slice 5 .no (t.map ak.e)] (.tuple [.slice 4 .no ((t.map fun b=>T.var b.v).map T.e),.slice 4 .no ((t.map (·.t)).map T.e)]):=by
 generalize bG:((t.map fun b=>T.var b.v).map T.e)=R1;generalize SO:((t.map fun x=>x.t).map T.e)=R2;have gy:∀S:aL->Prop,aP S R1=True:=fun S=>by rw[<-bG];exact Uy S _
 have jC:∀S:aL->Prop,aP S R2=True:=fun S=>by rw[<-SO];exact Uy S _
 refine bZ.mk mixed rq abD aik Ψ (by simp[aG,gy,jC]) fun aT=>?_;unfold PM;simp;refine hQ (α:=List T×List T) (fun i p=>⟨[(10,.slice 5 .no (t.map ak.e)),(11,.int .i64 t.length),(4,.slice 4 (.own (.loc 0)) (p.1.map T.e)),(5,.slice 4 (.own (.loc 1)) (p.2.map T.e)),(12,.int .i64 i)],[],[(.loc 0,⟨p.1.length,36,4,none⟩),(.loc 1,⟨p.2.length,36,4,none⟩)],2,[]⟩) t.length (agH t) ([],[]) bV ⟨Ψ,Ψ⟩ (fun p af _=>?_) (fun i p hi af _=>?_)
 ·obtain⟨A,B⟩:=p;obtain⟨bg,jR⟩:=af;simp only at bg jR⊢;rw[hx (eX _)]at bg jR;rw[<-bG,<-SO,<-bg,<-jR];simp;(with_reducible repeat' first|refine aj ?_|simp);simp[bu,Wo,aW,aY,aV]
 ·obtain⟨A,B⟩:=p;obtain⟨bg,jR⟩:=af;simp only at bg jR⊢;obtain⟨b,aC,gi⟩:=ec hi;have wF:t.take (i+1)=t.take i++[b]:=by rw[List.take_succ,aC];rfl
  have aek:A.length<=1000000:=by rw[bg];simp;omega
  have ael:B.length<=1000000:=by rw[jR];simp;omega
  simp[hi,gi];((with_reducible repeat' first|refine aj ?_|refine aD (jg _) ?_|refine aE (jg _) ?_|simp[gi,hi]|((first|apply bJ|apply bM|apply bL)<;>intro h<;>try simp at h))<;>(try exact cc));all_goals first|(refine⟨by unfold lim;omega,?_⟩)|skip
  (with_reducible repeat' first|refine aj ?_|simp);all_goals first|(refine⟨by unfold lim;omega,?_⟩)|skip
  (with_reducible repeat' first|refine aj ?_|simp);refine bQ.rng (A++[.var b.v],B++[b.t]) hi ⟨by rw[wF,bg];simp,by rw[wF,jR];simp⟩ ?_;simp;exact⟨by simp[fresh,aP,aG,cn,inObs,Pv.look,jq],en (by simp[fresh,aP,aG,cn,inObs,Pv.look,jq]),eo (by simp[fresh,aP,aG,dV,inObs,Pv.look,jq]),Ψ⟩
theorem amr{s t:List ak}(ag:eN s)(aM:eN t):bZ az 94 [.slice 5 .no (s.map ak.e),.slice 5 .no (t.map ak.e)] (fH (mgu s (gY t))):=by
 have bf:(t.map fun b=>T.var b.v).zip (t.map (·.t))=gY t:=by rw[gY,List.zip_map']
 have key:=anl s (t.map fun b=>T.var b.v) (t.map (·.t)) Ψ ag.sol ag.fits ag.ok (by simpa using aM.len) (fun x ae=>by
  obtain⟨b,ab,rfl⟩:=iy.1 ae;have:=aM.ok b ab;simpa[T.ok]using this.1) (fun x ae=>by
  obtain⟨b,ab,rfl⟩:=iy.1 ae;exact(aM.ok b ab).2)
 rw[bf]at key;have heq:=amE t aM.len;generalize (t.map fun b=>T.var b.v)=A at key heq;generalize (t.map fun x=>x.t)=B at key heq;refine bz rq abe ahV fun aT=>?_;unfold Pn;simp;(with_reducible repeat' first|refine aj ?_|refine aD (p0 ag) ?_|refine aE (p0 ag) ?_|refine aD (p0 aM) ?_|refine aE (p0 aM) ?_|refine aD heq ?_|refine aE heq ?_|refine aD key ?_|refine aE key ?_|simp);simp[bu,Wb,aW,aY,aV];simp[fH]
end
end Go.Proofs.YtohaalphocaebaaGreatDoor
namespace Go.Pv
section
open Go
structure jN {α:Type} (c:α->α->Int):Prop where
 neg:∀a b,c b a= -c a b
 tr:∀a b d,c a b<=0->c b d<=0->c a d<=0
 zero:∀a b,c a b=0↔a=b
section
variable {α:Type} {c:α->α->Int}
def hU(c:α->α->Int)(a b:α):Bool:=decide (c a b<0)
theorem jN.ltOk(h:jN c):qJ (hU c):=by
 refine⟨fun x y h2=>?_,fun x y z J U=>?_⟩
 ·simp only[hU,e6,gC]at h2⊢;rw[h.neg x y];omega
 ·simp only[hU,gC]at J U⊢;have ao:=h.neg x y;have aF:=h.neg y z;have bA:=h.neg x z;have:=h.tr x y z Ω Ω;omega
theorem jN.refl(h:jN c)(a:α):c a a=0:=(h.zero a a).2 rfl
theorem jN.ltr(h:jN c){a b d:α}(J:c a b<0)(U:c b d<=0):c a d<0:=by
 have ar:=h.tr a b d Ω U;rcases(by omega:c a d<0\/c a d=0)with a8|a8
 ·exact a8
 ·obtain rfl:=(h.zero a d).1 a8;have:=h.neg a b;omega
def ox(c:α->α->Int)(l:List α):List α:=l.mergeSort fun x y=>decide (c x y<=0)
theorem xh(c:α->α->Int)(l:List α):(ox c l).Perm l:=List.mergeSort_perm l _
theorem NC(h:jN c)(l:List α):(ox c l).Pairwise fun x y=>c x y<=0:=by have:=List.pairwise_mergeSort (le:=fun x y=>decide (c x y<=0)) (fun a b d J U=>by simp at J U⊢;exact h.tr a b d J U) (fun a b=>by simp;have:=h.neg a b;omega) l;exact this.imp Ψ
theorem Xy(h:jN c){l a1:List α}(bK:a1.Perm l)(ag:a1.Pairwise fun x y=>hU c y x=false):a1=ox c l:=by refine Oy (le:=fun x y=>c x y<=0) (fun x y _ _ J U=>(h.zero x y).1 (by have:=h.neg x y;omega)) (ag.imp fun{x y} h2=>?_) (NC h l) (bK.trans (xh c l).symm);simp only[hU,gC]at h2;have:=h.neg x y;omega
def cP[mA α](p:Option α):List α->List α
 |[]=>[]
 |x::r=>if p=some x then cP (some x) r else x::cP (some x) r
def asc[mA α](c:α->α->Int)(l:List α):List α:=cP none (ox c l)
def hF(c:α->α->Int)(l:List α):Prop:=l.Pairwise fun x y=>c x y<0
variable [mA α]
theorem Rw:∀(l:List α) (p:Option α),(cP p l).length<=l.length
 |[],_=>by simp[cP]
 |x::r,p=>by have:=Rw r (some x);simp only[cP];split<;>simp<;>omega
theorem Zy(c:α->α->Int)(l:List α):(asc c l).length<=l.length:=by have J:=Rw (ox c l) none;have U:=(xh c l).length_eq;unfold asc;omega
theorem JA:∀(l:List α) (p:Option α) (x:α),x∈cP p l->x∈l
 |[],_,_,h=>by simp[cP]at h
 |y::r,p,x,h=>by
  simp only[cP]at h;split at h
  ·exact oE _ (JA r _ x h)
  ·rcases fD.1 h with rfl|h
   ·simp
   ·exact oE _ (JA r _ x h)
theorem L0:∀(l:List α) (p:Option α) (x:α),x∈l->x∈cP p l\/p=some x
 |y::r,p,x,h=>by
  simp only[cP];rcases fD.1 h with rfl|h
  ·split
   ·rename_i U;exact .inr U
   ·simp
  ·split
   ·rename_i U;rcases L0 r (some y) x h with ar|ar
    ·exact .inl ar
    ·cases ar;exact .inr U
   ·rcases L0 r (some y) x h with ar|ar
    ·exact .inl (oE _ ar)
    ·cases ar;simp
theorem Rx(aq:jN c):∀(l:List α) (p:Option α),l.Pairwise (fun x y=>c x y<=0)->(∀y,p=some y->∀x∈l,c y x<=0)->hF c (cP p l)/\∀y,p=some y->∀x∈cP p l,c y x<0
 |[],p,_,_=>⟨ar5,fun y _ x ae=>by simp[cP]at ae⟩
 |z::r,p,h,bK=>by
  obtain⟨J,U⟩:=mC.1 h;have bU:=Rx aq r (some z) U (fun y aH x ae=>by cases aH;exact J x ae);simp only[cP];split
  ·rename_i ar;subst ar;exact bU
  ·rename_i ar;refine⟨mC.2 ⟨fun x ae=>bU.2 z rfl x ae,bU.1⟩,fun y aH x ae=>?_⟩;subst aH;have sl:c y z<0:=by
    have a8:=bK y rfl z Ψ;rcases(by omega:c y z<0\/c y z=0)with b8|b8
    ·exact b8
    ·exact absurd (eK some ((aq.zero y z).1 b8)) ar
   rcases fD.1 ae with rfl|ae
   ·exact sl
   ·exact aq.ltr sl (by have:=bU.2 z rfl x ae;omega)
theorem I0(aq:jN c)(l:List α):hF c (asc c l):=(Rx aq _ none (NC aq l) (fun y h=>by cases h)).1
theorem U2(l:List α)(x:α):x∈asc c l↔x∈l:=by
 constructor
 ·intro h;exact(xh c l).mem_iff.1 (JA _ _ _ h)
 ·intro h;rcases L0 (ox c l) none x ((xh c l).mem_iff.2 h)with h|h
  ·exact h
  ·cases h
omit [mA α]in
theorem hF.ext(aq:jN c){l a1:List α}(h:hF c l)(b4:hF c a1)(hm:∀x,x∈l↔x∈a1):l=a1:=by
 have aN:∀{l:List α},hF c l->l.Nodup:=fun{l} h=>h.imp fun{a b} h e=>by subst e;have:=aq.refl a;omega
 refine Oy (le:=fun x y=>c x y<=0) (fun x y _ _ J U=>(aq.zero x y).1 (by have:=aq.neg x y;omega)) (h.imp fun h=>Ω) (b4.imp fun h=>Ω) ?_;exact(List.perm_ext_iff_of_nodup (aN h) (aN b4)).2 hm
omit [mA α]in
theorem hF.nodup(aq:jN c){l:List α}(h:hF c l):l.Nodup:=h.imp fun{a b} h e=>by subst e;have:=aq.refl a;omega
end
theorem I5:∀a b:List UInt8,hE a b=true->hE b a=false
 |_,[],h=>by simp[hE]at h
 |[],_::_,_=>by simp[hE]
 |x::a,y::b,h=>by
  simp only[hE,l4,e6,cE,dL]at h;simp only[hE,Bool.or_eq_false_iff,gC,Bool.and_eq_false_iff];rcases h with h|⟨rfl,h⟩
  ·refine⟨fun U=>?_,.inl ?_⟩
   ·rw[UInt8.lt_iff_toNat_lt]at h U;omega
   ·simp;intro e;subst e;rw[UInt8.lt_iff_toNat_lt]at h;omega
  ·exact⟨fun U=>by rw[UInt8.lt_iff_toNat_lt]at U;omega,.inr (I5 a b h)⟩
theorem O4:∀a b:List UInt8,a≠b->hE a b=false->hE b a=true
 |[],[],h,_=>absurd rfl h
 |x::a,[],_,_=>by simp[hE]
 |[],_::_,_,h=>by simp[hE]at h
 |x::a,y::b,cK,h=>by
  simp only[hE,Bool.or_eq_false_iff,gC,Bool.and_eq_false_iff]at h;simp only[hE,l4,e6,cE,dL];by_cases e:x=y
  ·subst e;right;refine⟨rfl,O4 a b (fun e=>cK (by rw[e])) ?_⟩;rcases h.2 with U|U
   ·simp at U
   ·exact U
  ·left;have J:=h.1;rw[UInt8.lt_iff_toNat_lt]at J⊢;have:x.toNat≠y.toNat:=fun h=>e (UInt8.toNat_inj.1 h);omega
theorem O3:∀a b d:List UInt8,hE a b=true->hE b d=true->hE a d=true
 |_,[],_,h,_=>by simp[hE]at h
 |_,_::_,[],_,h=>by simp[hE]at h
 |[],_::_,_::_,_,_=>by simp[hE]
 |x::a,y::b,z::d,J,U=>by
  simp only[hE,l4,e6,cE,dL,UInt8.lt_iff_toNat_lt]at J U⊢;rcases J with J|⟨rfl,J⟩<;>rcases U with U|⟨rfl,U⟩
  ·left;omega
  ·left;exact J
  ·left;exact U
  ·exact .inr ⟨rfl,O3 a b d J U⟩
theorem ky:jN ev:=by
 refine⟨fun a b=>?_,fun a b d=>?_,fun a b=>?_⟩
 ·simp only[ev];repeat' split
  all_goals omega
 ·simp only[ev];repeat' split
  all_goals omega
 ·simp only[ev];repeat' split
  all_goals omega
theorem DS:jN kT:=by
 have ay:∀a b,kT b a= -kT a b:=fun a b=>by
  simp only[kT];by_cases e:a=b
  ·subst e;simp
  ·rw[if_neg e,if_neg (ld e)];cases h:hE a b with
   |true=>simp[I5 a b h]
   |false=>simp[O4 a b e h]
 refine⟨ay,fun a b d J U=>?_,fun a b=>?_⟩
 ·simp only[kT]at J U⊢;by_cases ao:a=b
  ·subst ao;exact U
  ·by_cases aF:b=d
   ·subst aF;exact J
   ·rw[if_neg ao]at J;rw[if_neg aF]at U;have g1:hE a b=true:=by cases h:hE a b<;>simp[h]at J⊢
    have g2:hE b d=true:=by cases h:hE b d<;>simp[h]at U⊢
    rw[O3 a b d g1 g2];split<;>simp
 ·simp only[kT];by_cases e:a=b
  ·simp[e]
  ·rw[if_neg e];simp[e];split<;>omega
theorem sC{a b:T}(h:a.kind≠b.kind):et a b=ev a.kind b.kind:=by cases a<;>cases b<;>simp at h<;>simp[et]
theorem Hg:∀a b:T,et b a= -et a b
 | .pair a b,.pair c d=>by
  simp only[et];have J:=Hg a c;have U:=Hg b d;by_cases e:et a c=0
  ·rw[if_pos e,if_pos Ω,U]
  ·rw[if_neg e,if_neg Ω,J]
 | .nil,y=>by
  by_cases ad:T.nil.kind=y.kind
  ·cases y<;>simp at ad;simp[et,kT]
  ·rw[sC ad,sC (ld ad),ky.neg]
 | .var n,y=>by
  by_cases ad:(T.var n).kind=y.kind
  ·cases y<;>simp at ad;rename_i m;by_cases e:n=m
   ·subst e;simp[et,kT]
   ·simp[et,e,ld e,ky.neg n m]
  ·rw[sC ad,sC (ld ad),ky.neg]
 | .sym s,y=>by
  by_cases ad:(T.sym s).kind=y.kind
  ·cases y<;>simp at ad;rename_i m;simp[et,DS.neg s m]
  ·rw[sC ad,sC (ld ad),ky.neg]
 | .num n,y=>by
  by_cases ad:(T.num n).kind=y.kind
  ·cases y<;>simp at ad;rename_i m;by_cases e:n=m
   ·subst e;simp[et,kT]
   ·simp[et,e,ld e,ky.neg n m]
  ·rw[sC ad,sC (ld ad),ky.neg]
 | .pair a b,.nil| .pair a b,.var _| .pair a b,.sym _| .pair a b,.num _=>by simp[et,ev]
theorem Hf{a b:T}(h:et a b<=0):a.kind<=b.kind:=by
 by_cases ad:a.kind=b.kind
 ·omega
 ·rw[sC ad]at h;simp only[ev]at h;repeat' split at h
  all_goals omega
theorem VW(n m:Int):et (.var n) (.var m)=ev n m:=by
 simp only[et,T.kind,T.int,T.name,kT];by_cases e:n=m
 ·subst e;simp[ev]
 ·simp[e]
theorem VV(n m:Int):et (.num n) (.num m)=ev n m:=by
 simp only[et,T.kind,T.int,T.name,kT];by_cases e:n=m
 ·subst e;simp[ev]
 ·simp[e]
theorem ajO(n m:List UInt8):et (.sym n) (.sym m)=kT n m:=by simp[et]
theorem Hh(a b d:T)(bk:a.kind≠4)(J:et a b<=0)(U:et b d<=0):et a d<=0:=by
 have aU:=Hf J;have bp:=Hf U;by_cases ad:a.kind=d.kind
 ·cases a<;>cases d<;>simp at ad bk;all_goals(cases b<;>simp at aU bp)
  ·simp[et,kT]
  ·rw[VW]at J U⊢;exact ky.tr _ _ _ J U
  ·rw[ajO]at J U⊢;exact DS.tr _ _ _ J U
  ·rw[VV]at J U⊢;exact ky.tr _ _ _ J U
 ·rw[sC ad];simp only[ev];repeat' split
  all_goals omega
theorem ajP:∀a b d:T,et a b<=0->et b d<=0->et a d<=0:=by
 intro a;induction a with
 |pair bB a2 Gu Gv=>
  intro b d J U;have aU:=Hf J;have bp:=Hf U;cases b<;>simp at aU;all_goals(cases d<;>simp at bp)
  rename_i ck ca d1 d2;simp only[et]at J U⊢;by_cases ao:et bB ck=0
  ·obtain rfl:=(re bB ck).1 ao;rw[if_pos ao]at J;by_cases aF:et bB d1=0
   ·rw[if_pos aF]at U⊢;exact Gv ca d2 J U
   ·rw[if_neg aF]at U⊢;exact U
  ·rw[if_neg ao]at J;by_cases aF:et ck d1=0
   ·obtain rfl:=(re ck d1).1 aF;rw[if_neg ao];exact J
   ·rw[if_neg aF]at U;have ar:=Gu ck d1 J U;by_cases bA:et bB d1=0
    ·obtain rfl:=(re bB d1).1 bA;have:=Hg bB ck;omega
    ·rw[if_neg bA];exact ar
 |nil=>exact fun b d=>Hh _ b d Ψ
 |var n=>exact fun b d=>Hh _ b d Ψ
 |sym n=>exact fun b d=>Hh _ b d Ψ
 |num n=>exact fun b d=>Hh _ b d Ψ
theorem Mu:jN et:=⟨Hg,ajP,re⟩
end
end Go.Pv
namespace Go.Proofs.YtohaalphocaebaaGreatDoor
section
open Go Go.Pv
theorem ng{α:Type}{t:List α}{i:Nat}{b:α}(aC:t[i]? =some b):t.take (i+1)=t.take i++[b]:=by rw[List.take_succ,aC];rfl
def eG(s t:List ak):List ak:=t.filter fun b=>(cU s b.v).isNone
def q5(s t:List ak)(i:Nat)(out:List ak):Prop:=out=eG s (t.take i)
theorem amx{s t:List ak}(ag:eN s)(aM:eN t):bZ az 95 [.slice 5 .no (s.map ak.e),.slice 5 .no (t.map ak.e)] (.slice 5 .no ((eG s t).map ak.e)):=by
 have afU:=aM.len;generalize bG:eG s t=R;refine bz rq abj ah0 fun aT=>?_;unfold Ps;simp;(with_reducible repeat' first|refine aj ?_|refine aD (p0 ag) ?_|refine aE (p0 ag) ?_|refine aD (p0 aM) ?_|refine aE (p0 aM) ?_|simp);refine hQ (α:=List ak) (fun i out=>⟨[(0,.slice 5 .no (s.map ak.e)),(17,.slice 5 .no (t.map ak.e)),(18,.int .i64 t.length),(5,.slice 5 (.own (.loc 0)) (out.map ak.e)),(19,.int .i64 i)],[],[(.loc 0,⟨out.length,54,5,none⟩)],1,[]⟩) t.length (q5 s t) [] bV (by simp[q5,eG]) (fun out af _=>?_) (fun i out hi af _=>?_)
 ·rw[q5,hx (eX _),bG]at af;rw[<-af];exact cD
 ·obtain⟨b,aC,gi⟩:=ec hi;have Ap:out.length<=1000000:=by
   have:out.length<=(t.take i).length:=by rw[af];exact List.length_filter_le _ _
   simp at this;omega
  have pL:=zX ag.sol.asc b.v;simp[hi,gi];by_cases ab:j4 s b.v<0
  ·(with_reducible repeat' first|refine aj ?_|refine aD (sT s b.v ag.len) ?_|refine aE (sT s b.v ag.len) ?_|refine aD (uj _) ?_|refine aE (uj _) ?_|simp[gi,hi,ab]);all_goals first|(refine⟨by unfold lim;omega,?_⟩)|skip
   (with_reducible repeat' first|refine aj ?_|simp);refine bQ.rng (out++[b]) hi (by rw[q5,ng aC,eG,List.filter_append,af];simp[eG,pL.1 ab]) ?_;simp;exact⟨by simp[fresh,aP,aG,cn,inObs,Pv.look,jq],en (by simp[fresh,aP,aG,cn,inObs,Pv.look,jq]),eo (by simp[fresh,aP,aG,dV,inObs,Pv.look,jq]),Ψ⟩
  ·(with_reducible repeat' first|refine aj ?_|refine aD (sT s b.v ag.len) ?_|refine aE (sT s b.v ag.len) ?_|simp[gi,hi,ab]);refine bQ.rng out hi (by
    have:cU s b.v≠none:=fun e=>ab (pL.2 e);rw[q5,ng aC,eG,List.filter_append,af];cases e:cU s b.v with
    |none=>exact absurd e this
    |some x=>simp[eG,e]) ?_
   exact bV
def Gz(t:List ak)(i:Nat)(out:List ak):Prop:=out=t.take i
theorem Ya(t:List ak)(aM:t.length<=1000000):bZ az 91 [.slice 5 .no (t.map ak.e)] (.slice 5 .no (t.map ak.e)):=by
 refine bz rq abB aii fun aT=>?_;unfold PK;simp;refine hQ (α:=List ak) (fun i out=>⟨[(7,.slice 5 .no (t.map ak.e)),(8,.int .i64 t.length),(3,.slice 5 (.own (.loc 0)) (out.map ak.e)),(9,.int .i64 i)],[],[(.loc 0,⟨out.length,54,5,none⟩)],1,[]⟩) t.length (Gz t) [] bV (by simp[Gz]) (fun out af _=>?_) (fun i out hi af _=>?_)
 ·rw[Gz,hx (eX _)]at af;subst af;exact cD
 ·obtain⟨b,aC,gi⟩:=ec hi;have Ap:out.length<=1000000:=by rw[af];simp;omega
  simp[hi,gi];(with_reducible repeat' first|refine aj ?_|refine aD (uj _) ?_|refine aE (uj _) ?_|simp[gi,hi]);all_goals first|(refine⟨by unfold lim;omega,?_⟩)|skip
  (with_reducible repeat' first|refine aj ?_|simp);refine bQ.rng (out++[b]) hi (by rw[Gz,ng aC,af]) ?_;simp;exact⟨by simp[fresh,aP,aG,cn,inObs,Pv.look,jq],en (by simp[fresh,aP,aG,cn,inObs,Pv.look,jq]),eo (by simp[fresh,aP,aG,dV,inObs,Pv.look,jq]),Ψ⟩
def su(t:List ak)(b:ak):Bool:=decide (bh t b.v=b.t.ap (bh t))
def nJ(s t:List ak):Bool:=s.all (su t)
theorem Ek{t:List ak}(aM:eN t)(v:Int):(bh t v).size<=5000:=by
 unfold bh;cases e:cU t v with
 |none=>simp[T.size]
 |some x=>exact aM.fits.2 _ (iP e)
theorem Yp(s:List ak){t:List ak}(ag:s.length<=1000000)(aM:eN t):bZ az 141 [.slice 5 .no (s.map ak.e),.slice 5 .no (t.map ak.e)] (.bool (nJ s t)):=by
 refine bz rq abI aip fun aT=>?_;unfold PS;simp;refine dW [1,11,12] (fun i (_:Unit)=>[(13,.int .i64 i)]) s.length (kM (su t) s) () bV (fun k b ad=>Ω) (fun _ af _=>?_) (fun i _ hi af _=>?_)
 ·have:nJ s t=true:=by rw[nJ,fM];intro b ab;obtain⟨k,ad,e⟩:=nX ab;exact af k b ad (by rw[cf ad,e])
  rw[this];exact cD
 ·obtain⟨b,aC,gi⟩:=ec hi;have e1:su t b=false->nJ s t=false:=fun h=>by rw[Bool.eq_false_iff];intro b4;rw[nJ,fM]at b4;rw[b4 b (ed aC)]at h;cases h
  have aU:=xz t (.var b.v) aM.len aM.sol.asc aM.fit;have bp:=xz t b.t aM.len aM.sol.asc aM.fit;have yx:=Ek aM b.v;have Gt:((T.var b.v).ap (bh t)).size<=5000:=yx;rw[if_pos Gt,gD Gt]at aU;rw[show(T.var b.v).ap (bh t)=bh t b.v from rfl]at aU;simp[hi,gi];by_cases bf:(b.t.ap (bh t)).size<=5000
  ·rw[if_pos bf,gD bf]at bp;by_cases he:bh t b.v=b.t.ap (bh t)
   ·rw[he]at aU;(with_reducible repeat' first|refine aj ?_|refine aD (jg _) ?_|refine aE (jg _) ?_|refine aD aU ?_|refine aE aU ?_|refine aD bp ?_|refine aE bp ?_|refine aD (ry _ _) ?_|refine aE (ry _ _) ?_|simp[gi,hi,he]);exact bQ.rng () hi (af.step aC (by simp[su,he])) bV
   ·rw[e1 (by simp[su,he])];(with_reducible repeat' first|refine aj ?_|refine aD (jg _) ?_|refine aE (jg _) ?_|refine aD aU ?_|refine aE aU ?_|refine aD bp ?_|refine aE bp ?_|refine aD (ry _ _) ?_|refine aE (ry _ _) ?_|simp[gi,hi,he]);simp[bu,MG,aW,aY,aV]
  ·rw[if_neg bf,ij bf]at bp;rw[e1 (by simp only[su,gC];intro e;rw[<-e]at bf;exact bf yx)];(with_reducible repeat' first|refine aj ?_|refine aD (jg _) ?_|refine aE (jg _) ?_|refine aD aU ?_|refine aE aU ?_|refine aD bp ?_|refine aE bp ?_|refine aD (ry _ _) ?_|refine aE (ry _ _) ?_|simp[gi,hi]);simp[bu,MG,aW,aY,aV]
def I9:C:=(aa [c8 2 0,bq 4 false] (aa [a7 5 5 2,cR 6 22 5,I 7 6,au 7 true (a7 8 5 2),bW 7 true 9 1,au 7 true (ch 10 30 8 9),dq 11 7 10,I 4 11] .ret))
@[simp] def akd:List bX:=[.tmp 4]
def Cc:C:=(aa [c8 2 0,bq 4 false] (.seq (aa [a7 7 5 2,cR 8 31 7,cJ 9 8,I 10 9,bW 10 false 11 1,au 10 false (cR 12 32 11),au 10 false (cJ 13 12),c6 14 10 13,I 15 14,bW 15 false 16 1,au 15 false (cz 17 16),au 15 false (aI 18 0 1 2),au 15 false (aw 19 1 18),au 15 false (br 20 .neq 17 19),c6 21 15 20] (aZ 21 (aa [bq 4 false] .ret) .skip)) (.seq (aa [I 22 1,cz 23 22,cd 24 0] (e5 25 24 23 (.seq (.block 1 (aa [I 26 24,cy 27 5 22 24,a7 28 5 27,c1 6 hT,I 5 26,bN 5 6 28] (aa [aI 29 0 1 6,aw 30 1 29,I 31 5,br 32 .neq 30 31,I 33 32,au 33 false (gI 34 1 4 6),au 33 false (a7 35 4 34),au 33 false (cR 36 33 35),au 33 false (cJ 37 36),c6 38 33 37] (aZ 38 (aa [bq 4 false] .ret) .skip)))) (.region [aS 39 .add 24 1,I 24 39])))) (aa [a7 40 5 2,I 41 1,ch 42 34 40 41,I 4 42] .ret))))
@[simp] def MN:List bX:=[.tmp 4]
def Fg:C:=(aa [c8 2 0,bq 4 false] (.seq (aa [I 17 1,cR 18 62 17,cJ 19 18,I 20 19,bW 20 false 21 1,au 20 false (cz 22 21),au 20 false (aI 23 0 1 2),au 20 false (aw 24 1 23),au 20 false (br 25 .neq 22 24),c6 26 20 25] (aZ 26 (aa [bq 4 false] .ret) .skip)) (.seq (aa [I 27 1,cz 28 27,cd 29 0] (e5 30 29 28 (.seq (.block 1 (aa [I 31 29,cy 32 5 27 29,a7 33 5 32,c1 6 hT,I 5 31,bN 5 6 33] (aa [aI 34 0 1 6,aw 35 1 34,I 36 5,br 37 .neq 35 36,I 38 37,au 38 false (gI 39 1 4 6),au 38 false (a7 40 4 39),au 38 false (cR 41 63 40),au 38 false (cJ 42 41),c6 43 38 42] (aZ 43 (aa [bq 4 false] .ret) .skip)))) (.region [aS 44 .add 29 1,I 29 44])))) (.seq (aa [aI 45 1 1 2,aw 46 1 45,cz 47 46,cd 48 0] (.block 2 (.loop (aa [br 49 .lss 48 47] (.seq (aZ 49 .skip (.exit 2)) (.seq (.block 3 (aa [cy 50 5 46 48,a7 51 5 50,c1 8 hT,bN 5 8 51] (aa [I 53 1,gI 54 1 4 8,a7 55 4 54,ch 56 29 53 55,I 52 56,cC 57 0 52,cC 58 1 52,c1 9 dd,bN 4 9 57,I 10 58] (.seq (.drawn true 120 [I 59 10,cJ 60 59,I 61 60,au 61 false (a7 62 4 9),bW 61 false 63 1,au 61 false (aI 64 0 1 8),au 61 false (aw 65 1 64),au 61 false (cy 66 5 63 65),au 61 false (gI 67 1 4 66),au 61 false (a7 68 4 67),au 61 false (ch 69 64 62 68),au 61 false (cJ 70 69),c6 71 61 70]) (aZ 71 (aa [bq 4 false] .ret) .skip))))) (.region [aS 72 .add 48 1,I 48 72]))))))) (.seq (aa [aI 73 2 1 2,aw 74 1 73,cz 75 74,cd 76 0] (.block 4 (.loop (aa [br 77 .lss 76 75] (.seq (aZ 77 .skip (.exit 4)) (.seq (.block 5 (aa [cy 78 1 74 76,aw 79 1 78,I 12 79] (aa [I 80 12,I 81 1,ch 82 65 80 81,cJ 83 82] (aZ 83 (aa [bq 4 false] .ret) .skip)))) (.region [aS 84 .add 76 1,I 76 84]))))))) (.seq (aa [aI 85 3 1 2,aw 86 1 85,cz 87 86,cd 88 0] (.block 6 (.loop (aa [br 89 .lss 88 87] (.seq (aZ 89 .skip (.exit 6)) (.seq (.block 7 (aa [cy 90 2 86 88,a7 91 2 90,cN (.alloc 14 none (.agg [.int .i64 0,.int .i64 0])),bN 2 14 91] (.seq (.drawn true 120 [I 92 1,aI 93 0 1 14,aw 94 1 93,cy 95 5 92 94,gI 96 1 4 95,aI 97 0 1 96,aw 98 1 97,aI 99 1 1 14,aw 100 1 99,br 101 .neq 98 100]) (aZ 101 (aa [bq 4 false] .ret) .skip)))) (.region [aS 102 .add 88 1,I 88 102]))))))) (.seq (aa [aI 103 4 1 2,aw 104 1 103,cz 105 104,cd 106 0] (.block 8 (.loop (aa [br 107 .lss 106 105] (.seq (aZ 107 .skip (.exit 8)) (.seq (.block 9 (aa [cy 108 2 104 106,a7 109 2 108,cN (.alloc 16 none (.agg [.int .i64 0,.str []])),bN 2 16 109] (.seq (.drawn true 120 [I 110 1,aI 111 0 1 16,aw 112 1 111,cy 113 5 110 112,gI 114 1 4 113,a7 115 4 114,aI 116 1 1 16,aw 117 1 116,ch 118 66 115 117]) (aZ 118 (aa [bq 4 false] .ret) .skip)))) (.region [aS 119 .add 106 1,I 106 119]))))))) (aa [bq 4 true] .ret))))))))
@[simp] def Hu:List bX:=[.tmp 4]
def QE:C:=(aa [bq 2 false] (aa [I 3 0,cR 4 75 3,I 2 4] .ret))
@[simp] def akJ:List bX:=[.tmp 2]
def Jo:C:=(aa [c8 1 0,bq 2 false] (aa [a7 3 4 1,cR 4 76 3,I 5 4,au 5 true (a7 6 4 1),⟨(some (5,true)),.call (some 7) (.c (.func 77 [])) [.t 6,(.c (.slice 1 .nil []))]⟩,au 5 true (cz 8 7),au 5 true (aS 9 .eql 8 0),dq 10 5 9,I 2 10] .ret))
@[simp] def WJ:List bX:=[.tmp 2]
def Rb:C:=(aa [c8 2 0,bq 4 false] (.seq (aa [aI 21 1 1 2,aw 22 1 21,cz 23 22,cd 24 0] (e5 25 24 23 (.seq (.block 1 (aa [cy 26 5 22 24,a7 27 5 26,c1 6 hT,bN 5 6 27] (aa [I 29 1,aI 30 0 1 6,aw 31 1 30,ch 32 78 29 31,I 28 32,cC 33 0 28,cC 34 1 28,c1 7 dd,bN 4 7 33,I 8 34] (aa [I 36 1,gI 37 1 4 6,a7 38 4 37,ch 39 79 36 38,I 35 39,cC 40 0 35,cC 41 1 35,c1 9 dd,bN 4 9 40,I 10 41] (aa [I 42 10,cJ 43 42,I 44 43,au 44 false (a7 45 4 7),au 44 false (a7 46 4 9),au 44 false (ch 47 80 45 46),au 44 false (cJ 48 47),c6 49 44 48] (aZ 49 (aa [bq 4 false] .ret) .skip)))))) (.region [aS 50 .add 24 1,I 24 50])))) (.seq (aa [aI 51 2 1 2,aw 52 1 51,cz 53 52,cd 54 0] (.block 2 (.loop (aa [br 55 .lss 54 53] (.seq (aZ 55 .skip (.exit 2)) (.seq (.block 3 (aa [cy 56 1 52 54,aw 57 1 56,I 12 57] (aa [I 58 12,I 59 1,ch 60 81 58 59,cJ 61 60] (aZ 61 (aa [bq 4 false] .ret) .skip)))) (.region [aS 62 .add 54 1,I 54 62]))))))) (.seq (aa [aI 63 3 1 2,aw 64 1 63,cz 65 64,cd 66 0] (.block 4 (.loop (aa [br 67 .lss 66 65] (.seq (aZ 67 .skip (.exit 4)) (.seq (.block 5 (aa [cy 68 2 64 66,a7 69 2 68,cN (.alloc 14 none (.agg [.int .i64 0,.int .i64 0])),bN 2 14 69] (aa [I 71 1,aI 72 0 1 14,aw 73 1 72,ch 74 78 71 73,I 70 74,cC 75 0 70,cC 76 1 70,c1 15 dd,bN 4 15 75,I 16 76] (aa [aI 77 0 1 15,aw 78 1 77,aI 79 1 1 14,aw 80 1 79,br 81 .neq 78 80] (aZ 81 (aa [bq 4 false] .ret) .skip))))) (.region [aS 82 .add 66 1,I 66 82]))))))) (.seq (aa [aI 83 4 1 2,aw 84 1 83,cz 85 84,cd 86 0] (.block 6 (.loop (aa [br 87 .lss 86 85] (.seq (aZ 87 .skip (.exit 6)) (.seq (.block 7 (aa [cy 88 2 84 86,a7 89 2 88,cN (.alloc 18 none (.agg [.int .i64 0,.str []])),bN 2 18 89] (aa [I 91 1,aI 92 0 1 18,aw 93 1 92,ch 94 78 91 93,I 90 94,cC 95 0 90,cC 96 1 90,c1 19 dd,bN 4 19 95,I 20 96] (aa [a7 97 4 19,aI 98 1 1 18,aw 99 1 98,ch 100 82 97 99] (aZ 100 (aa [bq 4 false] .ret) .skip))))) (.region [aS 101 .add 86 1,I 86 101]))))))) (aa [bq 4 true] .ret))))))
@[simp] def WY:List bX:=[.tmp 4]
def qQ:C:=(aa [c8 6 0,c8 8 2,c8 9 3,c1 12 kR,bq 13 false] (aa [a7 21 5 6,c1 14 kR,bN 5 14 21] (aa [bq 15 true] (.seq (aa [I 22 1,aS 23 .lss 22 2] (aZ 23 (aa [aI 25 1 1 6,aw 26 1 25,a7 27 4 8,a7 28 4 9,dj 29 101 [.t 26,.t 27,.t 28],I 24 29,cC 30 0 24,cC 31 1 24,I 16 30,I 17 31] (aa [I 32 1,aS 33 .eql 32 0] (aZ 33 (aa [I 34 16,aI 35 1 1 14,bN 1 35 34] (.region [I 36 17,I 15 36])) (aa [I 37 17] (aZ 37 (aa [aI 38 1 1 6,aw 39 1 38,I 40 16,ch 41 102 39 40,I 18 41] (aa [I 42 18,cz 43 42,aS 44 .gtr 43 0,I 15 44] (.region [eE 45 1 23 [],aI 46 2 1 6,aw 47 1 46,hj 48 1 23 45 47,I 49 18,eE 50 1 23 [.t 49],hj 51 1 23 48 50,aI 52 2 1 14,bN 1 52 51]))) .skip))))) (aa [aI 54 1 1 6,aw 55 1 54,a7 56 4 8,ch 57 79 55 56,I 53 57,cC 58 0 53,cC 59 1 53,c1 19 dd,bN 4 19 58,I 20 59] (aa [I 60 20,I 15 60] (aa [I 61 15,I 62 61,bW 62 true 63 1,au 62 true (aS 64 .eql 63 2),dq 65 62 64] (aZ 65 (.region [aI 67 3 1 6,aw 68 1 67,a7 69 4 19,I 70 4,dj 71 103 [.t 68,.t 69,.t 70],I 66 71,cC 72 0 66,cC 73 1 66,aI 74 3 1 14,bN 1 74 72,I 15 73]) (aa [I 75 15] (aZ 75 (.region [aI 77 4 1 6,aw 78 1 77,a7 79 4 19,I 80 5,dj 81 104 [.t 78,.t 79,.t 80],I 76 81,cC 82 0 76,cC 83 1 76,aI 84 4 1 14,bN 1 84 82,I 15 83]) .skip)))))))) (.seq (aa [I 85 15,cJ 86 85] (aZ 86 (aa [hD 87 kR [],bN 5 12 87,bq 13 false] .ret) .skip)) (aa [a7 88 5 14,cR 89 73 88,cC 90 0 89,cC 91 1 89,bN 5 12 90,I 13 91] .ret))))))
@[simp] def HD:List bX:=[.cell 12 true 5,.tmp 13]
def Q8:C:=(aa [c8 1 0,c1 2 kR] (.seq (.drawn true 20 [aI 3 0 1 1,aw 4 1 3,aI 5 1 1 1,aw 6 1 5,cR 7 105 6,aI 8 2 1 1,aw 9 1 8,cR 10 106 9,eE 11 2 59 [],aI 12 3 1 1,aw 13 1 12,hj 14 2 59 11 13,eE 15 2 56 [],aI 16 4 1 1,aw 17 1 16,hj 18 2 56 15 17,hD 19 kR [(0,1,(.t 4)),(1,1,(.t 7)),(2,1,(.t 10)),(3,1,(.t 14)),(4,1,(.t 18))],bN 5 2 19]) .ret))
@[simp] def akR:List bX:=[.cell 2 true 5]
def Pk:C:=(aa [bq 4 false] (.seq (aa [I 11 0,cR 12 53 11,cJ 13 12,I 14 13,bW 14 false 15 1,au 14 false (cR 16 62 15),au 14 false (cJ 17 16),c6 18 14 17] (aZ 18 (aa [bq 4 false] .ret) .skip)) (.seq (aa [I 19 0,cz 20 19,cd 21 0] (e5 22 21 20 (.seq (.block 1 (aa [cy 23 5 19 21,a7 24 5 23,c1 6 hT,bN 5 6 24] (aa [I 26 1,aI 27 0 1 6,aw 28 1 27,cR 29 28 28,ch 30 29 26 29,I 25 30,cC 31 0 25,cC 32 1 25,c1 7 dd,bN 4 7 31,I 8 32] (aa [I 34 1,gI 35 1 4 6,a7 36 4 35,ch 37 29 34 36,I 33 37,cC 38 0 33,cC 39 1 33,c1 9 dd,bN 4 9 38,I 10 39] (aa [I 40 8,I 41 40,bW 41 true 42 10,dq 43 41 42,I 44 43,au 44 true (a7 45 4 7),au 44 true (a7 46 4 9),au 44 true (ch 47 64 45 46),au 44 true (cJ 48 47),dq 49 44 48] (aZ 49 (aa [bq 4 true] .ret) .skip)))))) (.region [aS 50 .add 21 1,I 21 50])))) (aa [bq 4 false] .ret))))
@[simp] def Wa:List bX:=[.tmp 4]
def Qx:C:=(aa [bq 4 false] (.seq (aa [I 11 0,cR 12 68 11,cJ 13 12] (aZ 13 (aa [bq 4 false] .ret) .skip)) (.seq (aa [I 14 0,cz 15 14,cd 16 0] (e5 17 16 15 (.seq (.block 1 (aa [cy 18 5 14 16,a7 19 5 18,c1 6 hT,bN 5 6 19] (aa [aI 21 0 1 6,aw 22 1 21,cR 23 84 22,I 24 1,ch 25 131 23 24,I 20 25,cC 26 0 20,cC 27 1 20,c1 7 dd,bN 4 7 26,I 8 27] (aa [gI 29 1 4 6,a7 30 4 29,I 31 1,ch 32 131 30 31,I 28 32,cC 33 0 28,cC 34 1 28,c1 9 dd,bN 4 9 33,I 10 34] (aa [I 35 8,I 36 35,bW 36 true 37 10,dq 38 36 37,I 39 38,au 39 true (a7 40 4 7),au 39 true (a7 41 4 9),au 39 true (ch 42 80 40 41),au 39 true (cJ 43 42),dq 44 39 43] (aZ 44 (aa [bq 4 true] .ret) .skip)))))) (.region [aS 45 .add 16 1,I 16 45])))) (aa [bq 4 false] .ret))))
@[simp] def akE:List bX:=[.tmp 4]
def Qw:C:=(aa [c8 2 0,bq 4 false] (aa [a7 5 4 2,cR 6 76 5,I 7 6,au 7 true (a7 8 4 2),bW 7 true 9 1,au 7 true (ch 10 132 8 9),dq 11 7 10,I 4 11] .ret))
@[simp] def akD:List bX:=[.tmp 4]
def QV:C:=(aa [e4 2 5] (aa [eE 6 5 54 [],I 3 6] (.seq (aa [I 7 0,cz 8 7,cd 9 0] (e5 10 9 8 (.seq (.block 1 (aa [cy 11 5 7 9,a7 12 5 11,c1 5 hT,bN 5 5 12] (.drawn true 24 [I 13 3,aI 14 0 1 5,aw 15 1 14,gI 16 1 4 5,a7 17 4 16,cR 18 37 17,hD 19 hT [(0,1,(.t 15)),(1,4,(.t 18))],eE 20 5 54 [.t 19],hj 21 5 54 13 20,I 3 21]))) (.region [aS 22 .add 9 1,I 9 22])))) (aa [I 23 3,I 2 23] .ret))))
@[simp] def akL:List bX:=[.tmp 2]
def Q4:C:=(aa [e4 2 1] (aa [eE 6 1 23 [],I 3 6] (.seq (aa [I 7 0,cz 8 7,cd 9 0] (e5 10 9 8 (.seq (.block 1 (aa [cy 11 1 7 9,aw 12 1 11,I 5 12] (.region [I 13 3,I 14 5,cR 15 105 14,eE 16 1 23 [.t 15],hj 17 1 23 13 16,I 3 17]))) (.region [aS 18 .add 9 1,I 9 18])))) (aa [I 19 3,I 2 19] .ret))))
@[simp] def akO:List bX:=[.tmp 2]
def Jn:C:=(aa [c8 2 0,c1 4 dd,bq 5 false] (.seq (aa [a7 8 4 2,cR 9 76 8,cJ 10 9,I 11 10,bW 11 false 12 1,au 11 false (cR 13 32 12),au 11 false (cJ 14 13),c6 15 11 14] (aZ 15 (aa [hD 16 dd [],bN 4 4 16,bq 5 false] .ret) .skip)) (aa [I 18 1,a7 19 4 2,ch 20 79 18 19,I 17 20,cC 21 0 17,cC 22 1 17,c1 6 dd,bN 4 6 21,I 7 22] (.seq (aa [I 23 7,cJ 24 23] (aZ 24 (aa [hD 25 dd [],bN 4 4 25,bq 5 false] .ret) .skip)) (aa [a7 26 4 6,cR 27 37 26,bN 4 4 27,bq 5 true] .ret)))))
@[simp] def akF:List bX:=[.cell 4 true 4,.tmp 5]
def o9:List (Nat×dz):=[
 (3,⟨1,8,.int .i64,.int .i64 0⟩),
 (9,⟨1,16,.str,.str []⟩),
 (23,⟨1,24,.slice 54,.slice 5 .nil []⟩),
 (24,⟨1,24,.slice 23,.slice 1 .nil []⟩),
 (25,⟨1,24,.slice 59,.slice 2 .nil []⟩),
 (26,⟨1,24,.slice 56,.slice 2 .nil []⟩),
 (28,⟨5,104,.struct [(0,3),(1,23),(2,24),(3,25),(4,26)],.agg [.int .i64 0,.slice 5 .nil [],.slice 1 .nil [],.slice 2 .nil [],.slice 2 .nil []]⟩),
 (34,⟨1,24,.slice 36,.slice 4 .nil []⟩),
 (36,⟨4,56,.struct [(0,3),(1,3),(2,9),(3,34)],.agg [.int .i64 0,.int .i64 0,.str [],.slice 4 .nil []]⟩),
 (54,⟨5,64,.struct [(0,3),(1,36)],.agg [.int .i64 0,.int .i64 0,.int .i64 0,.str [],.slice 4 .nil []]⟩),
 (56,⟨2,24,.struct [(0,3),(1,9)],.agg [.int .i64 0,.str []]⟩),
 (59,⟨2,16,.struct [(0,3),(1,3)],.agg [.int .i64 0,.int .i64 0]⟩),
 (97,⟨1,24,.slice 3,.slice 1 .nil []⟩)]
theorem ic:fI az o9=true:=by kernel_rfl
theorem VA:b7 o9 I9 akd 2 Tryz.f8=true:=by kernel_rfl
theorem RQ:az.funcs[(8:Nat)]? =some Tryz.f8:=Tryz.func8
theorem Hb:b7 o9 Cc MN 2 Tryz.f9=true:=by kernel_rfl
theorem FE:az.funcs[(9:Nat)]? =some Tryz.f9:=Tryz.func9
theorem Ml:b7 o9 Fg Hu 2 Tryz.f30=true:=by kernel_rfl
theorem JV:az.funcs[(30:Nat)]? =some Tryz.f30:=Tryz.func30
theorem ajb:b7 o9 QE akJ 1 Tryz.f32=true:=by kernel_rfl
theorem acx:az.funcs[(32:Nat)]? =some Tryz.f32:=Tryz.func32
theorem VM:b7 o9 Jo WJ 1 Tryz.f33=true:=by kernel_rfl
theorem R0:az.funcs[(33:Nat)]? =some Tryz.f33:=Tryz.func33
theorem ajI:b7 o9 Rb WY 2 Tryz.f34=true:=by kernel_rfl
theorem ac4:az.funcs[(34:Nat)]? =some Tryz.f34:=Tryz.func34
theorem sB:b7 o9 qQ HD 6 Tryz.f49=true:=by kernel_rfl
theorem rU:az.funcs[(49:Nat)]? =some Tryz.f49:=Tryz.func49
theorem ajF:b7 o9 Q8 akR 1 Tryz.f51=true:=by kernel_rfl
theorem ac1:az.funcs[(51:Nat)]? =some Tryz.f51:=Tryz.func51
theorem ahS:b7 o9 Pk Wa 2 Tryz.f65=true:=by kernel_rfl
theorem abb:az.funcs[(65:Nat)]? =some Tryz.f65:=Tryz.func65
theorem ai4:b7 o9 Qx akE 2 Tryz.f81=true:=by kernel_rfl
theorem acp:az.funcs[(81:Nat)]? =some Tryz.f81:=Tryz.func81
theorem ai3:b7 o9 Qw akD 2 Tryz.f82=true:=by kernel_rfl
theorem aco:az.funcs[(82:Nat)]? =some Tryz.f82:=Tryz.func82
theorem ajs:b7 o9 QV akL 1 Tryz.f105=true:=by kernel_rfl
theorem acO:az.funcs[(105:Nat)]? =some Tryz.f105:=Tryz.func105
theorem ajB:b7 o9 Q4 akO 1 Tryz.f106=true:=by kernel_rfl
theorem acX:az.funcs[(106:Nat)]? =some Tryz.f106:=Tryz.func106
theorem VL:b7 o9 Jn akF 2 Tryz.f131=true:=by kernel_rfl
theorem RZ:az.funcs[(131:Nat)]? =some Tryz.f131:=Tryz.func131
def Di(t:T)(k:Nat)(st:bm):Prop:=
 (k=t.args.length/\st=⟨[(2,.ptr (.loc 1) 0),(3,.ptr (.loc 2) 0),(14,.slice 4 .no (t.args.map T.e)),(15,.int .i64 t.args.length),(16,.int .i64 0)],[(.loc 1,[.int .i64 0,.int .i64 0,.str [],.slice 4 .nil []]),(.loc 2,[.int .i64 t.kind,.int .i64 t.int,.str t.name,.slice 4 .nil []])],[],3,[]⟩)\/
 ∃i:Nat,1<=i/\i<=t.args.length/\k=t.args.length-i/\st=⟨[(2,.ptr (.loc 1) 0),(3,.ptr (.loc 2) 0),(14,.slice 4 .no (t.args.map T.e)),(15,.int .i64 t.args.length),(16,.int .i64 i)],[(.loc 1,[.int .i64 0,.int .i64 0,.str [],.slice 4 .nil []]),(.loc 2,[.int .i64 t.kind,.int .i64 t.int,.str t.name,.slice 4 (.own (.loc 29)) ((t.args.take i).map T.e)])],[(.loc 29,⟨i,36,4,none⟩)],30,[]⟩
theorem N2(t:T):bZ az 37 [t.e] t.e:=by
 induction t with
 |pair a b dM dN=>
  refine bz fJ Co DM fun aT=>?_;unfold zF;simp;refine n5 (Di (.pair a b)) 2 _ bV (.inl ⟨rfl,rfl⟩) ?_;rintro k st (⟨ad,rfl⟩|⟨i,J,U,ad,rfl⟩) jT cI;all_goals clear jT cI
  ·simp;(with_reducible repeat' first|refine aj ?_|refine aD dM ?_|refine aE dM ?_|simp);refine bQ.next 1 (by rw[ad];simp) (.inr ⟨1,Ω,Ψ,rfl,rfl⟩) bV
  ·rcases(by simp at U;omega:i=1\/i=2)with rfl|rfl
   ·simp;(with_reducible repeat' first|refine aj ?_|refine aD dN ?_|refine aE dN ?_|simp);refine bQ.next 0 (by rw[ad];simp) (.inr ⟨2,Ω,Ψ,rfl,rfl⟩) bV
   ·exact cD
 |nil=>
  refine bz fJ Co DM fun aT=>?_;unfold zF;simp;refine n5 (Di (.nil)) 0 _ bV (.inl ⟨rfl,rfl⟩) ?_;rintro k st (⟨ad,rfl⟩|⟨i,J,U,ad,rfl⟩) jT cI;all_goals clear jT cI
  ·exact cD
  ·simp at U;omega
 |var n=>
  refine bz fJ Co DM fun aT=>?_;unfold zF;simp;refine n5 (Di (.var n)) 0 _ bV (.inl ⟨rfl,rfl⟩) ?_;rintro k st (⟨ad,rfl⟩|⟨i,J,U,ad,rfl⟩) jT cI;all_goals clear jT cI
  ·exact cD
  ·simp at U;omega
 |sym s=>
  refine bz fJ Co DM fun aT=>?_;unfold zF;simp;refine n5 (Di (.sym s)) 0 _ bV (.inl ⟨rfl,rfl⟩) ?_;rintro k st (⟨ad,rfl⟩|⟨i,J,U,ad,rfl⟩) jT cI;all_goals clear jT cI
  ·exact cD
  ·simp at U;omega
 |num n=>
  refine bz fJ Co DM fun aT=>?_;unfold zF;simp;refine n5 (Di (.num n)) 0 _ bV (.inl ⟨rfl,rfl⟩) ?_;rintro k st (⟨ad,rfl⟩|⟨i,J,U,ad,rfl⟩) jT cI;all_goals clear jT cI
  ·exact cD
  ·simp at U;omega
theorem Yi(t:List ak)(aM:t.length<=1000000):bZ az 105 [.slice 5 .no (t.map ak.e)] (.slice 5 .no (t.map ak.e)):=by
 refine bz ic acO ajs fun aT=>?_;unfold QV;simp;(with_reducible repeat' first|refine aj ?_|simp);refine hQ (α:=List ak) (fun i out=>⟨[(7,.slice 5 .no (t.map ak.e)),(8,.int .i64 t.length),(3,.slice 5 (.own (.loc 0)) (out.map ak.e)),(9,.int .i64 i)],[],[(.loc 0,⟨out.length,54,5,none⟩)],1,[]⟩) t.length (fun i out=>out=t.take i) [] bV Ψ (fun out af _=>?_) (fun i out hi af _=>?_)
 ·rw[hx (eX _)]at af;subst af;exact cD
 ·obtain⟨b,aC,gi⟩:=ec hi;have Ap:out.length<=1000000:=by rw[af];simp;omega
  simp[hi,gi];(with_reducible repeat' first|refine aj ?_|refine aD (N2 _) ?_|refine aE (N2 _) ?_|simp[gi,hi]);all_goals first|(refine⟨by unfold lim;omega,?_⟩)|skip
  all_goals(with_reducible repeat' first|refine aj ?_|simp)
  all_goals refine bQ.rng (out++[b]) hi (by rw[ng aC,af]) ?_
  all_goals simp
  all_goals exact⟨by simp[fresh,aP,aG,cn,inObs,Pv.look,jq],en (by simp[fresh,aP,aG,cn,inObs,Pv.look,jq]),eo (by simp[fresh,aP,aG,dV,inObs,Pv.look,jq]),Ψ⟩
end
end Go.Proofs.YtohaalphocaebaaGreatDoor
namespace Go.Pv
section
open Go
section
variable {α:Type} {c:α->α->Int}
def kc(c:α->α->Int):List α->List α->Int
 |[],[]=>0
 |[],_::_=> -1
 |_::_,[]=>1
 |x::xs,y::ys=>if c x y=0 then kc c xs ys else c x y
theorem UK(h:jN c):∀a b:List α,kc c b a= -kc c a b
 |[],[]=>rfl
 |[],_::_=>rfl
 |_::_,[]=>rfl
 |x::xs,y::ys=>by
  simp only[kc];have J:=h.neg x y;by_cases e:c x y=0
  ·rw[if_pos e,if_pos Ω,UK h xs ys]
  ·rw[if_neg e,if_neg Ω,J]
theorem UM(h:jN c):∀a b:List α,kc c a b=0↔a=b
 |[],[]=>by simp[kc]
 |[],_::_=>by simp[kc]
 |_::_,[]=>by simp[kc]
 |x::xs,y::ys=>by
  simp only[kc,xE];by_cases e:c x y=0
  ·rw[if_pos e,UM h xs ys];simp[(h.zero x y).1 e]
  ·rw[if_neg e];exact⟨fun b4=>absurd b4 e,fun b4=>absurd ((h.zero x y).2 b4.1) e⟩
theorem UL(h:jN c):∀a b d:List α,kc c a b<=0->kc c b d<=0->kc c a d<=0
 |[],_,[],_,_=>by simp[kc]
 |[],_,_::_,_,_=>by simp[kc]
 |_::_,[],_,J,_=>by simp[kc]at J
 |_::_,_::_,[],_,U=>by simp[kc]at U
 |x::xs,y::ys,z::cN,J,U=>by
  simp only[kc]at J U⊢;by_cases ao:c x y=0
  ·have:=(h.zero x y).1 ao;subst this;rw[if_pos ao]at J;by_cases aF:c x z=0
   ·rw[if_pos aF]at U⊢;exact UL h xs ys cN J U
   ·rw[if_neg aF]at U⊢;exact U
  ·rw[if_neg ao]at J;have bs:c x y<0:=Ω
   by_cases aF:c y z=0
   ·have:=(h.zero y z).1 aF;subst this;rw[if_neg ao];omega
   ·rw[if_neg aF]at U;have:=h.ltr bs U;rw[if_neg Ω];omega
theorem ag4(h:jN c):jN (kc c):=⟨UK h,UL h,UM h⟩
end
def yW(x y:ak):Int:=if ev x.v y.v=0 then et x.t y.t else ev x.v y.v
theorem ajM:jN yW:=by
 refine⟨fun x y=>?_,fun x y z J U=>?_,fun x y=>?_⟩
 ·unfold yW;have:=ky.neg x.v y.v;have:=Mu.neg x.t y.t;by_cases e:ev x.v y.v=0
  ·rw[if_pos e,if_pos Ω];omega
  ·rw[if_neg e,if_neg Ω];omega
 ·unfold yW at J U⊢;by_cases ao:ev x.v y.v=0
  ·rw[if_pos ao]at J;rw[(ky.zero _ _).1 ao];by_cases aF:ev y.v z.v=0
   ·rw[if_pos aF]at U⊢;exact Mu.tr _ _ _ J U
   ·rw[if_neg aF]at U⊢;exact U
  ·rw[if_neg ao]at J;have bs:ev x.v y.v<0:=Ω
   by_cases aF:ev y.v z.v=0
   ·rw[<-(ky.zero _ _).1 aF,if_neg ao];exact J
   ·rw[if_neg aF]at U;have:=ky.ltr bs U;rw[if_neg Ω];omega
 ·unfold yW;by_cases e:ev x.v y.v=0
  ·rw[if_pos e,Mu.zero];have:=(ky.zero _ _).1 e;cases x;cases y;simp_all
  ·rw[if_neg e];exact⟨fun h=>absurd h e,fun h=>by rw[h]at e;exact absurd (ky.refl _) e⟩
def eu:List ak->List ak->Int:=kc yW
theorem lX:jN eu:=ag4 ajM
end
section
open Go
structure b6 where
 v:Int
 k:Int
 deriving mA,Inhabited
def b6.e(b:b6):ai:= .agg [.int .i64 b.v,.int .i64 b.k]
@[simp]theorem b6.eta(b:b6):b6.mk b.v b.k=b:=rfl
@[simp]theorem OM(v k:Int):ai.agg [.int .i64 v,.int .i64 k]=(b6.mk v k).e:=rfl
@[simp]theorem aqc(S:aL->Prop)(b:b6):aG S b.e=True:=by simp[b6.e,-OM]
@[simp]theorem arQ(b:b6):ey b.e=b.e:=by simp[b6.e,-OM]
theorem UA(S:aL->Prop):∀l:List b6,aP S (l.map b6.e)
 |[]=>by simp[aP]
 |x::xs=>by simp[aP,UA S xs]
@[simp]theorem ap2(S:aL->Prop)(l:List b6):aP S (l.map b6.e)=True:=eq_true (UA S l)
@[simp]theorem NG:∀l:List b6,dv (l.map b6.e)=l.map b6.e
 |[]=>rfl
 |x::xs=>by simp[dv,NG xs]
@[simp]theorem arA(b:b6):eO b.e=true:=rfl
@[simp]theorem aoy(b:b6):cells b.e=[.int .i64 b.v,.int .i64 b.k]:=rfl
@[simp]theorem apM(b:b6):Pv.isAgg 2 b.e:=⟨_,rfl,rfl⟩
@[simp]theorem ao0(off:Nat)(fW:Bool)(sz:Nat)(b:b6):uN off fW sz b.e=if fW then some (off+sz<=2,.agg (([.int .i64 b.v,.int .i64 b.k].drop off).take sz))else(([.int .i64 b.v,.int .i64 b.k]:List ai)[off]?).map fun p=>(True,p):=rfl
@[simp]theorem aoS(off:Nat)(fW:Bool)(sz:Nat)(b:b6):qW off fW sz (.eptr b.e)=if fW then some (off+sz<=2,.eptr (.agg (([.int .i64 b.v,.int .i64 b.k].drop off).take sz)))else(([.int .i64 b.v,.int .i64 b.k]:List ai)[off]?).map fun p=>(eO p=true/\cells p=[p],.eptr p):=rfl
structure bo where
 v:Int
 s:List UInt8
 deriving mA,Inhabited
def bo.e(b:bo):ai:= .agg [.int .i64 b.v,.str b.s]
@[simp]theorem bo.eta(b:bo):bo.mk b.v b.s=b:=rfl
@[simp]theorem IU(v:Int)(s:List UInt8):ai.agg [.int .i64 v,.str s]=(bo.mk v s).e:=rfl
@[simp]theorem agS(S:aL->Prop)(b:bo):aG S b.e=True:=by simp[bo.e,-IU]
@[simp]theorem arR(b:bo):ey b.e=b.e:=by simp[bo.e,-IU]
theorem LC(S:aL->Prop):∀l:List bo,aP S (l.map bo.e)
 |[]=>by simp[aP]
 |x::xs=>by simp[aP,LC S xs]
@[simp]theorem UB(S:aL->Prop)(l:List bo):aP S (l.map bo.e)=True:=eq_true (LC S l)
@[simp]theorem NH:∀l:List bo,dv (l.map bo.e)=l.map bo.e
 |[]=>rfl
 |x::xs=>by simp[dv,NH xs]
@[simp]theorem arB(b:bo):eO b.e=true:=rfl
@[simp]theorem aoz(b:bo):cells b.e=[.int .i64 b.v,.str b.s]:=rfl
@[simp]theorem apN(b:bo):Pv.isAgg 2 b.e:=⟨_,rfl,rfl⟩
@[simp]theorem ao1(off:Nat)(fW:Bool)(sz:Nat)(b:bo):uN off fW sz b.e=if fW then some (off+sz<=2,.agg (([.int .i64 b.v,.str b.s].drop off).take sz))else(([.int .i64 b.v,.str b.s]:List ai)[off]?).map fun p=>(True,p):=rfl
@[simp]theorem aoT(off:Nat)(fW:Bool)(sz:Nat)(b:bo):qW off fW sz (.eptr b.e)=if fW then some (off+sz<=2,.eptr (.agg (([.int .i64 b.v,.str b.s].drop off).take sz)))else(([.int .i64 b.v,.str b.s]:List ai)[off]?).map fun p=>(eO p=true/\cells p=[p],.eptr p):=rfl
def fi(x y:bo):Int:=if ev x.v y.v=0 then kT x.s y.s else ev x.v y.v
theorem lY:jN fi:=by
 refine⟨fun x y=>?_,fun x y z J U=>?_,fun x y=>?_⟩
 ·unfold fi;have:=ky.neg x.v y.v;have:=DS.neg x.s y.s;by_cases e:ev x.v y.v=0
  ·rw[if_pos e,if_pos Ω];omega
  ·rw[if_neg e,if_neg Ω];omega
 ·unfold fi at J U⊢;by_cases ao:ev x.v y.v=0
  ·rw[if_pos ao]at J;rw[(ky.zero _ _).1 ao];by_cases aF:ev y.v z.v=0
   ·rw[if_pos aF]at U⊢;exact DS.tr _ _ _ J U
   ·rw[if_neg aF]at U⊢;exact U
  ·rw[if_neg ao]at J;have bs:ev x.v y.v<0:=Ω
   by_cases aF:ev y.v z.v=0
   ·rw[<-(ky.zero _ _).1 aF,if_neg ao];exact J
   ·rw[if_neg aF]at U;have:=ky.ltr bs U;rw[if_neg Ω];omega
 ·unfold fi;by_cases e:ev x.v y.v=0
  ·rw[if_pos e,DS.zero];have:=(ky.zero _ _).1 e;cases x;cases y;simp_all
  ·rw[if_neg e];exact⟨fun h=>absurd h e,fun h=>by rw[h]at e;exact absurd (ky.refl _) e⟩
def tV(x y:bo):Bool:=decide (x.v<y.v)||(x.v==y.v&&hE x.s y.s)
theorem ZI(a:List UInt8):hE a a=false:=by
 cases h:hE a a with
 |false=>rfl
 |true=>rw[I5 a a h]at h;cases h
theorem Vn(x y:bo):tV x y=hU fi x y:=by
 unfold tV hU fi;rw[p1];simp only[l4,e6,cE,dL];by_cases e:x.v=y.v
 ·have:ev x.v y.v=0:=(ky.zero _ _).2 e;rw[if_pos this];simp only[e,Int.lt_irrefl,false_or,true_and,kT];by_cases aF:x.s=y.s
  ·rw[if_pos aF,aF,ZI];simp
  ·rw[if_neg aF];split<;>simp_all
 ·have bE:¬ev x.v y.v=0:=fun h=>e ((ky.zero _ _).1 h);rw[if_neg bE];simp only[e,false_and,or_false];unfold ev;(repeat' split)<;>omega
def im{α:Type}(p:α->Prop)(r:α->α->Prop)(l:List α)(i:Nat):Prop:= ∀b,l[i]? =some b->p b/\∀c,0<i->l[i-1]? =some c->r c b
theorem OI{α:Type}{p:α->Prop}{r:α->α->Prop}(aM:∀a b c,r a b->r b c->r a c){l:List α}:(∀i,i<l.length->im p r l i)↔(∀b∈l,p b)/\l.Pairwise r:=by
 constructor
 ·intro h;refine⟨fun b ab=>?_,?_⟩
  ·obtain⟨i,hi,e⟩:=nX ab;exact(h i hi b (by rw[cf hi,e])).1
  ·rw[pg];have jW:∀i (h:i+1<l.length),r l[i] l[i+1]:=fun i hi=>(h (i+1) hi l[i+1] (by simp[cf hi])).2 l[i] Ω (by simp[cf (show i<l.length by omega)]);have:∀(d i:Nat) (h:i+d+1<l.length),r l[i] l[i+d+1]:=by
    intro d;induction d with
    |zero=>intro i h;exact jW i h
    |succ d bU=>intro i h;exact aM _ _ _ (bU i Ω) (jW (i+d+1) Ω)
   intro i j hi af lM;have:=this (j-i-1) i Ω;simpa[show i+(j-i-1)+1=j from by omega]using this
 ·rintro⟨J,U⟩ i hi b ab;refine⟨J b (ed ab),fun c bE aq=>?_⟩;obtain⟨g1,ao⟩:=fb.1 aq;obtain⟨g2,aF⟩:=fb.1 ab;have:=pg.1 U (i-1) i g1 g2 Ω;rw[ao,aF]at this;exact this
def ku{α:Type}(c:α->α->Int)(x:α):List α->List α
 |[]=>[x]
 |y::l=>if c y x<0 then y::ku c x l else if c y x=0 then y::l else x::y::l
section
variable {α:Type} {c:α->α->Int}
theorem GZ(aq:jN c){x z:α}:∀{l:List α},z∈ku c x l↔z=x\/z∈l
 |[]=>by simp[ku]
 |y::l=>by
  simp only[ku];split
  ·simp only[fD,GZ aq (l:=l)];constructor
   ·rintro(h|h|h)
    ·exact .inr (.inl h)
    ·exact .inl h
    ·exact .inr (.inr h)
   ·rintro(h|h|h)
    ·exact .inr (.inl h)
    ·exact .inl h
    ·exact .inr (.inr h)
  ·split
   ·rename_i h;obtain rfl:=(aq.zero _ _).1 h;simp
   ·simp
theorem Lj(aq:jN c){x:α}:∀{l:List α},hF c l->hF c (ku c x l)
 |[],_=>by simp[ku,hF]
 |y::l,h=>by
  obtain⟨J,U⟩:=mC.1 h;simp only[ku];split
  ·rename_i ar;refine mC.2 ⟨fun z bf=>?_,Lj aq U⟩;rcases(GZ aq).1 bf with rfl|bf
   ·exact ar
   ·exact J z bf
  ·split
   ·exact h
   ·rename_i ar a8;have h2:c x y<0:=by have:=aq.neg x y;omega
    refine mC.2 ⟨fun z bf=>?_,h⟩;rcases fD.1 bf with rfl|bf
    ·exact h2
    ·exact aq.ltr h2 (by have:=J z bf;omega)
theorem Ll(x:α):∀l:List α,(ku c x l).length<=l.length+1
 |[]=>by simp[ku]
 |y::l=>by
  have:=Ll x l;simp only[ku];split
  ·simp;omega
  ·split<;>simp
theorem Lk(aq:jN c)(x:α):∀(l:List α) (k:Nat),(∀i y,i<k->l[i]? =some y->c y x<0)->(∀y,l[k]? =some y->0<=c y x)->k<=l.length->ku c x l=if(match l[k]? with|some y=>decide (c y x=0)|none=>false)=true then l else l.take k++x::l.drop k
 |[],k,_,_,ad=>by simp at ad;subst ad;simp[ku]
 |y::l,0,_,U,_=>by
  have:=U y rfl;by_cases e:c y x=0
  ·simp[ku,e]
  ·have ar:¬c y x<0:=Ω
   simp[ku,ar,e]
 |y::l,k+1,J,U,ad=>by
  have bE:=J 0 y Ω rfl;simp only[ku,if_pos bE,List.take_succ_cons,List.drop_succ_cons,bO,List.getElem?_cons_succ];rw[Lk aq x l k (fun i d hi aN=>J (i+1) d Ω (by simpa using aN)) (fun d aN=>U d (by simpa using aN)) (by simpa using ad)];cases l[k]? with
  |none=>rfl
  |some z=>simp only[];split<;>rfl
end
structure gT (l:List b6):Prop where
 at':∀x∈l,(0<=x.v/\x.v<=100000)/\(x.k=2\/x.k=3)
 asc:l.Pairwise fun x y=>x.v<y.v
def iZ(l:List b6)(v:Int):Option Int:=(l.find? fun x=>x.v==v).map (·.k)
def lT(x:b6):List b6->List b6
 |[]=>[x]
 |y::l=>if y.v<x.v then y::lT x l else x::y::l
theorem G0{x z:b6}:∀{l:List b6},z∈lT x l↔z=x\/z∈l
 |[]=>by simp[lT]
 |y::l=>by
  simp only[lT];split
  ·simp only[fD,G0 (l:=l)];constructor
   ·rintro(h|h|h)
    ·exact .inr (.inl h)
    ·exact .inl h
    ·exact .inr (.inr h)
   ·rintro(h|h|h)
    ·exact .inr (.inl h)
    ·exact .inl h
    ·exact .inr (.inr h)
  ·simp
theorem Lm(x:b6):∀l:List b6,(lT x l).Perm (x::l)
 |[]=>.refl _
 |y::l=>by
  simp only[lT];split
  ·exact((Lm x l).cons y).trans (ar7 _ _ _)
  ·exact .refl _
theorem Gw{x:b6}:∀{l:List b6},l.Pairwise (fun x y=>x.v<y.v)->(∀y∈l,y.v≠x.v)->(lT x l).Pairwise fun x y=>x.v<y.v
 |[],_,_=>by simp[lT]
 |y::l,h,ay=>by
  obtain⟨J,U⟩:=mC.1 h;have aH:=ay y Ψ;simp only[lT];split
  ·rename_i ar;refine mC.2 ⟨fun z bf=>?_,Gw U fun z bf=>ay z (by simp[bf])⟩;rcases G0.1 bf with rfl|bf
   ·exact ar
   ·exact J z bf
  ·refine mC.2 ⟨fun z bf=>?_,h⟩;rcases fD.1 bf with rfl|bf
   ·omega
   ·have:=J z bf;omega
theorem T5(x:b6):∀(l:List b6) (k:Nat),(∀i y,i<k->l[i]? =some y->y.v<x.v)->(∀y,l[k]? =some y->¬y.v<x.v)->k<=l.length->lT x l=l.take k++x::l.drop k
 |[],k,_,_,ad=>by simp at ad;subst ad;rfl
 |y::l,0,_,U,_=>by have:=U y rfl;simp[lT,this]
 |y::l,k+1,J,U,ad=>by have bE:=J 0 y Ω rfl;simp only[lT,if_pos bE,List.take_succ_cons,List.drop_succ_cons,bO];rw[T5 x l k (fun i d hi aN=>J (i+1) d Ω (by simpa using aN)) (fun d aN=>U d (by simpa using aN)) (by simpa using ad)]
theorem Um{l a1:List b6}(bK:a1.Perm l)(aN:l.Pairwise fun x y=>x.v<y.v)(ag:a1.Pairwise fun x y=>decide (y.v<x.v)=false):a1=l:=by
 refine Oy (le:=fun x y:b6=>x.v<=y.v) (fun x y ae aH J U=>?_) (ag.imp Ψ) (aN.imp Ω) bK;have iu:x∈l:=bK.mem_iff.1 ae;have sk:y∈l:=aH;obtain⟨i,hi,rfl⟩:=nX iu;obtain⟨j,af,rfl⟩:=nX sk;have:=pg.1 aN;rcases Nat.lt_trichotomy i j with h|h|h
 ·have:=this i j hi af h;omega
 ·subst h;rfl
 ·have:=this j i af hi h;omega
theorem yD{l:List b6}{v:Int}:iZ l v=none↔∀x∈l,x.v≠v:=by simp[iZ]
theorem Ly{l:List b6}{v k:Int}(h:iZ l v=some k):(⟨v,k⟩:b6)∈l:=by unfold iZ at h;rw[gk]at h;obtain⟨x,J,rfl⟩:=h;have U:=List.find?_some J;simp at U;subst U;exact List.mem_of_find?_eq_some J
theorem Du{l:List b6}(bk:l.Pairwise fun x y=>x.v<y.v){x:b6}(h:x∈l):iZ l x.v=some x.k:=by
 induction l with
 |nil=>simp at h
 |cons y l bU=>
  obtain⟨J,U⟩:=mC.1 bk;rcases fD.1 h with rfl|h
  ·simp[iZ]
  ·have:=J x h;have e:=bU U h;unfold iZ at e⊢;rw[List.find?_cons_of_neg d7];exact e
def jk(l:List b6)(t:T)(k:Int):Option (List b6):=match t with
 | .var n=>match iZ l n with
  |some bI=>if bI=k then some l else none
  |none=>some (lT ⟨n,k⟩ l)
 |t=>if t.kind=k then some l else none
theorem E2{l a1:List b6}{t:T}{k:Int}(h:gT l)(aM:t.ok=true)(ad:k=2\/k=3)(he:jk l t k=some a1):gT a1:=by
 unfold jk at he;split at he
 ·rename_i n;split at he
  ·split at he
   ·cases he;exact h
   ·cases he
  ·rename_i ay;cases he;rw[yD]at ay;refine⟨fun x ae=>?_,Gw h.asc ay⟩;rcases G0.1 ae with rfl|ae
   ·exact⟨by simpa[T.ok]using aM,ad⟩
   ·exact h.at' x ae
 ·split at he
  ·cases he;exact h
  ·cases he
theorem q6{l:List b6}(h:gT l):l.length<=100001:=by
 have J:(l.map (·.v)).Nodup:=by rw[List.nodup_iff_pairwise_ne,List.pairwise_map];exact h.asc.imp fun h e=>Ω
 have:=Ut J fun v aC=>by obtain⟨x,ae,rfl⟩:=iy.1 aC;exact(h.at' x ae).1
 simpa using this
def fU(s:List ak):List b6->List b6->Option (List b6)
 |[],acc=>some acc
 |x::r,acc=>match jk acc (bh s x.v) x.k with
  |some a=>fU s r a
  |none=>none
structure jb (l:List bo):Prop where
 at':∀x∈l,(0<=x.v/\x.v<=100000)/\iv x.s=true
 asc:hF fi l
def _root_.Go.Pv.T.has(s:List UInt8):T->Bool
 | .sym n=>n==s
 | .pair a b=>a.has s||b.has s
 |_=>false
def j3(l:List bo)(t:T)(s:List UInt8):Option (List bo):=if t.has s then none else some (asc fi (l++(nV t).map fun v=>⟨v,s⟩))
theorem EC{t:T}{v:Int}:v∈nV t↔t.occ v=true:=by
 refine⟨fun h=>?_,yJ⟩;induction t with
 |var n=>simp[nV]at h;simp[T.occ,h]
 |pair a b dM dN=>simp only[nV,ih]at h;simp only[T.occ,l4];exact h.imp dM dN
 |_=>simp[nV]at h
theorem AV{l a1:List bo}{t:T}{s:List UInt8}(h:j3 l t s=some a1)(x:bo):x∈a1↔x∈l\/(x.s=s/\t.occ x.v=true):=by
 unfold j3 at h;split at h
 ·cases h
 ·cases h;rw[U2,ih,iy];refine or_congr_right ?_;constructor
  ·rintro⟨v,aC,rfl⟩;exact⟨rfl,EC.1 aC⟩
  ·rintro⟨J,U⟩;exact⟨x.v,EC.2 U,by rw[<-J]⟩
theorem IP{l a1:List bo}{t:T}{s:List UInt8}(cu:t.has s=false)(bk:hF fi a1)(hm:∀x,x∈a1↔x∈l\/(x.s=s/\t.occ x.v=true)):j3 l t s=some a1:=by
 have h:j3 l t s=some (asc fi (l++(nV t).map fun v=>⟨v,s⟩)):=by unfold j3;rw[cu];rfl
 rw[h];congr 1;exact(I0 lY _).ext lY bk fun x=>by rw[hm,<-AV h]
theorem E3{l a1:List bo}{t:T}{s:List UInt8}(h:jb l)(aM:t.ok=true)(ag:iv s=true)(he:j3 l t s=some a1):jb a1:=by
 refine⟨fun x ae=>?_,?_⟩
 ·rcases(AV he x).1 ae with J|⟨J,U⟩
  ·exact h.at' x J
  ·exact⟨xA aM U,by rw[J];exact ag⟩
 ·unfold j3 at he;split at he
  ·cases he
  ·cases he;exact I0 lY _
def fQ(s:List ak):List bo->List bo->Option (List bo)
 |[],acc=>some acc
 |x::r,acc=>match j3 acc (bh s x.v) x.s with
  |some a=>fQ s r a
  |none=>none
end
end Go.Pv
namespace Go.Proofs.YtohaalphocaebaaGreatDoor
section
open Go Go.Pv
theorem Dx(c:ak->ak->Int):∀a b:List ak,a=[]\/b=[]->kc c a b=ev a.length b.length
 |[],[],_=>by simp[kc,ev]
 |[],_::_,_=>by simp[kc,ev]<;>omega
 |_::_,[],_=>by simp[kc,ev]<;>omega
 |_::_,_::_,h=>by simp at h
theorem VT(x y:ak)(xs ys:List ak):eu (x::xs) (y::ys)=if ev x.v y.v=0 then(if et x.t y.t=0 then eu xs ys else et x.t y.t)else ev x.v y.v:=by
 by_cases a6:ev x.v y.v=0
 ·by_cases bD:et x.t y.t=0<;>simp[eu,kc,yW,a6,bD]
 ·simp[eu,kc,yW,a6]
theorem VU(a b k:Int):ev (a-k) (b-k)=ev a b:=by unfold ev;(repeat' split)<;>omega
def Lo(d e:List ak)(i:Nat):Prop:=i<=d.length/\i<=e.length/\eu (d.drop i) (e.drop i)=eu d e
theorem Iq(d e:List ak):bZ az 140 [.slice 5 .no (d.map ak.e),.slice 5 .no (e.map ak.e)] (.int .i64 (eu d e)):=by
 generalize bG:eu d e=R;refine bz rq abM ait fun aT=>?_;unfold PW;have aN:d.length<=68719476736:=by simp[gS,gg,gE,lim]at aT;omega
 have he:e.length<=68719476736:=by simp[gS,gg,gE,lim]at aT;omega
 simp;refine v7 [0,1] (fun(i:Nat)=>[(5,.int .i64 i)]) (fun i=>d.length-i) (Lo d e) 0 bV ⟨Ω,Ω,Ψ⟩ (fun i af _=>?_);obtain⟨J,U,ar⟩:=af;rw[bG]at ar;by_cases hi:i<d.length
 ·by_cases hL:i<e.length
  ·obtain⟨x,ae⟩:∃x,d[i]? =some x:=⟨_,cf hi⟩;obtain⟨y,aH⟩:∃y,e[i]? =some y:=⟨_,cf hL⟩;have cY:∀h,(d[i]'h)=x:=fun h=>by rw[cf hi]at ae;exact eJ ae
   have eB:∀h,(e[i]'h)=y:=fun h=>by rw[cf hL]at aH;exact eJ aH
   have Af:d.drop i=x::d.drop (i+1):=by rw[kX hi,cY]
   have Ag:e.drop i=y::e.drop (i+1):=by rw[kX hL,eB]
   rw[Af,Ag]at ar;rw[VT]at ar;simp[hi,hL,cY,eB];by_cases a6:ev x.v y.v=0
   ·rw[if_pos a6]at ar;by_cases bD:et x.t y.t=0
    ·rw[if_pos bD]at ar;(with_reducible repeat' first|refine aj ?_|refine aD (oB _ _) ?_|refine aE (oB _ _) ?_|refine aD (BO _ _) ?_|refine aE (BO _ _) ?_|simp[cY,eB,hi,hL,a6,bD]);refine bQ.whl (i+1) Ω ⟨Ω,Ω,by rw[bG];exact ar⟩ ?_;exact bV
    ·rw[if_neg bD]at ar;((with_reducible repeat' first|refine aj ?_|refine aD (oB _ _) ?_|refine aE (oB _ _) ?_|refine aD (BO _ _) ?_|refine aE (BO _ _) ?_|simp[cY,eB,hi,hL,a6,bD]|((first|apply bJ|apply bM|apply bL)<;>intro h<;>try simp at h))<;>(try exact cc));simp[bu,D1,aW,aY,aV];exact ar
   ·rw[if_neg a6]at ar;((with_reducible repeat' first|refine aj ?_|refine aD (oB _ _) ?_|refine aE (oB _ _) ?_|simp[cY,eB,hi,hL,a6]|((first|apply bJ|apply bM|apply bL)<;>intro h<;>try simp at h))<;>(try exact cc));simp[bu,D1,aW,aY,aV];exact ar
  ·have:ev d.length e.length=R:=by rw[<-ar,eu,Dx _ _ _ (.inr (List.drop_eq_nil_of_le Ω))];rw[<-VU d.length e.length i];simp only[sZ];congr 1<;>omega
   simp[hi,hL];(with_reducible repeat' first|refine aj ?_|refine aD (oB _ _) ?_|refine aE (oB _ _) ?_|simp[hi,hL]);simp[bu,D1,aW,aY,aV];exact this
 ·have:ev d.length e.length=R:=by rw[<-ar,eu,Dx _ _ _ (.inl (List.drop_eq_nil_of_le Ω))];rw[<-VU d.length e.length i];simp only[sZ];congr 1<;>omega
  simp[hi];(with_reducible repeat' first|refine aj ?_|refine aD (oB _ _) ?_|refine aE (oB _ _) ?_|simp[hi]);simp[bu,D1,aW,aY,aV];exact this
theorem Yb(a b:List ak)(bk:a.length<=1000000):bZ az 99 [.slice 5 .no (a.map ak.e),.slice 5 .no (b.map ak.e)] (.bool (decide (a=b))):=by
 by_cases av:a.length=b.length;rotate_left
 ·have bE:decide (a=b)=false:=by simp only[gC];rintro rfl;exact av rfl
  have tB:((a.length:Int) !=(b.length:Int))=true:=by simp;omega
  have od:¬(a.length:Int)=b.length:=Ω
  rw[bE];refine bz rq RW VG fun aT=>?_;unfold Jf;exact cD
 ·generalize bG:decide (a=b)=R;refine bz rq RW VG fun aT=>?_;unfold Jf;simp;(with_reducible repeat' first|refine aj ?_|simp[av]);refine dW [0,1,12] (fun i (_:Unit)=>[(13,.int .i64 i)]) b.length (fun i (_:Unit)=> ∀k,k<i->a[k]? =b[k]?) () bV (fun k ad=>Ω) (fun _ af _=>?_) (fun i _ hi af _=>?_)
  ·have:R=true:=by
    rw[<-bG,e6];apply List.ext_getElem?;intro k;by_cases ad:k<b.length
    ·exact af k ad
    ·rw[qF Ω,qF Ω]
   rw[this];exact cD
  ·obtain⟨x,ae⟩:∃x,a[i]? =some x:=⟨_,cf Ω⟩;obtain⟨y,aH⟩:∃y,b[i]? =some y:=⟨_,cf hi⟩;have gn:i<a.length:=Ω
   have cY:∀h,(a[i]'h)=x:=fun h=>by rw[cf gn]at ae;exact eJ ae
   have eB:∀h,(b[i]'h)=y:=fun h=>by rw[cf hi]at aH;exact eJ aH
   have e1:x≠y->R=false:=fun h=>by rw[<-bG,gC];rintro rfl;rw[ae]at aH;cases aH;exact h rfl
   simp[hi,gn,cY,eB];by_cases a6:x.v=y.v
   ·have ua:(x.v !=y.v)=false:=by simp[a6]
    by_cases bD:x.t=y.t
    ·(with_reducible repeat' first|refine aj ?_|refine aD (ry _ _) ?_|refine aE (ry _ _) ?_|simp[cY,eB,hi,gn,a6,ua,bD]);refine bQ.rng () hi (fun k ad=>?_) ?_
     ·rcases(by omega:k<i\/k=i)with h|rfl
      ·exact af k h
      ·rw[ae,aH];cases x;cases y;simp_all
     ·exact bV
    ·rw[e1 (fun e=>bD (by rw[e]))];(with_reducible repeat' first|refine aj ?_|refine aD (ry _ _) ?_|refine aE (ry _ _) ?_|simp[cY,eB,hi,gn,a6,ua,bD]);simp[bu,Wm,aW,aY,aV]
   ·have ua:(x.v !=y.v)=true:=by simp[a6]
    rw[e1 (fun e=>a6 (by rw[e]))];exact cD
def iY(l:List (List ak))(e:List ak):Bool:=l.all fun d=>decide (d=e)|| !nJ d e
theorem agL{l a1:List (List ak)}(h:∀x,x∈l↔x∈a1)(e:List ak):iY l e=iY a1 e:=by rw[p1,iY,iY,fM,fM];exact⟨fun J x ae=>J x ((h x).2 ae),fun J x ae=>J x ((h x).1 ae)⟩
def jY(l:List (List ak)):List (List ak):=(asc eu l).filter (iY l)
theorem vp{l:List (List ak)}{x:List ak}:x∈jY l↔x∈l/\iY l x=true:=by rw[jY,lC,U2]
theorem Ve(l:List (List ak)):hF eu (jY l):=(I0 lX l).filter _
theorem Vf{l a1:List (List ak)}(bk:hF eu a1)(hm:∀x,x∈a1↔x∈l/\iY l x=true):jY l=a1:=(Ve l).ext lX bk fun x=>by rw[hm,vp]
theorem ahw(l:List (List ak)):(jY l).length<=l.length:=kn (List.length_filter_le _ _) (Zy _ _)
structure bP where
 n:Int
 b:List ak
 d:List (List ak)
 k:List b6
 m:List bo
 deriving mA,Inhabited
noncomputable def fG(b:List ak)(k:List b6)(m:List bo):List (List ak)->Option (List (List ak))
 |[]=>some []
 |d::r=>match mgu b (gY d)with
  |none=>fG b k m r
  |some x=>if fU x k []=none\/fQ x m []=none then fG b k m r else if eG b x=[]then none else(fG b k m r).map (eG b x:: ·)
def jG(k:List b6)(x:bo):Bool:=iZ k x.v !=some 3
noncomputable def gq(s:bP):Option bP:=match fU s.b s.k []with
 |none=>none
 |some k=>match fQ s.b s.m []with
  |none=>none
  |some m=>match fG s.b k (m.filter (jG k)) s.d with
   |none=>none
   |some L=>if(jY L).length<=30 then some ⟨s.n,s.b,jY L,k,m.filter (jG k)⟩else none
def vQ(t:T)(n:Int):Prop:= ∀v,t.occ v=true->v<n
def oM(l:List ak)(n:Int):Prop:= ∀b∈l,b.v<n/\vQ b.t n
structure hW (s:bP):Prop where
 n:0<=s.n/\s.n<=100000
 b:eN s.b
 d:∀x∈s.d,eN x
 k:gT s.k
 m:jb s.m
 bb:oM s.b s.n
 db:∀x∈s.d,oM x s.n
 kb:∀x∈s.k,x.v<s.n
 mb:∀x∈s.m,x.v<s.n
def nf(s:bP):Prop:=hW s/\gq s=some s
theorem zc{s:List ak}(ag:eN s){v:Int}(aC:0<=v/\v<=100000):(bh s v).ok=true:=by have:=Ej ag.ok (t:= .var v) (by simpa[T.ok]using aC);exact this
theorem HH{s:List ak}(ag:eN s):∀{l acc a:List b6},(∀x∈l,(0<=x.v/\x.v<=100000)/\(x.k=2\/x.k=3))->gT acc->fU s l acc=some a->gT a
 |[],acc,a,_,h,he=>by simp only[fU,dC]at he;rw[<-he];exact h
 |x::r,acc,a,av,h,he=>by
  simp only[fU]at he;split at he
  ·rename_i bB ao;have ae:=av x Ψ;exact HH ag (fun y aH=>av y (by simp[aH])) (E2 h (zc ag ae.1) ae.2 ao) he
  ·cases he
theorem D5{s:List ak}(ag:eN s):∀{l acc a:List bo},(∀x∈l,(0<=x.v/\x.v<=100000)/\iv x.s=true)->jb acc->fQ s l acc=some a->jb a
 |[],acc,a,_,h,he=>by simp only[fQ,dC]at he;rw[<-he];exact h
 |x::r,acc,a,av,h,he=>by
  simp only[fQ]at he;split at he
  ·rename_i bB ao;have ae:=av x Ψ;exact D5 ag (fun y aH=>av y (by simp[aH])) (E3 h (zc ag ae.1) ae.2 ao) he
  ·cases he
def kU(G:List (List UInt8))(l:List bo):Prop:= ∀x∈l,x.s∈G
theorem B3{G:List (List UInt8)}{l a1:List bo}{t:T}{s:List UInt8}(h:kU G l)(ag:s∈G)(he:j3 l t s=some a1):kU G a1:=fun x ae=>by
 rcases(AV he x).1 ae with J|⟨J,_⟩
 ·exact h x J
 ·rw[J];exact ag
theorem HJ{G:List (List UInt8)}{s:List ak}:∀{l acc a:List bo},kU G l->kU G acc->fQ s l acc=some a->kU G a
 |[],acc,a,_,h,he=>by simp only[fQ,dC]at he;rw[<-he];exact h
 |x::r,acc,a,av,h,he=>by
  simp only[fQ]at he;split at he
  ·rename_i bB ao;exact HJ (fun y aH=>av y (by simp[aH])) (B3 h (av x Ψ) ao) he
  ·cases he
theorem ajW{α:Type}[mA α]:∀{G:List α} {l:List (Nat×α)},l.Nodup->(∀x∈l,x.1<100001/\x.2∈G)->l.length<=100001*G.length:=by
 intro G l ay h;have:=Ow ay (l₂:=(List.range 100001).flatMap fun i=>G.map fun g=>(i,g)) (fun x ae=>by obtain⟨J,U⟩:=h x ae;rw[List.mem_flatMap];exact⟨x.1,List.mem_range.2 J,iy.2 ⟨x.2,U,rfl⟩⟩)
 have e:((List.range 100001).flatMap fun i=>G.map fun g=>(i,g)).length=100001*G.length:=by
  generalize 100001=n;induction n with
  |zero=>simp
  |succ n bU=>rw[List.range_succ,List.flatMap_append,pf,bU];simp[Nat.succ_mul]
 omega
theorem DC{G:List (List UInt8)}{l:List bo}(h:jb l)(aX:kU G l):l.length<=100001*G.length:=by
 have J:(l.map fun x=>(x.v.toNat,x.s)).Nodup:=by rw[List.nodup_iff_pairwise_ne,List.pairwise_map];refine anI (fun{a b} bk ab cK e=>cK ?_) (h.asc.nodup lY);have:=(h.at' a bk).1;have:=(h.at' b ab).1;simp only[jM]at e;cases a;cases b;simp only[bo.mk.injEq];simp only at*;exact⟨Ω,e.2⟩
 have:=ajW (G:=G) J fun x ae=>by obtain⟨y,aH,rfl⟩:=iy.1 ae;have:=(h.at' y aH).1;exact⟨by simp;omega,aX y aH⟩
 simpa using this
def o7(m:List bo):Prop:= ∃G:List (List UInt8),G.length<=687000/\kU G m
theorem o7.len{m:List bo}(h:o7 m)(hm:jb m):m.length<=68719470000:=by obtain⟨G,J,U⟩:=h;have:=DC hm U;omega
theorem alg{s:List ak}(h:eN s)(p:ak->Bool):eN (s.filter p):=by
 have mm:∀b∈s.filter p,b∈s:=fun b ab=>(lC.1 ab).1;have ay:∀w,cU s w=none->cU (s.filter p) w=none:=fun w hw=>by rw[vR]at hw⊢;exact fun b ab=>hw b (mm b ab)
 exact⟨fun b ab=>h.ok b (mm b ab),⟨Ox p h.sol.asc,fun b ab w hw=>ay w (h.sol.free b (mm b ab) w hw),fun b ab=>h.sol.ori b (mm b ab)⟩,
  kn (List.length_filter_le _ _) h.fits.1,fun b ab=>h.fits.2 b (mm b ab)⟩
theorem DG{b x:List ak}(h:eN x):eN (eG b x):=alg h _
theorem ahK{b x:List ak}(ab:ft b)(ae:ft x)(aR:fS x)(h:∀aQ,gv x aQ->gv b aQ):iN b (gY (eG b x)) (some x):=by
 refine⟨⟨ae,aR⟩,fun aQ=>⟨fun gL=>⟨h aQ gL,fun e he=>?_⟩,fun⟨J,U⟩ c aq=>?_⟩⟩
 ·obtain⟨c,aq,rfl⟩:=iy.1 he;exact gL c (lC.1 aq).1
 ·have j8:∀c∈x,cU b c.v=none->aQ c.v=c.t.ap aQ:=fun c aq ay=>by have:=U (.var c.v,c.t) (iy.2 ⟨c,lC.2 ⟨aq,by simp[ay]⟩,rfl⟩);exact this
  have qf:∀w,cU b w=none->(bh x w).ap aQ=aQ w:=fun w hw=>by
   unfold bh;cases e:cU x w with
   |none=>rfl
   |some t=>have hm:=iP e;exact(j8 _ hm hw).symm
  cases e:cU b c.v with
  |none=>exact j8 c aq e
  |some t=>
   have ao:aQ c.v=t.ap aQ:=J _ (iP e);have aF:=h (bh x) (xg ae) _ (iP e);simp only at aF;have bA:bh x c.v=c.t:=by unfold bh;rw[p5 ae.asc aq];rfl
   rw[bA]at aF;rw[ao,aF,B5];exact p4 fun w hw=>(qf w (ab.free _ (iP e) w hw)).symm
theorem yL{s:List ak}(ag:ft s)(aR:fS s){E:List (T×T)}{x:List ak}(h:mgu s E=some x):∀aQ,gv x aQ↔gv s aQ/\jQ E aQ:=by have:=yM ag aR E;rw[h]at this;exact this.2
theorem Vb{s:List ak}(ag:ft s)(aR:fS s){E:List (T×T)}{x:List ak}(h:mgu s E=some x):mgu s (gY (eG s x))=some x:=pR (ahK ag (sv ag aR h).1 (sv ag aR h).2 fun aQ gL=>((yL ag aR h aQ).1 gL).1)
theorem Vc(p:Int->Prop){E:List (T×T)}:∀{s ah:List ak},ft s->fS s->(∀b∈s,p b.v/\∀w,b.t.occ w=true->p w)->(∀e∈E,(∀w,e.1.occ w=true->p w)/\∀w,e.2.occ w=true->p w)->mgu s E=some ah->∀b∈ah,p b.v/\∀w,b.t.occ w=true->p w:=by
 induction E with
 |nil=>intro s ah ag aR J _ h;rw[G2 ag aR]at h;cases h;exact J
 |cons e E bU=>
  intro s ah ag aR J U h;rw[L7 ag aR]at h;split at h
  ·rename_i s1 ao;obtain⟨V,jA⟩:∃V,V=s.flatMap (fun b=>b.v::nV b.t)++nV e.1++nV e.2:=⟨_,rfl⟩;have SQ:∀w∈V,p w:=by
    intro w hw;rw[jA]at hw;simp only[ih,List.mem_flatMap,fD]at hw;rcases hw with(⟨b,ab,rfl|hw⟩|hw)|hw
    ·exact(J b ab).1
    ·exact(J b ab).2 w (EC.1 hw)
    ·exact(U e Ψ).1 w (EC.1 hw)
    ·exact(U e Ψ).2 w (EC.1 hw)
   obtain⟨n,o,jf,jJ,qC⟩:=XP V _ _ s e.1 e.2 ag aR (fun c aq=>⟨by rw[jA];simp only[ih,List.mem_flatMap];exact .inl (.inl ⟨c,aq,Ψ⟩),fun w hw=>by rw[jA];simp only[ih,List.mem_flatMap];exact .inl (.inl ⟨c,aq,by simp[yJ hw]⟩)⟩)
    (fun w hw=>by rw[jA];simp only[ih];exact .inl (.inr (yJ hw))) (fun w hw=>by rw[jA];simp only[ih];exact .inr (yJ hw)) rfl rfl
   have zj:=pR jJ;rw[ao]at zj;subst zj;obtain⟨XO,_⟩:=qC s1 rfl;have nG:=sv ag aR ao;exact bU nG.1 nG.2 (fun b ab=>⟨SQ _ (XO b ab).1,fun w hw=>SQ w ((XO b ab).2 w hw)⟩) (fun fo he=>U fo (by simp[he])) h
  ·cases h
theorem alq{s:List ak}(ag:ft s){v n:Int}(h:bh s v= .var n):cU s n=none:=by have:=Nv ag (t:= .var v) (w:=n) (by show(bh s v).occ n=true;rw[h];simp[T.occ]);exact this
theorem IN{l a1:List b6}{t:T}{k:Int}(h:jk l t k=some a1):∀x∈a1,x∈l\/t= .var x.v:=by
 unfold jk at h;split at h
 ·rename_i n;split at h
  ·split at h
   ·cases h;exact fun x ae=>.inl ae
   ·cases h
  ·cases h;intro x ae;rcases G0.1 ae with rfl|ae
   ·exact .inr rfl
   ·exact .inl ae
 ·split at h
  ·cases h;exact fun x ae=>.inl ae
  ·cases h
theorem HG{s:List ak}(ag:ft s):∀{l acc a:List b6},(∀x∈acc,cU s x.v=none)->fU s l acc=some a->∀x∈a,cU s x.v=none
 |[],acc,a,h,he=>by simp only[fU,dC]at he;rw[<-he];exact h
 |y::r,acc,a,h,he=>by
  simp only[fU]at he;split at he
  ·rename_i bB ao;refine HG ag (fun x ae=>?_) he;rcases IN ao x ae with J|J
   ·exact h x J
   ·exact alq ag J
  ·cases he
theorem T6{x:b6}:∀{l:List b6},(∀y∈l,y.v<x.v)->lT x l=l++[x]
 |[],_=>rfl
 |y::l,h=>by simp only[lT,if_pos (h y Ψ),T6 (l:=l) fun z bf=>h z (by simp[bf]),bO]
theorem W2{s:List ak}:∀{l acc:List b6},(acc++l).Pairwise (fun x y=>x.v<y.v)->(∀x∈l,cU s x.v=none)->fU s l acc=some (acc++l)
 |[],acc,_,_=>by simp[fU]
 |x::r,acc,bk,aR=>by
  have J:∀y∈acc,y.v<x.v:=fun y aH=>(List.pairwise_append.1 bk).2.2 y aH x Ψ;have U:iZ acc x.v=none:=yD.2 fun y aH=>by have:=J y aH;omega
  have ar:jk acc (bh s x.v) x.k=some (acc++[x]):=by rw[Bz (aR x Ψ)];simp only[jk,U];rw[T6 J]
  simp only[fU,ar];rw[W2 (by simpa using bk) fun y aH=>aR y (by simp[aH])];simp
theorem HI{s:List ak}(ag:ft s):∀{l acc a:List bo},(∀x∈acc,cU s x.v=none)->fQ s l acc=some a->∀x∈a,cU s x.v=none
 |[],acc,a,h,he=>by simp only[fQ,dC]at he;rw[<-he];exact h
 |y::r,acc,a,h,he=>by
  simp only[fQ]at he;split at he
  ·rename_i bB ao;refine HI ag (fun x ae=>?_) he;rcases(AV ao x).1 ae with J|⟨_,J⟩
   ·exact h x J
   ·exact Nv ag (t:= .var y.v) J
  ·cases he
theorem M4{s:List ak}:∀{l acc:List bo},hF fi (acc++l)->(∀x∈l,cU s x.v=none)->fQ s l acc=some (acc++l)
 |[],acc,_,_=>by simp[fQ]
 |x::r,acc,bk,aR=>by
  have ar:j3 acc (bh s x.v) x.s=some (acc++[x]):=by
   rw[Bz (aR x Ψ)];refine IP rfl (ar6 ?_ bk) fun z=>?_
   ·simp
   ·simp only[ih,oF,T.occ,dL];refine or_congr_right ⟨fun h=>by rw[h];exact⟨rfl,rfl⟩,fun⟨J,U⟩=>?_⟩;cases z;cases x;simp_all
  simp only[fQ,ar];rw[M4 (by simpa using bk) fun y aH=>aR y (by simp[aH])];simp
def xj(b:List ak)(k:List b6)(m:List bo)(d:List ak):Prop:= ∃x,mgu b (gY d)=some x/\¬(fU x k []=none\/fQ x m []=none)/\eG b x=d/\d≠[]
theorem Dw{b:List ak}(ab:eN b){k:List b6}{m:List bo}:∀{l L:List (List ak)},fG b k m l=some L->∀d∈L,xj b k m d
 |[],L,h=>by simp only[fG,dC]at h;rw[<-h];simp
 |d0::r,L,h=>by
  simp only[fG]at h;split at h
  ·exact Dw ab h
  ·rename_i x ae;split at h
   ·exact Dw ab h
   ·rename_i ad;split at h
    ·cases h
    ·rename_i ay;rw[gk]at h;obtain⟨EN,J,rfl⟩:=h;intro d aN;rcases fD.1 aN with rfl|aN
     ·exact⟨x,Vb ab.sol ab.fits ae,ad,rfl,ay⟩
     ·exact Dw ab J d aN
theorem LL{b:List ak}{k:List b6}{m:List bo}:∀{L:List (List ak)},(∀d∈L,xj b k m d)->fG b k m L=some L
 |[],_=>rfl
 |d::L,h=>by obtain⟨x,J,U,ar,a8⟩:=h d Ψ;simp only[fG,J,if_neg U,ar,if_neg a8,LL (L:=L) fun e he=>h e (by simp[he]),oH]
theorem GQ{b:List ak}(ab:eN b){k:List b6}{m:List bo}:∀{l L:List (List ak)},(∀d∈l,eN d)->fG b k m l=some L->∀d∈L,eN d
 |[],L,_,h=>by simp only[fG,dC]at h;rw[<-h];simp
 |d0::r,L,av,h=>by
  simp only[fG]at h;split at h
  ·exact GQ ab (fun d aN=>av d (by simp[aN])) h
  ·rename_i x ae;split at h
   ·exact GQ ab (fun d aN=>av d (by simp[aN])) h
   ·split at h
    ·cases h
    ·rw[gk]at h;obtain⟨EN,J,rfl⟩:=h;intro d aN;rcases fD.1 aN with rfl|aN
     ·exact DG (ab.mgu (fun e he=>by obtain⟨c,aq,rfl⟩:=iy.1 he;have:=(av d0 Ψ).ok c aq;exact⟨by simpa[T.ok]using this.1,this.2⟩) ae)
     ·exact GQ ab (fun d aN=>av d (by simp[aN])) J d aN
theorem GO{b:List ak}(ab:eN b){n:Int}(ay:oM b n){k:List b6}{m:List bo}:∀{l L:List (List ak)},(∀d∈l,oM d n)->fG b k m l=some L->∀d∈L,oM d n
 |[],L,_,h=>by simp only[fG,dC]at h;rw[<-h];simp
 |d0::r,L,av,h=>by
  simp only[fG]at h;split at h
  ·exact GO ab ay (fun d aN=>av d (by simp[aN])) h
  ·rename_i x ae;split at h
   ·exact GO ab ay (fun d aN=>av d (by simp[aN])) h
   ·split at h
    ·cases h
    ·rw[gk]at h;obtain⟨EN,J,rfl⟩:=h;intro d aN;rcases fD.1 aN with rfl|aN
     ·have:=Vc (fun v=>v<n) ab.sol ab.fits ay (fun e he=>by obtain⟨c,aq,rfl⟩:=iy.1 he;have:=av d0 Ψ c aq;exact⟨fun w hw=>by simp[T.occ]at hw;subst hw;exact this.1,this.2⟩) ae
      exact fun c aq=>this c (lC.1 aq).1
     ·exact GO ab ay (fun d aN=>av d (by simp[aN])) J d aN
theorem Vg{L:List (List ak)}:jY (jY L)=jY L:=Vf (Ve L) fun x=>by rw[vp,and_assoc];refine⟨fun⟨J,U⟩=>⟨J,U,?_⟩,fun⟨J,U,_⟩=>⟨J,U⟩⟩;rw[iY,fM]at U⊢;exact fun d aN=>U d (vp.1 aN).1
theorem Lu{b:List ak}(ab:eN b){n:Int}(ay:oM b n){v w:Int}(aC:v<n)(h:(bh b v).occ w=true):w<n:=by
 unfold bh at h;cases e:cU b v with
 |none=>rw[e]at h;simp[T.occ]at h;omega
 |some t=>rw[e]at h;exact(ay _ (iP e)).2 w h
theorem W1{b:List ak}(ab:eN b){n:Int}(ay:oM b n):∀{l acc a:List b6},(∀x∈l,x.v<n)->(∀x∈acc,x.v<n)->fU b l acc=some a->∀x∈a,x.v<n
 |[],acc,a,_,h,he=>by simp only[fU,dC]at he;rw[<-he];exact h
 |y::r,acc,a,av,h,he=>by
  simp only[fU]at he;split at he
  ·rename_i bB ao;refine W1 ab ay (fun x ae=>av x (by simp[ae])) (fun x ae=>?_) he;rcases IN ao x ae with J|J
   ·exact h x J
   ·exact Lu ab ay (av y Ψ) (by rw[J];simp[T.occ])
  ·cases he
theorem W3{b:List ak}(ab:eN b){n:Int}(ay:oM b n):∀{l acc a:List bo},(∀x∈l,x.v<n)->(∀x∈acc,x.v<n)->fQ b l acc=some a->∀x∈a,x.v<n
 |[],acc,a,_,h,he=>by simp only[fQ,dC]at he;rw[<-he];exact h
 |y::r,acc,a,av,h,he=>by
  simp only[fQ]at he;split at he
  ·rename_i bB ao;refine W3 ab ay (fun x ae=>av x (by simp[ae])) (fun x ae=>?_) he;rcases(AV ao x).1 ae with J|⟨_,J⟩
   ·exact h x J
   ·exact Lu ab ay (av y Ψ) J
  ·cases he
theorem zb{s ah:bP}(h:hW s)(he:gq s=some ah):nf ah/\ah.n=s.n/\ah.b=s.b:=by
 unfold gq at he;split at he
 ·cases he
 rename_i k ad;split at he
 ·cases he
 rename_i m hm;split at he
 ·cases he
 rename_i L h0;split at he;rotate_left
 ·cases he
 rename_i lK;cases he;have aU:=HH h.b h.k.at' ⟨Ψ,Ψ⟩ ad;have m1:=D5 h.b h.m.at' ⟨Ψ,by simp[hF]⟩ hm;have m2:jb (m.filter (jG k)):=⟨fun x ae=>m1.at' x (lC.1 ae).1,Ox _ m1.asc⟩;have da:=Dw h.b h0;have yt:=GQ h.b h.d h0;refine⟨⟨⟨h.n,h.b,fun x ae=>yt x (vp.1 ae).1,aU,m2,h.bb,fun x ae=>GO h.b h.bb h.db h0 x (vp.1 ae).1,W1 h.b h.bb h.kb Ψ ad,fun x ae=>W3 h.b h.bb h.mb Ψ hm x (lC.1 ae).1⟩,?_⟩,rfl,rfl⟩;unfold gq;have ao:fU s.b k []=some k:=W2 (acc:=[]) aU.asc (HG h.b.sol Ψ ad);have aF:fQ s.b (m.filter (jG k)) []=some (m.filter (jG k)):=M4 (acc:=[]) m2.asc fun x ae=>HI h.b.sol Ψ hm x (lC.1 ae).1;have bA:(m.filter (jG k)).filter (jG k)=m.filter (jG k):=by rw[List.filter_filter];simp
 have dr:fG s.b k (m.filter (jG k)) (jY L)=some (jY L):=LL fun d aN=>da d (vp.1 aN).1;simp only[ao,aF,bA,dr,Vg,if_pos lK]
def Po:C:=(aa [bq 2 false] (.seq (aa [I 5 0,cz 6 5,cd 7 0] (e5 8 7 6 (.seq (.block 1 (aa [I 9 7,cy 10 2 5 7,a7 11 2 10,cN (.alloc 4 none (.agg [.int .i64 0,.int .i64 0])),I 3 9,bN 2 4 11] (.seq (.drawn true 46 [aI 12 0 1 4,aw 13 1 12,aS 14 .lss 13 0,I 15 14,au 15 false (aI 16 0 1 4),au 15 false (aw 17 1 16),au 15 false (aS 18 .gtr 17 100000),c6 19 15 18,I 20 19,au 20 false (aI 21 1 1 4),au 20 false (aw 22 1 21),au 20 false (aS 23 .neq 22 2),bW 20 false 24 23,au 24 true (aI 25 1 1 4),au 24 true (aw 26 1 25),au 24 true (aS 27 .neq 26 3),au 20 false (dq 28 24 27),c6 29 20 28,I 30 29,bW 30 false 31 3,au 30 false (aS 32 .gtr 31 0),bW 30 false 33 32,bW 33 true 34 0,bW 33 true 35 3,au 33 true (aS 36 .sub 35 1),au 33 true (cy 37 2 34 36),au 33 true (aI 38 0 1 37),au 33 true (aw 39 1 38),au 33 true (aI 40 0 1 4),au 33 true (aw 41 1 40),au 33 true (br 42 .geq 39 41),au 30 false (dq 43 33 42),c6 44 30 43]) (aZ 44 (aa [bq 2 false] .ret) .skip)))) (.region [aS 45 .add 7 1,I 7 45])))) (aa [bq 2 true] .ret)))
@[simp] def Wc:List bX:=[.tmp 2]
def Pp:C:=(aa [bq 2 false] (.seq (aa [I 5 0,cz 6 5,cd 7 0] (e5 8 7 6 (.seq (.block 1 (aa [I 9 7,cy 10 2 5 7,a7 11 2 10,cN (.alloc 4 none (.agg [.int .i64 0,.str []])),I 3 9,bN 2 4 11] (.seq (.drawn true 41 [aI 12 0 1 4,aw 13 1 12,aS 14 .lss 13 0,I 15 14,au 15 false (aI 16 0 1 4),au 15 false (aw 17 1 16),au 15 false (aS 18 .gtr 17 100000),c6 19 15 18,I 20 19,au 20 false (aI 21 1 1 4),au 20 false (aw 22 1 21),au 20 false (cR 23 109 22),au 20 false (cJ 24 23),c6 25 20 24,I 26 25,bW 26 false 27 3,au 26 false (aS 28 .gtr 27 0),bW 26 false 29 28,bW 29 true 30 0,bW 29 true 31 3,au 29 true (aS 32 .sub 31 1),au 29 true (cy 33 2 30 32),au 29 true (a7 34 2 33),au 29 true (a7 35 2 4),au 29 true (ch 36 110 34 35),au 29 true (cJ 37 36),au 26 false (dq 38 29 37),c6 39 26 38]) (aZ 39 (aa [bq 2 false] .ret) .skip)))) (.region [aS 40 .add 7 1,I 7 40])))) (aa [bq 2 true] .ret)))
@[simp] def MB:List bX:=[.tmp 2]
def Ff:C:=(aa [c8 2 0,bq 4 false] (.seq (aa [aI 5 0 1 2,aw 6 1 5,aS 7 .eql 6 4] (aZ 7 (aa [aI 8 3 1 2,aw 9 1 8,jv 10 4 9 0,a7 11 4 10,I 12 1,ch 13 66 11 12,I 14 13,au 14 false (aI 15 3 1 2),au 14 false (aw 16 1 15),au 14 false (jv 17 4 16 1),au 14 false (a7 18 4 17),bW 14 false 19 1,au 14 false (ch 20 66 18 19),c6 21 14 20,I 4 21] .ret) .skip)) (aa [aI 22 0 1 2,aw 23 1 22,aS 24 .eql 23 2,I 25 24,au 25 true (aI 26 2 1 2),au 25 true (aw 27 1 26),bW 25 true 28 1,au 25 true (br 29 .eql 27 28),dq 30 25 29,I 4 30] .ret)))
@[simp] def Ht:List bX:=[.tmp 4]
def qP:C:=(aa [c8 6 2,e4 8 2,bq 9 false] (.seq (aa [I 15 0,cR 16 53 15,cJ 17 16,I 18 17,au 18 false (a7 19 4 6),au 18 false (cR 20 89 19),au 18 false (cJ 21 20),c6 22 18 21,I 23 22,bW 23 false 24 1,au 23 false (cR 25 54 24),au 23 false (cJ 26 25),c6 27 23 26,I 28 27,bW 28 false 29 3,au 28 false (aS 30 .neq 29 2),bW 28 false 31 30,bW 31 true 32 3,au 31 true (aS 33 .neq 32 3),au 28 false (dq 34 31 33),c6 35 28 34] (aZ 35 (aa [e4 8 2,bq 9 false] .ret) .skip)) (aa [I 37 0,a7 38 4 6,ch 39 29 37 38,I 36 39,cC 40 0 36,cC 41 1 36,c1 10 dd,bN 4 10 40,I 11 41] (.seq (aa [I 42 11,cJ 43 42] (aZ 43 (aa [e4 8 2,bq 9 false] .ret) .skip)) (aa [cN (.bslm 44 (some 803) 2 59 []),I 45 1,cN (.appm 46 none 2 59 (.t 44) (.t 45)),cN (.alloc 12 (some 804) (.slice 2 .nil [])),bN 1 12 46] (.seq (aa [aI 47 0 1 10,aw 48 1 47,aS 49 .neq 48 1] (aZ 49 (.seq (aa [aI 50 0 1 10,aw 51 1 50,I 52 3,br 53 .neq 51 52] (aZ 53 (aa [e4 8 2,bq 9 false] .ret) .skip)) (.seq (.pubB 12 (.region [aw 54 1 12,I 8 54,bq 9 true])) .ret)) .skip)) (.seq (aa [I 55 1,cz 56 55,cd 57 0] (e5 58 57 56 (.seq (.block 1 (aa [cy 59 2 55 57,a7 60 2 59,cN (.alloc 14 none (.agg [.int .i64 0,.int .i64 0])),bN 2 14 60] (aa [aI 61 0 1 14,aw 62 1 61,aI 63 1 1 10,aw 64 1 63,br 65 .eql 62 64] (aZ 65 (.seq (aa [aI 66 1 1 14,aw 67 1 66,I 68 3,br 69 .neq 67 68] (aZ 69 (aa [e4 8 2,bq 9 false] .ret) .skip)) (.seq (.pubB 12 (.region [aw 70 1 12,I 8 70,bq 9 true])) .ret)) .skip)))) (.region [aS 71 .add 57 1,I 57 71])))) (aa [aw 72 1 12,aI 73 1 1 10,aw 74 1 73,I 75 3,bR 76 (.build [.int .i64 0,.int .i64 0] [(0,1,(.t 74)),(1,1,(.t 75))]),eE 77 2 59 [.t 76],cN (.appm 78 none 2 59 (.t 72) (.t 77)),bN 1 12 78] (aa [aw 79 1 12,bR 80 (.mkif 25 (.t 79)),bR 81 (.mkf 148 [.t 12]),ch 82 147 80 81] (.seq (.pubB 12 (.region [aw 83 1 12,I 8 83,bq 9 true])) .ret))))))))))
@[simp] def kg:List bX:=[.tmp 8,.tmp 9]
def Fb:C:=(aa [c8 6 2,cN (.box 7 (some 811) (.t 3)),e4 8 2,bq 9 false] (.seq (aa [I 17 0,cR 18 53 17,cJ 19 18,I 20 19,au 20 false (a7 21 4 6),au 20 false (cR 22 89 21),au 20 false (cJ 23 22),c6 24 20 23,I 25 24,bW 25 false 26 1,au 25 false (cR 27 55 26),au 25 false (cJ 28 27),c6 29 25 28,I 30 29,au 30 false (aw 31 1 7),au 30 false (cR 32 109 31),au 30 false (cJ 33 32),c6 34 30 33] (aZ 34 (aa [e4 8 2,bq 9 false] .ret) .skip)) (aa [I 36 0,a7 37 4 6,ch 38 29 36 37,I 35 38,cC 39 0 35,cC 40 1 35,c1 10 dd,bN 4 10 39,I 11 40] (.seq (aa [I 41 11,cJ 42 41,I 43 42,au 43 false (a7 44 4 10),au 43 false (aw 45 1 7),au 43 false (ch 46 66 44 45),c6 47 43 46] (aZ 47 (aa [e4 8 2,bq 9 false] .ret) .skip)) (aa [cN (.mkmap 48 (some 812)),cN (.alloc 12 (some 813) (.junk)),bN 1 12 48] (.seq (aa [I 49 1,cz 50 49,cd 51 0] (e5 52 51 50 (.seq (.block 1 (aa [cy 53 2 49 51,a7 54 2 53,cN (.alloc 14 none (.agg [.int .i64 0,.str []])),bN 2 14 54] (.region [aw 55 1 12,a7 56 2 14,cN (.mput (.a [false,true]) (.t 55) (.t 56) (.c (.bool true)))]))) (.region [aS 57 .add 51 1,I 51 57])))) (aa [a7 58 4 10,bR 59 (.mkf 149 [.t 12,.t 7]),ch 60 107 58 59] (aa [cN (.bslm 61 (some 814) 2 56 []),cN (.alloc 15 (some 815) (.slice 2 .nil [])),bN 1 15 61] (.seq (aa [aw 62 1 12,cN (.range 63 none (.t 62))] (.block 2 (.loop (aa [⟨none,.next 64 (.t 63)⟩,cC 65 0 64] (.seq (aZ 65 .skip (.exit 2)) (.block 3 (aa [bR 66 (.ment (.t 63)),cC 67 0 66,cN (.alloc 16 none (.agg [.int .i64 0,.str []])),bN 2 16 67] (.region [aw 68 1 15,a7 69 2 16,eE 70 2 56 [.t 69],cN (.appm 71 none 2 56 (.t 68) (.t 70)),bN 1 15 71])))))))) (aa [aw 72 1 15,bR 73 (.mkif 26 (.t 72)),bR 74 (.mkf 150 [.t 15]),ch 75 147 73 74] (.seq (.pubB 15 (.region [aw 76 1 15,I 8 76,bq 9 true])) .ret)))))))))))
@[simp] def Hn:List bX:=[.tmp 8,.tmp 9]
def Fc:C:=(aa [c8 2 0,c8 3 1,bq 4 false] (aa [aI 5 0 1 2,aw 6 1 5,aI 7 0 1 3,aw 8 1 7,br 9 .lss 6 8,I 10 9,au 10 false (aI 11 0 1 2),au 10 false (aw 12 1 11),au 10 false (aI 13 0 1 3),au 10 false (aw 14 1 13),au 10 false (br 15 .eql 12 14),bW 10 false 16 15,au 16 true (aI 17 1 1 2),au 16 true (aw 18 1 17),au 16 true (aI 19 1 1 3),au 16 true (aw 20 1 19),au 16 true (br 21 .lss 18 20),au 10 false (dq 22 16 21),c6 23 10 22,I 4 23] .ret))
@[simp] def akk:List bX:=[.tmp 4]
def Pj:C:=(aa [bq 5 false] (.seq (.drawn true 17 [aw 6 1 2,I 7 0,cy 8 2 6 7,aI 9 0 1 8,aw 10 1 9,aw 11 1 2,I 12 1,cy 13 2 11 12,aI 14 0 1 13,aw 15 1 14,br 16 .lss 10 15,I 5 16]) .ret))
@[simp] def V9:List bX:=[.tmp 5]
def Pg:C:=(.region [aw 4 1 1,I 5 0,aw 6 1 2,bR 7 (.build [.int .i64 0,.str []] [(0,1,(.t 5)),(1,1,(.t 6))]),cN (.mput (.a [false,true]) (.t 4) (.t 7) (.c (.bool true)))])
@[simp] def V7:List bX:=[]
def Ph:C:=(aa [bq 5 false] (.seq (.drawn true 15 [aw 6 1 2,I 7 0,cy 8 2 6 7,a7 9 2 8,aw 10 1 2,I 11 1,cy 12 2 10 11,a7 13 2 12,ch 14 110 9 13,I 5 14]) .ret))
@[simp] def V8:List bX:=[.tmp 5]
def ug:List (Nat×dz):=[
 (3,⟨1,8,.int .i64,.int .i64 0⟩),
 (9,⟨1,16,.str,.str []⟩),
 (25,⟨1,24,.slice 59,.slice 2 .nil []⟩),
 (26,⟨1,24,.slice 56,.slice 2 .nil []⟩),
 (34,⟨1,24,.slice 36,.slice 4 .nil []⟩),
 (36,⟨4,56,.struct [(0,3),(1,3),(2,9),(3,34)],.agg [.int .i64 0,.int .i64 0,.str [],.slice 4 .nil []]⟩),
 (56,⟨2,24,.struct [(0,3),(1,9)],.agg [.int .i64 0,.str []]⟩),
 (59,⟨2,16,.struct [(0,3),(1,3)],.agg [.int .i64 0,.int .i64 0]⟩),
 (142,⟨1,8,.map 56 4,.junk⟩)]
theorem ki:fI az ug=true:=by kernel_rfl
theorem ahW:b7 ug Po Wc 1 Tryz.f54=true:=by kernel_rfl
theorem abf:az.funcs[(54:Nat)]? =some Tryz.f54:=Tryz.func54
theorem ahX:b7 ug Pp MB 1 Tryz.f55=true:=by kernel_rfl
theorem abg:az.funcs[(55:Nat)]? =some Tryz.f55:=Tryz.func55
theorem Mk:b7 ug Ff Ht 2 Tryz.f66=true:=by kernel_rfl
theorem JU:az.funcs[(66:Nat)]? =some Tryz.f66:=Tryz.func66
theorem sA:b7 ug qP kg 4 Tryz.f98=true:=by kernel_rfl
theorem rT:az.funcs[(98:Nat)]? =some Tryz.f98:=Tryz.func98
theorem Mh:b7 ug Fb Hn 4 Tryz.f100=true:=by kernel_rfl
theorem JR:az.funcs[(100:Nat)]? =some Tryz.f100:=Tryz.func100
theorem Mi:b7 ug Fc akk 2 Tryz.f110=true:=by kernel_rfl
theorem JS:az.funcs[(110:Nat)]? =some Tryz.f110:=Tryz.func110
theorem ahR:b7 ug Pj V9 3 Tryz.f148=true:=by kernel_rfl
theorem aba:az.funcs[(148:Nat)]? =some Tryz.f148:=Tryz.func148
theorem ahP:b7 ug Pg V7 3 Tryz.f149=true:=by kernel_rfl
theorem aa8:az.funcs[(149:Nat)]? =some Tryz.f149:=Tryz.func149
theorem ahQ:b7 ug Ph V8 3 Tryz.f150=true:=by kernel_rfl
theorem aa9:az.funcs[(150:Nat)]? =some Tryz.f150:=Tryz.func150
def mo(x:b6):Prop:=(0<=x.v/\x.v<=100000)/\(x.k=2\/x.k=3)
def nI(x y:b6):Prop:=x.v<y.v
theorem GH{l:List b6}:gT l↔∀i,i<l.length->im mo nI l i:=by rw[OI (p:=mo) (r:=nI) (fun a b c J U=>by unfold nI at*;omega)];exact⟨fun h=>⟨h.at',h.asc⟩,fun h=>⟨h.1,h.2⟩⟩
def kx(x:bo):Prop:=(0<=x.v/\x.v<=100000)/\iv x.s=true
def kS(x y:bo):Prop:=fi x y<0
theorem GW{l:List bo}:jb l↔∀i,i<l.length->im kx kS l i:=by rw[OI (p:=kx) (r:=kS) (fun a b c J U=>by unfold kS at*;exact lY.ltr J (Int.le_of_lt U))];exact⟨fun h=>⟨h.at',h.asc⟩,fun h=>⟨h.1,h.2⟩⟩
open Classical in
theorem X2(l:List b6):bZ az 54 [.slice 2 .no (l.map b6.e)] (.bool (decide (gT l))):=by
 generalize bG:decide (gT l)=R;refine bz ki abf ahW fun aT=>?_;unfold Po;have ir:l.length<=68719476736:=by simp[gS,gg,gE,lim]at aT;omega
 simp;refine dW [0,5,6] (fun i (_:Unit)=>[(7,.int .i64 i)]) l.length (fun i _=> ∀j,j<i->im mo nI l j) () bV (fun k ad=>Ω) (fun _ af _=>?_) (fun i _ hi af _=>?_)
 ·have:R=true:=by rw[<-bG,e6,GH];exact af
  rw[this];exact cD
 ·obtain⟨b,ab⟩:∃b,l[i]? =some b:=⟨_,cf hi⟩;obtain⟨c,aq⟩:∃c,l[i-1]? =some c:=⟨_,cf Ω⟩;have cw:∀h,(l[i]'h)=b:=fun h=>by rw[cf hi]at ab;exact eJ ab
  have cF:¬im mo nI l i->R=false:=fun h=>by rw[<-bG,gC];exact fun b4=>h (GH.1 b4 i hi)
  have da:im mo nI l i->∀j,j<i+1->im mo nI l j:=fun h j jB=>by
   by_cases e:j=i
   ·rw[e];exact h
   ·exact af j Ω
  simp[hi,cw,aq];((with_reducible repeat' first|refine aj ?_|simp[cw,aq,hi]|((first|apply bJ|apply bM|apply bL)<;>intro h<;>try simp at h))<;>(try exact cc));all_goals first
   |(have ay:¬im mo nI l i:=by(intro b4;have J:=b4 b ab;have U:=J.2 c;have ar:=J.1;unfold mo nI at*;first|omega|(have a8:=U Ω aq;omega)|(simp_all;done)|(simp_all;omega))
     rw[cF ay]
     simp[bu,Wc,aW,aY,aV]
     done)
   |(refine bQ.rng () hi (da fun b0 fZ=>?_) ?_
     ·rw[ab]at fZ;cases fZ
      refine⟨?_,fun cp bE hH=>?_⟩
      ·unfold mo;first|(simp_all;done)|(simp_all;omega)
      ·rw[aq]at hH;cases hH;unfold nI;simp_all
     ·exact bV)
theorem BK(a b:bo):bZ az 110 [a.e,b.e] (.bool (hU fi a b)):=by
 rw[<-Vn];have bG:tV a b=(decide (a.v<b.v)||(a.v==b.v&&hE a.s b.s)):=rfl;rcases Int.lt_trichotomy a.v b.v with h|h|h
 ·have:tV a b=true:=by rw[bG];simp[h]
  rw[this];refine bz ki JS Mi fun aT=>?_;unfold Fc;exact cD
 ·have J:¬a.v<b.v:=Ω
  have U:(a.v==b.v)=true:=by simp[h]
  have:tV a b=hE a.s b.s:=by rw[bG];simp[h]
  rw[this];refine bz ki JS Mi fun aT=>?_;unfold Fc;exact cD
 ·have J:¬a.v<b.v:=Ω
  have U:¬a.v=b.v:=Ω
  have ar:(a.v==b.v)=false:=by simp[U]
  have:tV a b=false:=by rw[bG];simp[J,U]
  rw[this];refine bz ki JS Mi fun aT=>?_;unfold Fc;exact cD
open Classical in
theorem X4(l:List bo):bZ az 55 [.slice 2 .no (l.map bo.e)] (.bool (decide (jb l))):=by
 generalize bG:decide (jb l)=R;refine bz ki abg ahX fun aT=>?_;unfold Pp;have ir:l.length<=68719476736:=by simp[gS,gg,gE,lim]at aT;omega
 simp;refine dW [0,5,6] (fun i (_:Unit)=>[(7,.int .i64 i)]) l.length (fun i _=> ∀j,j<i->im kx kS l j) () bV (fun k ad=>Ω) (fun _ af _=>?_) (fun i _ hi af _=>?_)
 ·have:R=true:=by rw[<-bG,e6,GW];exact af
  rw[this];exact cD
 ·obtain⟨b,ab⟩:∃b,l[i]? =some b:=⟨_,cf hi⟩;obtain⟨c,aq⟩:∃c,l[i-1]? =some c:=⟨_,cf Ω⟩;have cw:∀h,(l[i]'h)=b:=fun h=>by rw[cf hi]at ab;exact eJ ab
  have cF:¬im kx kS l i->R=false:=fun h=>by rw[<-bG,gC];exact fun b4=>h (GW.1 b4 i hi)
  have da:im kx kS l i->∀j,j<i+1->im kx kS l j:=fun h j jB=>by
   by_cases e:j=i
   ·rw[e];exact h
   ·exact af j Ω
  have e1:∀p:Prop,(p->eW)->(im kx kS l i->p)->R=false:=fun p J U=>cF fun h=>J (U h);have pJ:im kx kS l i->kx b:=fun h=>(h b ab).1;have bs:im kx kS l i->0<i->hU fi c b=true:=fun h bE=>by simpa[hU,kS]using(h b ab).2 c bE aq
  have eA:kx b->(0<i->hU fi c b=true)->im kx kS l i:=fun J U b0 fZ=>by rw[ab]at fZ;cases fZ;exact⟨J,fun cp bE hH=>by rw[aq]at hH;cases hH;simpa[hU,kS]using U bE⟩
  unfold kx at pJ eA;by_cases g1:b.v<0
  ·rw[e1 _ (fun h=>Ω) (fun h=>(pJ h).1.1)];exact cD
  by_cases g2:100000<b.v
  ·rw[e1 _ (fun h=>Ω) (fun h=>(pJ h).1.2)];exact cD
  cases g3:iv b.s
  ·rw[e1 _ (fun h=>by rw[h]at g3;cases g3) (fun h=>(pJ h).2)];simp[hi,cw,aq];(with_reducible repeat' first|refine aj ?_|refine aD (ui _) ?_|refine aE (ui _) ?_|simp[cw,aq,hi,g1,g2,g3]);simp[bu,MB,aW,aY,aV]
  by_cases g4:0<i
  ·cases g5:hU fi c b
   ·rw[e1 _ (fun h=>by rw[h]at g5;cases g5) (fun h=>bs h g4)];simp[hi,cw,aq];(with_reducible repeat' first|refine aj ?_|refine aD (ui _) ?_|refine aE (ui _) ?_|refine aD (BK _ _) ?_|refine aE (BK _ _) ?_|simp[cw,aq,hi,g1,g2,g3,g4,g5]);simp[bu,MB,aW,aY,aV]
   ·simp[hi,cw,aq];(with_reducible repeat' first|refine aj ?_|refine aD (ui _) ?_|refine aE (ui _) ?_|refine aD (BK _ _) ?_|refine aE (BK _ _) ?_|simp[cw,aq,hi,g1,g2,g3,g4,g5]);exact bQ.rng () hi (da (eA ⟨⟨Ω,Ω⟩,g3⟩ fun _=>g5)) bV
  ·obtain rfl:i=0:=Ω
   simp[hi,cw,aq];(with_reducible repeat' first|refine aj ?_|refine aD (ui _) ?_|refine aE (ui _) ?_|simp[cw,aq,hi,g1,g2,g3,g4]);exact bQ.rng () hi (da (eA ⟨⟨Ω,Ω⟩,g3⟩ fun h=>Ω)) bV
theorem Yc(s:List UInt8):∀t:T,bZ az 66 [t.e,.str s] (.bool (t.has s)):=by
 intro t;induction t with
 |pair a b dM dN=>
  refine bz ki JU Mk fun aT=>?_;unfold Ff;simp;cases bk:a.has s<;>cases ab:b.has s<;>rw[bk]at dM<;>rw[ab]at dN;all_goals(with_reducible repeat' first|refine aj ?_|refine aD dM ?_|refine aE dM ?_|refine aD dN ?_|refine aE dN ?_|simp)
  all_goals simp[bu,Ht,aW,aY,aV]
  all_goals simp[T.has,bk,ab]
 |sym n=>
  refine bz ki JU Mk fun aT=>?_;unfold Ff;simp;(with_reducible repeat' first|refine aj ?_|simp);all_goals simp[bu,Ht,aW,aY,aV]
  all_goals simp[T.has]
 |_=>
  refine bz ki JU Mk fun aT=>?_;unfold Ff;simp;(with_reducible repeat' first|refine aj ?_|simp);all_goals simp[bu,Ht,aW,aY,aV]
  all_goals simp[T.has]
def Qs:C:=(aa [c8 2 0] (aa [cd 4 20] (aa [I 8 4,cd 5 0,I 6 8] (.seq (.block 0 (.loop (.seq (aa [I 9 6,I 10 1,br 11 .leq 9 10] (aZ 11 .skip (.exit 0))) (.block 1 (aa [a7 12 2 2,I 13 5,I 14 6,dj 15 187 [.t 12,.t 13,.t 14]] (aa [I 16 6,I 5 16] (.region [I 17 6,I 18 4,br 19 .add 17 18,I 6 19]))))))) (aa [a7 20 2 2,I 21 5,I 22 1,dj 23 187 [.t 20,.t 21,.t 22]] (.block 2 (.loop (.seq (aa [I 24 4,I 25 1,br 26 .lss 24 25] (aZ 26 .skip (.exit 2))) (.block 3 (aa [I 27 4,bR 28 (.bin .mul false (eF 2) (.t 27)),cd 5 0,I 6 28] (.seq (.block 4 (.loop (.seq (aa [I 29 6,I 30 1,br 31 .leq 29 30] (aZ 31 .skip (.exit 4))) (.block 5 (aa [a7 32 2 2,I 33 5,I 34 5,I 35 4,br 36 .add 34 35,I 37 6,dj 38 188 [.t 32,.t 33,.t 36,.t 37]] (aa [I 39 6,I 5 39] (.region [I 40 6,I 41 4,bR 42 (.bin .mul false (eF 2) (.t 41)),br 43 .add 40 42,I 6 43]))))))) (.seq (aa [I 44 5,I 45 4,br 46 .add 44 45,I 7 46] (aa [I 47 7,I 48 1,br 49 .lss 47 48] (aZ 49 (.region [a7 50 2 2,I 51 5,I 52 7,I 53 1,dj 54 188 [.t 50,.t 51,.t 52,.t 53]]) .skip))) (.region [I 55 4,aS 56 .mul 55 2,I 4 56])))))))))))))
@[simp] def akB:List bX:=[]
def Jh:C:=(aa [c8 3 0] (aa [I 8 1,aS 9 .add 8 1,I 6 9] (.block 0 (.loop (.seq (aa [I 10 6,I 11 2,br 12 .lss 10 11] (aZ 12 .skip (.exit 0))) (.seq (.block 1 (aa [I 15 6,I 7 15] (.block 2 (.loop (.seq (aa [I 16 7,I 17 1,br 18 .gtr 16 17,I 19 18,au 19 true (aI 20 0 1 3),au 19 true (aw 21 1 20),bW 19 true 22 7,bW 19 true 23 7,au 19 true (aS 24 .sub 23 1),au 19 true (gj 25 21 [.t 22,.t 24]),dq 26 19 25] (aZ 26 .skip (.exit 2))) (.seq (.block 3 (.region [aI 29 1 1 3,aw 30 1 29,I 31 7,I 32 7,aS 33 .sub 32 1,gj 34 30 [.t 31,.t 33]])) (.region [I 27 7,aS 28 .sub 27 1,I 7 28]))))))) (.region [I 13 6,aS 14 .add 13 1,I 6 14])))))))
@[simp] def akx:List bX:=[]
def Fj:C:=(aa [I 164 16,I 165 22,br 166 .lss 164 165,I 167 166,bW 167 true 168 22,bW 167 true 169 3,au 167 true (br 170 .lss 168 169),dq 171 167 170] (aZ 171 (.region [a7 172 2 4,I 173 16,I 174 22,I 175 3,dj 176 188 [.t 172,.t 173,.t 174,.t 175]]) .skip))
def Fk:C:=(.seq (aa [I 151 1,I 152 18,br 153 .lss 151 152,I 154 153,bW 154 true 155 18,bW 154 true 156 16,au 154 true (br 157 .lss 155 156),dq 158 154 157] (aZ 158 (.region [a7 159 2 4,I 160 1,I 161 18,I 162 16,dj 163 188 [.t 159,.t 160,.t 161,.t 162]]) .skip)) Fj)
def Jl:C:=(.seq (aa [I 138 18,I 139 2,br 140 .lss 138 139,I 141 140,bW 141 true 142 2,bW 141 true 143 22,au 141 true (br 144 .lss 142 143),dq 145 141 144] (aZ 145 (.region [a7 146 2 4,I 147 18,I 148 2,I 149 22,dj 150 207 [.t 146,.t 147,.t 148,.t 149]]) .skip)) Fk)
def Jm:C:=(aa [I 113 17,aS 114 .sub 113 1,I 20 114] (.seq (.block 8 (.loop (.seq (aa [I 115 18,I 116 19,br 117 .lss 115 116] (aZ 117 .skip (.exit 8))) (.block 9 (aa [I 118 18,I 119 19,br 120 .add 118 119,bR 121 (.conv .u64 (.t 120)),bR 122 (.bin .shr false (.t 121) (.c (.int .u64 1))),bR 123 (.conv .i64 (.t 122)),I 21 123] (aa [aI 124 0 1 4,aw 125 1 124,I 126 20,I 127 21,br 128 .sub 126 127,I 129 21,gj 130 125 [.t 128,.t 129],cJ 131 130] (aZ 131 (.region [I 132 21,aS 133 .add 132 1,I 18 133]) (.region [I 134 21,I 19 134])))))))) (aa [I 135 17,I 136 18,br 137 .sub 135 136,I 22 137] Jl)))
def Qu:C:=(aa [c8 4 0] (.seq (aa [I 23 2,I 24 1,br 25 .sub 23 24,aS 26 .eql 25 1] (aZ 26 (aa [I 27 2,I 8 27] (aa [I 28 3,I 9 28] (.seq (.block 0 (.loop (.seq (aa [I 29 8,I 30 9,br 31 .lss 29 30] (aZ 31 .skip (.exit 0))) (.block 1 (aa [I 32 8,I 33 9,br 34 .add 32 33,bR 35 (.conv .u64 (.t 34)),bR 36 (.bin .shr false (.t 35) (.c (.int .u64 1))),bR 37 (.conv .i64 (.t 36)),I 10 37] (aa [aI 38 0 1 4,aw 39 1 38,I 40 10,I 41 1,gj 42 39 [.t 40,.t 41]] (aZ 42 (.region [I 43 10,aS 44 .add 43 1,I 8 44]) (.region [I 45 10,I 9 45])))))))) (.seq (aa [I 46 1,I 11 46] (.block 2 (.loop (.seq (aa [I 47 11,I 48 8,aS 49 .sub 48 1,br 50 .lss 47 49] (aZ 50 .skip (.exit 2))) (.seq (.block 3 (.region [aI 53 1 1 4,aw 54 1 53,I 55 11,I 56 11,aS 57 .add 56 1,gj 58 54 [.t 55,.t 57]])) (.region [I 51 11,aS 52 .add 51 1,I 11 52])))))) .ret)))) .skip)) (.seq (aa [I 59 3,I 60 2,br 61 .sub 59 60,aS 62 .eql 61 1] (aZ 62 (aa [I 63 1,I 12 63] (aa [I 64 2,I 13 64] (.seq (.block 4 (.loop (.seq (aa [I 65 12,I 66 13,br 67 .lss 65 66] (aZ 67 .skip (.exit 4))) (.block 5 (aa [I 68 12,I 69 13,br 70 .add 68 69,bR 71 (.conv .u64 (.t 70)),bR 72 (.bin .shr false (.t 71) (.c (.int .u64 1))),bR 73 (.conv .i64 (.t 72)),I 14 73] (aa [aI 74 0 1 4,aw 75 1 74,I 76 2,I 77 14,gj 78 75 [.t 76,.t 77],cJ 79 78] (aZ 79 (.region [I 80 14,aS 81 .add 80 1,I 12 81]) (.region [I 82 14,I 13 82])))))))) (.seq (aa [I 83 2,I 15 83] (.block 6 (.loop (.seq (aa [I 84 15,I 85 12,br 86 .gtr 84 85] (aZ 86 .skip (.exit 6))) (.seq (.block 7 (.region [aI 89 1 1 4,aw 90 1 89,I 91 15,I 92 15,aS 93 .sub 92 1,gj 94 90 [.t 91,.t 93]])) (.region [I 87 15,aS 88 .sub 87 1,I 15 88])))))) .ret)))) .skip)) (aa [I 95 1,I 96 3,br 97 .add 95 96,bR 98 (.conv .u64 (.t 97)),bR 99 (.bin .shr false (.t 98) (.c (.int .u64 1))),bR 100 (.conv .i64 (.t 99)),I 16 100] (aa [I 101 16,I 102 2,br 103 .add 101 102,I 17 103] (aa [cd 18 0,cd 19 0] (.seq (aa [I 104 2,I 105 16,br 106 .gtr 104 105] (aZ 106 (aa [I 107 17,I 108 3,br 109 .sub 107 108,I 18 109] (.region [I 110 16,I 19 110])) (aa [I 111 1,I 18 111] (.region [I 112 2,I 19 112])))) Jm)))))))
@[simp] def akC:List bX:=[]
def Qq:C:=(aa [c8 4 0] (aa [I 10 2,I 11 1,br 12 .sub 10 11,I 8 12] (aa [I 13 3,I 14 2,br 15 .sub 13 14,I 9 15] (.seq (.block 0 (.loop (.seq (aa [I 16 8,I 17 9,br 18 .neq 16 17] (aZ 18 .skip (.exit 0))) (.block 1 (aa [I 19 8,I 20 9,br 21 .gtr 19 20] (aZ 21 (aa [a7 22 2 4,I 23 2,I 24 8,br 25 .sub 23 24,I 26 2,I 27 9,dj 28 216 [.t 22,.t 25,.t 26,.t 27]] (.region [I 29 8,I 30 9,br 31 .sub 29 30,I 8 31])) (aa [a7 32 2 4,I 33 2,I 34 8,br 35 .sub 33 34,I 36 2,I 37 9,br 38 .add 36 37,I 39 8,br 40 .sub 38 39,I 41 8,dj 42 216 [.t 32,.t 35,.t 40,.t 41]] (.region [I 43 9,I 44 8,br 45 .sub 43 44,I 9 45])))))))) (.region [a7 46 2 4,I 47 2,I 48 8,br 49 .sub 47 48,I 50 2,I 51 8,dj 52 216 [.t 46,.t 49,.t 50,.t 51]])))))
@[simp] def akz:List bX:=[]
def Qt:C:=(aa [c8 4 0] (aa [cd 8 0] (.block 0 (.loop (.seq (aa [I 9 8,I 10 3,br 11 .lss 9 10] (aZ 11 .skip (.exit 0))) (.seq (.block 1 (.region [aI 14 1 1 4,aw 15 1 14,I 16 1,I 17 8,br 18 .add 16 17,I 19 2,I 20 8,br 21 .add 19 20,gj 22 15 [.t 18,.t 21]])) (.region [I 12 8,aS 13 .add 12 1,I 8 13])))))))
@[simp] def WH:List bX:=[]
def BF:List (Nat×dz):=[
 (3,⟨1,8,.int .i64,.int .i64 0⟩),
 (117,⟨1,8,.int .u64,.int .u64 0⟩),
 (138,⟨1,8,.other,.junk⟩),
 (152,⟨1,8,.other,.junk⟩),
 (156,⟨2,16,.struct [(0,138),(1,152)],.agg [.junk,.junk]⟩)]
theorem BG:fI az BF=true:=by kernel_rfl
theorem aiZ:b7 BF Qs akB 2 Tryz.f161=true:=by kernel_rfl
theorem acj:az.funcs[(161:Nat)]? =some Tryz.f161:=Tryz.func161
theorem VK:b7 BF Jh akx 3 Tryz.f187=true:=by kernel_rfl
theorem RY:az.funcs[(187:Nat)]? =some Tryz.f187:=Tryz.func187
theorem ai1:b7 BF Qu akC 4 Tryz.f188=true:=by kernel_rfl
theorem acm:az.funcs[(188:Nat)]? =some Tryz.f188:=Tryz.func188
theorem aiX:b7 BF Qq akz 4 Tryz.f207=true:=by kernel_rfl
theorem ach:az.funcs[(207:Nat)]? =some Tryz.f207:=Tryz.func207
theorem ai0:b7 BF Qt WH 4 Tryz.f216=true:=by kernel_rfl
theorem ack:az.funcs[(216:Nat)]? =some Tryz.f216:=Tryz.func216
end
end Go.Proofs.YtohaalphocaebaaGreatDoor
