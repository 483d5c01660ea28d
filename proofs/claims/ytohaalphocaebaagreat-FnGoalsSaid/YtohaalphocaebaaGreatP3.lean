/- Contracts of the stable sort's functions over elements that only 'less' and 'swap' know: swapRange, rotate. -/
import Derived.Test.YtohaalphocaebaaGreatProg
import Derived.Shelf.Sort.Plain
import Derived.Ground.NamesProg
import Derived.Sort.OwnSortedInts
import Derived.Lib.OwnBridge
import Derived.Test.YtohaalphocaebaaGreatP2
set_option linter.all false
set_option maxHeartbeats 4000000
set_option maxRecDepth 4000
open Bool renaming and_eq_true->ct,eq_iff_iff->pN,false_eq_true->gF,not_eq_true'->qo,or_eq_true->ls
open Go.Op renaming bytesLess->ht
open Go.Proofs.Tryz renaming prog->ay
open Go.Value renaming cells->oV
open List renaming all_eq_true->gH,cons_append->bV,drop_eq_getElem_cons->k4,getElem?_eq_getElem->cr,getElem?_eq_none->qp,getElem?_eq_some_iff->fp,getElem_of_mem->od,length_append->oW,length_drop->sB,map_cons->eO,mem_append->h9,mem_cons->fI,mem_cons_of_mem->og,mem_filter->iA,mem_map->ia,mem_of_getElem?->eZ,mem_singleton->kg,nil_append->b3,pairwise_cons->mS,pairwise_iff_getElem->oX,take_of_length_le->hv
open List.Nodup renaming length_le_of_subset->Ef
open List.Pairwise renaming filter->X3,imp_of_mem->anm,nil->arJ,sublist->arK
open List.Perm renaming eq_of_pairwise->NL,swap->arL
open List.cons renaming injEq->yO
open Nat renaming le_refl->eC,le_trans->gZ,strongRecOn->pO
open Ne renaming symm->k5
open Option renaming bind_eq_some_iff->iK,bind_some->hU,getD_none->jq,getD_some->hV,map_eq_some_iff->gr,map_some->nE
open Option.some renaming inj->gu,injEq->dy
open Prod.mk renaming injEq->jE
open _root_ renaming False->eN,UInt8->c4,beq_iff_eq->dM,congrArg->e4,decide_eq_false->lT,decide_eq_false_iff_not->hx,decide_eq_true->jS,decide_eq_true_eq->eF
namespace Go.Pv
section
open Go
theorem Ys{E:Int->Int->Prop}{x:Int}{r:Int->Nat}{M:Nat}(h:∀z u,z≠x->E z u->r u<r z)(il:∀u,E x u->r u<M)(az:∀u,E x u->¬mT E u x):∃eG:Int->Nat,∀z u,E z u->eG u<eG z:=by
 classical
 refine⟨fun z=>if mT E z x then r z+M else r z,fun z u he=>?_⟩;show(if mT E u x then r u+M else r u)<(if mT E z x then r z+M else r z);by_cases bk:z=x
 ·subst bk;have J:=az u he;have U:=il u he;rw[if_neg J,if_pos (mT.refl z)];omega
 ·have J:=h z u bk he;by_cases hu:mT E u x
  ·rw[if_pos hu,if_pos (mT.step he hu)];omega
  ·rw[if_neg hu];split<;>omega
def na(ph:Int->Option T)(ρ:Int->Int):Nat->Int->T
 |0,v=>.var (ρ v)
 |n+1,v=>match ph (ρ v)with
  |none=>.var (ρ v)
  |some t=>t.ap (na ph ρ n)
section
variable {ph:Int->Option T} {ρ:Int->Int} {r:Int->Nat}
theorem aaU(eX:∀v,ρ (ρ v)=ρ v):∀(n:Nat) (v:Int),na ph ρ n v=na ph ρ n (ρ v)
 |0,v=>by simp[na,eX]
 |n+1,v=>by simp[na,eX]
theorem Q6(eX:∀v,ρ (ρ v)=ρ v)(aK:∀z u,jc ph ρ z u->r u<r z):∀(n:Nat) (v:Int),r (ρ v)<n->na ph ρ n v=na ph ρ (n+1) v
 |0,_,h=>Ω
 |n+1,v,h=>by
  show(match ph (ρ v)with|none=>T.var (ρ v)|some t=>t.ap (na ph ρ n))=(match ph (ρ v)with|none=>T.var (ρ v)|some t=>t.ap (na ph ρ (n+1)));cases e:ph (ρ v)with
  |none=>rfl
  |some t=>refine o5 fun w hw=>Q6 eX aK n w ?_;have:=aK (ρ v) (ρ w) ⟨eX v,t,w,e,hw,rfl⟩;omega
theorem Q5(eX:∀v,ρ (ρ v)=ρ v)(aK:∀z u,jc ph ρ z u->r u<r z){n:Nat}{v:Int}(h:r (ρ v)<n):∀k,na ph ρ (n+k) v=na ph ρ n v
 |0=>rfl
 |k+1=>by rw[<-Q5 eX aK h k];exact(Q6 eX aK (n+k) v Ω).symm
def gQ(ph:Int->Option T)(ρ:Int->Int)(r:Int->Nat)(v:Int):T:=na ph ρ (r (ρ v)+1) v
theorem zl(eX:∀v,ρ (ρ v)=ρ v)(v:Int):gQ ph ρ r v=gQ ph ρ r (ρ v):=by unfold gQ;rw[aaU eX,eX]
theorem BW{v:Int}(h:ph (ρ v)=none):gQ ph ρ r v= .var (ρ v):=by simp[gQ,na,h]
theorem zm(eX:∀v,ρ (ρ v)=ρ v)(aK:∀z u,jc ph ρ z u->r u<r z){v:Int}{t:T}(h:ph (ρ v)=some t):gQ ph ρ r v=t.ap (gQ ph ρ r):=by show na ph ρ (r (ρ v)+1) v=_;simp only[na,h];refine o5 fun w hw=>?_;have J:=aK (ρ v) (ρ w) ⟨eX v,t,w,h,hw,rfl⟩;have:=Q5 eX aK (n:=r (ρ w)+1) (v:=w) Ω (r (ρ v)-(r (ρ w)+1));rw[show r (ρ w)+1+(r (ρ v)-(r (ρ w)+1))=r (ρ v)from by omega]at this;exact this
theorem ad6(eX:∀v,ρ (ρ v)=ρ v)(aK:∀z u,jc ph ρ z u->r u<r z):kh ph ρ (gQ ph ρ r):=⟨zl eX,fun x t ae h=>zm eX aK (by rw[ae];exact h)⟩
theorem Hy{V:List Int}(gA:oq V ph){θ:Int->T}(h:kh ph ρ θ){z u:Int}(he:jc ph ρ z u):(θ u).size<(θ z).size:=by obtain⟨J,t,w,U,al,rfl⟩:=he;rw[h.2 z t J U,<-h.1 w];exact(yb θ al).2 (gA z t U).1
theorem Hz{V:List Int}(gA:oq V ph){θ:Int->T}(h:kh ph ρ θ){z u:Int}(he:mT (jc ph ρ) z u):(θ u).size<=(θ z).size:=by
 induction he with
 |refl=>exact eC _
 |step J _ bO=>have:=Hy gA h J;omega
end
theorem YX(r:Int->Nat)(t:T):∃M,∀w,t.occ w=true->r w<M:=by
 induction t with
 |var n=>exact⟨r n+1,fun w hw=>by simp[T.occ]at hw;subst hw;omega⟩
 |pair a b dB dC=>
  obtain⟨Ye,J⟩:=dB;obtain⟨Yf,U⟩:=dC;refine⟨Ye+Yf,fun w hw=>?_⟩;simp only[T.occ,ls]at hw;rcases hw with hw|hw
  ·have:=J w hw;omega
  ·have:=U w hw;omega
 |_=>exact⟨0,fun w hw=>by simp[T.occ]at hw⟩
theorem DJ{ph:Int->Option T}{ρ:Int->Int}(eX:∀v,ρ (ρ v)=ρ v){x:Int}{r:Int->Nat}(h:∀z u,z≠x->jc ph ρ z u->r u<r z)(az:∀u,jc ph ρ x u->¬mT (jc ph ρ) u x):∃θ,kh ph ρ θ:=by
 have il:∃M,∀u,jc ph ρ x u->r u<M:=by
  cases e:ph x with
  |none=>exact⟨0,fun u ⟨_,t,w,J,_⟩=>by rw[e]at J;cases J⟩
  |some t=>obtain⟨M,il⟩:=YX (fun w=>r (ρ w)) t;refine⟨M,fun u ⟨_,dK,w,J,U,al⟩=>?_⟩;rw[e]at J;cases J;subst al;exact il w U
 obtain⟨M,il⟩:=il;obtain⟨eG,dG⟩:=Ys h il az;exact⟨_,ad6 eX dG⟩
structure lU (c:bs) (ρ:Int->Int):Prop where
 ru:jG c.up ρ
 sh:oq (cn c.up) c.ph
 sat:∃θ,kh c.ph ρ θ
theorem lU.sm{c cl:bs}{ρ:Int->Int}(h:lU c ρ)(k:iN ρ c cl):lU cl ρ:=⟨k.ru,by rw[k.keys,k.ph];exact h.sh,by rw[k.ph];exact h.sat⟩
def iC(c:bs)(ρ:Int->Int):Nat:=((cn c.up).filter fun v=>decide (ρ v=v)).length+((cn c.up).filter fun v=>decide (ρ v=v)&& !(c.ph v).isSome).length
theorem w6{c cl:bs}{ρ:Int->Int}(k:iN ρ c cl):iC cl ρ=iC c ρ:=by unfold iC;rw[k.keys,k.ph]
structure jd (c:bs) (ρ:Int->Int) (p:(Int->T)->Prop) (o:Bool×bs):Prop where
 keys:cn o.2.up=cn c.up
 rest:o.2.color=c.color/\o.2.size=c.size/\o.2.full=c.full
 yes:o.1=true->∃ρ',lU o.2 ρ'/\(∀θ,kh o.2.ph ρ' θ↔kh c.ph ρ θ/\p θ)/\((ρ'=ρ/\o.2.ph=c.ph)\/iC o.2 ρ'<iC c ρ)
 no:o.1=false->∀θ,kh c.ph ρ θ->¬p θ
theorem iN.rest{ρ:Int->Int}{c cl:bs}(h:iN ρ c cl):cl.color=c.color/\cl.size=c.size/\cl.full=c.full:=by rw[h.eq];exact⟨rfl,rfl,rfl⟩
theorem jd.sm{c cl:bs}{ρ:Int->Int}{p:(Int->T)->Prop}{o:Bool×bs}(k:iN ρ c cl)(h:jd cl ρ p o):jd c ρ p o:=⟨h.keys.trans k.keys,by rw[h.rest.1,h.rest.2.1,h.rest.2.2];exact k.rest,fun e=>by rw[<-w6 k,<-k.ph];exact h.yes e,by rw[<-k.ph];exact h.no⟩
theorem jd.congr{c:bs}{ρ:Int->Int}{p q:(Int->T)->Prop}{o:Bool×bs}(jz:∀θ,kh c.ph ρ θ->(p θ↔q θ))(h:jd c ρ p o):jd c ρ q o:=⟨h.keys,h.rest,fun e=>by obtain⟨ρ',J,U,al⟩:=h.yes e;exact⟨ρ',J,fun θ=>(U θ).trans (and_congr_right fun af=>jz θ af),al⟩,fun e θ af bI=>h.no e θ af ((jz θ af).2 bI)⟩
theorem wD(c:bs)(x:Int)(t:T)(z:Int):(c.know x t).ph z=if z=x then some t else c.ph z:=by
 simp only[bs.ph,bs.know,bs.shd,bs.shp,nA];by_cases h:z=x
 ·simp[h]
 ·simp only[if_neg h];exact ite_congr rfl (fun _=>rfl) fun _=>rfl
theorem T4{c:bs}{ρ:Int->Int}(hi:lU c ρ){x:Int}(ae:ρ x=x)(ad:x∈cn c.up)(jy:c.ph x=none){t:T}(aI:t.kind≠1)(av:∀w,t.occ w=true->w∈cn c.up):
  ∃N o,(∀n,N<=n->uK n x t c=some o)/\jd c ρ (fun θ=>θ x=t.ap θ) o:=by
 have gA:oq (cn (c.know x t).up) (c.know x t).ph:=by
  intro z u bk;rw[wD]at bk;split at bk
  ·rename_i e;cases bk;subst e;exact⟨aI,av,ad⟩
  ·exact hi.sh z u bk
 have h4:∀θ,kh (c.know x t).ph ρ θ↔kh c.ph ρ θ/\θ x=t.ap θ:=by
  intro θ;constructor
  ·rintro⟨J,U⟩;refine⟨⟨J,fun z u bk hu=>U z u bk ?_⟩,U x t ae (by rw[wD];simp)⟩;rw[wD];split
   ·rename_i e;subst e;rw[jy]at hu;cases hu
   ·exact hu
  ·rintro⟨⟨J,U⟩,al⟩;refine⟨J,fun z u bk hu=>?_⟩;rw[wD]at hu;split at hu
   ·rename_i e;subst e;cases hu;exact al
   ·exact U z u bk hu
 obtain⟨N,a,J,U,al⟩:=G9 (x:=x) (c:=c.know x t) (t:=t) hi.ru gA av;refine⟨N,(!a.found,a.c),fun n az=>by simp[uK,J n az],U.keys,U.rest,fun aO=>?_,fun aO θ af he=>?_⟩
 ·simp only[qo]at aO;have afr:∀u,jc (c.know x t).ph ρ x u->¬mT (jc (c.know x t).ph ρ) u x:=by rintro u ⟨_,dK,w,aZ,bm,rfl⟩ aK;rw[wD,if_pos rfl]at aZ;cases aZ;have:=al.2 ⟨w,bm,aK⟩;rw[aO]at this;cases this
  obtain⟨k3,uE⟩:=hi.sat
  have afG:=DJ (ph:=(c.know x t).ph) (ρ:=ρ) hi.ru.idem (x:=x) (r:=fun z=>(k3 z).size) (fun z u bk he=>by refine Hy hi.sh uE ?_;obtain⟨ao,dK,w,aF,bM⟩:=he;rw[wD,if_neg bk]at aF;exact⟨ao,dK,w,aF,bM⟩) afr
  refine⟨ρ,⟨U.ru,?_,?_⟩,fun θ=>?_,.inr ?_⟩
  ·simp only[U.keys,U.ph];exact gA
  ·simp only[U.ph];exact afG
  ·simp only[U.ph];exact h4 θ
  ·simp only[w6 U];unfold iC;have ao:cn (c.know x t).up=cn c.up:=rfl;rw[ao];have:=Fb (V:=cn c.up) (v:=x) (p:=fun v=>decide (ρ v=v)&& !(c.ph v).isSome) (q:=fun v=>decide (ρ v=v)&& !((c.know x t).ph v).isSome) (fun z _ bk=>by
    rw[wD]at bk;split at bk
    ·simp at bk
    ·exact bk) ad (by simp[ae,jy]) (by simp[wD])
   omega
 ·simp only[Bool.not_eq_false']at aO;obtain⟨w,aZ,bm⟩:=al.1 aO;have eL:=(h4 θ).2 ⟨af,he⟩;have:=Hz gA eL bm;have a1:=(yb θ aZ).2 aI;rw[<-he]at a1;rw[<-af.1 w]at this;omega
def jj(ρ:Int->Int)(x y:Int)(v:Int):Int:=if ρ v=y then x else ρ v
section
variable {c:bs} {ρ:Int->Int} {x y:Int}
theorem qa(ae:ρ x=x)(aM:ρ y=y)(gz:x≠y){z:Int}:jj ρ x y z=z↔ρ z=z/\z≠y:=by
 unfold jj;split
 ·rename_i e;constructor
  ·intro h;subst h;rw[ae]at e;exact absurd e gz
  ·rintro⟨J,U⟩;rw[J]at e;exact absurd e U
 ·rename_i e;constructor
  ·intro h;exact⟨h,fun aF=>e (by rw[aF,aM])⟩
  ·exact fun h=>h.1
theorem jG.join(h:jG c.up ρ)(ae:ρ x=x)(aM:ρ y=y)(gz:x<y)(CY:x∈cn c.up)(uL:y∈cn c.up):jG (c.join x y).up (jj ρ x y):=by
 have ad:cn (c.join x y).up=cn c.up:=CW uL;refine⟨fun v u av=>?_,fun v av=>?_⟩
 ·rw[ad];have l7:tg v (eU y x c.up)=some u:=av;rw[nA]at l7;by_cases e:v=y
  ·subst e;rw[if_pos rfl]at l7;cases l7;have bA:=(h.mem CY).2;rw[ae]at bA;refine⟨⟨bA,Ω,CY⟩,?_,⟨fun e=>?_,fun e=>Ω⟩⟩
   ·unfold jj;rw[ae,aM,if_pos rfl,if_neg Ω]
   ·have:=((qa ae aM Ω).1 e).2;exact absurd rfl this
  ·rw[if_neg e]at l7;obtain⟨bz,a2,a3⟩:=h.up v u l7;refine⟨bz,by unfold jj;rw[a2],?_⟩;rw[qa ae aM Ω,a3];exact⟨fun h=>h.1,fun h=>⟨h,e⟩⟩
 ·rw[ad]at av;have:=h.no v av;unfold jj;rw[this,if_neg fun e=>av (by rw[e];exact uL)]
theorem alw{ph:Int->Option T}(ae:ρ x=x)(aM:ρ y=y)(gz:x≠y)(θ:Int->T):(kh ph (jj ρ x y) θ/\∀t,ph y=some t->θ x=t.ap θ)↔(kh ph ρ θ/\θ x=θ y):=by
 constructor
 ·rintro⟨⟨J,U⟩,al⟩;have KB:θ y=θ x:=by have:=J y;simpa[jj,aM]using this
  refine⟨⟨fun v=>?_,fun z t bk aI=>?_⟩,KB.symm⟩
  ·have:=J v;unfold jj at this;split at this
   ·rename_i e;rw[e,this,KB]
   ·exact this
  ·by_cases e:z=y
   ·subst e;rw[KB];exact al t aI
   ·exact U z t ((qa ae aM gz).2 ⟨bk,e⟩) aI
 ·rintro⟨⟨J,U⟩,al⟩;refine⟨⟨fun v=>?_,fun z t bk aI=>U z t ((qa ae aM gz).1 bk).1 aI⟩,fun t aI=>by rw[al];exact U y t aM aI⟩;unfold jj;split
  ·rename_i e;rw[J v,e,al]
  ·exact J v
theorem akJ{V:List Int}{ph:Int->Option T}(gA:oq V ph)(ae:ρ x=x)(aM:ρ y=y)(gz:x≠y){θ:Int->T}(h:kh ph ρ θ){z u:Int}(bk:z≠x)(he:jc ph (jj ρ x y) z u):(if u=x then 0 else(θ u).size)<(if z=x then 0 else(θ z).size):=by
 obtain⟨J,t,w,U,al,rfl⟩:=he;have aK:=(qa ae aM gz).1 J;rw[if_neg bk];split
 ·exact T.size_pos _
 ·rename_i cF;have:jj ρ x y w=ρ w:=by
   unfold jj at cF⊢;split
   ·rename_i e;rw[if_pos e]at cF;exact absurd rfl cF
   ·rfl
  rw[this];exact Hy gA h ⟨aK.1,t,w,U,al,rfl⟩
theorem Yb(ae:ρ x=x)(aM:ρ y=y)(gz:x≠y)(uL:y∈cn c.up):iC (c.join x y) (jj ρ x y)<iC c ρ:=by have ad:cn (c.join x y).up=cn c.up:=CW uL;have bL:(c.join x y).ph=c.ph:=rfl;unfold iC;rw[ad,bL];have J:=Fb (V:=cn c.up) (v:=y) (p:=fun v=>decide (ρ v=v)) (q:=fun v=>decide (jj ρ x y v=v)) (fun z _ bk=>by simp only[eF]at bk⊢;exact((qa ae aM gz).1 bk).1) uL (by simp[aM]) (by simp only[hx];exact fun h=>((qa ae aM gz).1 h).2 rfl);have U:=Fa (V:=cn c.up) (p:=fun v=>decide (ρ v=v)&& !(c.ph v).isSome) (q:=fun v=>decide (jj ρ x y v=v)&& !(c.ph v).isSome) (fun z _ bk=>by simp only[ct,eF]at bk⊢;exact⟨((qa ae aM gz).1 bk.1).1,bk.2⟩);omega
end
theorem Ax{c:bs}{x:Int}(h:c.shd x=false):c.ph x=none:=by simp[bs.ph,h]
theorem Ay{c:bs}{x:Int}(h:¬c.shd x=false):c.ph x=some (c.shp x):=by simp[bs.ph];simpa using h
theorem QY{c:bs}{ρ:Int->Int}(hi:lU c ρ){x y:Int}(ae:ρ x=x)(aM:ρ y=y)(gz:x<y)(CY:x∈cn c.up)(uL:y∈cn c.up)
  (rec:∀(bT:bs) (lr:Int->Int),lU bT lr->cn bT.up=cn c.up->iC bT lr<iC c ρ->∀a b:T,(∀w,a.occ w=true->w∈cn c.up)->(∀w,b.occ w=true->w∈cn c.up)->∃N o,(∀n,N<=n->gv n a b bT=some o)/\jd bT lr (fun θ=>a.ap θ=b.ap θ) o):
  ∃N o,(∀n,N<=n->rv (gv n) n x y (c.join x y)=some o)/\jd c ρ (fun θ=>θ x=θ y) o:=by
 have cF:x≠y:=Ω
 have ad:cn (c.join x y).up=cn c.up:=CW uL;have bL:(c.join x y).ph=c.ph:=rfl;have l5:=hi.ru.join ae aM gz CY uL;have c2:=Yb (c:=c) ae aM cF uL;have gA:oq (cn (c.join x y).up) (c.join x y).ph:=by rw[ad,bL];exact hi.sh
 obtain⟨k3,uE⟩:=hi.sat
 have FU:∀z u,z≠x->jc c.ph (jj ρ x y) z u->(fun z=>if z=x then 0 else(k3 z).size) u<(fun z=>if z=x then 0 else(k3 z).size) z:=fun z u bk he=>akJ hi.sh ae aM cF uE bk he;have h4:=fun θ=>alw (ph:=c.ph) ae aM cF θ;have S7:∀{cl:bs},iN (jj ρ x y) (c.join x y) cl->(∃θ,kh c.ph (jj ρ x y) θ)->c.ph y=none->jd c ρ (fun θ=>θ x=θ y) (true,cl):=by intro cl k af az;refine⟨k.keys.trans ad,k.rest,fun _=>⟨jj ρ x y,⟨k.ru,by simp only[k.keys,k.ph];exact gA,by simp only[k.ph];exact af⟩,fun θ=>?_,.inr (by simp only[w6 k];exact c2)⟩,fun e=>by cases e⟩;simp only[k.ph,bL];rw[<-h4 θ];exact⟨fun h=>⟨h,fun t aI=>by rw[az]at aI;cases aI⟩,fun h=>h.1⟩
 by_cases J:(c.join x y).shd y=false
 ·have SU:c.ph y=none:=Ax J;by_cases U:(c.join x y).shd x=false
  ·have uB:c.ph x=none:=Ax U;refine⟨0,(true,c.join x y),fun n _=>by simp only[rv,if_pos J,if_pos U],S7 (iN.refl l5) ?_ SU⟩;exact DJ l5.idem (x:=x) FU fun u ⟨_,t,w,q,_⟩=>by rw[uB]at q;cases q
  ·have nV:c.ph x=some ((c.join x y).shp x):=Ay U;obtain⟨N,a,ao,aF,bM⟩:=G9 (x:=x) (c:=c.join x y) (t:=(c.join x y).shp x) l5 gA (by rw[ad];exact(hi.sh _ _ nV).2.1);refine⟨N,(!a.found,a.c),fun n az=>by simp only[rv,if_pos J,if_neg U,ao n az,nE],?_⟩;cases aO:a.found with
   |false=>refine S7 aF (DJ l5.idem (x:=x) FU fun u ⟨_,t,w,aZ,bm,bP⟩ aK=>?_) SU;rw[nV]at aZ;cases aZ;subst bP;have:=bM.2 ⟨w,bm,aK⟩;rw[aO]at this;cases this
   |true=>refine⟨aF.keys.trans ad,aF.rest,(fun e=>by cases e),fun _ θ af he=>?_⟩;obtain⟨w,aZ,bm⟩:=bM.1 aO;have eL:=((h4 θ).2 ⟨af,he⟩).1;have al:=Hz hi.sh eL bm;have a1:=(yb θ aZ).2 (hi.sh _ _ nV).1;rw[<-eL.2 x _ ((qa ae aM cF).2 ⟨ae,cF⟩) nV]at a1;rw[<-eL.1 w]at al;omega
 ·have qR:c.ph y=some ((c.join x y).shp y):=Ay J;by_cases U:(c.join x y).shd x=false
  ·have uB:c.ph x=none:=Ax U;have l3:lU (c.join x y) (jj ρ x y):=⟨l5,gA,DJ l5.idem (x:=x) FU fun u ⟨_,t,w,q,_⟩=>by rw[bL,uB]at q;cases q⟩;obtain⟨N,o,ao,aF⟩:=T4 l3 (x:=x) ((qa ae aM cF).2 ⟨ae,cF⟩) (by rw[ad];exact CY) uB (t:=(c.join x y).shp y) (hi.sh _ _ qR).1 (by rw[ad];exact(hi.sh _ _ qR).2.1);refine⟨N,o,fun n az=>by simp only[rv,if_neg J,if_pos U,ao n az],aF.keys.trans ad,aF.rest,fun aO=>?_,fun aO θ af he=>?_⟩
   ·obtain⟨ρ',g1,g2,g3⟩:=aF.yes aO;refine⟨ρ',g1,fun θ=>?_,.inr ?_⟩
    ·rw[g2 θ,<-h4 θ];refine and_congr_right fun _=>⟨fun h t aI=>by rw[qR]at aI;cases aI;exact h,fun h=>h _ qR⟩
    ·rcases g3 with⟨rfl,g3⟩|g3
     ·have:iC o.2 (jj ρ x y)=iC (c.join x y) (jj ρ x y):=by unfold iC;rw[aF.keys,g3]
      omega
     ·omega
   ·obtain⟨s1,s2⟩:=(h4 θ).2 ⟨af,he⟩;exact aF.no aO θ s1 (s2 _ qR)
  ·have nV:c.ph x=some ((c.join x y).shp x):=Ay U;obtain⟨hG,a,ao,aF,bM⟩:=G9 (x:=x) (c:=c.join x y) (t:=(c.join x y).shp y) l5 gA (by rw[ad];exact(hi.sh _ _ qR).2.1);cases aO:a.found with
   |true=>refine⟨hG,(false,a.c),fun n az=>by simp only[rv,if_neg J,if_neg U,ao n az,hU,aO,if_true],aF.keys.trans ad,aF.rest,(fun e=>by cases e),fun _ θ af he=>?_⟩;obtain⟨w,aZ,bm⟩:=bM.1 aO;obtain⟨eL,ps⟩:=(h4 θ).2 ⟨af,he⟩;have al:=Hz hi.sh eL bm;have a1:=(yb θ aZ).2 (hi.sh _ _ qR).1;rw[<-ps _ qR]at a1;rw[<-eL.1 w]at al;omega
   |false=>
    have Ta:a.c.shp x=(c.join x y).shp x:=aF.shp x;obtain⟨je,b,f1,f2,f3⟩:=G9 (x:=x) (c:=a.c) (t:=(c.join x y).shp x) aF.ru (by rw[aF.keys,aF.ph];exact gA) (by rw[aF.keys,ad];exact(hi.sh _ _ nV).2.1);have dT:=aF.trans f2;cases aW:b.found with
    |true=>refine⟨max hG je,(false,b.c),fun n az=>by simp only[rv,if_neg J,if_neg U,ao n Ω,hU,aO,Ta,f1 n Ω,aW,if_true,gF,if_false],dT.keys.trans ad,dT.rest,(fun e=>by cases e),fun _ θ af he=>?_⟩;obtain⟨w,aZ,bm⟩:=f3.1 aW;obtain⟨eL,_⟩:=(h4 θ).2 ⟨af,he⟩;rw[aF.ph]at bm;have al:=Hz hi.sh eL bm;have a1:=(yb θ aZ).2 (hi.sh _ _ nV).1;rw[<-eL.2 x _ ((qa ae aM cF).2 ⟨ae,cF⟩) nV]at a1;rw[<-eL.1 w]at al;omega
    |false=>
     have zy:lU b.c (jj ρ x y):=by refine⟨dT.ru,by rw[dT.keys,dT.ph];exact gA,?_⟩;rw[dT.ph];refine DJ l5.idem (x:=x) FU fun u ⟨_,t,w,aZ,bm,bP⟩ aK=>?_;rw[bL,nV]at aZ;cases aZ;subst bP;have:=f3.2 ⟨w,bm,by rw[aF.ph];exact aK⟩;rw[aW]at this;cases this
     obtain⟨yR,o,g1,g2⟩:=rec b.c (jj ρ x y) zy (dT.keys.trans ad) (by rw[w6 dT];exact c2) ((c.join x y).shp x) ((c.join x y).shp y) (hi.sh _ _ nV).2.1 (hi.sh _ _ qR).2.1;refine⟨max (max hG je) yR,o,fun n az=>?_,g2.keys.trans (dT.keys.trans ad),?_,fun cw=>?_,fun cw θ af he=>?_⟩
     ·simp only[rv,if_neg J,if_neg U,ao n Ω,hU,aO,Ta,f1 n Ω,aW,gF,if_false,dT.shp];exact g1 n Ω
     ·rw[g2.rest.1,g2.rest.2.1,g2.rest.2.2];exact dT.rest
     ·obtain⟨ρ',aZ,bm,bP⟩:=g2.yes cw;refine⟨ρ',aZ,fun θ=>?_,.inr ?_⟩
      ·rw[bm θ,dT.ph,bL,<-h4 θ];refine and_congr_right fun h=>?_;have:=h.2 x _ ((qa ae aM cF).2 ⟨ae,cF⟩) nV;rw[<-this];exact⟨fun h t aI=>by rw[qR]at aI;cases aI;exact h,fun h=>h _ qR⟩
      ·have:iC b.c (jj ρ x y)<iC c ρ:=by rw[w6 dT];exact c2
       rcases bP with⟨rfl,bP⟩|bP
       ·have:iC o.2 (jj ρ x y)=iC b.c (jj ρ x y):=by unfold iC;rw[g2.keys,bP]
        omega
       ·omega
     ·obtain⟨s1,s2⟩:=(h4 θ).2 ⟨af,he⟩;refine g2.no cw θ (by rw[dT.ph];exact s1) ?_;have:=s1.2 x _ ((qa ae aM cF).2 ⟨ae,cF⟩) nV;rw[<-this];exact s2 _ qR
def ud:T->T->Nat
 | .var _,_=>1
 |_,.var _=>2
 |_,_=>0
theorem ZZ(K:Nat):∀(m:Nat) (c:bs) (ρ:Int->Int) (a b:T) (k3:Int->T),lU c ρ->kh c.ph ρ k3->(∀w,a.occ w=true->w∈cn c.up)->(∀w,b.occ w=true->w∈cn c.up)->iC c ρ=K->((a.ap k3).size+(b.ap k3).size)*3+ud a b=m->
  ∃N o,(∀n,N<=n->gv n a b c=some o)/\jd c ρ (fun θ=>a.ap θ=b.ap θ) o:=by
 induction K using pO with
 |ind K af6=>
 have Tl:∀(bT:bs) (lr:Int->Int),lU bT lr->iC bT lr<K->∀a b:T,(∀w,a.occ w=true->w∈cn bT.up)->(∀w,b.occ w=true->w∈cn bT.up)->∃N o,(∀n,N<=n->gv n a b bT=some o)/\jd bT lr (fun θ=>a.ap θ=b.ap θ) o:=by
  intro bT lr J U a b a7 ab;obtain⟨θ,fS⟩:=J.sat
  exact af6 _ U _ bT lr a b θ J fS a7 ab rfl rfl
 intro m;induction m using pO with
 |ind m zR=>
 intro c ρ a b k3 hi uE a7 ab c2 hm;have ae9:∀{a b:T},(∀n,gv (n+1) a b c=some (decide (a=b),c))->(∀θ,a.ap θ=a)->(∀θ,b.ap θ=b)->∃N o,(∀n,N<=n->gv n a b c=some o)/\jd c ρ (fun θ=>a.ap θ=b.ap θ) o:=by
  intro a b J U al;refine⟨1,(decide (a=b),c),fun n az=>?_,rfl,⟨rfl,rfl,rfl⟩,fun h=>?_,fun h θ _ he=>?_⟩
  ·obtain⟨n',rfl⟩:∃n',n=n'+1:=⟨n-1,Ω⟩;exact J n'
  ·simp only[eF]at h;subst h;exact⟨ρ,hi,fun θ=>⟨fun h=>⟨h,rfl⟩,fun h=>h.1⟩,.inl ⟨rfl,rfl⟩⟩
  ·simp only[hx]at h;rw[U,al]at he;exact h he
 have Sj:∀{a b:T},(∀n,gv (n+1) a b c=some (decide (a=b),c))->(∀θ,a.ap θ≠b.ap θ)->a≠b->∃N o,(∀n,N<=n->gv n a b c=some o)/\jd c ρ (fun θ=>a.ap θ=b.ap θ) o:=by intro a b J U al;refine⟨1,(false,c),fun n az=>?_,rfl,⟨rfl,rfl,rfl⟩,(fun h=>by cases h),fun _ θ _ he=>U θ he⟩;obtain⟨n',rfl⟩:∃n',n=n'+1:=⟨n-1,Ω⟩;rw[J n',lT al]
 have rX:∀(i:Int) (b:T),b.kind≠1->(∀n,gv (n+1) (.var i) b c=(rt c i).bind fun p=>if p.2.shd p.1=false then uK n p.1 b p.2 else gv n (p.2.shp p.1) b p.2)->i∈cn c.up->(∀w,b.occ w=true->w∈cn c.up)->((k3 i).size+(b.ap k3).size)*3<m->∃N o,(∀n,N<=n->gv n (.var i) b c=some o)/\jd c ρ (fun θ=>θ i=b.ap θ) o:=by
  intro i b oB Sm wc ab bt;obtain⟨bT,ao,aX⟩:=tF hi.ru wc;have l3:=hi.sm aX;by_cases af:bT.shd (ρ i)=false
  ·obtain⟨N,o,aF,dq⟩:=T4 l3 (x:=ρ i) (hi.ru.idem i) (by rw[aX.keys];exact(hi.ru.mem wc).1) (Ax af) oB (by rw[aX.keys];exact ab);refine⟨N+1,o,fun n az=>?_,jd.sm aX (jd.congr (fun θ h=>?_) dq)⟩
   ·obtain⟨n',rfl⟩:∃n',n=n'+1:=⟨n-1,Ω⟩;rw[Sm,ao];simp only[hU,if_pos af];exact aF n' Ω
   ·rw[<-h.1 i]
  ·have nV:bT.ph (ρ i)=some (bT.shp (ρ i)):=Ay af;have h4:∀θ,kh bT.ph ρ θ->θ i=(bT.shp (ρ i)).ap θ:=fun θ h=>by rw[h.1 i];exact h.2 _ _ (hi.ru.idem i) nV
   have hq:=(l3.sh _ _ nV).1;have aeQ:ud (bT.shp (ρ i)) b=0:=by cases e:bT.shp (ρ i)<;>cases b<;>simp_all[ud,T.kind]
   have Tk:kh bT.ph ρ k3:=by rw[aX.ph];exact uE
   obtain⟨N,o,aF,dq⟩:=zR (((bT.shp (ρ i)).ap k3).size*3+(b.ap k3).size*3) (by rw[<-h4 k3 Tk];omega) bT ρ (bT.shp (ρ i)) b k3 l3 Tk (l3.sh _ _ nV).2.1 (by rw[aX.keys];exact ab) (by rw[w6 aX];exact c2) (by rw[aeQ];omega);refine⟨N+1,o,fun n az=>?_,jd.sm aX (jd.congr (fun θ h=>?_) dq)⟩
   ·obtain⟨n',rfl⟩:∃n',n=n'+1:=⟨n-1,Ω⟩;rw[Sm,ao];simp only[hU,if_neg af];exact aF n' Ω
   ·rw[h4 θ h]
 have CH:∀(i j:Int),i∈cn c.up->j∈cn c.up->∃N o,(∀n,N<=n->gv n (.var i) (.var j) c=some o)/\jd c ρ (fun θ=>θ i=θ j) o:=by
  intro i j wc Gh;obtain⟨bT,ao,aX⟩:=tF hi.ru wc;obtain⟨cv,aF,bg⟩:=tF aX.ru (by rw[aX.keys];exact Gh:j∈cn bT.up);have tk:=aX.trans bg;have hE:=hi.sm tk;have vI:ρ i∈cn cv.up:=by rw[tk.keys];exact(hi.ru.mem wc).1
  have SA:ρ j∈cn cv.up:=by rw[tk.keys];exact(hi.ru.mem Gh).1
  have vP:∀(bT:bs) (lr:Int->Int),lU bT lr->cn bT.up=cn cv.up->iC bT lr<iC cv ρ->∀a b:T,(∀w,a.occ w=true->w∈cn cv.up)->(∀w,b.occ w=true->w∈cn cv.up)->∃N o,(∀n,N<=n->gv n a b bT=some o)/\jd bT lr (fun θ=>a.ap θ=b.ap θ) o:=fun dj ρ3 J U al a b a7 ab=>Tl dj ρ3 J (by rw[w6 tk,c2]at al;exact al) a b (by rw[U];exact a7) (by rw[U];exact ab);rcases Int.lt_trichotomy (ρ i) (ρ j)with h|h|h
  ·obtain⟨N,o,bM,iY⟩:=QY hE (hi.ru.idem i) (hi.ru.idem j) h vI SA vP;refine⟨N+1,o,fun n az=>?_,jd.sm tk (jd.congr (fun θ h=>?_) iY)⟩
   ·obtain⟨n',rfl⟩:∃n',n=n'+1:=⟨n-1,Ω⟩;simp only[gv,ao,aF,hU];rw[if_neg Ω,if_neg Ω];exact bM n' Ω
   ·rw[h.1 i,h.1 j]
  ·refine⟨1,(true,cv),fun n az=>?_,tk.keys,tk.rest,fun _=>⟨ρ,hE,fun θ=>?_,.inl ⟨rfl,tk.ph⟩⟩,fun e=>by cases e⟩
   ·obtain⟨n',rfl⟩:∃n',n=n'+1:=⟨n-1,Ω⟩;simp only[gv,ao,aF,hU,if_pos h]
   ·simp only[tk.ph];exact⟨fun af=>⟨af,by rw[af.1 i,af.1 j,h]⟩,fun af=>af.1⟩
  ·obtain⟨N,o,bM,iY⟩:=QY hE (hi.ru.idem j) (hi.ru.idem i) h SA vI vP;refine⟨N+1,o,fun n az=>?_,jd.sm tk (jd.congr (fun θ h=>?_) iY)⟩
   ·obtain⟨n',rfl⟩:∃n',n=n'+1:=⟨n-1,Ω⟩;simp only[gv,ao,aF,hU];rw[if_neg Ω,if_pos h];exact bM n' Ω
   ·rw[h.1 i,h.1 j];exact⟨Eq.symm,Eq.symm⟩
 have zL:∀(a:T) (j:Int),a.kind≠1->(∀n,gv (n+1) a (.var j) c=gv n (.var j) a c)->(∀n,gv (n+1) (.var j) a c=(rt c j).bind fun p=>if p.2.shd p.1=false then uK n p.1 a p.2 else gv n (p.2.shp p.1) a p.2)->j∈cn c.up->(∀w,a.occ w=true->w∈cn c.up)->((k3 j).size+(a.ap k3).size)*3<m->∃N o,(∀n,N<=n->gv n a (.var j) c=some o)/\jd c ρ (fun θ=>a.ap θ=θ j) o:=by intro a j J U al Gh a7 bt;obtain⟨N,o,ao,cU⟩:=rX j a J al Gh a7 bt;refine⟨N+1,o,fun n az=>?_,jd.congr (fun θ _=>⟨Eq.symm,Eq.symm⟩) cU⟩;obtain⟨n',rfl⟩:∃n',n=n'+1:=⟨n-1,Ω⟩;rw[U];exact ao n' Ω
 cases a with
 |var i=>
  have wc:i∈cn c.up:=a7 i (by simp[T.occ]);cases b with
  |var j=>exact CH i j wc (ab j (by simp[T.occ]))
  |_=>exact rX i _ (by simp[T.kind]) (fun n=>rfl) wc ab (by simp only[T.ap,ud]at hm⊢;omega)
 |pair bz a2=>
  cases b with
  |var j=>exact zL _ j (by simp[T.kind]) (fun n=>rfl) (fun n=>rfl) (ab j (by simp[T.occ])) a7 (by simp only[T.ap,ud]at hm⊢;omega)
  |pair cf b9=>
   have s7:∀p q:T,ud p q<=2:=fun p q=>by cases p<;>cases q<;>simp[ud]
   have ld:∀w,bz.occ w=true->w∈cn c.up:=fun w hw=>a7 w (by simp[T.occ,hw]);have pY:∀w,a2.occ w=true->w∈cn c.up:=fun w hw=>a7 w (by simp[T.occ,hw]);have lB:∀w,cf.occ w=true->w∈cn c.up:=fun w hw=>ab w (by simp[T.occ,hw]);have po:∀w,b9.occ w=true->w∈cn c.up:=fun w hw=>ab w (by simp[T.occ,hw]);simp only[T.ap,T.size,ud]at hm;have f1:=s7 bz cf;have f2:=s7 a2 b9;obtain⟨hG,gU,ao,cU⟩:=zR _ (by rw[<-hm];omega) c ρ bz cf k3 hi uE ld lB c2 rfl;obtain⟨ahM,bT⟩:=gU;cases ahM with
   |false=>refine⟨hG+1,(false,bT),fun n az=>?_,cU.keys,cU.rest,(fun e=>by cases e),fun _ θ af he=>cU.no rfl θ af (by simp only[T.ap,T.pair.injEq]at he;exact he.1)⟩;obtain⟨n',rfl⟩:∃n',n=n'+1:=⟨n-1,Ω⟩;simp only[gv,ao n' Ω,hU,gF,if_false]
   |true=>
    obtain⟨lr,aZ,bm,bP⟩:=cU.yes rfl;simp only at aZ bm bP;have xF:cn bT.up=cn c.up:=cU.keys;have CA:∃je gJ,(∀n,je<=n->gv n a2 b9 bT=some gJ)/\jd bT lr (fun θ=>a2.ap θ=b9.ap θ) gJ:=by
     rcases bP with⟨rfl,bP⟩|bP
     ·exact zR _ (by rw[<-hm];omega) bT lr a2 b9 k3 aZ (by rw[bP];exact uE) (by rw[xF];exact pY) (by rw[xF];exact po) (by unfold iC;rw[xF,bP];exact c2) rfl
     ·exact Tl bT lr aZ Ω a2 b9 (by rw[xF];exact pY) (by rw[xF];exact po)
    obtain⟨je,gJ,aF,dq⟩:=CA;refine⟨max hG je+1,gJ,fun n az=>?_,dq.keys.trans xF,?_,fun aO=>?_,fun aO θ af he=>?_⟩
    ·obtain⟨n',rfl⟩:∃n',n=n'+1:=⟨n-1,Ω⟩;simp only[gv,ao n' Ω,hU,if_true];exact aF n' Ω
    ·rw[dq.rest.1,dq.rest.2.1,dq.rest.2.2];exact cU.rest
    ·obtain⟨ρ2,s1,s2,s3⟩:=dq.yes aO;refine⟨ρ2,s1,fun θ=>?_,?_⟩
     ·rw[s2 θ,bm θ];simp only[T.ap,T.pair.injEq,and_assoc]
     ·rcases bP with⟨rfl,bP⟩|bP
      ·rcases s3 with⟨rfl,s3⟩|s3
       ·exact .inl ⟨rfl,s3.trans bP⟩
       ·have:iC bT lr=iC c lr:=by unfold iC;rw[xF,bP]
        exact .inr Ω
      ·rcases s3 with⟨rfl,s3⟩|s3
       ·have:iC gJ.2 ρ2=iC bT ρ2:=by unfold iC;rw[dq.keys,s3]
        exact .inr Ω
       ·exact .inr Ω
    ·simp only[T.ap,T.pair.injEq]at he;exact dq.no aO θ ((bm θ).2 ⟨af,he.1⟩) he.2
  |_=>exact Sj (fun n=>rfl) (fun θ=>by simp[T.ap]) Ψ
 |_=>
  cases b with
  |var j=>exact zL _ j (by simp[T.kind]) (fun n=>rfl) (fun n=>rfl) (ab j (by simp[T.occ])) a7 (by simp only[T.ap,ud]at hm⊢;omega)
  |_=>first|exact ae9 (fun n=>rfl) (fun θ=>rfl) (fun θ=>rfl)|exact Sj (fun n=>rfl) (fun θ=>by simp[T.ap]) Ψ
end
section
open Go
def yJ(rec:Int->bs->Option (Bool×bs))(v:Int)(a:bs×Bool):Option (bs×Bool):=if a.2=true then(rt a.1 v).bind fun p=>(rec p.1 p.2).map fun q=>(q.2,q.1)else some a
def yB(v:Int)(c:bs):Option (Int×bs):=(rt c v).map fun p=>(p.2.sz p.1,p.2)
def bs.grey(c:bs)(x:Int):bs:={c with color:=eU x 1 c.color,size:=eU x 1 c.size}
def bs.black(c:bs)(x:Int):bs:={c with color:=eU x 2 c.color}
def qn:Nat->Int->bs->Option (Bool×bs)
 |0,_,_=>none
 |n+1,x,c=>if c.col x=2 then some (true,c)else if c.col x=1 then some (false,c)else
   if(c.grey x).shd x=false then some (true,(c.grey x).black x)else
   (((c.grey x).shp x).foldO (yJ (qn n)) (c.grey x,true)).bind fun a=>if a.2=false then some (false,a.1)else
   (((a.1.shp x).sizeO yB a.1).map fun p=>(true,{p.2 with size:=eU x p.1 p.2.size}.black x))
def Bb(rec:Int->bs->Option (T×bs))(v:Int)(c:bs):Option (T×bs):=(rt c v).bind fun p=>rec p.1 p.2
def qm:Nat->Int->bs->Option (T×bs)
 |0,_,_=>none
 |n+1,x,c=>match tg x c.full with
  |some t=>some (t,c)
  |none=>if c.shd x=false then some (.var x,{c with full:=eU x (.var x) c.full})else
   ((c.shp x).mapO (Bb (qm n)) c).map fun p=>(p.1,{p.2 with full:=eU x p.1 p.2.full})
def sk(n:Nat):List Int->bs->List Int->Option (Option (List Int)×bs)
 |[],c,out=>some (some out,c)
 |v::ba,c,out=>(rt c v).bind fun p=>(qn n p.1 p.2).bind fun q=>if q.1=false then some (none,q.2)else
   if p.1=v/\q.2.shd p.1=false then sk n ba q.2 out else
   if 5000<q.2.sz p.1\/400<out.length+1 then some (none,q.2)else sk n ba q.2 (out++[v])
def yD(n:Nat):List Int->bs->Option (List ak×bs)
 |[],c=>some ([],c)
 |v::ba,c=>(rt c v).bind fun p=>(qm n p.1 p.2).bind fun q=>(yD n ba q.2).map fun r=>(⟨v,q.1⟩::r.1,r.2)
def DT(n:Nat)(ba:List Int)(c:bs):Option (Option (List ak)):=(sk n ba c []).bind fun a=>match a.1 with
 |none=>some none
 |some out=>(yD n out a.2).map fun r=>some r.1
def pU(n:Nat):List (T×T)->bs->Option (Bool×bs)
 |[],c=>some (true,c)
 |e::es,c=>(Ab e.1 c).bind fun bT=>(Ab e.2 bT).bind fun cv=>(gv n e.1 e.2 cv).bind fun p=>if p.1=true then pU n es p.2 else some (false,p.2)
theorem lU.rank{c:bs}{ρ:Int->Int}(h:lU c ρ):∃r:Int->Nat,∀z u,jc c.ph ρ z u->r u<r z:=by
 obtain⟨θ,fS⟩:=h.sat
 exact⟨fun z=>(θ z).size,fun z u he=>Hy h.sh fS he⟩
structure tQ (V:List Int) (ph:Int->Option T) (ρ:Int->Int) (c:bs):Prop where
 ru:jG c.up ρ
 keys:cn c.up=V
 ph:c.ph=ph
theorem tQ.sm{V:List Int}{ph:Int->Option T}{ρ:Int->Int}{c cl:bs}(h:tQ V ph ρ c)(k:iN ρ c cl):tQ V ph ρ cl:=⟨k.ru,k.keys.trans h.keys,k.ph.trans h.ph⟩
def cut(n:Nat):Int:=if 5001<(n:Int)then 5001 else n
section
variable {V:List Int} {ph:Int->Option T} {ρ:Int->Int} {r:Int->Nat}
theorem alj(Ed:Int->T):∀(t:T) (c:bs),tQ V ph ρ c->(∀w,t.occ w=true->w∈V/\c.sz (ρ w)=cut (Ed w).size)->∃cl,t.sizeO yB c=some (cut (t.ap Ed).size,cl)/\iN ρ c cl:=by
 intro t;induction t with
 |var v=>
  intro c h aI;obtain⟨av,bk⟩:=aI v (by simp[T.occ]);obtain⟨bT,J,U⟩:=tF h.ru (by rw[h.keys];exact av:v∈cn c.up);refine⟨bT,?_,U⟩;have:bT.sz (ρ v)=cut (Ed v).size:=by rw[<-bk,U.eq];rfl
  simp only[T.sizeO,yB,J,nE,this,T.ap,dy,jE,and_true];unfold cut;split<;>omega
 |pair a b dB dC=>
  intro c h aI;obtain⟨bT,J,aX⟩:=dB c h fun w hw=>aI w (by simp[T.occ,hw]);obtain⟨cv,U,bg⟩:=dC bT (h.sm aX) fun w hw=>⟨(aI w (by simp[T.occ,hw])).1,by rw[<-(aI w (by simp[T.occ,hw])).2,aX.eq];rfl⟩;have ab:=T.size_pos (b.ap Ed);simp only[T.sizeO,J,hU,T.ap,T.size];by_cases aq:5000<cut (a.ap Ed).size
  ·rw[if_pos aq];refine⟨bT,?_,aX⟩;simp only[dy,jE,and_true];unfold cut at aq⊢;split at aq<;>split<;>(try split)<;>omega
  ·rw[if_neg aq,U];refine⟨cv,?_,aX.trans bg⟩;simp only[nE,dy,jE,and_true];unfold cut at aq⊢;split at aq<;>(repeat' split)<;>omega
 |_=>intro c h aI;exact⟨c,by simp[T.sizeO,T.ap,T.size,cut],iN.refl h.ru⟩
structure qx (V:List Int) (ph:Int->Option T) (ρ:Int->Int) (r:Int->Nat) (d:Nat) (c:bs):Prop where
 fin:tQ V ph ρ c
 col:∀z,r z<d->c.col z=0\/(c.col z=2/\c.sz z=cut (gQ ph ρ r z).size)
structure mW (ph:Int->Option T) (ρ:Int->Int) (r:Int->Nat) (d:Nat) (c cl:bs):Prop where
 full:cl.full=c.full
 hi:∀z,d<=r z->cl.col z=c.col z/\cl.sz z=c.sz z
 lo:∀z,c.col z=2->cl.col z=2/\cl.sz z=c.sz z
theorem mW.refl{c:bs}{d:Nat}:mW ph ρ r d c c:=⟨rfl,fun _ _=>⟨rfl,rfl⟩,fun _ h=>⟨h,rfl⟩⟩
theorem mW.trans{a b c:bs}{d:Nat}(h:mW ph ρ r d a b)(k:mW ph ρ r d b c):mW ph ρ r d a c:=⟨k.full.trans h.full,fun z bk=>⟨(k.hi z bk).1.trans (h.hi z bk).1,(k.hi z bk).2.trans (h.hi z bk).2⟩,fun z bk=>⟨(k.lo z (h.lo z bk).1).1,(k.lo z (h.lo z bk).1).2.trans (h.lo z bk).2⟩⟩
theorem mW.mono{a b:bs}{d cp:Nat}(aG:d<=cp)(h:mW ph ρ r d a b):mW ph ρ r cp a b:=⟨h.full,fun z bk=>h.hi z Ω,h.lo⟩
theorem mW.sm{c cl:bs}{d:Nat}(k:iN ρ c cl):mW ph ρ r d c cl:=by
 have ao:∀z,cl.col z=c.col z:=fun z=>by rw[k.eq];rfl
 have aF:∀z,cl.sz z=c.sz z:=fun z=>by rw[k.eq];rfl
 exact⟨k.rest.2.2,fun z _=>⟨ao z,aF z⟩,fun z h=>⟨by rw[ao];exact h,aF z⟩⟩
theorem qx.sm{c cl:bs}{d:Nat}(h:qx V ph ρ r d c)(k:iN ρ c cl):qx V ph ρ r d cl:=by
 have ao:∀z,cl.col z=c.col z:=fun z=>by rw[k.eq];rfl
 have aF:∀z,cl.sz z=c.sz z:=fun z=>by rw[k.eq];rfl
 exact⟨h.fin.sm k,fun z bk=>by rw[ao,aF];exact h.col z bk⟩
theorem am8(gA:oq V ph)(eX:∀v,ρ (ρ v)=ρ v)(aK:∀z u,jc ph ρ z u->r u<r z)(d:Nat):∀(x:Int) (c:bs),r x<d->ρ x=x->x∈V->qx V ph ρ r d c->
  ∃N cl,(∀n,N<=n->qn n x c=some (true,cl))/\qx V ph ρ r d cl/\mW ph ρ r (r x+1) c cl/\cl.col x=2/\cl.sz x=cut (gQ ph ρ r x).size:=by
 induction d using pO with
 |ind d bO=>
 intro x c aG ae gx hw;rcases hw.col x aG with bA|⟨U,al⟩;rotate_left
 ·refine⟨1,c,fun n az=>?_,hw,mW.refl,U,al⟩;obtain⟨n',rfl⟩:∃n',n=n'+1:=⟨n-1,Ω⟩;simp only[qn,if_pos U]
 have xu:∀z,(c.grey x).col z=if z=x then 1 else c.col z:=fun z=>by simp only[bs.grey,bs.col,nA];split<;>rfl
 have BX:∀z,(c.grey x).sz z=if z=x then 1 else c.sz z:=fun z=>by simp only[bs.grey,bs.sz,nA];split<;>rfl
 have zk:tQ V ph ρ (c.grey x):=⟨hw.fin.ru,hw.fin.keys,hw.fin.ph⟩;have afX:qx V ph ρ r (r x) (c.grey x):=⟨zk,fun z bk=>by
  have cF:z≠x:=fun e=>by subst e;omega
  rw[xu,BX,if_neg cF,if_neg cF];exact hw.col z Ω⟩
 have Cq:¬c.col x=2:=Ω
 have rS:¬c.col x=1:=Ω
 have fk:∀(e:bs) (z:Int),(e.black x).col z=(if z=x then 2 else e.col z):=fun e z=>by simp only[bs.black,bs.col,nA];split<;>rfl
 by_cases af:(c.grey x).shd x=false
 ·have jy:ph x=none:=by rw[<-zk.ph];exact Ax af
  have aW:gQ ph ρ r x= .var x:=by rw[BW (by rw[ae];exact jy),ae]
  have ee:∀z,((c.grey x).black x).sz z=if z=x then 1 else c.sz z:=BX
  refine⟨1,(c.grey x).black x,fun n az=>?_,⟨⟨zk.ru,zk.keys,zk.ph⟩,fun z bk=>?_⟩,⟨rfl,fun z bk=>?_,fun z bk=>?_⟩,?_,?_⟩
  ·obtain⟨n',rfl⟩:∃n',n=n'+1:=⟨n-1,Ω⟩;simp only[qn,if_neg Cq,if_neg rS,if_pos af]
  ·rw[fk,ee,xu];by_cases e:z=x
   ·subst e;simp only[if_true,aW];exact .inr ⟨trivial,by simp[T.size,cut]⟩
   ·simp only[if_neg e];exact hw.col z bk
  ·have e:z≠x:=fun e=>by subst e;omega
   rw[fk,ee,xu];simp only[if_neg e];exact⟨trivial,trivial⟩
  ·have e:z≠x:=fun e=>by subst e;omega
   rw[fk,ee,xu];simp only[if_neg e];exact⟨bk,trivial⟩
  ·rw[fk,if_pos rfl]
  ·rw[ee,if_pos rfl,aW];simp[T.size,cut]
 ·have jy:ph x=some ((c.grey x).shp x):=by rw[<-zk.ph];exact Ay af
  obtain⟨g1,g2,g3⟩:=gA _ _ jy;have aeS:∀(t:T) (e:bs),(∀w,t.occ w=true->((c.grey x).shp x).occ w=true)->qx V ph ρ r (r x) e->∃N fL,(∀n,N<=n->t.foldO (yJ (qn n)) (e,true)=some (fL,true))/\qx V ph ρ r (r x) fL/\mW ph ρ r (r x) e fL/\∀w,t.occ w=true->fL.col (ρ w)=2/\fL.sz (ρ w)=cut (gQ ph ρ r w).size:=by
   intro t;induction t with
   |var v=>intro e l6 he;have av:=g2 v (l6 v (by simp[T.occ]));have vQ:r (ρ v)<r x:=aK x (ρ v) ⟨ae,_,v,jy,l6 v (by simp[T.occ]),rfl⟩;obtain⟨ao,aZ,aX⟩:=tF he.fin.ru (by rw[he.fin.keys];exact av:v∈cn e.up);obtain⟨N,aF,bm,dU,dq,cv,s2⟩:=bO (r x) aG (ρ v) ao vQ (eX v) (by rw[<-he.fin.keys];exact(he.fin.ru.mem (by rw[he.fin.keys];exact av)).1) (he.sm aX);refine⟨N,aF,fun n az=>by simp[T.foldO,yJ,aZ,bm n az],dU,(mW.sm aX).trans (dq.mono Ω),fun w hw=>?_⟩;simp[T.occ]at hw;subst hw;exact⟨cv,by rw[s2,<-zl eX]⟩
   |pair a b dB dC=>
    intro e l6 he;obtain⟨hG,ao,aZ,fZ,cU,s1⟩:=dB e (fun w hw=>l6 w (by simp[T.occ,hw])) he;obtain⟨je,aF,bm,dU,dq,s2⟩:=dC ao (fun w hw=>l6 w (by simp[T.occ,hw])) fZ;refine⟨max hG je,aF,fun n az=>by simp only[T.foldO];rw[aZ n Ω];exact bm n Ω,dU,cU.trans dq,fun w hw=>?_⟩;simp only[T.occ,ls]at hw;rcases hw with hw|hw
    ·obtain⟨k2,z2⟩:=s1 w hw;exact⟨(dq.lo _ k2).1,by rw[(dq.lo _ k2).2];exact z2⟩
    ·exact s2 w hw
   |_=>intro e _ he;exact⟨0,e,fun n _=>rfl,he,mW.refl,fun w hw=>by simp[T.occ]at hw⟩
  obtain⟨N,e,aZ,fZ,cU,s1⟩:=aeS ((c.grey x).shp x) (c.grey x) (fun w h=>h) afX;have afH:e.shp x=(c.grey x).shp x:=by
   have J:e.ph x=some ((c.grey x).shp x):=by rw[fZ.fin.ph];exact jy
   unfold bs.ph at J;split at J
   ·exact gu J
   ·cases J
  obtain⟨aF,bm,bg⟩:=alj (V:=V) (ph:=ph) (ρ:=ρ) (gQ ph ρ r) ((c.grey x).shp x) e fZ.fin (fun w hw=>⟨g2 w hw,(s1 w hw).2⟩);have nl:gQ ph ρ r x=((c.grey x).shp x).ap (gQ ph ρ r):=zm eX aK (by rw[ae];exact jy);have FN:=cU.trans (mW.sm (ph:=ph) (r:=r) (d:=r x) bg);have dU:=fZ.sm bg;let bM:bs:={aF with size:=eU x (cut (gQ ph ρ r x).size) aF.size}.black x
  have dj:∀z,bM.col z=if z=x then 2 else aF.col z:=fun z=>fk _ z
  have s3:∀z,bM.sz z=if z=x then cut (gQ ph ρ r x).size else aF.sz z:=fun z=>by show(tg z (eU x _ aF.size)).getD 0=_;rw[nA];split<;>rfl
  refine⟨N+1,bM,fun n az=>?_,⟨⟨dU.fin.ru,dU.fin.keys,dU.fin.ph⟩,fun z bk=>?_⟩,⟨FN.full,fun z bk=>?_,fun z bk=>?_⟩,by rw[dj,if_pos rfl],by rw[s3,if_pos rfl]⟩
  ·obtain⟨n',rfl⟩:∃n',n=n'+1:=⟨n-1,Ω⟩;simp only[qn,if_neg Cq,if_neg rS,if_neg af,aZ n' Ω,hU,Bool.true_eq_false,if_false,afH,bm,nE,nl,bM]
  ·rw[dj,s3];by_cases nN:z=x
   ·subst nN;simp only[if_true];exact .inr ⟨trivial,trivial⟩
   ·simp only[if_neg nN];by_cases bt:r z<r x
    ·exact dU.col z bt
    ·obtain⟨bz,a2⟩:=FN.hi z Ω;rw[bz,a2,xu,BX,if_neg nN,if_neg nN];exact hw.col z bk
  ·have nN:z≠x:=fun e=>by subst e;omega
   obtain⟨bz,a2⟩:=FN.hi z Ω;rw[dj,s3,if_neg nN,if_neg nN,bz,a2,xu,BX,if_neg nN,if_neg nN];exact⟨rfl,rfl⟩
  ·have nN:z≠x:=fun e=>by subst e;omega
   obtain⟨bz,a2⟩:=FN.lo z (by rw[xu,if_neg nN];exact bk);rw[dj,s3,if_neg nN,if_neg nN,bz,a2,BX,if_neg nN];exact⟨rfl,rfl⟩
structure rk (V:List Int) (ph:Int->Option T) (ρ:Int->Int) (r:Int->Nat) (c:bs):Prop where
 fin:tQ V ph ρ c
 full:∀x t,tg x c.full=some t->t=gQ ph ρ r x
theorem rk.sm{c cl:bs}(h:rk V ph ρ r c)(k:iN ρ c cl):rk V ph ρ r cl:=⟨h.fin.sm k,by rw[k.rest.2.2];exact h.full⟩
theorem am6(gA:oq V ph)(eX:∀v,ρ (ρ v)=ρ v)(aK:∀z u,jc ph ρ z u->r u<r z)(d:Nat):∀(x:Int) (c:bs),r x<d->ρ x=x->x∈V->rk V ph ρ r c->
  ∃N cl,(∀n,N<=n->qm n x c=some (gQ ph ρ r x,cl))/\rk V ph ρ r cl:=by
 induction d with
 |zero=>intro x c h;omega
 |succ d bO=>
 intro x c aG ae gx av;cases aO:tg x c.full with
 |some t=>refine⟨1,c,fun n az=>?_,av⟩;obtain⟨n',rfl⟩:∃n',n=n'+1:=⟨n-1,Ω⟩;simp only[qm,aO,av.full x t aO]
 |none=>
  have S1:∀(e:bs),rk V ph ρ r e->rk V ph ρ r {e with full:=eU x (gQ ph ρ r x) e.full}:=fun e he=>⟨⟨he.fin.ru,he.fin.keys,he.fin.ph⟩,fun z t bk=>by
   have r3:tg z (eU x (gQ ph ρ r x) e.full)=some t:=bk;rw[nA]at r3;split at r3
   ·rename_i e;subst e;cases r3;rfl
   ·exact he.full z t r3⟩
  by_cases af:c.shd x=false
  ·have jy:ph x=none:=by rw[<-av.fin.ph];exact Ax af
   have aW:gQ ph ρ r x= .var x:=by rw[BW (by rw[ae];exact jy),ae]
   refine⟨1,_,fun n az=>?_,S1 c av⟩;obtain⟨n',rfl⟩:∃n',n=n'+1:=⟨n-1,Ω⟩;simp only[qm,aO,if_pos af,aW]
  ·have jy:ph x=some (c.shp x):=by rw[<-av.fin.ph];exact Ay af
   obtain⟨g1,g2,g3⟩:=gA _ _ jy;have afd:∀(t:T) (e:bs),(∀w,t.occ w=true->(c.shp x).occ w=true)->rk V ph ρ r e->∃N fL,(∀n,N<=n->t.mapO (Bb (qm n)) e=some (t.ap (gQ ph ρ r),fL))/\rk V ph ρ r fL:=by
    intro t;induction t with
    |var v=>intro e l6 he;have vW:=g2 v (l6 v (by simp[T.occ]));have vQ:r (ρ v)<r x:=aK x (ρ v) ⟨ae,_,v,jy,l6 v (by simp[T.occ]),rfl⟩;obtain⟨ao,aZ,aX⟩:=tF he.fin.ru (by rw[he.fin.keys];exact vW:v∈cn e.up);obtain⟨N,aF,bm,dU⟩:=bO (ρ v) ao Ω (eX v) (by rw[<-he.fin.keys];exact(he.fin.ru.mem (by rw[he.fin.keys];exact vW)).1) (he.sm aX);exact⟨N,aF,fun n az=>by simp only[T.mapO,Bb,aZ,hU,bm n az,T.ap];rw[<-zl eX],dU⟩
    |pair a b dB dC=>intro e l6 he;obtain⟨hG,ao,aZ,fZ⟩:=dB e (fun w hw=>l6 w (by simp[T.occ,hw])) he;obtain⟨je,aF,bm,dU⟩:=dC ao (fun w hw=>l6 w (by simp[T.occ,hw])) fZ;exact⟨max hG je,aF,fun n az=>by simp only[T.mapO,aZ n Ω,hU,bm n Ω,nE,T.ap],dU⟩
    |_=>intro e _ he;exact⟨0,e,fun n _=>rfl,he⟩
   obtain⟨N,e,aZ,fZ⟩:=afd (c.shp x) c (fun w h=>h) av;have nl:gQ ph ρ r x=(c.shp x).ap (gQ ph ρ r):=zm eX aK (by rw[ae];exact jy);refine⟨N+1,_,fun n az=>?_,S1 e fZ⟩;obtain⟨n',rfl⟩:∃n',n=n'+1:=⟨n-1,Ω⟩;simp only[qm,aO,if_neg af,aZ n' Ω,nE,nl]
def nM(ph:Int->Option T)(ρ:Int->Int)(v:Int):Bool:= !(decide (ρ v=v)&&(ph v).isNone)
theorem aln(gA:oq V ph)(eX:∀v,ρ (ρ v)=ρ v)(aK:∀z u,jc ph ρ z u->r u<r z)(jI:∀v∈V,ρ v∈V):∀(ba:List Int) (c:bs) (out:List Int),(∀v∈ba,v∈V)->(∀d,qx V ph ρ r d c)->out.length<=400->(∀v∈out,(gQ ph ρ r v).size<=5000)->
  ∃N cl o,(∀n,N<=n->sk n ba c out=some (o,cl))/\tQ V ph ρ cl/\cl.full=c.full/\(∀l,o=some l->l=out++ba.filter (nM ph ρ)/\l.length<=400/\∀v∈l,(gQ ph ρ r v).size<=5000)/\(o=none->¬((out++ba.filter (nM ph ρ)).length<=400/\∀v∈out++ba.filter (nM ph ρ),(gQ ph ρ r v).size<=5000)):=by
 intro ba;induction ba with
 |nil=>intro c out _ hw J U;exact⟨0,c,some out,fun n _=>rfl,(hw 0).fin,rfl,fun l e=>by cases e;simp;exact⟨J,U⟩,fun e=>by cases e⟩
 |cons v ba bO=>
  intro c out av hw J U;have vW:=av v Ψ;obtain⟨bT,aZ,aX⟩:=tF (hw 0).fin.ru (by rw[(hw 0).fin.keys];exact vW:v∈cn c.up);have FZ:∀d,qx V ph ρ r d bT:=fun d=>(hw d).sm aX;obtain⟨hG,cv,bm,dU,dq,aF,s2⟩:=am8 gA eX aK (r (ρ v)+1) (ρ v) bT Ω (eX v) (jI v vW) (FZ _);have oJ:∀d,qx V ph ρ r d cv:=fun d=>⟨dU.fin,fun z bk=>by
   by_cases bt:r z<r (ρ v)+1
   ·exact dU.col z bt
   ·obtain⟨bz,a2⟩:=dq.hi z Ω;rw[bz,a2];exact(FZ d).col z bk⟩
  have J0:cv.full=c.full:=dq.full.trans aX.rest.2.2;have S8:(cv.shd (ρ v)=false)=((ph (ρ v)).isNone=true):=by rw[<-dU.fin.ph];unfold bs.ph;cases cv.shd (ρ v)<;>simp
  have jK:∀n,hG<=n->sk n (v::ba) c out=(if ρ v=v/\cv.shd (ρ v)=false then sk n ba cv out else if 5000<cv.sz (ρ v)\/400<out.length+1 then some (none,cv)else sk n ba cv (out++[v])):=fun n az=>by simp only[sk,aZ,hU,bm n az,Bool.true_eq_false,if_false]
  have zx:gQ ph ρ r (ρ v)=gQ ph ρ r v:=(zl eX v).symm;by_cases aq:ρ v=v/\cv.shd (ρ v)=false
  ·have ab:nM ph ρ v=false:=by have al:=aq.2;rw[S8]at al;rw[aq.1]at al;simp[nM,aq.1,al]
   obtain⟨je,dj,o,bP,f3,qk,HT,jl⟩:=bO cv out (fun w hw=>av w (by simp[hw])) oJ J U;refine⟨max hG je,dj,o,fun n az=>by rw[jK n Ω,if_pos aq];exact bP n Ω,f3,qk.trans J0,?_,?_⟩
   ·simp only[List.filter_cons,ab,gF,if_false];exact HT
   ·simp only[List.filter_cons,ab,gF,if_false];exact jl
  ·have ab:nM ph ρ v=true:=by
    cases e:nM ph ρ v with
    |true=>rfl
    |false=>simp only[nM,Bool.not_eq_false',ct,eF]at e;exact absurd ⟨e.1,by rw[S8,e.1];exact e.2⟩ aq
   by_cases au:5000<cv.sz (ρ v)\/400<out.length+1
   ·refine⟨hG,cv,none,fun n az=>by rw[jK n az,if_neg aq,if_pos au],dU.fin,J0,(fun l e=>by cases e),fun _=>?_⟩;simp only[List.filter_cons,ab,if_true];rintro⟨bz,a2⟩;rcases au with au|au
    ·rw[s2,zx]at au;have:=a2 v Ψ;unfold cut at au;split at au<;>omega
    ·simp at bz;omega
   ·have bk:(gQ ph ρ r v).size<=5000:=by have:¬5000<cv.sz (ρ v):=fun h=>au (.inl h);rw[s2,zx]at this;unfold cut at this;split at this<;>omega
    obtain⟨je,dj,o,bP,f3,qk,HT,jl⟩:=bO cv (out++[v]) (fun w hw=>av w (by simp[hw])) oJ d8 (fun w hw=>by
     rcases h9.1 hw with hw|hw
     ·exact U w hw
     ·simp at hw;subst hw;exact bk)
    refine⟨max hG je,dj,o,fun n az=>by rw[jK n Ω,if_neg aq,if_neg au];exact bP n Ω,f3,qk.trans J0,?_,?_⟩
    ·simp only[List.filter_cons,ab,if_true];simpa using HT
    ·simp only[List.filter_cons,ab,if_true];simpa using jl
theorem alo(gA:oq V ph)(eX:∀v,ρ (ρ v)=ρ v)(aK:∀z u,jc ph ρ z u->r u<r z)(jI:∀v∈V,ρ v∈V):∀(ba:List Int) (c:bs),(∀v∈ba,v∈V)->rk V ph ρ r c->∃N cl,∀n,N<=n->yD n ba c=some (ba.map fun v=>⟨v,gQ ph ρ r v⟩,cl):=by
 intro ba;induction ba with
 |nil=>intro c _ _;exact⟨0,c,fun n _=>rfl⟩
 |cons v ba bO=>intro c av hw;have vW:=av v Ψ;obtain⟨bT,aZ,aX⟩:=tF hw.fin.ru (by rw[hw.fin.keys];exact vW:v∈cn c.up);obtain⟨hG,cv,bm,dU⟩:=am6 gA eX aK (r (ρ v)+1) (ρ v) bT Ω (eX v) (jI v vW) (hw.sm aX);obtain⟨je,dj,bP⟩:=bO cv (fun w hw=>av w (by simp[hw])) dU;refine⟨max hG je,dj,fun n az=>?_⟩;simp only[yD,aZ,hU,bm n Ω,bP n Ω,nE,eO];rw[<-zl eX]
end
end
section
open Go
def bs.new:bs:=⟨[],[],[],[],[],[]⟩
def q7(l:List Int):List Int:=l.mergeSort fun x y=>decide (x<=y)
def AX(n:Nat)(E:List (T×T)):Option (Option (List ak)):=(pU n E bs.new).bind fun p=>if p.1=false then some none else DT n (q7 (cn p.2.up)) p.2
theorem DW(l:List Int):(q7 l).Perm l:=List.mergeSort_perm l _
theorem alD{l:List Int}(h:l.Nodup):(q7 l).Pairwise (· < ·):=by have J:(q7 l).Pairwise fun x y=>decide (x<=y)=true:=List.pairwise_mergeSort (fun a b c=>by simp;omega) (fun a b=>by simp;omega) l;have U:(q7 l).Pairwise (· ≠ ·):=List.nodup_iff_pairwise_ne.1 ((DW l).nodup_iff.2 h);exact(J.and U).imp fun h=>by simp at h;omega
structure Yg (c:bs) (ρ:Int->Int) (cl:bs) (US:Int->Prop):Prop where
 inv:lU cl ρ
 ph:cl.ph=c.ph
 nd:(cn cl.up).Nodup
 sub:∀v∈cn c.up,v∈cn cl.up
 occ:∀v,US v->v∈cn cl.up
 rest:cl.color=c.color/\cl.size=c.size/\cl.full=c.full
 new:∀v∈cn cl.up,v∈cn c.up\/US v
theorem Ur{ρ:Int->Int}(t:T):∀(c:bs),lU c ρ->(cn c.up).Nodup->(∀v,t.occ v=true->0<=v)->∃cl,Ab t c=some cl/\Yg c ρ cl fun v=>t.occ v=true:=by
 unfold Ab;induction t with
 |var v=>
  intro c hi az bA;by_cases av:v∈cn c.up
  ·obtain⟨bT,aZ,aX⟩:=tF hi.ru av;refine⟨bT,by simp[T.foldO,aZ],hi.sm aX,aX.ph,by rw[aX.keys];exact az,fun w hw=>by rw[aX.keys];exact hw,fun w hw=>?_,aX.rest,fun w hw=>.inl (by rw[aX.keys]at hw;exact hw)⟩;simp[T.occ]at hw;subst hw;rw[aX.keys];exact av
  ·obtain⟨aZ,bm,bP⟩:=akU hi.ru (bA v (by simp[T.occ])) av;refine⟨{c with up:=eU v v c.up},by simp only[T.foldO,aZ,nE],⟨bm,?_,hi.sat⟩,rfl,?_,fun w hw=>by rw[bP];simp[hw],fun w hw=>?_,⟨rfl,rfl,rfl⟩,fun w hw=>?_⟩
   ·intro x u ae;obtain⟨bz,a2,a3⟩:=hi.sh x u ae;refine⟨bz,fun w hw=>?_,?_⟩
    ·show w∈cn (eU v v c.up);rw[bP];simp[a2 w hw]
    ·show x∈cn (eU v v c.up);rw[bP];simp[a3]
   ·rw[bP];rw[List.nodup_append];exact⟨az,Ψ,fun a a7 b ab e=>by simp at ab;subst ab;subst e;exact av a7⟩
   ·simp[T.occ]at hw;subst hw;rw[bP];simp
   ·rw[bP]at hw;simp at hw;rcases hw with hw|rfl;exact .inl hw;exact .inr (by simp[T.occ])
 |pair a b dB dC=>
  intro c hi az bA;obtain⟨bT,aZ,m1⟩:=dB c hi az fun v av=>bA v (by simp[T.occ,av]);obtain⟨cv,bm,m2⟩:=dC bT m1.inv m1.nd fun v av=>bA v (by simp[T.occ,av]);refine⟨cv,by simp only[T.foldO,aZ,hU,bm],m2.inv,m2.ph.trans m1.ph,m2.nd,fun v av=>m2.sub v (m1.sub v av),fun v av=>?_,?_,fun v av=>?_⟩
  ·simp only[T.occ,ls]at av;rcases av with av|av
   ·exact m2.sub v (m1.occ v av)
   ·exact m2.occ v av
  ·rw[m2.rest.1,m2.rest.2.1,m2.rest.2.2];exact m1.rest
  ·rcases m2.new v av with h|h
   ·rcases m1.new v h with h|h
    ·exact .inl h
    ·exact .inr (by simp[T.occ,h])
   ·exact .inr (by simp[T.occ,h])
 |_=>intro c hi az bA;exact⟨c,rfl,hi,rfl,az,fun v av=>av,fun v av=>by simp[T.occ]at av,⟨rfl,rfl,rfl⟩,fun v av=>.inl av⟩
def LD(E:List (T×T)):Prop:= ∀e∈E,∀v,(e.1.occ v=true\/e.2.occ v=true)->0<=v
theorem BG:∀(E:List (T×T)) (c:bs) (ρ:Int->Int),lU c ρ->(cn c.up).Nodup->LD E->∃N o,(∀n,N<=n->pU n E c=some o)/\((o.2.color=c.color/\o.2.size=c.size/\o.2.full=c.full)/\∀v∈cn o.2.up,v∈cn c.up\/ ∃e∈E,e.1.occ v=true\/e.2.occ v=true)/\(o.1=true->∃ρ',lU o.2 ρ'/\(cn o.2.up).Nodup/\∀θ,kh o.2.ph ρ' θ↔kh c.ph ρ θ/\hY E θ)/\(o.1=false->∀θ,kh c.ph ρ θ->¬hY E θ):=by
 intro E;induction E with
 |nil=>intro c ρ hi az _;exact⟨0,(true,c),fun n _=>rfl,⟨⟨rfl,rfl,rfl⟩,fun v av=>.inl av⟩,fun _=>⟨ρ,hi,az,fun θ=>⟨fun h=>⟨h,DV θ⟩,fun h=>h.1⟩⟩,fun e=>by cases e⟩
 |cons e E bO=>
  intro c ρ hi az bA;obtain⟨bT,aZ,m1⟩:=Ur e.1 c hi az fun v av=>bA e Ψ v (.inl av);obtain⟨cv,bm,m2⟩:=Ur e.2 bT m1.inv m1.nd fun v av=>bA e Ψ v (.inr av);obtain⟨k3,uE⟩:=m2.inv.sat
  obtain⟨hG,gU,bP,iY⟩:=ZZ _ _ cv ρ e.1 e.2 k3 m2.inv uE (fun w hw=>m2.sub w (m1.occ w hw)) (fun w hw=>m2.occ w hw) rfl rfl;have jy:cv.ph=c.ph:=m2.ph.trans m1.ph;have mF:gU.2.color=c.color/\gU.2.size=c.size/\gU.2.full=c.full:=by rw[iY.rest.1,iY.rest.2.1,iY.rest.2.2,m2.rest.1,m2.rest.2.1,m2.rest.2.2];exact m1.rest
  have FF:∀v∈cn gU.2.up,v∈cn c.up\/e.1.occ v=true\/e.2.occ v=true:=fun v av=>by
   rw[iY.keys]at av;rcases m2.new v av with h|h
   ·rcases m1.new v h with h|h
    ·exact .inl h
    ·exact .inr (.inl h)
   ·exact .inr (.inr h)
  obtain⟨f,dj⟩:=gU;cases f with
  |false=>refine⟨hG,(false,dj),fun n az=>?_,⟨mF,fun v av=>(FF v av).imp id fun h=>⟨e,Ψ,h⟩⟩,(fun e=>by cases e),fun _ θ af he=>iY.no rfl θ (by rw[jy];exact af) (q5.1 he).1⟩;simp only[pU,aZ,bm,hU,bP n az,gF,if_false]
  |true=>
   obtain⟨lr,bz,a2,_⟩:=iY.yes rfl;simp only at bz a2;obtain⟨je,gJ,cf,b9,gb,tY⟩:=bO dj lr bz (by have:=iY.keys;simp only at this;rw[this];exact m2.nd) fun fL he=>bA fL (by simp[he]);refine⟨max hG je,gJ,fun n az=>?_,?_,fun aO=>?_,fun aO θ af he=>?_⟩
   ·simp only[pU,aZ,bm,hU,bP n Ω,if_true];exact cf n Ω
   ·refine⟨by rw[b9.1.1,b9.1.2.1,b9.1.2.2];exact mF,fun v av=>?_⟩;rcases b9.2 v av with h|⟨fL,J,U⟩
    ·exact(FF v h).imp id fun h=>⟨e,Ψ,h⟩
    ·exact .inr ⟨fL,by simp[J],U⟩
   ·obtain⟨ρ2,d1,d2,d3⟩:=gb aO;exact⟨ρ2,d1,d2,fun θ=>by rw[d3 θ,a2 θ,jy,q5,and_assoc]⟩
   ·exact tY aO θ ((a2 θ).2 ⟨by rw[jy];exact af,(q5.1 he).1⟩) (q5.1 he).2
theorem EA{ph:Int->Option T}{ρ:Int->Int}{v:Int}:nM ph ρ v=false↔ρ v=v/\ph v=none:=by simp[nM]
theorem RZ{ph:Int->Option T}{ρ:Int->Int}{r:Int->Nat}(eX:∀v,ρ (ρ v)=ρ v):∀(n:Nat) (v w:Int),(na ph ρ n v).occ w=true->(∀z u,jc ph ρ z u->r u<r z)->r (ρ v)<n->ρ w=w/\ph w=none
 |0,v,w,_,_,h=>Ω
 |n+1,v,w,h,aK,az=>by
  simp only[na]at h;cases e:ph (ρ v)with
  |none=>rw[e]at h;simp[T.occ]at h;subst h;exact⟨eX v,e⟩
  |some t=>rw[e]at h;obtain⟨u,J,U⟩:=Al.1 h;have:=aK (ρ v) (ρ u) ⟨eX v,t,u,e,J,rfl⟩;exact RZ eX n u w U aK Ω
section
variable {V:List Int} {ph:Int->Option T} {ρ:Int->Int} {r:Int->Nat}
def tG(ph:Int->Option T)(ρ:Int->Int)(r:Int->Nat)(V:List Int):List ak:=((q7 V).filter (nM ph ρ)).map fun v=>⟨v,gQ ph ρ r v⟩
theorem MU(az:V.Nodup):gN (tG ph ρ r V):=by unfold tG;rw[gN,List.pairwise_map];exact((alD az).filter _)
theorem WU(az:V.Nodup)(gA:oq V ph)(c8:∀v,v∉V->ρ v=v)(v:Int):dc (tG ph ρ r V) v=if nM ph ρ v then some (gQ ph ρ r v)else none:=by
 by_cases ab:nM ph ρ v=true
 ·rw[if_pos ab];have av:v∈V:=by
   refine Classical.byContradiction fun h=>?_;have J:=c8 v h;have U:ph v=none:=by cases e:ph v with
    |none=>rfl
    |some t=>exact absurd (gA v t e).2.2 h
   rw[EA.2 ⟨J,U⟩]at ab;cases ab
  have:(⟨v,gQ ph ρ r v⟩:ak)∈tG ph ρ r V:=ia.2 ⟨v,iA.2 ⟨(DW V).mem_iff.2 av,ab⟩,rfl⟩;exact rn (MU az) this
 ·rw[if_neg ab];refine vl.2 fun b fX e=>?_;obtain⟨u,J,rfl⟩:=ia.1 fX;simp only at e;subst e;exact ab (iA.1 J).2
theorem alq(az:V.Nodup)(gA:oq V ph)(c8:∀v,v∉V->ρ v=v)(eX:∀v,ρ (ρ v)=ρ v)(hle:∀v,ρ v<=v)(aK:∀z u,jc ph ρ z u->r u<r z):eI (tG ph ρ r V):=by
 refine⟨MU az,fun b ab w hw=>?_,fun b ab w hw=>?_⟩
 ·obtain⟨u,J,rfl⟩:=ia.1 ab;rw[WU az gA c8];have:=RZ eX _ u w hw aK Ω;rw[EA.2 this];rfl
 ·obtain⟨u,J,rfl⟩:=ia.1 ab;have po:=(iA.1 J).2;simp only at hw⊢;cases e:ph (ρ u)with
  |none=>
   rw[BW e]at hw;cases hw;have U:=hle u;have al:ρ u≠u:=fun h=>by rw[EA.2 ⟨h,by rw[h]at e;exact e⟩]at po;cases po
   omega
  |some t=>rw[zm eX aK e]at hw;have:=(gA _ _ e).1;cases t<;>simp[T.ap,T.kind]at hw this
theorem ad5(eX:∀v,ρ (ρ v)=ρ v)(aK:∀z u,jc ph ρ z u->r u<r z)(θ:Int->T):kh ph ρ θ↔∀v,θ v=(gQ ph ρ r v).ap θ:=by
 constructor
 ·intro h;have:∀(n:Nat) (v:Int),r (ρ v)<n->θ v=(gQ ph ρ r v).ap θ:=by
   intro n;induction n with
   |zero=>intro v h;omega
   |succ n bO=>
    intro v av;cases e:ph (ρ v)with
    |none=>rw[BW e];exact h.1 v
    |some t=>rw[zm eX aK e,xf,h.1 v,h.2 _ t (eX v) e];refine o5 fun w hw=>bO w ?_;have:=aK (ρ v) (ρ w) ⟨eX v,t,w,e,hw,rfl⟩;omega
  exact fun v=>this _ v (Nat.lt_succ_self _)
 ·intro h;refine⟨fun v=>by rw[h v,h (ρ v),<-zl eX],fun x t ae aI=>?_⟩;rw[h x,zm eX aK (by rw[ae];exact aI),xf];exact o5 fun w _=>(h w).symm
theorem alp(az:V.Nodup)(gA:oq V ph)(c8:∀v,v∉V->ρ v=v)(eX:∀v,ρ (ρ v)=ρ v)(aK:∀z u,jc ph ρ z u->r u<r z)(θ:Int->T):dS (tG ph ρ r V) θ↔kh ph ρ θ:=by
 rw[ad5 eX aK,MY (MU az)];refine forall_congr' fun v=>?_;rw[aY,WU az gA c8];cases e:nM ph ρ v with
 |true=>simp
 |false=>obtain⟨J,U⟩:=EA.1 e;rw[BW (by rw[J];exact U),J];simp
end
theorem aly(E:List (T×T))(bA:LD E):∃n o,AX n E=some o/\iO [] E o/\∀c,pU n E bs.new=some (true,c)->(cn c.up).Nodup/\(∀v∈cn c.up,∃e∈E,e.1.occ v=true\/e.2.occ v=true)/\c.size=[]:=by
 have hi:lU bs.new id:=⟨⟨fun v u h=>by simp[bs.new,tg]at h,fun v _=>rfl⟩,fun x t h=>by simp[bs.new,bs.ph,bs.shd,tg]at h,⟨.var,fun v=>rfl,fun x t _ h=>by simp[bs.new,bs.ph,bs.shd,tg]at h⟩⟩;have uq:∀θ,kh bs.new.ph id θ:=fun θ=>⟨fun v=>rfl,fun x t _ h=>by simp[bs.new,bs.ph,bs.shd,tg]at h⟩;obtain⟨hG,gU,aZ,cU,dq,iY⟩:=BG E bs.new id hi (by simp[bs.new,cn]) bA;obtain⟨cU,Vi⟩:=cU;obtain⟨f,c⟩:=gU;cases f with
 |false=>refine⟨hG,none,by simp[AX,aZ hG (eC _)],Es fun θ _ he=>iY rfl θ (uq θ) he,fun c h=>?_⟩;rw[aZ hG (eC _)]at h;cases h
 |true=>
  obtain⟨ρ,bz,a2,a3⟩:=dq rfl;simp only at bz a2 a3 cU Vi;have Sr:∀n,hG<=n->∀cl,pU n E bs.new=some (true,cl)->(cn cl.up).Nodup/\(∀v∈cn cl.up,∃e∈E,e.1.occ v=true\/e.2.occ v=true)/\cl.size=[]:=fun n az cl h=>by rw[aZ n az]at h;cases h;exact⟨a2,fun v av=>(Vi v av).resolve_left (by simp[bs.new,cn]),cU.2.1⟩
  obtain⟨r,aK⟩:=bz.rank;have eX:=bz.ru.idem;have jI:∀v∈cn c.up,ρ v∈cn c.up:=fun v av=>(bz.ru.mem av).1;have dF:tQ (cn c.up) c.ph ρ c:=⟨bz.ru,rfl,rfl⟩;have hw:∀d,qx (cn c.up) c.ph ρ r d c:=fun d=>⟨dF,fun z _=>.inl (by simp[bs.col,cU.1,bs.new,tg])⟩;obtain⟨je,cv,o,cf,b9,gb,tY,Oe⟩:=aln bz.sh eX aK jI (q7 (cn c.up)) c [] (fun v av=>(DW _).mem_iff.1 av) hw Ψ (fun v av=>by simp at av);have dE:=alq (r:=r) a2 bz.sh bz.ru.no eX bz.ru.le aK;have h4:∀θ,dS (tG c.ph ρ r (cn c.up)) θ↔dS [] θ/\hY E θ:=fun θ=>by rw[alp a2 bz.sh bz.ru.no eX aK,a3 θ];exact⟨fun h=>⟨fun b ab=>by simp at ab,h.2⟩,fun h=>⟨uq θ,h.2⟩⟩
  have St:fJ (tG c.ph ρ r (cn c.up))↔(([]++(q7 (cn c.up)).filter (nM c.ph ρ)).length<=400/\∀v∈[]++(q7 (cn c.up)).filter (nM c.ph ρ),(gQ c.ph ρ r v).size<=5000):=by unfold fJ tG;simp only[List.length_map,b3,ia,forall_exists_index,and_imp,forall_apply_eq_imp_iff₂]
  cases o with
  |none=>refine⟨max hG je,none,by simp[AX,aZ (max hG je) Ω,DT,cf (max hG je) Ω],?_,Sr _ Ω⟩;exact fun ah J U al=>Oe rfl (St.1 (Rl dE J (fun θ fS=>(h4 θ).2 (U θ fS)) al))
  |some l=>
   obtain⟨ao,aF,bM⟩:=tY l rfl;have afU:rk (cn c.up) c.ph ρ r cv:=⟨b9,fun x t h=>by rw[gb,cU.2.2]at h;simp[bs.new,tg]at h⟩;simp only[b3]at ao;obtain⟨yR,dj,d1⟩:=alo bz.sh eX aK jI l cv (fun v av=>by rw[ao]at av;exact(DW _).mem_iff.1 (iA.1 av).1) afU;refine⟨max (max hG je) yR,some (tG c.ph ρ r (cn c.up)),?_,⟨⟨dE,St.2 ?_⟩,h4⟩,Sr _ Ω⟩
   ·simp only[AX,aZ (max (max hG je) yR) Ω,hU,Bool.true_eq_false,if_false,DT,cf (max (max hG je) yR) Ω,d1 (max (max hG je) yR) Ω,nE];rw[ao];rfl
   ·rw[b3,<-ao];exact⟨aF,bM⟩
def fR(s:List ak):List (T×T):=s.map fun b=>(.var b.v,b.t)
theorem AW{s:List ak}{θ:Int->T}:hY (fR s) θ↔dS s θ:=by simp[hY,fR,dS,T.ap]
theorem Yp{s:List ak}{E:List (T×T)}{o:Option (List ak)}:iO [] (fR s++E) o↔iO s E o:=by
 have h:∀θ,(dS [] θ/\hY (fR s++E) θ)↔(dS s θ/\hY E θ):=fun θ=>by rw[DU,AW];exact⟨fun h=>h.2,fun h=>⟨fun b ab=>by simp at ab,h⟩⟩
 exact⟨yV h,yV fun θ=>(h θ).symm⟩
end
section
open Go
open Classical in
noncomputable def mgu(s:List ak)(E:List (T×T)):Option (List ak):=if h:∃o,iO s E o then h.choose else none
theorem pC{s:List ak}{E:List (T×T)}{o:Option (List ak)}(h:iO s E o):mgu s E=o:=by have ae:∃o,iO s E o:=⟨o,h⟩;unfold mgu;rw[dif_pos ae];exact Yq ae.choose_spec h
def j7(s:List ak):Prop:= ∀b∈s,(0<=b.v/\b.v<=100000)/\b.t.ok=true
theorem N7{θ:Int->T}{t:T}(aI:t.ok=true)(h:∀v,t.occ v=true->(θ v).ok=true):(t.ap θ).ok=true:=by
 induction t with
 |var n=>exact h n (by simp[T.occ])
 |pair a b dB dC=>simp only[T.ok,ct]at aI;simp only[T.ap,T.ok,ct];exact⟨dB aI.1 fun v av=>h v (by simp[T.occ,av]),dC aI.2 fun v av=>h v (by simp[T.occ,av])⟩
 |_=>exact aI
theorem wZ{t:T}(aI:t.ok=true){v:Int}(h:t.occ v=true):0<=v/\v<=100000:=by
 induction t with
 |var n=>simp[T.occ]at h;subst h;simpa[T.ok]using aI
 |pair a b dB dC=>
  simp only[T.ok,ct]at aI;simp only[T.occ,ls]at h;rcases h with h|h
  ·exact dB aI.1 h
  ·exact dC aI.2 h
 |_=>simp[T.occ]at h
theorem AT{s:List ak}(af:j7 s){t:T}(aI:t.ok=true):(t.ap (aY s)).ok=true:=N7 aI fun v av=>by
 unfold aY;cases e:dc s v with
 |none=>have:=wZ aI av;simpa[T.ok]using this
 |some x=>exact(af _ (jH e)).2
theorem Bt{s:List ak}(af:j7 s){v:Int}{t:T}(av:0<=v/\v<=100000)(aI:t.ok=true){ah:List ak}(h:nL s v t=some ah):j7 ah:=by
 unfold nL at h;split at h
 ·cases h;intro b ab;rcases qf.1 ab with rfl|⟨c,aq,rfl⟩
  ·exact⟨av,AT af aI⟩
  ·refine⟨(af c aq).1,N7 (af c aq).2 fun w hw=>?_⟩;unfold one;split
   ·exact AT af aI
   ·have:=wZ (af c aq).2 hw;simpa[T.ok]using this
 ·cases h
theorem XO{s:List ak}(af:j7 s){t:T}(aI:t.ok=true):(hk s t).ok=true:=by
 cases t with
 |var n=>have:=AT af aI;simpa[hk,T.ap]using this
 |_=>exact aI
theorem Nh:∀(n:Nat) (s:List ak) (a b:T) (ah:List ak),j7 s->a.ok=true->b.ok=true->kJ n s a b=some (some ah)->j7 ah
 |0,_,_,_,_,_,_,_,h=>by simp[kJ]at h
 |n+1,s,a,b,ah,af,a7,ab,h=>by
  have ae:=XO af a7;have aM:=XO af ab;simp only[kJ]at h;generalize hk s a=x at h ae;generalize hk s b=y at h aM;have rX:∀{i:Int},(T.var i).ok=true->0<=i/\i<=100000:=fun h=>wZ h (by simp[T.occ]);cases x with
  |var i=>
   cases y with
   |var j=>
    simp only[ka,dy]at h;split at h
    ·exact Bt af (rX aM) ae h
    ·split at h
     ·cases h;exact af
     ·exact Bt af (rX ae) aM h
   |_=>simp only[ka,dy]at h;exact Bt af (rX ae) aM h
  |pair bz a2=>
   cases y with
   |var j=>simp only[ka,dy]at h;exact Bt af (rX aM) ae h
   |pair cf b9=>
    simp only[T.ok,ct]at ae aM;simp only[ka]at h;split at h
    ·cases h
    ·cases h
    ·rename_i s1 ao;exact Nh n s1 a2 b9 ah (Nh n s bz cf s1 af ae.1 aM.1 ao) ae.2 aM.2 h
   |_=>simp[ka]at h
  |_=>
   cases y with
   |var j=>simp only[ka,dy]at h;exact Bt af (rX aM) ae h
   |_=>
    simp only[ka,dy]at h;split at h
    ·cases h;exact af
    ·cases h
def nC:T->List Int
 | .var n=>[n]
 | .pair a b=>nC a++nC b
 |_=>[]
theorem x6{t:T}{v:Int}(h:t.occ v=true):v∈nC t:=by
 induction t with
 |var n=>simp[T.occ]at h;subst h;simp[nC]
 |pair a b dB dC=>simp only[T.occ,ls]at h;simp only[nC,h9];exact h.imp dB dC
 |_=>simp[T.occ]at h
theorem HH{s:List ak}(af:eI s)(aO:fJ s)(a b:T):∃n o,kJ n s a b=some o/\iO s [(a,b)] o:=by obtain⟨n,o,J,U⟩:=Xi (s.flatMap (fun b=>b.v::nC b.t)++nC a++nC b) _ _ s a b af aO (fun c aq=>⟨by simp only[h9,List.mem_flatMap];exact .inl (.inl ⟨c,aq,Ψ⟩),fun w hw=>by simp only[h9,List.mem_flatMap];exact .inl (.inl ⟨c,aq,by simp[x6 hw]⟩)⟩) (fun w hw=>by simp[x6 hw]) (fun w hw=>by simp[x6 hw]) rfl rfl;exact⟨n,o,J,U.1⟩
theorem NT{s:List ak}{e:T×T}{E:List (T×T)}{s1:List ak}(h:iO s [e] (some s1)){o:Option (List ak)}(U:iO s1 E o):iO s (e::E) o:=H9 (E:=[e]) h U
theorem wq{s:List ak}(af:eI s)(aO:fJ s)(E:List (T×T)):iO s E (mgu s E):=by
 induction E generalizing s with
 |nil=>rw[pC (Ia af aO)];exact Ia af aO
 |cons e E bO=>
  obtain⟨n,o,_,U⟩:=HH af aO e.1 e.2;cases o with
  |none=>have al:iO s (e::E) none:=Et E U;rw[pC al];exact al
  |some s1=>have al:=NT U (bO U.1.1 U.1.2);rw[pC al];exact al
theorem Da{s:List ak}(af:eI s)(aO:fJ s):mgu s []=some s:=pC (Ia af aO)
theorem Ls{s:List ak}(af:eI s)(aO:fJ s)(e:T×T)(E:List (T×T)):mgu s (e::E)=match mgu s [e]with|some s1=>mgu s1 E|none=>none:=by
 have J:=wq af aO [e];cases h:mgu s [e]with
 |none=>rw[h]at J;have al:iO s (e::E) none:=Et E J;exact pC al
 |some s1=>rw[h]at J;exact pC (NT J (wq J.1.1 J.1.2 E))
theorem r9{s:List ak}(af:eI s)(aO:fJ s){E:List (T×T)}{ah:List ak}(h:mgu s E=some ah):eI ah/\fJ ah:=by have J:=wq af aO E;rw[h]at J;exact J.1
theorem ahn{s:List ak}(af:eI s)(aO:fJ s)(aw:j7 s){E:List (T×T)}(c6:∀e∈E,e.1.ok=true/\e.2.ok=true){ah:List ak}(h:mgu s E=some ah):j7 ah:=by
 induction E generalizing s with
 |nil=>rw[Da af aO]at h;cases h;exact aw
 |cons e E bO=>
  rw[Ls af aO]at h;split at h
  ·rename_i s1 J;obtain⟨n,o,U,al⟩:=HH af aO e.1 e.2;have a1:=pC al;rw[J]at a1;subst a1;exact bO al.1.1 al.1.2 (Nh n s e.1 e.2 s1 aw (c6 e Ψ).1 (c6 e Ψ).2 U) (fun fL he=>c6 fL (by simp[he])) h
  ·cases h
theorem TR{l:List Int}(az:l.Nodup)(h:∀v∈l,0<=v/\v<=100000):l.length<=100001:=by
 have J:(l.map Int.toNat).Nodup:=by rw[List.nodup_iff_pairwise_ne,List.pairwise_map];exact anm (fun{a b} a7 ab cF e=>cF (by have:=h a a7;have:=h b ab;omega)) az
 have:=Ef J (l₂:=List.range 100001) (fun x ae=>by obtain⟨v,av,rfl⟩:=ia.1 ae;have:=h v av;simp;omega)
 simpa using this
end
end Go.Pv
namespace Go.Proofs.YtohaalphocaebaaGreat
section
open Go Go.Pv
theorem M0(p:Nat->Bool)(n:Nat)(hm:∀k bN,k<=bN->bN<n->p k=true->p bN=true):∀(m i j:Nat),j-i<=m->i<=j->j<=n->(∀k,k<i->p k=false)->(∀k,j<=k->k<n->p k=true)->
  (i<=mg p i j/\mg p i j<=j)/\(∀k,k<mg p i j->p k=false)/\(∀k,mg p i j<=k->k<n->p k=true)
 |m,i,j,aG,lD,ag,J,U=>by
  rw[mg];split
  ·rename_i bt;obtain⟨m,rfl⟩:∃lL,m=lL+1:=⟨m-1,Ω⟩;split
   ·rename_i bL;have:=M0 p n hm m i ((i+j)/2) Ω Ω Ω J (fun k ad FF=>hm _ k ad FF bL);exact⟨⟨this.1.1,Ω⟩,this.2⟩
   ·rename_i bL;have:=M0 p n hm m ((i+j)/2+1) j Ω Ω ag (fun k ad=>by
     by_cases nR:p k=true
     ·exact absurd (hm k ((i+j)/2) Ω Ω nR) bL
     ·simpa using nR) U
    exact⟨⟨Ω,this.1.2⟩,this.2⟩
  ·obtain rfl:i=j:=Ω
   exact⟨⟨eC _,eC _⟩,J,U⟩
theorem LY{l:List ak}(af:gN l)(v:Int):se l v=dc l v:=by
 have bt:∀(i j:Nat) (x y:ak),i<j->l[i]? =some x->l[j]? =some y->x.v<y.v:=by intro i j x y lD ae aM;obtain⟨J,rfl⟩:=fp.1 ae;obtain⟨U,rfl⟩:=fp.1 aM;exact oX.1 af i j J U lD
 obtain⟨p,bL⟩:∃p:Nat->Bool,p=(fun i=>match l[i]? with|some b=>decide (v<=b.v)|none=>false):=⟨_,rfl⟩;have FO:∀i b,l[i]? =some b->p i=decide (v<=b.v):=fun i b ab=>by rw[bL];simp[ab]
 have hm:∀k bN,k<=bN->bN<l.length->p k=true->p bN=true:=by
  intro k bN ad nR h;have ao:l[k]? =some l[k]:=cr Ω;have aF:l[bN]? =some l[bN]:=cr nR;rw[FO k _ ao]at h;rw[FO bN _ aF];simp only[eF]at h⊢;rcases Nat.lt_or_eq_of_le ad with vM|rfl
  ·have:=bt k bN _ _ vM ao aF;omega
  ·exact h
 obtain⟨⟨_,hle⟩,hbef,haft⟩:=M0 p l.length hm l.length 0 l.length Ω Ω (eC _) (fun k ad=>Ω) (fun k J U=>Ω);have JY:nb l v=(match l[mg p 0 l.length]? with|some b=>if b.v=v then((mg p 0 l.length:Nat):Int)else-1|none=> -1):=by rw[bL];rfl
 generalize mg p 0 l.length=r at hle hbef haft JY;by_cases hex:∃(k:Nat) (b:ak),l[k]? =some b/\b.v=v
 ·obtain⟨k,b,ab,Sg⟩:=hex;have im:k<l.length:=(fp.1 ab).1;have gn:r<=k:=by
   rcases Nat.lt_or_ge k r with h|h
   ·have:=hbef k h;rw[FO k b ab]at this;simp at this;omega
   ·exact h
  have aK:l[r]? =some l[r]:=cr Ω;have zJ:=haft r (eC _) Ω;rw[FO r _ aK]at zJ;simp only[eF]at zJ;have afC:r=k:=by
   rcases Nat.lt_or_eq_of_le gn with h|h
   ·have:=bt r k _ _ h aK ab;omega
   ·exact h
  subst afC;have J1:nb l v=r:=by rw[JY,ab];simp[Sg]
  have J:se l v=some b.t:=by unfold se;rw[J1,if_neg Ω];simp[ab]
  have U:l.find? (fun b=>b.v==v)=some b:=by
   rw[List.find?_eq_some_iff_getElem];refine⟨by simp[Sg],r,im,?_,fun j ag=>?_⟩
   ·rw[cr im]at ab;simpa using ab
   ·have:=bt j r l[j] b ag (cr Ω) ab;simp;omega
  rw[J];simp[dc,U]
 ·have U:l.find? (fun b=>b.v==v)=none:=by rw[List.find?_eq_none];intro b ab;obtain⟨k,ad,rfl⟩:=List.mem_iff_getElem.1 ab;simp;intro e;exact hex ⟨k,l[k],cr ad,e⟩
  have J1:nb l v= -1:=by
   rw[JY];split
   ·rename_i b ab;rw[if_neg (fun e=>hex ⟨r,b,ab,e⟩)]
   ·rfl
  unfold se;rw[J1];simp[dc,U]
theorem Rr{l:List ak}(af:gN l)(v:Int):nb l v<0↔dc l v=none:=by
 rw[<-LY af v];unfold se;have J:=Rq l v;by_cases h:nb l v<0
 ·simp[h]
 ·simp only[h,if_false,false_iff];intro e;rw[Option.map_eq_none_iff,List.getElem?_eq_none_iff]at e;omega
def vu(s:List ak):Prop:= ∀b∈s,b.t.fit=true
theorem ac9{l:List ak}(af:gN l)(h:vu l)(v:Int):uj l v=(aY l v).size:=by
 unfold uj aY;rw[LY af];cases ab:dc l v with
 |none=>simp[T.size]
 |some x=>have:=h _ (jH ab);simp only[T.fit,ct,eF]at this;simp only[hV];rw[GB,if_pos ⟨this.1,Ω⟩]
theorem alk{l:List ak}(af:gN l)(h:vu l)(t:T):lj (uj l) t=cut (t.ap (aY l)).size:=by
 induction t with
 |var n=>simp only[lj,ac9 af h,T.ap];rfl
 |pair a b dB dC=>have ab:=T.size_pos (b.ap (aY l));simp only[lj,dB,dC,T.ap,T.size];unfold cut;(repeat' split)<;>omega
 |_=>simp[lj,T.ap,T.size,cut]
theorem aj3{l:List ak}(af:gN l)(h:vu l)(t:T):tC l t=decide ((t.ap (aY l)).size<=5000):=by unfold tC;rw[alk af h];unfold cut;split<;>simp<;>omega
theorem aj4{l:List ak}(af:gN l)(t:T):Dv l t=t.ap (aY l):=by unfold Dv;rw[W6];exact o5 fun v _=>by rw[LY af];rfl
theorem D5(l:List ak)(t:T)(au:l.length<=1000000)(af:gN l)(h:vu l):bZ ay 95 [.slice 5 .no (l.map ak.e),t.e] (.tuple [(if(t.ap (aY l)).size<=5000 then t.ap (aY l)else .nil).e,.bool (decide ((t.ap (aY l)).size<=5000))]):=by have:=amR l t au;rw[aj3 af h,aj4 af]at this;simpa using this
def Uk(l:List (Int×T)):List ai:=iv (l.map fun x=>(x.1,x.2.e))
@[simp]theorem ap6:Uk []=iv []:=rfl
@[simp]theorem aqB(l:List (Int×T)):hS (Uk l)=false:=rfl
def ak3(x:Int×T):Bool:= !(decide (x.2= .var x.1))
end
end Go.Proofs.YtohaalphocaebaaGreat
namespace Go.Proofs
section
open Go.Shelf
def Tryz.lays191_ren:Go.Shelf.Ren:=⟨fun|191=>242|189=>272|125=>209|257=>283|128=>258|129=>259|294=>286|295=>287|296=>288|297=>289|298=>290|299=>291|216=>292|300=>293|301=>294|328=>296|329=>297|330=>298|331=>299|332=>300|215=>301|343=>302|n=>n,fun|28=>112|0=>0|3=>3|46=>163|51=>254|53=>256|4=>4|183=>277|182=>276|131=>246|5=>5|9=>9|218=>282|222=>269|228=>285|229=>273|n=>n,fun|n=>n⟩
theorem Tryz.lays191:Go.Proofs.Lays.n191 ay Tryz.lays191_ren:={
 mixed:=by kernel_rfl
 f125:=Tryz.func209.trans (e4 some co)
 f128:=Tryz.func258.trans (e4 some co)
 f129:=Tryz.func259.trans (e4 some co)
 f189:=Tryz.func272.trans (e4 some co)
 f191:=Tryz.func242.trans (e4 some co)
 f215:=Tryz.func301.trans (e4 some co)
 f216:=Tryz.func292.trans (e4 some co)
 f257:=Tryz.func283.trans (e4 some co)
 f294:=Tryz.func286.trans (e4 some co)
 f295:=Tryz.func287.trans (e4 some co)
 f296:=Tryz.func288.trans (e4 some co)
 f297:=Tryz.func289.trans (e4 some co)
 f298:=Tryz.func290.trans (e4 some co)
 f299:=Tryz.func291.trans (e4 some co)
 f300:=Tryz.func293.trans (e4 some co)
 f301:=Tryz.func294.trans (e4 some co)
 f328:=Tryz.func296.trans (e4 some co)
 f329:=Tryz.func297.trans (e4 some co)
 f330:=Tryz.func298.trans (e4 some co)
 f331:=Tryz.func299.trans (e4 some co)
 f332:=Tryz.func300.trans (e4 some co)
 f343:=Tryz.func302.trans (e4 some co)
 t0:=Tryz.underlying0
 a0:=Tryz.isAgg0
 z0:=Tryz.sizeOf0
 v0:=Tryz.zeroValue0
 t3:=Tryz.underlying3
 a3:=Tryz.isAgg3
 z3:=Tryz.sizeOf3
 v3:=Tryz.zeroValue3
 t4:=Tryz.underlying4
 a4:=Tryz.isAgg4
 z4:=Tryz.sizeOf4
 v4:=Tryz.zeroValue4
 t5:=Tryz.underlying5
 a5:=Tryz.isAgg5
 z5:=Tryz.sizeOf5
 v5:=Tryz.zeroValue5
 t9:=Tryz.underlying9
 a9:=Tryz.isAgg9
 z9:=Tryz.sizeOf9
 v9:=Tryz.zeroValue9
 t28:=Tryz.underlying112
 a28:=Tryz.isAgg112
 z28:=Tryz.sizeOf112
 v28:=Tryz.zeroValue112
 t46:=Tryz.underlying163
 a46:=Tryz.isAgg163
 z46:=Tryz.sizeOf163
 v46:=Tryz.zeroValue163
 t51:=Tryz.underlying254
 a51:=Tryz.isAgg254
 z51:=Tryz.sizeOf254
 v51:=Tryz.zeroValue254
 t53:=Tryz.underlying256
 a53:=Tryz.isAgg256
 z53:=Tryz.sizeOf256
 v53:=Tryz.zeroValue256
 t131:=Tryz.underlying246
 a131:=Tryz.isAgg246
 z131:=Tryz.sizeOf246
 v131:=Tryz.zeroValue246
 t182:=Tryz.underlying276
 a182:=Tryz.isAgg276
 z182:=Tryz.sizeOf276
 v182:=Tryz.zeroValue276
 t183:=Tryz.underlying277
 a183:=Tryz.isAgg277
 z183:=Tryz.sizeOf277
 v183:=Tryz.zeroValue277
 t218:=Tryz.underlying282
 a218:=Tryz.isAgg282
 z218:=Tryz.sizeOf282
 v218:=Tryz.zeroValue282
 t222:=Tryz.underlying269
 a222:=Tryz.isAgg269
 z222:=Tryz.sizeOf269
 v222:=Tryz.zeroValue269
 t228:=Tryz.underlying285
 a228:=Tryz.isAgg285
 z228:=Tryz.sizeOf285
 v228:=Tryz.zeroValue285
 t229:=Tryz.underlying273
 a229:=Tryz.isAgg273
 z229:=Tryz.sizeOf273
 v229:=Tryz.zeroValue273}
end
end Go.Proofs

namespace Go.Proofs.YtohaalphocaebaaGreat
section
open Go Go.Pv
def dX(xs:List Int):List ai:=xs.map (ai.int .i64)
theorem Wx{w:World}{Z:bc}:∀{xs:List Int} {us:List Value},dx w Z 1 (dX xs) us->us=xs.map (Value.int .i64)
 |[],us,h=>by simpa[dX,dx]using h
 |x::xs,us,h=>by simp only[dX,eO,dx]at h;obtain⟨u,ch,rfl,⟨J,_,_⟩,U⟩:=h;simp only[bd]at J;subst J;rw[Wx U];rfl
theorem Tw(w:World)(Z:bc):∀xs:List Int,dx w Z 1 (dX xs) (xs.map (Value.int .i64))
 |[]=>by simp[dX,dx]
 |x::xs=>by simp only[dX,eO,dx];exact⟨.int .i64 x,_,rfl,⟨by simp[bd],rfl,by intro c aq;simp[oV]at aq;subst aq;rfl⟩,Tw w Z xs⟩
def mU(K:Nat)(xs:List Int):cM:=⟨[],[(.obj K,⟨xs.length,3,1,some (dX xs)⟩)]⟩
theorem tq(S:aL->Prop)(xs:List Int):aP S (dX xs):=by
 induction xs with
 |nil=>simp[dX,aP]
 |cons x r bO=>simp only[dX,eO,aP,aJ];exact⟨trivial,bO⟩
theorem H3(K:Nat)(xs:List Int):dN (mU K xs):=by unfold mU;refine dN.of ⟨by intro m;simp[Pv.look],by intro m;simp[Pv.look]⟩ Ψ ?_;intro x ae ys aM;simp at ae;subst ae;simp at aM;subst aM;exact tq _ xs
def mf(xs:List Int):List Int:=xs.mergeSort fun x y=>decide (x<=y)
theorem MZ(xs:List Int):(mf xs).length=xs.length:=List.length_mergeSort xs
theorem adU(K:Nat)(xs:List Int)(au:xs.length<=1000000):bJ ay 242 [.row 1 (.obj K) xs.length] (mU K xs) fun r ah=>r= .tuple []/\ah=mU K (mf xs):=by
 refine bJ.sem (H3 K xs).obj fun w Z ba kU aK=>?_;refine .inl ⟨⟨Tryz.f242,Tryz.func242,by kernel_rfl,by kernel_rfl⟩,?_⟩;have rV:=aK.slot 0;simp only[kq,Pv.get,if_true]at rV;have kS:Pv.look (.obj K) (mU K xs).e=some ⟨xs.length,3,1,some (dX xs)⟩:=by simp[mU,Pv.look]
 obtain⟨v,us,aZ,bm,bP,cP⟩:=aK.good.own (.obj K) _ kS;obtain⟨cZ,n1,uX⟩:=cP _ rfl;have qS:=Wx n1;subst qS;simp only[bd]at rV;obtain⟨⟨Br,Y1,rJ⟩,_,n',u,ao,aF,bM⟩:=rV;rw[aZ]at ao;simp only[dy,jE]at ao;obtain⟨rfl,rfl⟩:=ao;have av:=bM rfl;have afS:ba= #[v]:=by
  have J:ba.size=1:=by simpa using kU
  apply Array.ext (by simpa using J);intro i U al;simp at al;subst al;rw[<-av];simp[Array.getD,J]
 have cF:v≠ .slice none 0 0:=by rw[<-av,rJ];simp
 obtain⟨g,cap,rfl,_,qN,rN,aeT,Cg,B4⟩:=Lib.holds_of_ownsRow bm cF;have aq:=Any.sort_Ints Tryz.lays191 g 0 cap xs w B4 qN Ω;subst afS;refine aq.mono ?_;rintro e w' ⟨rfl,n,os,rfl⟩;have qQ:=MZ xs;have lF:=Lib.ownsRow_putRow (q:=n) (k:=xs.length) (ys:=mf xs) bm qQ (eC _);rw[hv Ω]at lF;obtain⟨cU,dq,_⟩:=aK.setRowM (w':=Sort.putRow (Value.int .i64) (Sort.ahead w n) g 0 (mf xs).toArray) kS rfl aZ (bl:=g) rfl (v':= .slice (some ⟨g,0,none⟩) xs.length cap) rfl (xs':=dX (mf xs)) (us:=(mf xs).map (Value.int .i64)) (.inl ⟨by simp[dX,qQ],rfl⟩) rfl rfl rfl
  (fun j ag=>by simp[Sort.putRow,Sort.mapBlock,Sort.ahead,Array.getElem?_modify,k5 ag]) (by simp[Sort.putRow,Sort.mapBlock,Sort.ahead]) (by simpa[dX,qQ]using lF) (Tw _ _ _)
 have iY:=cU.grown (w':=Sort.grow (Sort.putRow (Value.int .i64) (Sort.ahead w n) g 0 (mf xs).toArray) os) ⟨rfl,rfl,rfl,Ψ,fun k ad _=>Sort.heap_grow_old _ _ ad⟩;refine⟨_,_,_,_,.tuple [],mU K (mf xs),rfl,iY,by simp[bd,cR],by simp[mU,j0],?_,?_,?_,(H3 K _).obj,by simp[aJ,aP],rfl,rfl⟩
 ·simp[mU,j0,inObs,Pv.look]
 ·intro k cs ad;simp[mU,Pv.look]at ad
 ·intro k o ad;have hm:=ts ad;simp[mU]at hm;obtain⟨rfl,rfl⟩:=hm;refine⟨by simp[mU,Pv.look,cy,dX,qQ],.inr (by simp[ad]),fun ys aM=>?_⟩;simp at aM;subst aM;exact tq _ _
def nK(l:List Int):List ai:=iv (l.map fun x=>(x,.bool true))
theorem jk(S:aL->Prop)(l:List Int):aP S (nK l):=by
 have:∀l:List Int,aP S (kv (l.map fun x=>(x,.bool true))):=by
  intro l;induction l with
  |nil=>simp[kv,aP]
  |cons x r bO=>simp[kv,aP,bO,aJ]
 simp[nK,iv,aP,this,aJ]
def nH(v:Int)(l:List Int):List Int:=if v∈l then l else l++[v]
theorem Oa(k:Int):∀l:List Int,o6 k (.bool true) (l.map fun x=>(x,ai.bool true))=if k∈l then some (l.map fun x=>(x,ai.bool true))else none
 |[]=>rfl
 |i::r=>by
  by_cases h:k=i
  ·simp[o6,h]
  ·by_cases U:k∈r<;>simp[o6,h,U,Oa k r]
@[simp]theorem aqm(k:Int)(l:List Int):oN .i (.int .i64 k) (.bool true) (nK l)=some (nK (nH k l)):=by
 simp only[nK,UL,gI,Oa,nH];split<;>rename_i h
 ·split at h
  ·simp at h;subst h;simp[*]
  ·cases h
 ·split at h
  ·cases h
  ·simp[*]
@[simp]theorem anC:nK []=iv []:=rfl
@[simp]theorem aqz(l:List Int):hS (nK l)=false:=rfl
@[simp]theorem aqK(m:aL)(l:List Int):yq m (nK l)=some (cx l.length [] m):=by simp[nK]
theorem ahd(f:aL->Option (List ai))(fl mk:aL)(n:Nat)(seen:List Nat)(b:Nat)(l:List Int)(x:Int)(hi:f fl=some (cx n (seen++[b]) mk))(hm:f mk=some (nK l))(az:n=l.length)(ae:l[b]? =some x):pB f (.ptr fl 0)=some (True,.tuple [.int .i64 x,.bool true]):=by rw[Ut f fl mk n seen b _ hi hm (by simpa using az)];simp[ae]
theorem Z5{st:bo}{d:Nat}{K:bo->Prop}{fl mk:aL}{n:Nat}{seen:List Nat}{l:List Int}(hi:Pv.look fl st.b=some (cx n seen mk))(hm:Pv.look mk st.b=some (nK l))(az:n=l.length)
  (J:(∀b,b<l.length->b∈seen)->K {st with t:=Pv.put d (.tuple [.bool false]) st.t}) (U:∀b x,l[b]? =some x->b∉seen->K {st with t:=Pv.put d (.tuple [.bool true,.int .i64 x,.bool true]) st.t,b:=cy fl (cx n (seen++[b]) mk) st.b}):
  sS st d (.ptr fl 0) K:=by
 refine Q2 hi hm (by simpa using az) (fun h=>J fun b ab=>h b Ω) (fun b k v ab af=>?_);simp only[List.getElem?_map,gr]at ab;obtain⟨x,ao,aF⟩:=ab;simp only[jE]at aF;obtain⟨rfl,rfl⟩:=aF;exact U b x ao af
def _root_.Go.Pv.T.fold{α:Type}(f:Int->α->α):T->α->α
 | .var n,a=>f n a
 | .pair x y,a=>y.fold f (x.fold f a)
 |_,a=>a
theorem Jv{α:Type}(S:α->cM)(dE:∀a,dN (S a))(dT:∀a b,Same (S a) (S b))(g:Nat)(dk:List ai)(aq:∀a,aP (inObs (S a)) dk)(dh:dr dk=dk)(f:Int->α->α)(aO:∀v a,bJ ay g (.int .i64 v::dk) (S a) fun r ah=>r= .tuple []/\ah=S (f v a))(t:T):
  ∀a,bJ ay 129 [t.e,.func g dk] (S a) fun r ah=>r= .tuple []/\ah=S (t.fold f a):=by
 have az:∀a m,Pv.look (.loc m) (S a).b=none:=fun a=>(dE a).obj.1;have hu:∀a m cs,cy (.loc m) cs (S a).b=(S a).b++[(.loc m,cs)]:=fun a m cs=>kc (az a m);have aw:∀a m,aL.loc m∉cX (S a):=fun a=>j5 (dE a).obj;induction t with
 |pair x y pz r4=>intro a;have af:=dE a;refine bJ.mk mixed fF zd Ao Ψ af.obj fun aR cE=>?_;unfold xh;simp[hu,aw,cN,az,dh];(with_reducible repeat' first|refine aj ?_|simp[hu,aw,cN,az]);refine cA.ob (pz a) af aE aE (by simp[aq]) ?_;rintro r ah ⟨rfl,rfl⟩;refine⟨dT _ _,?_⟩;simp[gX,iJ,bX,az];(with_reducible repeat' first|refine aj ?_|simp[hu,aw,cN,az]);rw[dh];refine cA.ob (r4 (x.fold f a)) (dE (x.fold f a)) aE aE (by simp[aq]) ?_;rintro r ah ⟨rfl,rfl⟩;refine⟨dT _ _,?_⟩;simp[gX,iJ,bX,az];refine cI.at (S (y.fold f (x.fold f a))) (.inr rfl) (dE _) (dT _ _) aE aE ?_;simp[cL,ym,aT,aU,aS];simp[T.fold]
 |var n=>intro a;have af:=dE a;refine bJ.mk mixed fF zd Ao Ψ af.obj fun aR cE=>?_;unfold xh;simp[hu,aw,cN,az,dh];(with_reducible repeat' first|refine aj ?_|simp[hu,aw,cN,az]);refine cA.ob (aO n a) af aE aE (by simp[aq]) ?_;rintro r ah ⟨rfl,rfl⟩;refine⟨dT _ _,?_⟩;simp[gX,iJ,bX,az,cN];refine cI.at (S (f n a)) (.inr rfl) (dE _) (dT _ _) aE aE ?_;simp[cL,ym,aT,aU,aS];simp[T.fold]
 |_=>intro a;have af:=dE a;refine bJ.mk mixed fF zd Ao Ψ af.obj fun aR cE=>?_;unfold xh;simp[hu,aw,cN,az,dh];(with_reducible repeat' first|refine aj ?_|simp[hu,aw,cN,az]);refine cI.at (S a) (.inr rfl) af (Same.refl _) aE aE ?_;simp[cL,ym,aT,aU,aS];simp[T.fold]
def gP(l:List Int):cM:=⟨[(.obj 304,nK l),(.obj 305,[.gmap (.obj 304)])],[]⟩
theorem sE(l:List Int):dN (gP l):=by unfold gP;exact dN.of ⟨by intro m;simp[Pv.look],by intro m;simp[Pv.look]⟩ (by simp[jk,aP,aJ,inObs,Pv.look]) Ψ
theorem yT(l a6:List Int):Same (gP l) (gP a6):=by refine⟨fun k=>?_,fun k=>rfl⟩;simp only[gP,Pv.look];split<;>rfl
def pP(l:List Int):cM:=⟨[(.obj 304,nK l)],[]⟩
theorem HZ(l:List Int):dN (pP l):=by unfold pP;exact dN.of ⟨by intro m;simp[Pv.look],by intro m;simp[Pv.look]⟩ (by simp[jk,aP,aJ,inObs,Pv.look]) Ψ
def It:C:=(aa [c3 1 0,bu 2 false] (.seq (.seq (.fz false 1 (.region [ax 6 1 1,cV 7 100 6,cB 8 7])) (aV 8 (aa [bu 2 false] .ret) .skip)) (.seq (aa [ax 9 1 1,cD 10 9,b7 11 0] (fj 12 11 10 (.seq (.block 1 (aa [cJ 13 5 9 11,a8 14 5 13,da 4 kn,bC 5 4 14] (aa [cH (.alloc 5 (some 731) (.bool false)),cH (.store 1 (.t 5) (.c (.bool true)))] (aa [iI 15 1 4 4,a8 16 4 15,bQ 17 (.mkf 133 [.t 1,.t 5]),cg 18 129 16 17] (aa [ax 19 1 5,cB 20 19,I 21 20,ar 21 false (iI 22 1 4 4),ar 21 false (aH 23 0 1 22),ar 21 false (ax 24 1 23),ar 21 false (aQ 25 .eql 24 1),bU 21 false 26 25,ar 26 true (iI 27 1 4 4),ar 26 true (aH 28 1 1 27),ar 26 true (ax 29 1 28),ar 26 true (aH 30 0 1 4),ar 26 true (ax 31 1 30),ar 26 true (bF 32 .geq 29 31),ar 21 false (dv 33 26 32),cW 34 21 33] (aV 34 (aa [bu 2 false] .ret) .skip)))))) (.region [aQ 35 .add 11 1,I 11 35])))) (aa [bu 2 true] .ret))))
@[simp] def ake:List bY:=[.tmp 2]
def O2:C:=(aa [ey 2 5] (aa [ec 6 5 61 [],I 3 6] (.seq (aa [I 7 0,cD 8 7,b7 9 0] (fj 10 9 8 (.seq (.block 1 (aa [cJ 11 5 7 9,a8 12 5 11,da 5 kn,bC 5 5 12] (.drawn true 24 [I 13 3,aH 14 0 1 5,ax 15 1 14,iI 16 1 4 5,a8 17 4 16,cV 18 200 17,gE 19 kn [(0,1,(.t 15)),(1,4,(.t 18))],ec 20 5 61 [.t 19],gY 21 5 61 13 20,I 3 21]))) (.region [aQ 22 .add 9 1,I 9 22])))) (aa [I 23 3,I 2 23] .ret))))
@[simp] def akg:List bY:=[.tmp 2]
def OH:C:=(aa [ey 4 5,bu 5 false] (.seq (aa [I 8 0,cV 9 55 8,cB 10 9,I 11 10,bU 11 false 12 1,ar 11 false (cV 13 55 12),ar 11 false (cB 14 13),cW 15 11 14] (aV 15 (aa [ey 4 5,bu 5 false] .ret) .skip)) (aa [I 17 1,cV 18 201 17,I 16 18,cu 19 0 16,cu 20 1 16,I 6 19,I 7 20] (aa [I 21 0,I 22 6,I 23 7,c1 24 118 [.t 21,.t 22,.t 23],cu 25 0 24,cu 26 1 24,I 4 25,I 5 26] .ret))))
@[simp] def Vs:List bY:=[.tmp 4,.tmp 5]
def OM:C:=(aa [ey 4 5] (.seq (aa [I 8 0,cV 9 55 8,cB 10 9,I 11 10,bU 11 false 12 1,ar 11 false (cV 13 55 12),ar 11 false (cB 14 13),cW 15 11 14] (aV 15 (aa [ey 4 5] .ret) .skip)) (aa [ec 16 5 61 [],I 5 16] (.seq (aa [I 17 1,cD 18 17,b7 19 0] (fj 20 19 18 (.seq (.block 1 (aa [cJ 21 5 17 19,a8 22 5 21,da 7 kn,bC 5 7 22] (aa [I 23 0,aH 24 0 1 7,ax 25 1 24,cg 26 134 23 25,aQ 27 .lss 26 0] (aV 27 (.drawn true 39 [I 28 5,aH 29 0 1 7,ax 30 1 29,iI 31 1 4 7,a8 32 4 31,cV 33 200 32,gE 34 kn [(0,1,(.t 30)),(1,4,(.t 33))],ec 35 5 61 [.t 34],gY 36 5 61 28 35,I 5 36]) .skip)))) (.region [aQ 37 .add 19 1,I 19 37])))) (aa [I 38 5,I 4 38] .ret)))))
@[simp] def akb:List bY:=[.tmp 4]
def Iu:C:=(aa [ax 4 1 1,I 5 0,cg 6 134 4 5,aQ 7 .geq 6 0] (aV 7 (.region [cH (.store 1 (.t 2) (.c (.bool false)))]) .skip))
@[simp] def L5:List bY:=[]
def Ix:C:=(aa [bu 4 false] (.seq (aa [I 6 0,cD 7 6,I 8 1,cD 9 8,bF 10 .neq 7 9] (aV 10 (aa [bu 4 false] .ret) .skip)) (.seq (aa [I 11 0,cD 12 11,b7 13 0] (fj 14 13 12 (.seq (.block 1 (aa [I 15 13,I 5 15] (.seq (.drawn true 42 [I 16 0,I 17 5,cJ 18 5 16 17,aH 19 0 1 18,ax 20 1 19,I 21 1,I 22 5,cJ 23 5 21 22,aH 24 0 1 23,ax 25 1 24,bF 26 .neq 20 25,I 27 26,bU 27 false 28 0,bU 27 false 29 5,ar 27 false (cJ 30 5 28 29),ar 27 false (iI 31 1 4 30),ar 27 false (a8 32 4 31),bU 27 false 33 1,bU 27 false 34 5,ar 27 false (cJ 35 5 33 34),ar 27 false (iI 36 1 4 35),ar 27 false (a8 37 4 36),ar 27 false (cg 38 108 32 37),ar 27 false (cB 39 38),cW 40 27 39]) (aV 40 (aa [bu 4 false] .ret) .skip)))) (.region [aQ 41 .add 13 1,I 13 41])))) (aa [bu 4 true] .ret))))
@[simp] def VE:List bY:=[.tmp 4]
def O6:C:=(aa [ey 2 4,ey 3 4] (aa [ec 8 4 32 [],I 4 8] (aa [ec 9 4 32 [],I 5 9] (.seq (aa [I 10 0,cD 11 10,b7 12 0] (fj 13 12 11 (.seq (.block 1 (aa [cJ 14 5 10 12,a8 15 5 14,da 7 kn,bC 5 7 15] (aa [I 16 4,aH 17 0 1 7,ax 18 1 17,cV 19 96 18,ec 20 4 32 [.t 19],gY 21 4 32 16 20,I 4 21] (.region [I 22 5,iI 23 1 4 7,a8 24 4 23,ec 25 4 32 [.t 24],gY 26 4 32 22 25,I 5 26])))) (.region [aQ 27 .add 12 1,I 12 27])))) (aa [I 28 4,I 29 5,I 2 28,I 3 29] .ret)))))
@[simp] def VG:List bY:=[.tmp 2,.tmp 3]
def Ph:C:=(aa [b7 4 0] (.seq (aa [b7 5 0] (.block 0 (.loop (.seq (aa [I 8 5,I 9 0,cD 10 9,bF 11 .lss 8 10,I 12 11,bU 12 true 13 5,bU 12 true 14 1,ar 12 true (cD 15 14),ar 12 true (bF 16 .lss 13 15),dv 17 12 16] (aV 17 .skip (.exit 0))) (.seq (.block 1 (.seq (.seq (.drawn true 53 [I 20 0,I 21 5,cJ 22 5 20 21,aH 23 0 1 22,ax 24 1 23,I 25 1,I 26 5,cJ 27 5 25 26,aH 28 0 1 27,ax 29 1 28,cg 30 232 24 29,I 6 30]) (aa [I 31 6,aQ 32 .neq 31 0] (aV 32 (aa [I 33 6,I 4 33] .ret) .skip))) (.seq (.drawn true 53 [I 34 0,I 35 5,cJ 36 5 34 35,iI 37 1 4 36,a8 38 4 37,I 39 1,I 40 5,cJ 41 5 39 40,iI 42 1 4 41,a8 43 4 42,cg 44 170 38 43,I 7 44]) (aa [I 45 7,aQ 46 .neq 45 0] (aV 46 (aa [I 47 7,I 4 47] .ret) .skip))))) (.region [I 18 5,aQ 19 .add 18 1,I 5 19])))))) (aa [I 48 0,cD 49 48,I 50 1,cD 51 50,cg 52 232 49 51,I 4 52] .ret)))
@[simp] def Dw:List bY:=[.tmp 4]
def Pe:C:=(aa [bu 4 false] (.seq (aa [I 11 0,cD 12 11,b7 13 0] (fj 14 13 12 (.seq (.block 1 (aa [cJ 15 5 11 13,a8 16 5 15,da 6 kn,bC 5 6 16] (aa [I 18 1,aH 19 0 1 6,ax 20 1 19,cV 21 96 20,cg 22 95 18 21,I 17 22,cu 23 0 17,cu 24 1 17,da 7 dm,bC 4 7 23,I 8 24] (aa [I 26 1,iI 27 1 4 6,a8 28 4 27,cg 29 95 26 28,I 25 29,cu 30 0 25,cu 31 1 25,da 9 dm,bC 4 9 30,I 10 31] (aa [I 32 8,cB 33 32,I 34 33,bU 34 false 35 10,ar 34 false (cB 36 35),cW 37 34 36,I 38 37,ar 38 false (a8 39 4 7),ar 38 false (a8 40 4 9),ar 38 false (cg 41 108 39 40),ar 38 false (cB 42 41),cW 43 38 42] (aV 43 (aa [bu 4 false] .ret) .skip)))))) (.region [aQ 44 .add 13 1,I 13 44])))) (aa [bu 4 true] .ret)))
@[simp] def L7:List bY:=[.tmp 4]
def tH:List (Nat×dA):=[
 (3,⟨1,8,.int .i64,.int .i64 0⟩),
 (4,⟨1,1,.bool,.bool false⟩),
 (23,⟨1,24,.slice 61,.slice 5 .nil []⟩),
 (30,⟨1,24,.slice 32,.slice 4 .nil []⟩),
 (32,⟨4,56,.struct [(0,3),(1,3),(2,9),(3,30)],.agg [.int .i64 0,.int .i64 0,.str [],.slice 4 .nil []]⟩),
 (61,⟨5,64,.struct [(0,3),(1,32)],.agg [.int .i64 0,.int .i64 0,.int .i64 0,.str [],.slice 4 .nil []]⟩)]
theorem ra:fN ay tH=true:=by kernel_rfl
theorem UU:ca tH It ake 1 Tryz.f55=true:=by kernel_rfl
theorem Q7:ay.funcs[(55:Nat)]? =some Tryz.f55:=Tryz.func55
theorem aii:ca tH O2 akg 1 Tryz.f119=true:=by kernel_rfl
theorem abp:ay.funcs[(119:Nat)]? =some Tryz.f119:=Tryz.func119
theorem ahW:ca tH OH Vs 2 Tryz.f122=true:=by kernel_rfl
theorem aa4:ay.funcs[(122:Nat)]? =some Tryz.f122:=Tryz.func122
theorem ah1:ca tH OM akb 2 Tryz.f123=true:=by kernel_rfl
theorem aa9:ay.funcs[(123:Nat)]? =some Tryz.f123:=Tryz.func123
theorem UW:ca tH Iu L5 3 Tryz.f133=true:=by kernel_rfl
theorem Q8:ay.funcs[(133:Nat)]? =some Tryz.f133:=Tryz.func133
theorem UZ:ca tH Ix VE 2 Tryz.f135=true:=by kernel_rfl
theorem Rb:ay.funcs[(135:Nat)]? =some Tryz.f135:=Tryz.func135
theorem aim:ca tH O6 VG 1 Tryz.f201=true:=by kernel_rfl
theorem abu:ay.funcs[(201:Nat)]? =some Tryz.f201:=Tryz.func201
theorem aix:ca tH Ph Dw 2 Tryz.f204=true:=by kernel_rfl
theorem abF:ay.funcs[(204:Nat)]? =some Tryz.f204:=Tryz.func204
theorem aiu:ca tH Pe L7 2 Tryz.f205=true:=by kernel_rfl
theorem abC:ay.funcs[(205:Nat)]? =some Tryz.f205:=Tryz.func205
def Ps:C:=(aa [da 2 dm] (aa [I 3 0,gE 4 dm [(0,1,(dI 1)),(1,1,(.t 3))],bC 4 2 4] .ret))
@[simp] def akl:List bY:=[.cell 2 true 4]
def Pf:C:=(aa [bQ 0 (.mov (.c (.nilp)))] (aa [cH (.mkmap 1 (some 702)),cH (.mkmap 2 (some 703)),cH (.mkmap 3 (some 704)),cH (.mkmap 4 (some 705)),cH (.mkmap 5 (some 706)),cH (.mkmap 6 (some 707)),bQ 7 (.build [.junk,.junk,.junk,.junk,.junk,.junk] [(0,1,(.t 1)),(1,1,(.t 2)),(2,1,(.t 3)),(3,1,(.t 4)),(4,1,(.t 5)),(5,1,(.t 6))]),c3 8 7,I 0 8] (.fz true 0 .ret)))
@[simp] def VO:List bY:=[.tmp 0]
def OY:C:=(aa [b7 4 0] (.seq (aa [I 8 0,eE 9 8,aH 10 0 1 9,ax 11 1 10,I 12 1,bQ 13 (.mget .i (.int .i64 0) true (.t 11) (.t 12)),I 7 13,cu 14 0 7,cu 15 1 7,I 5 14,I 6 15] (aa [I 16 6,cB 17 16] (aV 17 (.region [I 18 0,eE 19 18,aH 20 0 1 19,ax 21 1 20,I 22 1,I 23 1,cH (.mput .i (.t 21) (.t 22) (.t 23))]) .skip))) (.seq (.block 0 (.loop (.seq (aa [I 24 0,eE 25 24,aH 26 0 1 25,ax 27 1 26,I 28 1,bQ 29 (.mget .i (.int .i64 0) false (.t 27) (.t 28)),I 30 1,bF 31 .neq 29 30] (aV 31 .skip (.exit 0))) (.block 1 (.seq (.drawn true 55 [I 32 0,eE 33 32,aH 34 0 1 33,ax 35 1 34,I 36 1,I 37 0,eE 38 37,aH 39 0 1 38,ax 40 1 39,I 41 0,eE 42 41,aH 43 0 1 42,ax 44 1 43,I 45 1,bQ 46 (.mget .i (.int .i64 0) false (.t 44) (.t 45)),bQ 47 (.mget .i (.int .i64 0) false (.t 40) (.t 46)),cH (.mput .i (.t 35) (.t 36) (.t 47))]) (.region [I 48 0,eE 49 48,aH 50 0 1 49,ax 51 1 50,I 52 1,bQ 53 (.mget .i (.int .i64 0) false (.t 51) (.t 52)),I 1 53])))))) (aa [I 54 1,I 4 54] .ret))))
@[simp] def VA:List bY:=[.tmp 4]
def OU:C:=(aa [c3 2 0,c3 3 1] (.fz false 2 (.region [a8 4 4 3,bQ 5 (.mkf 243 [.t 2]),cg 6 129 4 5])))
@[simp] def Vx:List bY:=[]
def vn:C:=(aa [c3 4 1,c3 5 2,bu 6 false] (.seq (.block 0 (aa [aH 12 0 1 4,ax 13 1 12,aQ 14 .eql 13 1,I 15 14,ar 15 true (aH 16 0 1 5),ar 15 true (ax 17 1 16),ar 15 true (aQ 18 .eql 17 1),dv 19 15 18,I 11 19] (aV 11 (aa [I 20 0,aH 21 1 1 4,ax 22 1 21,cg 23 196 20 22,I 7 23] (aa [I 24 0,aH 25 1 1 5,ax 26 1 25,cg 27 196 24 26,I 8 27] (.seq (aa [I 28 7,I 29 8,bF 30 .eql 28 29] (aV 30 (aa [bu 6 true] .ret) .skip)) (.seq (aa [I 31 8,I 32 7,bF 33 .lss 31 32] (aV 33 (.region [I 34 8,I 35 7,I 7 34,I 8 35]) .skip)) (aa [I 36 0,eE 37 36,aH 38 0 1 37,ax 39 1 38,I 40 8,I 41 7,cH (.mput .i (.t 39) (.t 40) (.t 41))] (.seq (aa [I 42 0,eE 43 42,aH 44 2 1 43,ax 45 1 44,I 46 8,bQ 47 (.mget .i (.bool false) false (.t 45) (.t 46)),cB 48 47] (aV 48 (aa [I 49 0,eE 50 49,aH 51 2 1 50,ax 52 1 51,I 53 7,bQ 54 (.mget .i (.bool false) false (.t 52) (.t 53)),cB 55 54,I 56 55,bU 56 false 57 0,bU 56 false 58 0,ar 56 false (eE 59 58),ar 56 false (aH 60 1 1 59),ar 56 false (ax 61 1 60),bU 56 false 62 7,w2 56 false 63 (.mget .i (.agg dm) false (.t 61) (.t 62)),bU 56 false 64 7,ys 56 false (.mkmap 65 (some 715)),ar 56 false (c1 66 244 [.t 57,.t 63,.t 64,.t 65]),ar 56 false (cB 67 66),cW 68 56 67,I 6 68] .ret) .skip)) (aa [I 69 0,eE 70 69,aH 71 1 1 70,ax 72 1 71,I 73 8,bQ 74 (.mget .i (.agg dm) false (.t 72) (.t 73)),da 9 dm,bC 4 9 74] (.seq (aa [I 75 0,eE 76 75,aH 77 2 1 76,ax 78 1 77,I 79 7,bQ 80 (.mget .i (.bool false) false (.t 78) (.t 79)),cB 81 80] (aV 81 (aa [I 82 0,I 83 7,a8 84 4 9,c1 85 245 [.t 82,.t 83,.t 84],I 6 85] .ret) .skip)) (.seq (.drawnW [715,716] 198 [I 86 0,a8 87 4 9,I 88 7,cH (.mkmap 89 (some 715)),c1 90 244 [.t 86,.t 87,.t 88,.t 89],cB 91 90,I 92 91,bU 92 true 93 0,bU 92 true 94 0,ar 92 true (eE 95 94),ar 92 true (aH 96 1 1 95),ar 92 true (ax 97 1 96),bU 92 true 98 7,w2 92 true 99 (.mgetB .i (.agg dm) false (.t 97) (.t 98)),bU 92 true 100 7,ys 92 true (.mkmap 101 (some 716)),ar 92 true (c1 102 244 [.t 93,.t 99,.t 100,.t 101]),ar 92 true (cB 103 102),dv 104 92 103,I 105 104,bU 105 true 106 0,bU 105 true 107 0,ar 105 true (eE 108 107),ar 105 true (aH 109 1 1 108),ar 105 true (ax 110 1 109),bU 105 true 111 7,w2 105 true 112 (.mgetB .i (.agg dm) false (.t 110) (.t 111)),ar 105 true (a8 113 4 9),ar 105 true (c1 114 198 [.t 106,.t 112,.t 113]),dv 115 105 114,I 6 115]) .ret))))))))) (aa [aH 117 0 1 4,ax 118 1 117,aQ 119 .eql 118 1,I 116 119] (aV 116 (aa [I 120 0,aH 121 1 1 4,ax 122 1 121,cg 123 196 120 122,I 10 123] (.seq (aa [I 124 0,eE 125 124,aH 126 2 1 125,ax 127 1 126,I 128 10,bQ 129 (.mget .i (.bool false) false (.t 127) (.t 128)),cB 130 129] (aV 130 (aa [I 131 0,I 132 10,a8 133 4 5,c1 134 245 [.t 131,.t 132,.t 133],I 6 134] .ret) .skip)) (.seq (.drawn false 198 [I 135 0,I 136 0,eE 137 136,aH 138 1 1 137,ax 139 1 138,I 140 10,bQ 141 (.mgetB .i (.agg dm) false (.t 139) (.t 140)),a8 142 4 5,c1 143 198 [.t 135,.t 141,.t 142],I 6 143]) .ret))) (aa [aH 145 0 1 5,ax 146 1 145,aQ 147 .eql 146 1,I 144 147] (aV 144 (aa [I 148 0,a8 149 4 5,a8 150 4 4,c1 151 198 [.t 148,.t 149,.t 150],I 6 151] .ret) (aa [aH 153 0 1 4,ax 154 1 153,aH 155 0 1 5,ax 156 1 155,bF 157 .neq 154 156,I 158 157,ar 158 false (aH 159 1 1 4),ar 158 false (ax 160 1 159),ar 158 false (aH 161 1 1 5),ar 158 false (ax 162 1 161),ar 158 false (bF 163 .neq 160 162),cW 164 158 163,I 165 164,ar 165 false (aH 166 2 1 4),ar 165 false (ax 167 1 166),ar 165 false (aH 168 2 1 5),ar 165 false (ax 169 1 168),ar 165 false (bF 170 .neq 167 169),cW 171 165 170,I 152 171] (aV 152 (aa [bu 6 false] .ret) (aa [aH 173 0 1 4,ax 174 1 173,aQ 175 .eql 174 4,I 172 175] (aV 172 (.seq (.drawn false 198 [I 176 0,aH 177 3 1 4,ax 178 1 177,gM 179 4 178 0,a8 180 4 179,aH 181 3 1 5,ax 182 1 181,gM 183 4 182 0,a8 184 4 183,c1 185 198 [.t 176,.t 180,.t 184],I 186 185,bU 186 true 187 0,ar 186 true (aH 188 3 1 4),ar 186 true (ax 189 1 188),ar 186 true (gM 190 4 189 1),ar 186 true (a8 191 4 190),ar 186 true (aH 192 3 1 5),ar 186 true (ax 193 1 192),ar 186 true (gM 194 4 193 1),ar 186 true (a8 195 4 194),ar 186 true (c1 196 198 [.t 187,.t 191,.t 195]),dv 197 186 196,I 6 197]) .ret) .skip))))))))))) (aa [bu 6 true] .ret)))
@[simp] def n2:List bY:=[.tmp 6]
def OV:C:=(.region [ax 3 1 1,I 4 0,cg 5 196 3 4])
@[simp] def Vy:List bY:=[]
def OW:C:=(aa [c3 4 0,c3 5 1,c3 6 2,c3 7 3,bu 8 false] (aa [cH (.alloc 9 (some 712) (.bool false)),cH (.store 1 (.t 9) (.c (.bool false)))] (.seq (.fz false 7 (.fz false 6 (.fz false 4 (.region [a8 10 4 5,bQ 11 (.mkf 273 [.t 4,.t 9,.t 6,.t 7]),cg 12 129 10 11])))) (aa [ax 13 1 9,I 8 13] .ret))))
@[simp] def Vz:List bY:=[.tmp 8]
def OT:C:=(aa [c3 5 2,bu 6 false] (.seq (.drawn true 24 [I 7 0,eE 8 7,aH 9 1 1 8,ax 10 1 9,I 11 1,a8 12 4 5,cH (.mput .i (.t 10) (.t 11) (.t 12))]) (aa [I 13 0,eE 14 13,aH 15 2 1 14,ax 16 1 15,I 17 1,cH (.mput .i (.t 16) (.t 17) (.c (.bool true)))] (aa [I 18 0,a8 19 4 5,I 20 1,cH (.mkmap 21 (some 715)),c1 22 244 [.t 18,.t 19,.t 20,.t 21],cB 23 22,I 6 23] .ret))))
@[simp] def Vw:List bY:=[.tmp 6]
def y2:C:=(aa [c3 2 0,bu 4 false] (.seq (.seq (.fz false 2 (.region [ax 6 1 2,eE 7 6,aH 8 3 1 7,ax 9 1 8,I 10 1,bQ 11 (.mget .i (.int .i64 0) false (.t 9) (.t 10)),aQ 12 .eql 11 2])) (aV 12 (aa [bu 4 true] .ret) .skip)) (.seq (aa [ax 13 1 2,eE 14 13,aH 15 3 1 14,ax 16 1 15,I 17 1,bQ 18 (.mget .i (.int .i64 0) false (.t 16) (.t 17)),aQ 19 .eql 18 1] (aV 19 (aa [bu 4 false] .ret) .skip)) (aa [ax 20 1 2,eE 21 20,aH 22 3 1 21,ax 23 1 22,I 24 1,cH (.mput .i (.t 23) (.t 24) (dI 1))] (aa [ax 25 1 2,eE 26 25,aH 27 4 1 26,ax 28 1 27,I 29 1,cH (.mput .i (.t 28) (.t 29) (dI 1))] (.seq (aa [ax 30 1 2,eE 31 30,aH 32 2 1 31,ax 33 1 32,I 34 1,bQ 35 (.mget .i (.bool false) false (.t 33) (.t 34))] (aV 35 (aa [cH (.alloc 5 (some 712) (.bool false)),cH (.store 1 (.t 5) (.c (.bool true)))] (aa [ax 36 1 2,eE 37 36,aH 38 1 1 37,ax 39 1 38,I 40 1,bQ 41 (.mget .i (.agg dm) false (.t 39) (.t 40)),bQ 42 (.mkf 274 [.t 5,.t 2]),cg 43 129 41 42] (.seq (aa [ax 44 1 5,cB 45 44] (aV 45 (aa [bu 4 false] .ret) .skip)) (.drawn false 64 [ax 46 1 2,eE 47 46,aH 48 4 1 47,ax 49 1 48,I 50 1,ax 51 1 2,eE 52 51,aH 53 1 1 52,ax 54 1 53,I 55 1,bQ 56 (.mgetB .i (.agg dm) false (.t 54) (.t 55)),bQ 57 (.mkf 275 [.t 2]),cg 58 239 56 57,cH (.mput .i (.t 49) (.t 50) (.t 58))])))) .skip)) (aa [ax 59 1 2,eE 60 59,aH 61 3 1 60,ax 62 1 61,I 63 1,cH (.mput .i (.t 62) (.t 63) (dI 2))] (aa [bu 4 true] .ret))))))))
@[simp] def AB:List bY:=[.tmp 4]
def EF:C:=(aa [c3 2 0,da 4 dm] (.seq (.seq (.fz false 2 (.region [ax 9 1 2,eE 10 9,aH 11 5 1 10,ax 12 1 11,I 13 1,bQ 14 (.mget .i (.agg dm) true (.t 12) (.t 13)),I 8 14,cu 15 0 8,cu 16 1 8,da 5 dm,bC 4 5 15,I 6 16])) (aa [I 17 6] (aV 17 (aa [a8 18 4 5,bC 4 4 18] .ret) .skip))) (aa [I 19 1,cV 20 96 19,da 7 dm,bC 4 7 20] (.seq (aa [ax 21 1 2,eE 22 21,aH 23 2 1 22,ax 24 1 23,I 25 1,bQ 26 (.mget .i (.bool false) false (.t 24) (.t 25))] (aV 26 (.region [ax 27 1 2,eE 28 27,aH 29 1 1 28,ax 30 1 29,I 31 1,bQ 32 (.mget .i (.agg dm) false (.t 30) (.t 31)),bQ 33 (.mkf 276 [.t 2]),cg 34 153 32 33,bC 4 7 34]) .skip)) (.seq (.drawn true 42 [ax 35 1 2,eE 36 35,aH 37 5 1 36,ax 38 1 37,I 39 1,a8 40 4 7,cH (.mput .i (.t 38) (.t 39) (.t 40))]) (aa [a8 41 4 7,bC 4 4 41] .ret))))))
@[simp] def GY:List bY:=[.cell 4 true 4]
def OX:C:=(aa [ax 7 1 1,I 8 0,cg 9 196 7 8,I 6 9] (.seq (aa [ax 10 1 2,I 11 10,bU 11 false 12 6,ar 11 false (ax 13 1 3),ar 11 false (bF 14 .eql 12 13),cW 15 11 14] (aV 15 (aa [cH (.store 1 (.t 2) (.c (.bool true)))] .ret) .skip)) (aa [ax 16 1 4,I 17 6,bQ 18 (.mget .i (.bool false) false (.t 16) (.t 17)),cB 19 18,I 20 19,ar 20 true (ax 21 1 1),ar 20 true (eE 22 21),ar 20 true (aH 23 2 1 22),ar 20 true (ax 24 1 23),bU 20 true 25 6,ar 20 true (bQ 26 (.mget .i (.bool false) false (.t 24) (.t 25))),dv 27 20 26] (aV 27 (aa [ax 28 1 4,I 29 6,cH (.mput .i (.t 28) (.t 29) (.c (.bool true)))] (.drawn false 40 [ax 30 1 1,ax 31 1 1,eE 32 31,aH 33 1 1 32,ax 34 1 33,I 35 6,bQ 36 (.mgetB .i (.agg dm) false (.t 34) (.t 35)),ax 37 1 3,ax 38 1 4,c1 39 244 [.t 30,.t 36,.t 37,.t 38],bC 1 2 39])) .skip))))
@[simp] def AA:List bY:=[]
def Iv:C:=(.seq (.drawn false 13 [bQ 4 (.loadB false 1 (.t 1)),I 5 4,ar 5 true (ax 6 1 2),ar 5 true (ax 7 1 2),bU 5 true 8 0,ar 5 true (cg 9 196 7 8),ar 5 true (cg 10 246 6 9),ar 5 true (cB 11 10),dv 12 5 11]) (aV 12 (.region [cH (.store 1 (.t 1) (.c (.bool false)))]) .skip))
@[simp] def GZ:List bY:=[]
def O1:C:=(aa [b7 3 0] (.seq (.drawn false 12 [ax 4 1 1,eE 5 4,aH 6 4 1 5,ax 7 1 6,ax 8 1 1,I 9 0,cg 10 196 8 9,bQ 11 (.mgetB .i (.int .i64 0) false (.t 7) (.t 10)),I 3 11]) .ret))
@[simp] def VC:List bY:=[.tmp 3]
def O0:C:=(aa [da 3 dm,bu 4 false] (.seq (.drawn false 10 [ax 5 1 1,ax 6 1 1,I 7 0,cg 8 196 6 7,cg 9 247 5 8,bC 4 3 9,bu 4 true]) .ret))
@[simp] def VB:List bY:=[.cell 3 true 4,.tmp 4]
def oS:List (Nat×dA):=[
 (3,⟨1,8,.int .i64,.int .i64 0⟩),
 (4,⟨1,1,.bool,.bool false⟩),
 (9,⟨1,16,.str,.str []⟩),
 (30,⟨1,24,.slice 32,.slice 4 .nil []⟩),
 (32,⟨4,56,.struct [(0,3),(1,3),(2,9),(3,30)],.agg [.int .i64 0,.int .i64 0,.str [],.slice 4 .nil []]⟩),
 (127,⟨1,8,.map 3 32,.junk⟩),
 (154,⟨1,8,.map 3 4,.junk⟩),
 (182,⟨1,8,.map 3 3,.junk⟩),
 (204,⟨1,8,.other,.nilp⟩),
 (245,⟨6,48,.struct [(0,182),(1,127),(2,154),(3,182),(4,182),(5,127)],.agg [.junk,.junk,.junk,.junk,.junk,.junk]⟩)]
theorem jC:fN ay oS=true:=by kernel_rfl
theorem aiH:ca oS Ps akl 1 Tryz.f96=true:=by kernel_rfl
theorem abP:ay.funcs[(96:Nat)]? =some Tryz.f96:=Tryz.func96
theorem aiv:ca oS Pf VO 0 Tryz.f195=true:=by kernel_rfl
theorem abD:ay.funcs[(195:Nat)]? =some Tryz.f195:=Tryz.func195
theorem aid:ca oS OY VA 2 Tryz.f196=true:=by kernel_rfl
theorem abl:ay.funcs[(196:Nat)]? =some Tryz.f196:=Tryz.func196
theorem ah9:ca oS OU Vx 2 Tryz.f197=true:=by kernel_rfl
theorem abh:ay.funcs[(197:Nat)]? =some Tryz.f197:=Tryz.func197
theorem ye:ca oS vn n2 3 Tryz.f198=true:=by kernel_rfl
theorem xm:ay.funcs[(198:Nat)]? =some Tryz.f198:=Tryz.func198
theorem aia:ca oS OV Vy 2 Tryz.f243=true:=by kernel_rfl
theorem abi:ay.funcs[(243:Nat)]? =some Tryz.f243:=Tryz.func243
theorem aib:ca oS OW Vz 4 Tryz.f244=true:=by kernel_rfl
theorem abj:ay.funcs[(244:Nat)]? =some Tryz.f244:=Tryz.func244
theorem ah8:ca oS OT Vw 3 Tryz.f245=true:=by kernel_rfl
theorem abg:ay.funcs[(245:Nat)]? =some Tryz.f245:=Tryz.func245
theorem Dg:ca oS y2 AB 2 Tryz.f246=true:=by kernel_rfl
theorem BI:ay.funcs[(246:Nat)]? =some Tryz.f246:=Tryz.func246
theorem LH:ca oS EF GY 2 Tryz.f247=true:=by kernel_rfl
theorem Jb:ay.funcs[(247:Nat)]? =some Tryz.f247:=Tryz.func247
theorem aic:ca oS OX AA 5 Tryz.f273=true:=by kernel_rfl
theorem abk:ay.funcs[(273:Nat)]? =some Tryz.f273:=Tryz.func273
theorem UX:ca oS Iv GZ 3 Tryz.f274=true:=by kernel_rfl
theorem Q9:ay.funcs[(274:Nat)]? =some Tryz.f274:=Tryz.func274
theorem aih:ca oS O1 VC 2 Tryz.f275=true:=by kernel_rfl
theorem abo:ay.funcs[(275:Nat)]? =some Tryz.f275:=Tryz.func275
theorem aif:ca oS O0 VB 2 Tryz.f276=true:=by kernel_rfl
theorem abn:ay.funcs[(276:Nat)]? =some Tryz.f276:=Tryz.func276
end
section
open Go Go.Pv
section
variable {α:Type} (S:α->cM) (dE:∀a,dN (S a)) (dT:∀a b,Same (S a) (S b)) (g:Nat) (dk:List ai) (aq:∀a,aP (inObs (S a)) dk) (dh:dr dk=dk)
include dE dT aq dh in
theorem RC(ha:α->Prop)(f:Int->α->Option α)(aO:∀v a bp,ha a->f v a=some bp->ha bp/\bJ ay g (.int .i64 v::dk) (S a) fun r ah=>r= .tuple []/\ah=S bp)(t:T):
  ∀a bp,ha a->t.foldO f a=some bp->ha bp/\bJ ay 129 [t.e,.func g dk] (S a) fun r ah=>r= .tuple []/\ah=S bp:=by
 have az:∀a m,Pv.look (.loc m) (S a).b=none:=fun a=>(dE a).obj.1;have hu:∀a m cs,cy (.loc m) cs (S a).b=(S a).b++[(.loc m,cs)]:=fun a m cs=>kc (az a m);have aw:∀a m,aL.loc m∉cX (S a):=fun a=>j5 (dE a).obj;induction t with
 |pair x y pz r4=>intro a bp hi he;have af:=dE a;simp only[T.foldO,iK]at he;obtain⟨bz,J,U⟩:=he;obtain⟨i1,g1⟩:=pz a bz hi J;obtain⟨i2,g2⟩:=r4 bz bp i1 U;refine⟨i2,?_⟩;refine bJ.mk mixed fF zd Ao Ψ af.obj fun aR cE=>?_;unfold xh;simp[hu,aw,cN,az,dh];(with_reducible repeat' first|refine aj ?_|simp[hu,aw,cN,az]);refine cA.ob g1 af aE aE (by simp[aq]) ?_;rintro r ah ⟨rfl,rfl⟩;refine⟨dT _ _,?_⟩;simp[gX,iJ,bX,az];(with_reducible repeat' first|refine aj ?_|simp[hu,aw,cN,az]);rw[dh];refine cA.ob g2 (dE bz) aE aE (by simp[aq]) ?_;rintro r ah ⟨rfl,rfl⟩;refine⟨dT _ _,?_⟩;simp[gX,iJ,bX,az];refine cI.at (S bp) (.inr rfl) (dE _) (dT _ _) aE aE ?_;simp[cL,ym,aT,aU,aS]
 |var n=>intro a bp hi he;have af:=dE a;simp only[T.foldO]at he;obtain⟨i1,g1⟩:=aO n a bp hi he;refine⟨i1,?_⟩;refine bJ.mk mixed fF zd Ao Ψ af.obj fun aR cE=>?_;unfold xh;simp[hu,aw,cN,az,dh];(with_reducible repeat' first|refine aj ?_|simp[hu,aw,cN,az]);refine cA.ob g1 af aE aE (by simp[aq]) ?_;rintro r ah ⟨rfl,rfl⟩;refine⟨dT _ _,?_⟩;simp[gX,iJ,bX,az,cN];refine cI.at (S bp) (.inr rfl) (dE _) (dT _ _) aE aE ?_;simp[cL,ym,aT,aU,aS]
 |_=>intro a bp hi he;have af:=dE a;simp only[T.foldO,dy]at he;subst he;refine⟨hi,?_⟩;refine bJ.mk mixed fF zd Ao Ψ af.obj fun aR cE=>?_;unfold xh;simp[hu,aw,cN,az,dh];(with_reducible repeat' first|refine aj ?_|simp[hu,aw,cN,az]);refine cI.at (S a) (.inr rfl) af (Same.refl _) aE aE ?_;simp[cL,ym,aT,aU,aS]
include dE dT aq dh in
theorem RD(f:Int->α->Option α)(aO:∀v a bp,f v a=some bp->bJ ay g (.int .i64 v::dk) (S a) fun r ah=>r= .tuple []/\ah=S bp)(t:T)(a bp:α)(h:t.foldO f a=some bp):bJ ay 129 [t.e,.func g dk] (S a) fun r ah=>r= .tuple []/\ah=S bp:=(RC S dE dT g dk aq dh (fun _=>True) f (fun v a bp _ h=>⟨trivial,aO v a bp h⟩) t a bp trivial h).2
include dE dT aq dh in
theorem adD(f:Int->α->Option (T×α))(aO:∀v a p,f v a=some p->bJ ay g (.int .i64 v::dk) (S a) fun r ah=>r= .tuple [p.1.e,.bool true]/\ah=S p.2)(t:T):
  ∀a p,t.mapO f a=some p->bJ ay 153 [t.e,.func g dk] (S a) fun r ah=>r=p.1.e/\ah=S p.2:=by
 have az:∀a m,Pv.look (.loc m) (S a).b=none:=fun a=>(dE a).obj.1;have cF:∀a m,Pv.look (.loc m) (S a).e=none:=fun a=>(dE a).obj.2;have hu:∀a m cs,cy (.loc m) cs (S a).b=(S a).b++[(.loc m,cs)]:=fun a m cs=>kc (az a m);have aw:∀a m,aL.loc m∉cX (S a):=fun a=>j5 (dE a).obj;have lI:∀a m p r,cy (.loc m) p ((S a).b++r)=(S a).b++cy (.loc m) p r:=fun a m p r=>A4 (az a m);induction t with
 |pair x y pz r4=>intro a p he;have af:=dE a;simp only[T.mapO,iK,gr]at he;obtain⟨cU,J,dq,U,rfl⟩:=he;refine bJ.mk mixed fF ze Ap Ψ af.obj fun aR cE=>?_;unfold xi;simp[hu,aw,cN,az,cF,dh,lI];(with_reducible repeat' first|refine aj ?_|simp[hu,aw,cN,az,cF,lI]);refine hW.ob (pz a cU J) af (dE cU.2) (dT _ _) aE aE (by simp[aq]) ?_;simp[gX,iJ,bX,az,dh];(with_reducible repeat' first|refine aj ?_|simp[hu,aw,cN,az,cF,lI]);refine hW.ob (r4 cU.2 dq U) (dE cU.2) (dE dq.2) (dT _ _) aE aE (by simp[aq,dh]) ?_;simp[gX,iJ,bX,az,dh];(with_reducible repeat' first|refine aj ?_|refine aC (HQ _ _) ?_|refine aD (HQ _ _) ?_|simp[cN,az,lI]);refine cI.at (S dq.2) (.inl rfl) (dE _) (dT _ _) aE aE ?_;simp[cL,yn,aT,aU,aS,cN,az]
 |var n=>
  intro a p he;have af:=dE a;simp only[T.mapO]at he;refine bJ.mk mixed fF ze Ap Ψ af.obj fun aR cE=>?_;unfold xi;simp[hu,aw,cN,az,dh,lI];(with_reducible repeat' first|refine aj ?_|simp[hu,aw,cN,az,lI]);refine cA.ob (aO n a p he) af aE aE (by simp[aq]) ?_;rintro r ah ⟨rfl,rfl⟩;refine⟨dT _ _,?_⟩;simp[gX,iJ,bX,az,hu,aw,cN];(with_reducible repeat' first|refine aj ?_|refine aC (tL _) ?_|refine aD (tL _) ?_|simp[hu,aw,cN,az,lI]);all_goals refine cI.at (S p.2) (.inl rfl) (dE _) (dT _ _) aE aE ?_
  all_goals simp[cL,yn,aT,aU,aS,cN,az]
 |_=>intro a p he;have af:=dE a;simp only[T.mapO,dy]at he;subst he;refine bJ.mk mixed fF ze Ap Ψ af.obj fun aR cE=>?_;unfold xi;simp[hu,aw,cN,az,dh,lI];(with_reducible repeat' first|refine aj ?_|simp[hu,aw,cN,az,lI]);refine cI.at (S a) (.inl rfl) af (Same.refl _) aE aE ?_;simp[cL,yn,aT,aU,aS,cN,az]
include dE dT aq dh in
theorem adQ(ha:α->Prop)(f:Int->α->Option (Int×α))(Cd:∀v a p,ha a->f v a=some p->ha p.2/\0<=p.1/\p.1<=1000000)(aO:∀v a p,ha a->f v a=some p->bJ ay g (.int .i64 v::dk) (S a) fun r ah=>r= .int .i64 p.1/\ah=S p.2)(t:T):
  ∀a p,ha a->t.sizeO f a=some p->ha p.2/\(0<=p.1/\p.1<=5001)/\bJ ay 239 [t.e,.func g dk] (S a) fun r ah=>r= .int .i64 p.1/\ah=S p.2:=by
 have az:∀a m,Pv.look (.loc m) (S a).b=none:=fun a=>(dE a).obj.1;have hu:∀a m cs,cy (.loc m) cs (S a).b=(S a).b++[(.loc m,cs)]:=fun a m cs=>kc (az a m);have aw:∀a m,aL.loc m∉cX (S a):=fun a=>j5 (dE a).obj;induction t with
 |pair x y pz r4=>
  intro a p hi he;have af:=dE a;simp only[T.sizeO,iK]at he;obtain⟨cU,J,U⟩:=he;obtain⟨i1,cf,g1⟩:=pz a cU hi J;by_cases Ca:5000<cU.1
  ·rw[if_pos Ca]at U;cases U;refine⟨i1,cf,?_⟩;refine bJ.mk mixed fF xo yf Ψ af.obj fun aR cE=>?_;unfold vo;simp[hu,aw,cN,az,dh];(with_reducible repeat' first|refine aj ?_|simp[hu,aw,cN,az]);refine cA.ob g1 af aE aE (by simp[aq]) ?_;rintro r ah ⟨rfl,rfl⟩;refine⟨dT _ _,?_⟩;simp[gX,iJ,bX,az];((with_reducible repeat' first|((first|apply bD|apply bH|apply bG)<;>intro h<;>try simp at h)|refine aj ?_|simp[hu,aw,cN,az])<;>(try contradiction));all_goals first|omega|(refine cI.at (S p.2) (.inl rfl) (dE _) (dT _ _) aE aE ?_;simp[cL,uZ,aT,aU,aS])
  ·rw[if_neg Ca,gr]at U;obtain⟨dq,U,rfl⟩:=U;obtain⟨i2,b9,g2⟩:=r4 cU.2 dq i1 U;refine⟨i2,by simp only;split<;>omega,?_⟩;refine bJ.mk mixed fF xo yf Ψ af.obj fun aR cE=>?_;unfold vo;simp[hu,aw,cN,az,dh];(with_reducible repeat' first|((first|apply bD|apply bH|apply bG)<;>intro h<;>try simp at h)|refine aj ?_|simp[hu,aw,cN,az]);refine cA.ob g1 af aE aE (by simp[aq]) ?_;rintro r ah ⟨rfl,rfl⟩;refine⟨dT _ _,?_⟩;simp[gX,iJ,bX,az];((with_reducible repeat' first|refine aj ?_|simp[hu,aw,cN,az]|((first|apply bD|apply bH|apply bG)<;>intro h<;>try simp at h))<;>(try exact b2));all_goals first|omega|skip
   rw[dh];refine cA.ob g2 (dE cU.2) aE aE (by simp[aq]) ?_;rintro r s2 ⟨rfl,rfl⟩;refine⟨dT _ _,?_⟩;simp[gX,iJ,bX,az];(with_reducible repeat' first|refine aj ?_|simp[hu,aw,cN,az]);refine cI.at (S dq.2) (.inl rfl) (dE _) (dT _ _) aE aE ?_;simp[cL,uZ,aT,aU,aS]
 |var n=>intro a p hi he;have af:=dE a;simp only[T.sizeO,gr]at he;obtain⟨cU,J,rfl⟩:=he;have ab:=Cd n a cU hi J;refine⟨ab.1,by simp only;split<;>omega,?_⟩;refine bJ.mk mixed fF xo yf Ψ af.obj fun aR cE=>?_;unfold vo;simp[hu,aw,cN,az,dh];(with_reducible repeat' first|refine aj ?_|simp[hu,aw,cN,az]);refine cA.ob (aO n a cU hi J) af aE aE (by simp[aq]) ?_;rintro r ah ⟨rfl,rfl⟩;refine⟨dT _ _,?_⟩;simp[gX,iJ,bX,az];refine cI.at (S cU.2) (.inl rfl) (dE _) (dT _ _) aE aE ?_;simp[cL,uZ,aT,aU,aS]
 |_=>intro a p hi he;have af:=dE a;simp only[T.sizeO,dy]at he;subst he;refine⟨hi,Ψ,?_⟩;refine bJ.mk mixed fF xo yf Ψ af.obj fun aR cE=>?_;unfold vo;simp[hu,aw,cN,az,dh];(with_reducible repeat' first|refine aj ?_|simp[hu,aw,cN,az]);refine cI.at (S a) (.inl rfl) af (Same.refl _) aE aE ?_;simp[cL,uZ,aT,aU,aS]
end
end
section
open Go Go.Pv
theorem La{α β:Type}(k:aL):∀{l:List (aL×α)} {a6:List (aL×β)},l.map (·.1)=a6.map (·.1)->(Pv.look k l).isSome=(Pv.look k a6).isSome
 |[],[],_=>rfl
 |[],_::_,h=>by simp at h
 |_::_,[],h=>by simp at h
 |(i,x)::r,(j,y)::eG,h=>by
  simp only[eO,yO]at h;simp only[Pv.look];obtain⟨rfl,h⟩:=h;split
  ·rfl
  ·exact La k h
theorem _root_.Go.Pv.Same.keys{s ah:cM}(ab:s.b.map (·.1)=ah.b.map (·.1))(he:s.e.map (·.1)=ah.e.map (·.1)):Same s ah:=⟨fun k=>La k ab,fun k=>La k he⟩
section
variable {α:Type} (e:α->ai)
def r7(l:List (Int×α)):List ai:=iv (l.map fun x=>(x.1,e x.2))
theorem N5(k:Int):∀l:List (Int×α),xd k (l.map fun x=>(x.1,e x.2))=(tg k l).map e
 |[]=>rfl
 |(i,v)::r=>by
  simp only[eO,xd,tg];split
  ·rfl
  ·exact N5 k r
theorem Oc(k:Int)(v:α):∀l:List (Int×α),o6 k (e v) (l.map fun x=>(x.1,e x.2))=if(tg k l).isSome then some ((eU k v l).map fun x=>(x.1,e x.2))else none
 |[]=>rfl
 |(i,w)::r=>by
  simp only[eO,o6,tg,eU];by_cases h:k=i
  ·subst h;simp
  ·simp only[h,if_false,Oc k v r];cases (tg k r).isSome<;>simp
theorem Xe{k:Int}{v:α}:∀{l:List (Int×α)},tg k l=none->eU k v l=l++[(k,v)]
 |[],_=>rfl
 |(i,w)::r,h=>by
  simp only[tg]at h;split at h
  ·cases h
  ·rename_i cF;simp[eU,cF,Xe h]
theorem Lv(k:Int)(v:α)(l:List (Int×α)):oN .i (.int .i64 k) (e v) (r7 e l)=some (r7 e (eU k v l)):=by
 simp only[r7,UL,gI,Oc];cases h:tg k l with
 |some w=>simp
 |none=>simp[Xe h]
theorem Lr(f:aL->Option (List ai))(m:aL)(l:List (Int×α))(z:ai)(ok:Bool)(k:Int)(hm:f m=some (r7 e l)):nY f .i z ok (.gmap m) (.int .i64 k)=some (True,if ok then .tuple [((tg k l).map e).getD z,.bool (tg k l).isSome]else((tg k l).map e).getD z):=by rw[wo f m _ z ok k hm,N5];cases tg k l<;>rfl
@[simp]theorem aqF(l:List (Int×α)):hS (r7 e l)=false:=rfl
theorem KY(S:aL->Prop)(he:∀x,aJ S (e x))(l:List (Int×α)):aP S (r7 e l):=by
 have:∀l:List (Int×α),aP S (kv (l.map fun x=>(x.1,e x.2))):=by
  intro l;induction l with
  |nil=>simp[kv,aP]
  |cons x r bO=>simp[kv,aP,bO,he]
 simp[r7,iv,aP,this,aJ]
end
def nt:List (Int×Int)->List ai:=r7 (ai.int .i64)
def qe:List (Int×Bool)->List ai:=r7 ai.bool
def tu:List (Int×T)->List ai:=r7 T.e
@[simp]theorem aqC(l):hS (nt l)=false:=rfl
@[simp]theorem aqA(l):hS (qe l)=false:=rfl
@[simp]theorem aqE(l):hS (tu l)=false:=rfl
@[simp]theorem apC(S:aL->Prop)(l):aP S (nt l)=True:=eq_true (KY _ S (fun _=>by simp) l)
@[simp]theorem apB(S:aL->Prop)(l):aP S (qe l)=True:=eq_true (KY _ S (fun _=>by simp) l)
@[simp]theorem apD(S:aL->Prop)(l):aP S (tu l)=True:=eq_true (KY _ S (fun _=>by simp) l)
@[simp]theorem aqo(k v:Int)(l):oN .i (.int .i64 k) (.int .i64 v) (nt l)=some (nt (eU k v l)):=Lv _ k v l
@[simp]theorem aqn(k:Int)(v:Bool)(l):oN .i (.int .i64 k) (.bool v) (qe l)=some (qe (eU k v l)):=Lv _ k v l
@[simp]theorem aqq(k:Int)(v:T)(l):oN .i (.int .i64 k) v.e (tu l)=some (tu (eU k v l)):=Lv _ k v l
def ma(cc:hL)(z:ai)(ok:Bool)(o:Option (List ai))(k:ai):Option (Prop×ai):=nY (fun _=>o) cc z ok (.gmap (.loc 0)) k
@[simp]theorem aql(f:aL->Option (List ai))(cc:hL)(z:ai)(ok:Bool)(m:aL)(k:ai):nY f cc z ok (.gmap m) k=ma cc z ok (f m) k:=by simp only[ma,Ux]
theorem ahk(f:aL->Option (List ai))(m:aL)(l:List (Int×Int))(ok:Bool)(k:Int)(hm:f m=some (nt l)):nY f .i (.int .i64 0) ok (.gmap m) (.int .i64 k)=some (True,if ok then .tuple [.int .i64 (jb l k),.bool (tg k l).isSome]else .int .i64 (jb l k)):=by rw[Lr _ f m l _ ok k hm];unfold jb;cases tg k l<;>rfl
theorem ahj(f:aL->Option (List ai))(m:aL)(l:List (Int×Bool))(ok:Bool)(k:Int)(hm:f m=some (qe l)):nY f .i (.bool false) ok (.gmap m) (.int .i64 k)=some (True,if ok then .tuple [.bool ((tg k l).getD false),.bool (tg k l).isSome]else .bool ((tg k l).getD false)):=by rw[Lr _ f m l _ ok k hm];cases tg k l<;>rfl
def W9:ai:= .agg [.int .i64 0,.int .i64 0,.str [],.slice 4 .nil []]
def wU(o:Option T):ai:=(o.map T.e).getD W9
theorem ahl(f:aL->Option (List ai))(m:aL)(l:List (Int×T))(ok:Bool)(k:Int)(hm:f m=some (tu l)):nY f .i (.agg [.int .i64 0,.int .i64 0,.str [],.slice 4 .nil []]) ok (.gmap m) (.int .i64 k)=some (True,if ok then .tuple [wU (tg k l),.bool (tg k l).isSome]else wU (tg k l)):=by rw[Lr _ f m l _ ok k hm];rfl
@[simp]theorem aqj(l:List (Int×Int))(ok:Bool)(k:Int):ma .i (.int .i64 0) ok (some (nt l)) (.int .i64 k)=some (True,if ok then .tuple [.int .i64 (jb l k),.bool (tg k l).isSome]else .int .i64 (jb l k)):=ahk _ _ l ok k rfl
@[simp]theorem aqi(l:List (Int×Bool))(ok:Bool)(k:Int):ma .i (.bool false) ok (some (qe l)) (.int .i64 k)=some (True,if ok then .tuple [.bool ((tg k l).getD false),.bool (tg k l).isSome]else .bool ((tg k l).getD false)):=ahj _ _ l ok k rfl
@[simp]theorem aqk(l:List (Int×T))(ok:Bool)(k:Int):ma .i (.agg [.int .i64 0,.int .i64 0,.str [],.slice 4 .nil []]) ok (some (tu l)) (.int .i64 k)=some (True,if ok then .tuple [wU (tg k l),.bool (tg k l).isSome]else wU (tg k l)):=ahl _ _ l ok k rfl
@[simp]theorem arw(o:Option T):ev (wU o)=(o.getD .nil).e:=by cases o<;>simp[wU,W9,ev,dr]
@[simp]theorem ap7:[ai.hdm 0 []]=iv []:=rfl
def aB:ai:= .eptr (.agg [.gmap (.obj 702),.gmap (.obj 703),.gmap (.obj 704),.gmap (.obj 705),.gmap (.obj 706),.gmap (.obj 707)])
def aA(c:bs):List (aL×List ai):=[(.obj 702,nt c.up),(.obj 703,tu c.shape),(.obj 704,qe c.shaped),(.obj 705,nt c.color),(.obj 706,nt c.size),(.obj 707,tu c.full)]
def aN(c:bs):cM:=⟨aA c,[]⟩
theorem cd(c:bs):dN (aN c):=by unfold aN aA;exact dN.of ⟨by intro m;simp[Pv.look],by intro m;simp[Pv.look]⟩ Ψ Ψ
theorem Em(c cl:bs):Same (aN c) (aN cl):=by
 refine⟨fun k=>?_,fun k=>rfl⟩;simp only[aN,aA,Pv.look];repeat' split
 all_goals rfl
theorem rC(c:bs)(v r:Int)(cl:bs)(he:rt c v=some (r,cl)):bJ ay 196 [aB,.int .i64 v] (aN c) fun eG ah=>eG= .int .i64 r/\ah=aN cl:=by
 have af:=cd c;have eL:=cd cl;have dT:=Em c cl;simp only[rt,gr,jE]at he;obtain⟨⟨eR,m1⟩,he,rfl,rfl⟩:=he;unfold aN aA at af eL dT⊢;simp only at eL dT⊢;unfold aB;refine bJ.mk mixed jC abl aid Ψ af.obj fun aR cE=>?_;unfold OY;simp;(with_reducible repeat' first|((first|apply bD|apply bH|apply bG)<;>intro h<;>try simp at h)|refine aj ?_|simp);all_goals
  refine oy (α:=Nat×Int×List (Int×Int)) (fun a=>⟨[(0,aB),(1,.int .i64 a.2.1)],[(.obj 702,nt a.2.2),(.obj 703,tu c.shape),(.obj 704,qe c.shaped),(.obj 705,nt c.color),(.obj 706,nt c.size),(.obj 707,tu c.full)],[],0,[.obj 702,.obj 703,.obj 704,.obj 705,.obj 706,.obj 707]⟩) (fun a=>a.1) (fun a=>wK a.1 a.2.2 a.2.1=some (eR,m1)) (v.toNat+1,v,yW v c.up) (by simp[yW,h,aB];exact⟨by simp[fresh,aP,aJ,cx,inObs,Pv.look,aB],eS (by simp[fresh,aP,aJ,cx,inObs,Pv.look,aB]),eT (by simp[fresh,aP,aJ,et,inObs,Pv.look,aB]),Ψ⟩) he ?_
  rintro⟨n,u,m⟩ ag ab
  simp only at ag ab⊢
  cases n with
  |zero=>simp[wK]at ag
  |succ n=>
   simp only[wK]at ag
   simp[aB]
   (with_reducible repeat' first|((first|apply bD|apply bH|apply bG)<;>intro h<;>try simp at h)|refine aj ?_|simp)
   ·rw[if_neg h]at ag
    refine bR.whl (n,jb (eU u (jb m (jb m u)) m) u,eU u (jb m (jb m u)) m) (Nat.lt_succ_self n) ag ?_
    simp[aB]
    exact⟨by simp[fresh,aP,aJ,cx,inObs,Pv.look,aB],eS (by simp[fresh,aP,aJ,cx,inObs,Pv.look,aB]),eT (by simp[fresh,aP,aJ,et,inObs,Pv.look,aB]),Ψ⟩
   ·rw[if_pos h]at ag
    cases ag
    refine cI.at _ (.inl rfl) eL dT aE aE ?_
    simp[cL,VA,aT,aU,aS]
end
section
open Go Go.Pv
theorem adE(c:bs)(v r:Int)(cl:bs)(he:rt c v=some (r,cl)):bJ ay 243 [.int .i64 v,.eptr aB] (aN c) fun eG ah=>eG= .tuple []/\ah=aN cl:=by have af:=cd c;simp only[aN,aA]at af⊢;refine bJ.mk mixed jC abi aia Ψ af.obj fun aR cE=>?_;unfold OV;simp[aB];(refine cA.ob (rC c v r cl he) bi bf bf d6 ?_;rintro r ah ⟨rfl,rfl⟩;refine⟨(Same.keys ci ci),?_⟩;simp[bX,aN,aA,aB]);(refine cI.at (aN cl) Ψ bi (Same.keys ci ci) bf bf ?_;simp[cL,Vy,aT,aU,aS,inObs,Pv.look,aN,aA,aB])
theorem Jz(c:bs)(t:T)(cl:bs)(he:Ab t c=some cl):bJ ay 197 [aB,t.e] (aN c) fun eG ah=>eG= .tuple []/\ah=aN cl:=by
 have af:=cd c;have key:=RD aN cd Em 243 [.eptr aB] (fun a=>by simp[aN,aA,aB,inObs,Pv.look]) rfl (fun(v:Int) (c:bs)=>(rt c v).map Prod.snd) (fun v a bp h=>by rw[gr]at h;obtain⟨⟨r,bT⟩,J,rfl⟩:=h;exact adE a v r bT J) t c cl he
 simp only[aN,aA]at af⊢;refine bJ.mk mixed jC abh ah9 Ψ af.obj fun aR cE=>?_;unfold OU;simp[aB];(refine cA.ob (key) bi bf bf d6 ?_;rintro r ah ⟨rfl,rfl⟩;refine⟨(Same.keys ci ci),?_⟩;simp[bX,aN,aA,aB]);(refine cI.at (aN cl) Ψ bi (Same.keys ci ci) bf bf ?_;simp[cL,Vx,aT,aU,aS,inObs,Pv.look,aN,aA,aB])
def ez(K:Nat)(a:bs×List (Int×Bool)):cM:=⟨aA a.1++[(.obj K,qe a.2)],[]⟩
def ga(K:Nat)(a:tS):cM:=⟨aA a.c++[(.obj K,qe a.seen),(.obj 712,[.bool a.found])],[]⟩
def yc(K:Nat):Prop:=K=715\/K=716
theorem ic{K:Nat}(c2:yc K)(a):dN (ez K a):=by unfold ez aA;rcases c2 with rfl|rfl;all_goals exact dN.of ⟨by intro m;simp[Pv.look],by intro m;simp[Pv.look]⟩ Ψ Ψ
theorem pQ{K:Nat}(c2:yc K)(a):dN (ga K a):=by unfold ga aA;rcases c2 with rfl|rfl;all_goals exact dN.of ⟨by intro m;simp[Pv.look],by intro m;simp[Pv.look]⟩ Ψ Ψ
theorem H2{K:Nat}(a b):Same (ga K a) (ga K b):=by
 refine⟨fun k=>?_,fun k=>rfl⟩;simp only[ga,aA,bV,b3,Pv.look];repeat' split
 all_goals rfl
theorem adK{K:Nat}(c2:yc K)(n:Nat)(x:Int)(vP:∀t c seen a,pI n x t c seen=some a->bJ ay 244 [aB,t.e,.int .i64 x,.gmap (.obj K)] (ez K (c,seen)) fun r ah=>r= .bool a.found/\ah=ez K (a.c,a.seen))
  (v:Int) (a bp:tS) (he:wJ (pI n x) x v a=some bp):bJ ay 273 [.int .i64 v,.eptr aB,.ptr (.obj 712) 0,.eptr (.int .i64 x),.eptr (.gmap (.obj K))] (ga K a) fun r ah=>r= .tuple []/\ah=ga K bp:=by
 have af:=pQ c2 a;simp only[wJ,iK]at he;obtain⟨⟨r,bT⟩,J,U⟩:=he;simp only at U;have ad:=c2;rcases ad with rfl|rfl;all_goals
  simp only[ga,aA,bV,b3]at af⊢
  refine bJ.mk mixed jC abk aic Ψ af.obj fun aR cE=>?_;unfold OX
  simp[aB]
  (refine cA.ob (rC a.c v r bT J) bi bf bf d6 ?_;rintro r ah ⟨rfl,rfl⟩;refine⟨(Same.keys ci ci),?_⟩;simp[bX,aN,aA,aB])
  obtain⟨ac,wP,Ie⟩:=a
  cases Ie with
  |true=>
   simp at U;subst U
   (with_reducible repeat' first|refine aj ?_|simp)
   (refine cI.at (ga _ ⟨bT,wP,true⟩) Ψ (by first|exact pQ _|exact pQ ‹_› _) (Same.keys (by simp[ga,aA,aB]) (by simp[ga,aA,aB])) gc gc ?_;simp[cL,AA,aT,aU,aS,inObs,Pv.look,ga,aA,aB])
  |false=>
   by_cases ae:r=x
   ·simp[ae]at U;subst U
    (with_reducible repeat' first|refine aj ?_|simp[ae])
    (refine cI.at (ga _ ⟨bT,wP,true⟩) Ψ (by first|exact pQ _|exact pQ ‹_› _) (Same.keys (by simp[ga,aA,aB]) (by simp[ga,aA,aB])) gc gc ?_;simp[cL,AA,aT,aU,aS,inObs,Pv.look,ga,aA,aB])
   ·have iq:(r==x)=false:=by simp[ae]
    simp only[ae,gF,or_self,if_false]at U
    cases vS:(tg r wP).getD false with
    |true=>
     simp[vS]at U;subst U
     (with_reducible repeat' first|refine aj ?_|simp[iq,vS])
     (refine cI.at (ga _ ⟨bT,wP,false⟩) Ψ (by first|exact pQ _|exact pQ ‹_› _) (Same.keys (by simp[ga,aA,aB]) (by simp[ga,aA,aB])) gc gc ?_;simp[cL,AA,aT,aU,aS,inObs,Pv.look,ga,aA,aB])
    |false=>
     cases gA:bT.shd r with
     |false=>
      have Kn:(tg r bT.shaped).getD false=false:=gA
      simp[vS,gA]at U;subst U
      (with_reducible repeat' first|refine aj ?_|simp[iq,vS,Kn])
      (refine cI.at (ga _ ⟨bT,wP,false⟩) Ψ (by first|exact pQ _|exact pQ ‹_› _) (Same.keys (by simp[ga,aA,aB]) (by simp[ga,aA,aB])) gc gc ?_;simp[cL,AA,aT,aU,aS,inObs,Pv.look,ga,aA,aB])
     |true=>
      have Kn:(tg r bT.shaped).getD false=true:=gA
      simp[vS,gA]at U
      have aK:=vP _ _ _ _ U
      (with_reducible repeat' first|refine aj ?_|simp[iq,vS,Kn])
      (refine hW.ob (aK) d9 d9 (Same.keys (by simp[ez,aA,aB]) (by simp[ez,aA,aB])) (by simp only[ez,aA,aB,bV,b3];exact aE) (by simp only[ez,aA,aB,bV,b3];exact aE) (by simp[inObs,Pv.look,ez,aA,aB]) ?_;simp[bX,ez,aA,aB])
      (with_reducible repeat' first|refine aj ?_|simp)
      (refine cI.at (ga _ bp) Ψ (by first|exact pQ _|exact pQ ‹_› _) (Same.keys (by simp[ga,aA,aB]) (by simp[ga,aA,aB])) gc gc ?_;simp[cL,AA,aT,aU,aS,inObs,Pv.look,ga,aA,aB])
theorem Fh{K:Nat}(c2:yc K)(x:Int)(n:Nat):∀(t:T) (c:bs) (seen:List (Int×Bool)) (a:tS),pI n x t c seen=some a->bJ ay 244 [aB,t.e,.int .i64 x,.gmap (.obj K)] (ez K (c,seen)) fun r ah=>r= .bool a.found/\ah=ez K (a.c,a.seen):=by
 induction n with
 |zero=>intro t c seen a h;simp[pI]at h
 |succ n bO=>
  intro t c seen a h;simp only[pI]at h;have af:=ic c2 (c,seen);have key:=RD (ga K) (pQ c2) H2 273 [.eptr aB,.ptr (.obj 712) 0,.eptr (.int .i64 x),.eptr (.gmap (.obj K))] (fun a=>by rcases c2 with rfl|rfl<;>simp[ga,aA,aB,inObs,Pv.look]) rfl (wJ (pI n x) x) (fun v a bp h=>adK c2 n x bO v a bp h) t ⟨c,seen,false⟩ a h;have ad:=c2;rcases ad with rfl|rfl;all_goals
   simp only[ez,aA,bV,b3]at af⊢
   refine bJ.mk mixed jC abj aib Ψ af.obj fun aR cE=>?_;unfold OW
   simp[aB]
   refine cA.new key (pQ c2 _) gc gc (by simp[inObs,Pv.look,ga,aA,aB]) ?_
   rintro r ah ⟨rfl,rfl⟩
   refine⟨fun m hm=>.inl ⟨?_,H2 _ _⟩,?_⟩
   ·exact((H2 _ _).inObs _).2 hm
   simp[bX,ga,aA]
   (with_reducible repeat' first|refine aj ?_|simp)
   (refine cI.at (ez _ (a.c,a.seen)) Ψ d9 (Same.keys (by simp[ez,aA,aB]) (by simp[ez,aA,aB])) (by simp only[ez,aA,aB,bV,b3];exact aE) (by simp only[ez,aA,aB,bV,b3];exact aE) ?_;simp[cL,Vz,aT,aU,aS,inObs,Pv.look,ez,aA,aB])
@[simp]theorem Lc:qe []=iv []:=rfl
@[simp]theorem ary(t:T):wU (some t)=t.e:=rfl
@[simp]theorem arx:wU none= .agg [.int .i64 0,.int .i64 0,.str [],.slice 4 .nil []]:=rfl
theorem RG(n:Nat)(x:Int)(t:T)(c:bs)(p:Bool×bs)(he:uK n x t c=some p):bJ ay 245 [aB,.int .i64 x,t.e] (aN c) fun r ah=>r= .bool p.1/\ah=aN p.2:=by have af:=cd c;simp only[uK,gr]at he;obtain⟨a,J,rfl⟩:=he;have c2:yc 715:= .inl rfl;have key:=Fh c2 x n t (c.know x t) [] a J;simp only[aN,aA]at af⊢;refine bJ.mk mixed jC abg ah8 Ψ af.obj fun aR cE=>?_;unfold OT;simp[aB];(refine cA.ob (key) d9 (by simp only[ez,aA,aB,bs.know,bV,b3];exact aE) (by simp only[ez,aA,aB,bs.know,bV,b3];exact aE) (by simp[inObs,Pv.look,ez,aA,aB,bs.know]) ?_;rintro r ah ⟨rfl,rfl⟩;refine⟨(Same.keys (by simp[ez,aA,aB,bs.know]) (by simp[ez,aA,aB,bs.know])),?_⟩;simp[bX,ez,aA,aB,bs.know]);(refine cI.at (aN a.c) Ψ bi (Same.keys ci ci) bf bf ?_;simp[cL,Vw,aT,aU,aS,inObs,Pv.look,aN,aA,aB])
theorem RE(n:Nat):∀(a b:T) (c:bs) (p:Bool×bs),gv n a b c=some p->bJ ay 198 [aB,a.e,b.e] (aN c) fun r ah=>r= .bool p.1/\ah=aN p.2:=by
 induction n with
 |zero=>intro a b c p h;simp[gv]at h
 |succ n bO=>
  intro a b c p he;have af:=cd c;have CH:∀i j,a= .var i->b= .var j->bJ ay 198 [aB,a.e,b.e] (aN c) fun r ah=>r= .bool p.1/\ah=aN p.2:=by
   rintro i j rfl rfl;simp only[gv,iK]at he;obtain⟨⟨x,bT⟩,J,⟨y,cv⟩,U,al⟩:=he;simp only at U al;simp only[aN,aA]at af⊢;refine bJ.mk mixed jC xm ye Ψ af.obj fun aR cE=>?_;unfold vn;simp[aB];(refine cA.ob (rC c i x bT J) bi bf bf d6 ?_;rintro r ah ⟨rfl,rfl⟩;refine⟨(Same.keys ci ci),?_⟩;simp[bX,aN,aA,aB]);(with_reducible repeat' first|refine aj ?_|simp);(refine cA.ob (rC bT j y cv U) bi bf bf d6 ?_;rintro r ah ⟨rfl,rfl⟩;refine⟨(Same.keys ci ci),?_⟩;simp[bX,aN,aA,aB]);by_cases gz:x=y
   ·rw[if_pos gz]at al;cases al;(with_reducible repeat' first|refine aj ?_|simp[gz]);(refine cI.at (aN cv) Ψ bi (Same.keys ci ci) bf bf ?_;simp[cL,n2,aT,aU,aS,inObs,Pv.look,aN,aA,aB])
   ·rw[if_neg gz]at al;have zP:(x==y)=false:=by simp[gz]
    have R5:yc 715:= .inl rfl;have aep:yc 716:= .inr rfl;obtain⟨u,v,zM,a1⟩:∃u v,((u=y/\v=x/\y<x)\/(u=x/\v=y/\¬y<x))/\rv (gv n) n u v (cv.join u v)=some p:=by
     by_cases bt:y<x
     ·rw[if_pos bt]at al;exact⟨y,x,.inl ⟨rfl,rfl,bt⟩,al⟩
     ·rw[if_neg bt]at al;exact⟨x,y,.inr ⟨rfl,rfl,bt⟩,al⟩
    clear al;obtain⟨d,aG⟩:∃d,d=cv.join u v:=⟨_,rfl⟩;have ff:d.up=eU v u cv.up:=by rw[aG];rfl
    have eK:d.shape=cv.shape:=by rw[aG];rfl
    have gy:d.shaped=cv.shaped:=by rw[aG];rfl
    have hB:d.color=cv.color:=by rw[aG];rfl
    have hC:d.size=cv.size:=by rw[aG];rfl
    have hD:d.full=cv.full:=by rw[aG];rfl
    rw[<-aG]at a1;simp only[rv]at a1;cases av:d.shd v with
    |false=>
     have l7:(tg v cv.shaped).getD false=false:=by rw[<-gy];exact av
     rw[if_pos av]at a1;cases hu:d.shd u with
     |false=>
      have uD:(tg u cv.shaped).getD false=false:=by rw[<-gy];exact hu
      rw[if_pos hu]at a1;cases a1;rcases zM with⟨rfl,rfl,bt⟩|⟨rfl,rfl,bt⟩;all_goals
       (with_reducible repeat' first|refine aj ?_|simp[zP,bt,l7,uD])
       (refine cI.at (aN d) Ψ bi (Same.keys (by simp[aN,aA,aB,ff,eK,gy,hB,hC,hD]) (by simp[aN,aA,aB,ff,eK,gy,hB,hC,hD])) (by simp only[aN,aA,aB,ff,eK,gy,hB,hC,hD,bV,b3];exact aE) (by simp only[aN,aA,aB,ff,eK,gy,hB,hC,hD,bV,b3];exact aE) ?_;simp[cL,n2,aT,aU,aS,inObs,Pv.look,aN,aA,aB,ff,eK,gy,hB,hC,hD])
     |true=>
      have uD:(tg u cv.shaped).getD false=true:=by rw[<-gy];exact hu
      rw[if_neg (by simp[hu]),gr]at a1;obtain⟨a,bW,rfl⟩:=a1;have key:=Fh R5 u n _ _ _ _ bW;rw[show d.shp u=(tg u cv.shape).getD .nil from by rw[<-eK];rfl]at key;rcases zM with⟨rfl,rfl,bt⟩|⟨rfl,rfl,bt⟩;all_goals
       (with_reducible repeat' first|refine aj ?_|simp[zP,bt,l7,uD])
       (refine cA.ob (key) d9 ge ge (by simp[inObs,Pv.look,ez,aA,aB,ff,eK,gy,hB,hC,hD]) ?_;rintro r ah ⟨rfl,rfl⟩;refine⟨(Same.keys (by simp[ez,aA,aB,ff,eK,gy,hB,hC,hD]) (by simp[ez,aA,aB,ff,eK,gy,hB,hC,hD])),?_⟩;simp[bX,ez,aA,aB,ff,eK,gy,hB,hC,hD])
       (with_reducible repeat' first|refine aj ?_|simp)
       (refine cI.at (aN a.c) Ψ bi (Same.keys ci ci) bf bf ?_;simp[cL,n2,aT,aU,aS,inObs,Pv.look,aN,aA,aB])
    |true=>
     have l7:(tg v cv.shaped).getD false=true:=by rw[<-gy];exact av
     rw[if_neg (by simp[av])]at a1;rw[show d.shp v=(tg v cv.shape).getD .nil from by rw[<-eK];rfl]at a1;cases hu:d.shd u with
     |false=>
      have uD:(tg u cv.shaped).getD false=false:=by rw[<-gy];exact hu
      rw[if_pos hu]at a1;have key:=RG n u _ d p a1;cases aI:tg v cv.shape;all_goals
       rw[aI]at key
       simp only[hV,jq]at key
       rcases zM with⟨rfl,rfl,bt⟩|⟨rfl,rfl,bt⟩
       all_goals
        (with_reducible repeat' first|refine aj ?_|simp[zP,bt,l7,uD,aI])
        (refine cA.ob (key) bi (by simp only[aN,aA,aB,ff,eK,gy,hB,hC,hD,bV,b3];exact aE) (by simp only[aN,aA,aB,ff,eK,gy,hB,hC,hD,bV,b3];exact aE) (by simp[inObs,Pv.look,aN,aA,aB,ff,eK,gy,hB,hC,hD]) ?_;rintro r ah ⟨rfl,rfl⟩;refine⟨(Same.keys (by simp[aN,aA,aB,ff,eK,gy,hB,hC,hD]) (by simp[aN,aA,aB,ff,eK,gy,hB,hC,hD])),?_⟩;simp[bX,aN,aA,aB,ff,eK,gy,hB,hC,hD])
        (with_reducible repeat' first|refine aj ?_|simp)
        (refine cI.at (aN p.2) Ψ bi (Same.keys ci ci) bf bf ?_;simp[cL,n2,aT,aU,aS,inObs,Pv.look,aN,aA,aB])
     |true=>
      have uD:(tg u cv.shaped).getD false=true:=by rw[<-gy];exact hu
      rw[if_neg (by simp[hu]),iK]at a1;obtain⟨a,bW,dd⟩:=a1;have key:=Fh R5 u n _ _ _ _ bW;obtain⟨o,aI⟩:∃o,tg v cv.shape=o:=⟨_,rfl⟩;rw[aI]at key dd;obtain⟨ac,wP,Ie⟩:=a;cases Ie with
      |true=>
       simp at dd;subst dd;cases o;all_goals
        simp only[hV,jq]at key
        rcases zM with⟨rfl,rfl,bt⟩|⟨rfl,rfl,bt⟩
        all_goals
         (with_reducible repeat' first|refine aj ?_|simp[zP,bt,l7,uD,aI])
         (refine hW.ob (key) d9 d9 (Same.keys (by simp[ez,aA,aB,ff,eK,gy,hB,hC,hD]) (by simp[ez,aA,aB,ff,eK,gy,hB,hC,hD])) ge ge (by simp[inObs,Pv.look,ez,aA,aB,ff,eK,gy,hB,hC,hD]) ?_;simp[bX,ez,aA,aB,ff,eK,gy,hB,hC,hD])
         (with_reducible repeat' first|refine aj ?_|simp)
         (refine cI.at (aN ac) Ψ bi (Same.keys ci ci) bf bf ?_;simp[cL,n2,aT,aU,aS,inObs,Pv.look,aN,aA,aB])
      |false=>
       simp only[gF,if_false,iK]at dd;obtain⟨b,dW,nQ⟩:=dd;have wa:=Fh aep u n _ _ _ _ dW;rw[show ac.shp u=(tg u ac.shape).getD .nil from rfl]at wa;obtain⟨Il,anW,YS⟩:=b;cases YS with
       |true=>
        simp at nQ;subst nQ;cases o;all_goals
         simp only[hV,jq]at key
         rcases zM with⟨rfl,rfl,bt⟩|⟨rfl,rfl,bt⟩
         all_goals
          (with_reducible repeat' first|refine aj ?_|simp[zP,bt,l7,uD,aI])
          (refine hW.ob (key) d9 d9 (Same.keys (by simp[ez,aA,aB,ff,eK,gy,hB,hC,hD]) (by simp[ez,aA,aB,ff,eK,gy,hB,hC,hD])) ge ge (by simp[inObs,Pv.look,ez,aA,aB,ff,eK,gy,hB,hC,hD]) ?_;simp[bX,ez,aA,aB,ff,eK,gy,hB,hC,hD])
          (with_reducible repeat' first|refine aj ?_|simp)
          (refine hW.ob (wa) d9 d9 (Same.keys (by simp[ez,aA,aB]) (by simp[ez,aA,aB])) (by simp only[ez,aA,aB,bV,b3];exact aE) (by simp only[ez,aA,aB,bV,b3];exact aE) (by simp[inObs,Pv.look,ez,aA,aB]) ?_;simp[bX,ez,aA,aB])
          (with_reducible repeat' first|refine aj ?_|simp)
          (refine cI.at (aN Il) Ψ bi (Same.keys ci ci) bf bf ?_;simp[cL,n2,aT,aU,aS,inObs,Pv.look,aN,aA,aB])
       |false=>
        simp only[gF,if_false]at nQ;have KU:=bO _ _ _ _ nQ;rw[show Il.shp u=(tg u Il.shape).getD .nil from rfl]at KU;cases o;all_goals
         simp only[hV,jq]at key KU
         rcases zM with⟨rfl,rfl,bt⟩|⟨rfl,rfl,bt⟩
         all_goals
          (with_reducible repeat' first|refine aj ?_|simp[zP,bt,l7,uD,aI])
          (refine hW.ob (key) d9 d9 (Same.keys (by simp[ez,aA,aB,ff,eK,gy,hB,hC,hD]) (by simp[ez,aA,aB,ff,eK,gy,hB,hC,hD])) ge ge (by simp[inObs,Pv.look,ez,aA,aB,ff,eK,gy,hB,hC,hD]) ?_;simp[bX,ez,aA,aB,ff,eK,gy,hB,hC,hD])
          (with_reducible repeat' first|refine aj ?_|simp)
          (refine hW.ob (wa) d9 d9 (Same.keys (by simp[ez,aA,aB]) (by simp[ez,aA,aB])) (by simp only[ez,aA,aB,bV,b3];exact aE) (by simp only[ez,aA,aB,bV,b3];exact aE) (by simp[inObs,Pv.look,ez,aA,aB]) ?_;simp[bX,ez,aA,aB])
          (with_reducible repeat' first|refine aj ?_|simp)
          (refine hW.ob (KU) bi bi (Same.keys ci ci) bf bf d6 ?_;simp[bX,aN,aA,aB])
          (with_reducible repeat' first|refine aj ?_|simp)
          (refine cI.at (aN p.2) Ψ bi (Same.keys ci ci) bf bf ?_;simp[cL,n2,aT,aU,aS,inObs,Pv.look,aN,aA,aB])
  have av:∀i,a= .var i->b.kind≠1->bJ ay 198 [aB,a.e,b.e] (aN c) fun r ah=>r= .bool p.1/\ah=aN p.2:=by
   rintro i rfl ab;have vC:((rt c i).bind fun p=>if p.2.shd p.1=false then uK n p.1 b p.2 else gv n (p.2.shp p.1) b p.2)=some p:=by cases b<;>first|exact he|simp at ab
   simp only[iK]at vC;obtain⟨⟨x,bT⟩,J,U⟩:=vC;simp only at U;have fX:(b.kind==1)=false:=by simp[ab]
   simp only[aN,aA]at af⊢;refine bJ.mk mixed jC xm ye Ψ af.obj fun aR cE=>?_;unfold vn;simp[aB];(with_reducible repeat' first|refine aj ?_|simp[fX,ab]);(refine cA.ob (rC c i x bT J) bi bf bf d6 ?_;rintro r ah ⟨rfl,rfl⟩;refine⟨(Same.keys ci ci),?_⟩;simp[bX,aN,aA,aB]);cases ae:bT.shd x with
   |false=>have iq:(tg x bT.shaped).getD false=false:=ae;rw[if_pos ae]at U;(with_reducible repeat' first|refine aj ?_|simp[iq]);(refine cA.ob (RG n x b bT p U) bi bf bf d6 ?_;rintro r ah ⟨rfl,rfl⟩;refine⟨(Same.keys ci ci),?_⟩;simp[bX,aN,aA,aB]);(refine cI.at (aN p.2) Ψ bi (Same.keys ci ci) bf bf ?_;simp[cL,n2,aT,aU,aS,inObs,Pv.look,aN,aA,aB])
   |true=>have iq:(tg x bT.shaped).getD false=true:=ae;rw[if_neg (by simp[ae])]at U;have key:=bO _ _ _ _ U;(with_reducible repeat' first|refine aj ?_|simp[iq]);(refine hW.ob (key) bi bi (Same.keys ci ci) bf bf d6 ?_;simp[bX,aN,aA,aB]);(with_reducible repeat' first|refine aj ?_|simp);(refine cI.at (aN p.2) Ψ bi (Same.keys ci ci) bf bf ?_;simp[cL,n2,aT,aU,aS,inObs,Pv.look,aN,aA,aB])
  cases a with
  |var i=>
   cases b with
   |var j=>exact CH i j rfl rfl
   |_=>exact av i rfl Ψ
  |pair bz a2=>
   cases b with
   |var j=>simp only[gv]at he;have key:=bO _ _ _ _ he;simp only[aN,aA]at af⊢;refine bJ.mk mixed jC xm ye Ψ af.obj fun aR cE=>?_;unfold vn;simp[aB];(refine cA.ob (key) bi bf bf d6 ?_;rintro r ah ⟨rfl,rfl⟩;refine⟨(Same.keys ci ci),?_⟩;simp[bX,aN,aA,aB]);(refine cI.at (aN p.2) Ψ bi (Same.keys ci ci) bf bf ?_;simp[cL,n2,aT,aU,aS,inObs,Pv.look,aN,aA,aB])
   |pair cf b9=>
    simp only[gv,iK]at he;obtain⟨⟨f1,bT⟩,J,U⟩:=he;have key:=bO _ _ _ _ J;simp only[aN,aA]at af⊢;refine bJ.mk mixed jC xm ye Ψ af.obj fun aR cE=>?_;unfold vn;simp[aB];(with_reducible repeat' first|refine aj ?_|simp);(refine hW.ob (key) bi bi (Same.keys ci ci) bf bf d6 ?_;simp[bX,aN,aA,aB]);cases f1 with
    |false=>simp at U;subst U;(with_reducible repeat' first|refine aj ?_|simp);(refine cI.at (aN bT) Ψ bi (Same.keys ci ci) bf bf ?_;simp[cL,n2,aT,aU,aS,inObs,Pv.look,aN,aA,aB])
    |true=>simp at U;have wa:=bO _ _ _ _ U;(with_reducible repeat' first|refine aj ?_|simp);(refine hW.ob (wa) bi bi (Same.keys ci ci) bf bf d6 ?_;simp[bX,aN,aA,aB]);(with_reducible repeat' first|refine aj ?_|simp);(refine cI.at (aN p.2) Ψ bi (Same.keys ci ci) bf bf ?_;simp[cL,n2,aT,aU,aS,inObs,Pv.look,aN,aA,aB])
   |_=>simp[gv]at he;subst he;simp only[aN,aA]at af⊢;refine bJ.mk mixed jC xm ye Ψ af.obj fun aR cE=>?_;unfold vn;simp[aB];(refine cI.at (aN c) Ψ bi (Same.keys ci ci) bf bf ?_;simp[cL,n2,aT,aU,aS,inObs,Pv.look,aN,aA,aB])
  |_=>
   cases b with
   |var j=>simp only[gv]at he;have key:=bO _ _ _ _ he;simp only[aN,aA]at af⊢;refine bJ.mk mixed jC xm ye Ψ af.obj fun aR cE=>?_;unfold vn;simp[aB];(refine cA.ob (key) bi bf bf d6 ?_;rintro r ah ⟨rfl,rfl⟩;refine⟨(Same.keys ci ci),?_⟩;simp[bX,aN,aA,aB]);(refine cI.at (aN p.2) Ψ bi (Same.keys ci ci) bf bf ?_;simp[cL,n2,aT,aU,aS,inObs,Pv.look,aN,aA,aB])
   |_=>
    simp[gv]at he;subst he;simp only[aN,aA]at af⊢;refine bJ.mk mixed jC xm ye Ψ af.obj fun aR cE=>?_;unfold vn;simp[aB];((with_reducible repeat' first|refine aj ?_|simp|((first|apply bD|apply bH|apply bG)<;>intro h<;>try simp at h))<;>(try exact b2));all_goals(refine cI.at (aN c) Ψ bi (Same.keys ci ci) bf bf ?_;simp[cL,n2,aT,aU,aS,inObs,Pv.look,aN,aA,aB])
    all_goals simp_all
def mo(c:bs):Prop:= ∀x,0<=c.sz x/\c.sz x<=5001
theorem mo.rt{c:bs}(h:mo c){v r:Int}{cl:bs}(he:rt c v=some (r,cl)):mo cl:=by simp only[Pv.rt,gr,jE]at he;obtain⟨p,_,_,rfl⟩:=he;exact h
theorem mo.put{c:bs}(h:mo c){x k:Int}(ad:0<=k/\k<=5001)(m:List (Int×Int)):mo {c with size:=eU x k c.size,color:=m}:=fun z=>by
 show 0<=(tg z (eU x k c.size)).getD 0/\(tg z (eU x k c.size)).getD 0<=5001;rw[nA];split
 ·exact ad
 ·exact h z
theorem ad0(c:bs)(v:Int)(p:Int×bs)(he:yB v c=some p):bJ ay 275 [.int .i64 v,.eptr aB] (aN c) fun r ah=>r= .int .i64 p.1/\ah=aN p.2:=by have af:=cd c;simp only[yB,gr]at he;obtain⟨⟨r,bT⟩,J,rfl⟩:=he;simp only[aN,aA]at af⊢;refine bJ.mk mixed jC abo aih Ψ af.obj fun aR cE=>?_;unfold O1;simp[aB];(refine hW.ob (rC c v r bT J) bi bi (Same.keys ci ci) bf bf d6 ?_;simp[bX,aN,aA,aB]);(with_reducible repeat' first|refine aj ?_|simp);(refine cI.at (aN bT) Ψ bi (Same.keys ci ci) bf bf ?_;simp[cL,VC,aT,aU,aS,inObs,Pv.look,aN,aA,aB]);all_goals rfl
def gk(a:bs×Bool):cM:=⟨aA a.1++[(.obj 712,[.bool a.2])],[]⟩
theorem qw(a):dN (gk a):=by unfold gk aA;exact dN.of ⟨by intro m;simp[Pv.look],by intro m;simp[Pv.look]⟩ Ψ Ψ
theorem Yk(a b):Same (gk a) (gk b):=Same.keys (by simp[gk,aA]) (by simp[gk,aA])
theorem adZ(n:Nat)(vP:∀x c p,qn n x c=some p->mo c->mo p.2/\bJ ay 246 [aB,.int .i64 x] (aN c) fun r ah=>r= .bool p.1/\ah=aN p.2)
  (v:Int) (a bp:bs×Bool) (bk:mo a.1) (he:yJ (qn n) v a=some bp):mo bp.1/\bJ ay 274 [.int .i64 v,.ptr (.obj 712) 0,.eptr aB] (gk a) fun r ah=>r= .tuple []/\ah=gk bp:=by
 have af:=qw a;obtain⟨c,f⟩:=a;cases f with
 |false=>simp[yJ]at he;subst he;refine⟨bk,?_⟩;simp only[gk,aA,bV,b3]at af⊢;refine bJ.mk mixed jC Q9 UX Ψ af.obj fun aR cE=>?_;unfold Iv;simp[aB];(with_reducible repeat' first|refine aj ?_|simp);(refine cI.at (gk (c,false)) Ψ (by first|exact qw _|exact qw ‹_› _) (Same.keys (by simp[gk,aA,aB]) (by simp[gk,aA,aB])) (by simp only[gk,aA,aB,bV,b3];exact aE) (by simp only[gk,aA,aB,bV,b3];exact aE) ?_;simp[cL,GZ,aT,aU,aS,inObs,Pv.look,gk,aA,aB])
 |true=>
  simp only[yJ,if_true,iK,gr]at he;obtain⟨⟨r,bT⟩,J,⟨f2,cv⟩,U,rfl⟩:=he;obtain⟨z2,key⟩:=vP _ _ _ U (bk.rt J);refine⟨z2,?_⟩;simp only[gk,aA,bV,b3]at af⊢;refine bJ.mk mixed jC Q9 UX Ψ af.obj fun aR cE=>?_;unfold Iv;simp[aB];(with_reducible repeat' first|refine aj ?_|simp);(refine hW.ob (rC c v r bT J) bi bi (Same.keys ci ci) bf bf d6 ?_;simp[bX,aN,aA,aB]);(with_reducible repeat' first|refine aj ?_|simp);(refine hW.ob (key) bi bi (Same.keys ci ci) bf bf d6 ?_;simp[bX,aN,aA,aB]);cases f2 with
  |true=>(with_reducible repeat' first|refine aj ?_|simp);(refine cI.at (gk (cv,true)) Ψ (by first|exact qw _|exact qw ‹_› _) (Same.keys (by simp[gk,aA,aB]) (by simp[gk,aA,aB])) (by simp only[gk,aA,aB,bV,b3];exact aE) (by simp only[gk,aA,aB,bV,b3];exact aE) ?_;simp[cL,GZ,aT,aU,aS,inObs,Pv.look,gk,aA,aB])
  |false=>(with_reducible repeat' first|refine aj ?_|simp);(refine cI.at (gk (cv,false)) Ψ (by first|exact qw _|exact qw ‹_› _) (Same.keys (by simp[gk,aA,aB]) (by simp[gk,aA,aB])) (by simp only[gk,aA,aB,bV,b3];exact aE) (by simp only[gk,aA,aB,bV,b3];exact aE) ?_;simp[cL,GZ,aT,aU,aS,inObs,Pv.look,gk,aA,aB])
theorem adY(n:Nat):∀(x:Int) (c:bs) (p:Bool×bs),qn n x c=some p->mo c->mo p.2/\bJ ay 246 [aB,.int .i64 x] (aN c) fun r ah=>r= .bool p.1/\ah=aN p.2:=by
 induction n with
 |zero=>intro x c p h;simp[qn]at h
 |succ n bO=>
  intro x c p he bk;have af:=cd c;simp only[qn]at he;by_cases U:c.col x=2
  ·rw[if_pos U]at he;cases he;have B1:jb c.color x=2:=U;refine⟨bk,?_⟩;simp only[aN,aA]at af⊢;refine bJ.mk mixed jC BI Dg Ψ af.obj fun aR cE=>?_;unfold y2;simp[aB];(with_reducible repeat' first|refine aj ?_|simp[B1]);(refine cI.at (aN c) Ψ bi (Same.keys ci ci) bf bf ?_;simp[cL,AB,aT,aU,aS,inObs,Pv.look,aN,aA,aB])
  rw[if_neg U]at he;have B1:(jb c.color x==2)=false:=by simp;exact U
  by_cases J:c.col x=1
  ·rw[if_pos J]at he;cases he;have pk:jb c.color x=1:=J;refine⟨bk,?_⟩;simp only[aN,aA]at af⊢;refine bJ.mk mixed jC BI Dg Ψ af.obj fun aR cE=>?_;unfold y2;simp[aB];(with_reducible repeat' first|refine aj ?_|simp[pk]);(refine cI.at (aN c) Ψ bi (Same.keys ci ci) bf bf ?_;simp[cL,AB,aT,aU,aS,inObs,Pv.look,aN,aA,aB])
  rw[if_neg J]at he;have pk:(jb c.color x==1)=false:=by simp;exact J
  have Tj:mo (c.grey x):=bk.put Ω _;cases jg:(c.grey x).shd x with
  |false=>rw[if_pos jg]at he;cases he;have th:(tg x c.shaped).getD false=false:=jg;refine⟨Tj,?_⟩;simp only[aN,aA]at af⊢;refine bJ.mk mixed jC BI Dg Ψ af.obj fun aR cE=>?_;unfold y2;simp[aB];(with_reducible repeat' first|refine aj ?_|simp[B1,pk,th]);(refine cI.at (aN ((c.grey x).black x)) Ψ bi (Same.keys (by simp[aN,aA,aB,bs.grey,bs.black]) (by simp[aN,aA,aB,bs.grey,bs.black])) (by simp only[aN,aA,aB,bs.grey,bs.black,bV,b3];exact aE) (by simp only[aN,aA,aB,bs.grey,bs.black,bV,b3];exact aE) ?_;simp[cL,AB,aT,aU,aS,inObs,Pv.look,aN,aA,aB,bs.grey,bs.black])
  |true=>
   rw[if_neg (by simp[jg]),iK]at he;have th:(tg x c.shaped).getD false=true:=jg;obtain⟨⟨e,f⟩,al,a1⟩:=he;simp only at a1;obtain⟨X1,key⟩:=RC gk qw Yk 274 [.ptr (.obj 712) 0,.eptr aB] (fun a=>by simp[gk,aA,aB,inObs,Pv.look]) rfl (fun a=>mo a.1) (yJ (qn n)) (fun v a bp bk h=>adZ n bO v a bp bk h) _ _ _ Tj al;rw[show(c.grey x).shp x=(tg x c.shape).getD .nil from rfl]at key;cases f with
   |false=>simp at a1;subst a1;refine⟨X1,?_⟩;simp only[aN,aA]at af⊢;refine bJ.mk mixed jC BI Dg Ψ af.obj fun aR cE=>?_;unfold y2;simp[aB];(with_reducible repeat' first|refine aj ?_|simp[B1,pk,th]);(refine cA.ob (key) (by first|exact qw _|exact qw ‹_› _) (by simp only[gk,aA,aB,bs.grey,bV,b3];exact aE) (by simp only[gk,aA,aB,bs.grey,bV,b3];exact aE) (by simp[inObs,Pv.look,gk,aA,aB,bs.grey]) ?_;rintro r ah ⟨rfl,rfl⟩;refine⟨(Same.keys (by simp[gk,aA,aB,bs.grey]) (by simp[gk,aA,aB,bs.grey])),?_⟩;simp[bX,gk,aA,aB,bs.grey]);(with_reducible repeat' first|refine aj ?_|simp);(refine cI.at (aN e) Ψ bi (Same.keys ci ci) bf bf ?_;simp[cL,AB,aT,aU,aS,inObs,Pv.look,aN,aA,aB])
   |true=>
    rw[if_neg Ψ,gr]at a1;obtain⟨⟨k,aF⟩,bW,rfl⟩:=a1;obtain⟨z2,b9,wa⟩:=adQ aN cd Em 275 [.eptr aB] (fun a=>by simp[aN,aA,aB,inObs,Pv.look]) rfl mo yB (fun v a p bk h=>by simp only[yB,gr]at h;obtain⟨⟨r,bT⟩,J,rfl⟩:=h;exact⟨bk.rt J,(bk.rt J r).1,Int.le_trans (bk.rt J r).2 Ω⟩) (fun v a p _ h=>ad0 a v p h) _ _ _ X1 bW
    rw[show bs.shp e x=(tg x e.shape).getD .nil from rfl]at wa;refine⟨z2.put b9 _,?_⟩;simp only[aN,aA]at af⊢;refine bJ.mk mixed jC BI Dg Ψ af.obj fun aR cE=>?_;unfold y2;simp[aB];(with_reducible repeat' first|refine aj ?_|simp[B1,pk,th]);(refine cA.ob (key) (by first|exact qw _|exact qw ‹_› _) (by simp only[gk,aA,aB,bs.grey,bV,b3];exact aE) (by simp only[gk,aA,aB,bs.grey,bV,b3];exact aE) (by simp[inObs,Pv.look,gk,aA,aB,bs.grey]) ?_;rintro r ah ⟨rfl,rfl⟩;refine⟨(Same.keys (by simp[gk,aA,aB,bs.grey]) (by simp[gk,aA,aB,bs.grey])),?_⟩;simp[bX,gk,aA,aB,bs.grey]);(with_reducible repeat' first|refine aj ?_|simp);(refine hW.ob (wa) bi bi (Same.keys ci ci) bf bf d6 ?_;simp[bX,aN,aA,aB]);(with_reducible repeat' first|refine aj ?_|simp);(refine cI.at (aN (({aF with size:=eU x k aF.size}:bs).black x)) Ψ bi (Same.keys (by simp[aN,aA,aB,bs.black]) (by simp[aN,aA,aB,bs.black])) (by simp only[aN,aA,aB,bs.black,bV,b3];exact aE) (by simp only[aN,aA,aB,bs.black,bV,b3];exact aE) ?_;simp[cL,AB,aT,aU,aS,inObs,Pv.look,aN,aA,aB,bs.black])
theorem adX(n:Nat)(vP:∀x c p,qm n x c=some p->bJ ay 247 [aB,.int .i64 x] (aN c) fun r ah=>r=p.1.e/\ah=aN p.2)
  (v:Int) (c:bs) (p:T×bs) (he:Bb (qm n) v c=some p):bJ ay 276 [.int .i64 v,.eptr aB] (aN c) fun r ah=>r= .tuple [p.1.e,.bool true]/\ah=aN p.2:=by
 have af:=cd c;simp only[Bb,iK]at he;obtain⟨⟨r,bT⟩,J,U⟩:=he;have key:=vP _ _ _ U;simp only[aN,aA]at af⊢;refine bJ.mk mixed jC abn aif Ψ af.obj fun aR cE=>?_;unfold O0;simp[aB];(with_reducible repeat' first|refine aj ?_|simp);(refine hW.ob (rC c v r bT J) bi bi (Same.keys ci ci) bf bf d6 ?_;simp[bX,aN,aA,aB]);(with_reducible repeat' first|refine aj ?_|simp);(refine hW.ob (key) bi bi (Same.keys ci ci) bf bf d6 ?_;simp[bX,aN,aA,aB]);(with_reducible repeat' first|refine aj ?_|simp);(refine cI.at (aN p.2) Ψ bi (Same.keys ci ci) bf bf ?_;simp[cL,VB,aT,aU,aS,inObs,Pv.look,aN,aA,aB])
theorem k1(n:Int):bZ ay 96 [.int .i64 n] (T.var n).e:=by refine bE jC abP aiH fun aR=>?_;unfold Ps;exact c0
theorem adW(n:Nat):∀(x:Int) (c:bs) (p:T×bs),qm n x c=some p->bJ ay 247 [aB,.int .i64 x] (aN c) fun r ah=>r=p.1.e/\ah=aN p.2:=by
 induction n with
 |zero=>intro x c p h;simp[qm]at h
 |succ n bO=>
  intro x c p he;have af:=cd c;simp only[qm]at he;cases aO:tg x c.full with
  |some t=>rw[aO]at he;cases he;simp only[aN,aA]at af⊢;refine bJ.mk mixed jC Jb LH Ψ af.obj fun aR cE=>?_;unfold EF;simp[aB];(with_reducible repeat' first|refine aj ?_|simp[aO]);(refine cI.at (aN c) Ψ bi (Same.keys ci ci) bf bf ?_;simp[cL,GY,aT,aU,aS,inObs,Pv.look,aN,aA,aB])
  |none=>
   rw[aO]at he;simp only at he;cases jg:c.shd x with
   |false=>have th:(tg x c.shaped).getD false=false:=jg;rw[if_pos jg]at he;cases he;simp only[aN,aA]at af⊢;refine bJ.mk mixed jC Jb LH Ψ af.obj fun aR cE=>?_;unfold EF;simp[aB];(with_reducible repeat' first|refine aj ?_|refine aC (k1 _) ?_|refine aD (k1 _) ?_|simp[aO,th]);(refine cI.at (aN {c with full:=eU x (.var x) c.full}) Ψ bi (Same.keys ci ci) bf bf ?_;simp[cL,GY,aT,aU,aS,inObs,Pv.look,aN,aA,aB])
   |true=>have th:(tg x c.shaped).getD false=true:=jg;rw[if_neg (by simp[jg]),gr]at he;obtain⟨⟨t,bT⟩,J,rfl⟩:=he;have key:=adD aN cd Em 276 [.eptr aB] (fun a=>by simp[aN,aA,aB,inObs,Pv.look]) rfl (Bb (qm n)) (fun v a p h=>adX n bO v a p h) _ _ _ J;rw[show c.shp x=(tg x c.shape).getD .nil from rfl]at key;simp only[aN,aA]at af⊢;refine bJ.mk mixed jC Jb LH Ψ af.obj fun aR cE=>?_;unfold EF;simp[aB];(with_reducible repeat' first|refine aj ?_|refine aC (k1 _) ?_|refine aD (k1 _) ?_|simp[aO,th]);(refine cA.ob (key) bi bf bf d6 ?_;rintro r ah ⟨rfl,rfl⟩;refine⟨(Same.keys ci ci),?_⟩;simp[bX,aN,aA,aB]);(with_reducible repeat' first|refine aj ?_|simp);(refine cI.at (aN {bT with full:=eU x t bT.full}) Ψ bi (Same.keys ci ci) bf bf ?_;simp[cL,GY,aT,aU,aS,inObs,Pv.look,aN,aA,aB])
theorem adF:bJ ay 195 [] ⟨[],[]⟩ fun r ah=>r=aB/\ah=aN bs.new:=by have af:dN ⟨[],[]⟩:=dN.of ya Ψ Ψ;refine bJ.mk mixed jC abD aiv Ψ af.obj fun aR cE=>?_;unfold Pf;simp;refine cI.new (aN bs.new) (.inl rfl) (cd _) ⟨trivial,trivial⟩ (by simp only[aN,aA,bs.new];exact aE) (by simp only[aN,aA,bs.new];exact aE) ?_;simp[cL,VO,aT,aU,aS,inObs,Pv.look,aN,aA,aB]
theorem W0{a b:List Int}(h:a.Perm b):mf a=mf b:=by
 have aI:∀a b c:Int,(decide (a<=b))=true->(decide (b<=c))=true->(decide (a<=c))=true:=by intro a b c;simp;omega
 have Tc:∀a b:Int,(decide (a<=b)||decide (b<=a))=true:=by intro a b;simp;omega
 have J:=List.pairwise_mergeSort aI Tc a;have U:=List.pairwise_mergeSort aI Tc b;refine NL (le:=fun x y:Int=>(decide (x<=y))=true) (fun x y _ _ J U=>by simp at J U;omega) J U ?_;exact(List.mergeSort_perm a _).trans (h.trans (List.mergeSort_perm b _).symm)
def agq(l:List Int)(k:Nat)(st:bo):Prop:=∃(seen:List Nat) (xs:List Int),seen.Nodup/\(∀b∈seen,b<l.length)/\k=l.length-seen.length/\xs=seen.filterMap (fun b=>l[b]?)/\xs.length=seen.length/\st=⟨[(3,.row 1 (.obj 306) xs.length),(7,.ptr (.loc 0) 0)],[(.obj 304,nK l),(.loc 0,cx l.length seen (.obj 304))],[(.obj 306,⟨xs.length,3,1,some (dX xs)⟩)],1,[.obj 306,.obj 304]⟩
@[simp]theorem apl(xs:List Int):(dX xs).length=xs.length:=by simp[dX]
@[simp]theorem art(xs:List Int):dr (dX xs)=dX xs:=by
 induction xs with
 |nil=>rfl
 |cons x r bO=>simp only[dX,eO,dr,ev]at bO⊢;rw[bO]
@[simp]theorem apm:dX []=[]:=rfl
theorem agi(xs:List Int)(x:Int):dX xs++[ai.int .i64 x]=dX (xs++[x]):=by simp[dX]
theorem RM(l:List Int)(au:l.length<=1000000):bJ ay 189 [.gmap (.obj 304)] (pP l) fun r ah=>r= .slice 1 .no (dX (mf l))/\ah=pP l:=by
 have af:=HZ l;unfold pP at af⊢;refine bJ.mk mixed fF abN aiF Ψ af.obj fun aR cE=>?_;unfold Pq;simp;refine mZ (agq l) l.length _ ⟨by simp[fresh,aP,aJ,cx,inObs,Pv.look,jk,tq],eS (by simp[fresh,aP,aJ,cx,inObs,Pv.look,jk,tq]),eT (by simp[fresh,aP,aJ,et,inObs,Pv.look,jk,tq]),Ψ⟩ ⟨[],[],Ψ,Ψ,Ψ,Ψ,Ψ,rfl⟩ ?_;rintro k st ⟨seen,xs,aG,bt,ad,hb,pw,rfl⟩ jf cE;clear jf cE;have hle:=Ht aG bt;simp;refine Z5 (mk:= .obj 304) (seen:=seen) (l:=l) Ψ Ψ rfl (fun lA=>?_) (fun b x ae ab=>?_)
 ·simp;have vO:=MN aG bt lA;rw[<-hb]at vO;refine cA.ob (adU 306 xs Ω) (H3 306 xs) (by unfold mU;exact aE) (by unfold mU;exact aE) (by simp[mU,inObs,Pv.look]) ?_;rintro r ah ⟨rfl,rfl⟩;refine⟨⟨fun _=>rfl,fun k=>by simp only[mU,Pv.look];split<;>rfl⟩,?_⟩;unfold mU;simp[bX,MZ];refine cI.at _ (.inl rfl) af (Same.refl _) aE aE ?_;simp[cL,VT,aT,aU,aS];rw[W0 vO];simp[aJ,tq]
 ·have zF:∀f:aL->Option (List ai),f (.loc 0)=some (cx l.length (seen++[b]) (.obj 304))->f (.obj 304)=some (nK l)->pB f (.ptr (.loc 0) 0)=some (True,.tuple [.int .i64 x,.bool true]):=fun f J U=>ahd f (.loc 0) (.obj 304) l.length seen b l x J U rfl ae;have fk:b<l.length:=(fp.1 ae).1;have qQ:=MO aG bt fk ab;simp[zF,agi];refine⟨by unfold lim;omega,?_⟩;refine bR.next (l.length-(seen.length+1)) Ω ⟨seen++[b],xs++[x],LC aG ab,(by simp;intro c aq;rcases aq with aq|rfl;exact bt c aq;exact fk),Ψ,by rw[List.filterMap_append,<-hb];simp[ae],by simp[pw],rfl⟩ ⟨by simp[fresh,aP,aJ,cx,inObs,Pv.look,jk,tq],eS (by simp[fresh,aP,aJ,cx,inObs,Pv.look,jk,tq]),eT (by simp[fresh,aP,aJ,et,inObs,Pv.look,jk,tq]),Ψ⟩
@[simp]theorem apA(S:aL->Prop)(xs:List Int):aP S (dX xs)=True:=eq_true (tq S xs)
theorem Jq(t:T):∀l:List Int,(t.fold nH l).length<=l.length+t.size:=by
 induction t with
 |var n=>intro l;simp only[T.fold,nH,T.size];split<;>simp
 |pair a b dB dC=>intro l;simp only[T.fold,T.size];have:=dB l;have:=dC (a.fold nH l);omega
 |_=>intro l;simp[T.fold,T.size]
@[simp]theorem aod:cells .junk=[.junk]:=rfl
def Pp:C:=(aa [ey 6 5,bu 7 false] (aa [c1 12 195 [],I 8 12] (.seq (aa [I 13 0,cD 14 13,b7 15 0] (fj 16 15 14 (.seq (.block 1 (aa [cJ 17 5 13 15,a8 18 5 17,da 10 kn,bC 5 10 18] (aa [I 19 8,aH 20 0 1 10,ax 21 1 20,cg 22 196 19 21] (aa [I 23 8,iI 24 1 4 10,a8 25 4 24,cg 26 197 23 25] (.seq (.drawn false 69 [I 27 8,aH 28 0 1 10,ax 29 1 28,cV 30 96 29,iI 31 1 4 10,a8 32 4 31,c1 33 198 [.t 27,.t 30,.t 32],cB 34 33]) (aV 34 (aa [ey 6 5,bu 7 false] .ret) .skip)))))) (.region [aQ 35 .add 15 1,I 15 35])))) (.seq (aa [I 36 1,cD 37 36,b7 38 0] (.block 2 (.loop (aa [bF 39 .lss 38 37] (.seq (aV 39 .skip (.exit 2)) (.seq (.block 3 (aa [I 40 38,I 11 40] (aa [I 41 8,I 42 1,I 43 11,cJ 44 4 42 43,a8 45 4 44,cg 46 197 41 45] (aa [I 47 8,I 48 2,I 49 11,cJ 50 4 48 49,a8 51 4 50,cg 52 197 47 51] (.seq (.drawn false 69 [I 53 8,I 54 1,I 55 11,cJ 56 4 54 55,a8 57 4 56,I 58 2,I 59 11,cJ 60 4 58 59,a8 61 4 60,c1 62 198 [.t 53,.t 57,.t 61],cB 63 62]) (aV 63 (aa [ey 6 5,bu 7 false] .ret) .skip)))))) (.region [aQ 64 .add 38 1,I 38 64]))))))) (aa [I 65 8,cV 66 199 65,cu 67 0 66,cu 68 1 66,I 6 67,I 7 68] .ret)))))
@[simp] def Ma:List bY:=[.tmp 6,.tmp 7]
def OZ:C:=(aa [ey 2 5,bu 3 false] (aa [cH (.mkmap 12 (some 304)),I 4 12] (.seq (aa [I 13 0,eE 14 13,aH 15 0 1 14,ax 16 1 15,cH (.range 17 none (.t 16))] (.block 0 (.loop (aa [⟨none,.next 18 (.t 17)⟩,cu 19 0 18] (.seq (aV 19 .skip (.exit 0)) (.block 1 (aa [bQ 20 (.ment (.t 17)),cu 21 0 20,I 5 21] (.region [I 22 4,I 23 5,cH (.mput .i (.t 22) (.t 23) (.c (.bool true)))])))))))) (aa [I 24 4,cV 25 189 24,I 6 25] (aa [cH (.bslm 26 none 5 61 []),I 7 26] (.seq (aa [I 27 6,cD 28 27,b7 29 0] (.block 2 (.loop (aa [bF 30 .lss 29 28] (.seq (aV 30 .skip (.exit 2)) (.seq (.block 3 (aa [cJ 31 1 27 29,ax 32 1 31,I 9 32] (aa [I 33 0,I 34 9,cg 35 196 33 34,I 10 35] (.seq (aa [I 36 0,I 37 10,cg 38 246 36 37,cB 39 38] (aV 39 (aa [ey 2 5,bu 3 false] .ret) .skip)) (.seq (aa [I 40 10,I 41 9,bF 42 .eql 40 41,I 43 42,bU 43 true 44 0,ar 43 true (eE 45 44),ar 43 true (aH 46 2 1 45),ar 43 true (ax 47 1 46),bU 43 true 48 10,ar 43 true (bQ 49 (.mget .i (.bool false) false (.t 47) (.t 48))),ar 43 true (cB 50 49),dv 51 43 50] (aV 51 (.exit 3) .skip)) (aa [I 52 7,I 53 9,gE 54 kn [(0,1,(.t 53))],ec 55 5 61 [.t 54],cH (.appm 56 none 5 61 (.t 52) (.t 55)),I 7 56] (aa [I 57 0,eE 58 57,aH 59 4 1 58,ax 60 1 59,I 61 10,bQ 62 (.mget .i (.int .i64 0) false (.t 60) (.t 61)),aQ 63 .gtr 62 5000,I 64 63,bU 64 false 65 7,ar 64 false (cD 66 65),ar 64 false (aQ 67 .gtr 66 400),cW 68 64 67] (aV 68 (aa [ey 2 5,bu 3 false] .ret) .skip)))))))) (.region [aQ 69 .add 29 1,I 29 69]))))))) (.seq (aa [I 70 7,cD 71 70,b7 72 0] (.block 4 (.loop (aa [bF 73 .lss 72 71] (.seq (aV 73 .skip (.exit 4)) (.seq (.block 5 (aa [I 74 72,I 11 74] (.region [I 75 7,I 76 11,I 77 0,I 78 0,I 79 7,I 80 11,cJ 81 5 79 80,aH 82 0 1 81,ax 83 1 82,cg 84 196 78 83,cg 85 247 77 84,cV 86 200 85,cJ 87 5 75 76,iI 88 1 4 87,bC 4 88 86]))) (.region [aQ 89 .add 72 1,I 72 89]))))))) (.seq (.pub 7 (.region [I 90 7,I 2 90,bu 3 true])) .ret))))))))
@[simp] def GX:List bY:=[.tmp 2,.tmp 3]
def Nf:List (Nat×dA):=[
 (3,⟨1,8,.int .i64,.int .i64 0⟩),
 (4,⟨1,1,.bool,.bool false⟩),
 (23,⟨1,24,.slice 61,.slice 5 .nil []⟩),
 (30,⟨1,24,.slice 32,.slice 4 .nil []⟩),
 (32,⟨4,56,.struct [(0,3),(1,3),(2,9),(3,30)],.agg [.int .i64 0,.int .i64 0,.str [],.slice 4 .nil []]⟩),
 (61,⟨5,64,.struct [(0,3),(1,32)],.agg [.int .i64 0,.int .i64 0,.int .i64 0,.str [],.slice 4 .nil []]⟩),
 (112,⟨1,24,.slice 3,.slice 1 .nil []⟩),
 (154,⟨1,8,.map 3 4,.junk⟩),
 (182,⟨1,8,.map 3 3,.junk⟩),
 (245,⟨6,48,.struct [(0,182),(1,127),(2,154),(3,182),(4,182),(5,127)],.agg [.junk,.junk,.junk,.junk,.junk,.junk]⟩)]
theorem Xg:fN ay Nf=true:=by kernel_rfl
theorem aiE:ca Nf Pp Ma 3 Tryz.f118=true:=by kernel_rfl
theorem abM:ay.funcs[(118:Nat)]? =some Tryz.f118:=Tryz.func118
theorem aie:ca Nf OZ GX 1 Tryz.f199=true:=by kernel_rfl
theorem abm:ay.funcs[(199:Nat)]? =some Tryz.f199:=Tryz.func199
def fE(o:Option (List ak)):ai:= .tuple [.slice 5 .no ((o.getD []).map ak.e),.bool o.isSome]
theorem ahf(f:aL->Option (List ai))(fl mk:aL)(n:Nat)(seen:List Nat)(b:Nat)(l:List (Int×Int))(x:Int×Int)(hi:f fl=some (cx n (seen++[b]) mk))(hm:f mk=some (nt l))(az:n=l.length)(ae:l[b]? =some x):pB f (.ptr fl 0)=some (True,.tuple [.int .i64 x.1,.int .i64 x.2]):=by rw[Ut f fl mk n seen b _ hi hm (by simpa using az)];simp[ae]
theorem Z6{st:bo}{d:Nat}{K:bo->Prop}{fl mk:aL}{n:Nat}{seen:List Nat}{l:List (Int×Int)}(hi:Pv.look fl st.b=some (cx n seen mk))(hm:Pv.look mk st.b=some (nt l))(az:n=l.length)
  (J:(∀b,b<l.length->b∈seen)->K {st with t:=Pv.put d (.tuple [.bool false]) st.t}) (U:∀b x,l[b]? =some x->b∉seen->K {st with t:=Pv.put d (.tuple [.bool true,.int .i64 x.1,.int .i64 x.2]) st.t,b:=cy fl (cx n (seen++[b]) mk) st.b}):
  sS st d (.ptr fl 0) K:=by
 refine Q2 hi hm (by simpa using az) (fun h=>J fun b ab=>h b Ω) (fun b k v ab af=>?_);simp only[List.getElem?_map,gr]at ab;obtain⟨x,ao,aF⟩:=ab;simp only[jE]at aF;obtain⟨rfl,rfl⟩:=aF;exact U b x ao af
@[simp]theorem aqL(m:aL)(l:List (Int×Int)):yq m (nt l)=some (cx l.length [] m):=by simp[nt,r7]
def nJ(v:Int):ai:= .agg [.int .i64 v,.int .i64 0,.int .i64 0,.str [],.slice 4 .nil []]
@[simp]theorem agK(S:aL->Prop)(l:List Int):aP S (l.map nJ)=True:=by
 apply eq_true;induction l with
 |nil=>simp[aP]
 |cons x r bO=>simp only[eO,aP];exact⟨by simp[nJ,aJ,aP],bO⟩
@[simp]theorem apK(S:aL->Prop)(v:Int):aJ S (nJ v)=True:=by simp[nJ,aJ,aP]
@[simp]theorem aqV(v:Int):eH (nJ v)=true:=rfl
@[simp]theorem an0(v:Int):cells (nJ v)=[.int .i64 v,.int .i64 0,.int .i64 0,.str [],.slice 4 .nil []]:=rfl
theorem akP(v:Int)(f:Nat)(cs:List ai):pK (nJ v) f cs= .agg (n3 [.int .i64 v,.int .i64 0,.int .i64 0,.str [],.slice 4 .nil []] f cs):=rfl
theorem j1{S:aL->Prop}:∀{a b:List ai},aP S (a++b)↔(aP S a/\aP S b)
 |[],b=>by simp[aP]
 |x::a,b=>by simp[aP,j1 (a:=a),and_assoc]
@[simp]theorem apy(S:aL->Prop)(k:Nat)(l:List Int):aP S (List.drop k (l.map nJ))=True:=by rw[<-List.map_drop];exact agK S _
@[simp]theorem apS(S:aL->Prop)(o:Option (List ak)):aJ S (fE o)=True:=by simp[fE]
theorem Ik(l:List Int)(v:Int):l.map nJ++[.agg [.int .i64 v,.int .i64 0,.int .i64 0,.str [],.slice 4 .nil []]]=(l++[v]).map nJ:=by simp[nJ]
def agk(c:bs)(k:Nat)(st:bo):Prop:=∃(seen:List Nat) (xs:List Int),seen.Nodup/\(∀b∈seen,b<c.up.length)/\k=c.up.length-seen.length/\xs=seen.filterMap (fun b=>(c.up[b]?).map (·.1))/\xs.length=seen.length/\st=⟨[(0,aB),(4,.gmap (.obj 304)),(17,.ptr (.loc 0) 0)],aA c++[(.obj 304,nK xs),(.loc 0,cx c.up.length seen (.obj 702))],[],1,[.obj 304,.obj 702,.obj 703,.obj 704,.obj 705,.obj 706,.obj 707]⟩
theorem ak5{c:bs}{seen:List Nat}(aG:seen.Nodup)(bt:∀b∈seen,b<c.up.length)(lA:∀b,b<c.up.length->b∈seen):(seen.filterMap fun b=>(c.up[b]?).map (·.1)).Perm (cn c.up):=by have:=MN (l:=cn c.up) aG (by simpa[cn]using bt) (by simpa[cn]using lA);simpa[cn]using this
theorem ak6{c:bs}(az:(cn c.up).Nodup){seen:List Nat}{b:Nat}(ab:b∉seen){x:Int×Int}(ae:c.up[b]? =some x):x.1∉seen.filterMap fun b=>(c.up[b]?).map (·.1):=by
 intro hm;rw[List.mem_filterMap]at hm;obtain⟨b0,J,U⟩:=hm;obtain⟨y,al,a1⟩:=gr.1 U;have ao:(cn c.up)[b]? =some x.1:=by simp[cn,ae]
 have aF:(cn c.up)[b0]? =some x.1:=by simp[cn,al,a1]
 have bt:=(fp.1 ao).1;have vM:=(fp.1 aF).1;have f1:=(fp.1 ao).2;have f2:=(fp.1 aF).2;rcases Nat.lt_trichotomy b b0 with h|h|h
 ·exact oX.1 az b b0 bt vM h (f1.trans f2.symm)
 ·subst h;exact ab J
 ·exact oX.1 az b0 b vM bt h (f2.trans f1.symm)
theorem adS(n:Nat)(c:bs)(o:Option (List ak))(he:DT n (q7 (cn c.up)) c=some o)(Cr:(cn c.up).Nodup)(hlen:c.up.length<=1000000)(bk:mo c):bJ ay 199 [aB] (aN c) fun r ah=>r=fE o/\∃cl,ah=aN cl:=by
 have af:=cd c;simp only[aN,aA]at af⊢;refine bJ.mk mixed Xg abm aie Ψ af.obj fun aR cE=>?_;unfold OZ;simp[aB];have Cl:∀S:aL->Prop,aP S (iv []):=fun S=>jk S [];refine mZ (agk c) c.up.length _ ⟨by simp[fresh,aP,aJ,cx,inObs,Pv.look,jk,aB,aA,Cl],eS (by simp[fresh,aP,aJ,cx,inObs,Pv.look,jk,aB,aA,Cl]),eT (by simp[fresh,aP,aJ,et,inObs,Pv.look,jk,aB,aA,Cl]),Ψ⟩ ⟨[],[],Ψ,Ψ,Ψ,Ψ,Ψ,rfl⟩ ?_;rintro k st ⟨seen,xs,aG,bt,ad,hb,pw,rfl⟩ jf cE;clear jf cE;have hle:=Ht aG bt;simp[aA,aB];refine Z6 (mk:= .obj 702) (seen:=seen) (l:=c.up) Ψ Ψ rfl (fun lA=>?_) (fun b x ae ab=>?_);rotate_left
 ·have zF:∀f:aL->Option (List ai),f (.loc 0)=some (cx c.up.length (seen++[b]) (.obj 702))->f (.obj 702)=some (nt c.up)->pB f (.ptr (.loc 0) 0)=some (True,.tuple [.int .i64 x.1,.int .i64 x.2]):=fun f J U=>ahf f (.loc 0) (.obj 702) c.up.length seen b c.up x J U rfl ae;have fk:b<c.up.length:=(fp.1 ae).1;have qQ:=MO aG bt fk ab;have jY:=ak6 Cr ab ae;rw[<-hb]at jY;simp[zF,nH,jY];refine bR.next (c.up.length-(seen.length+1)) Ω ⟨seen++[b],xs++[x.1],LC aG ab,(by simp;intro c aq;rcases aq with aq|rfl;exact bt c aq;exact fk),Ψ,by rw[List.filterMap_append,<-hb];simp[ae],by simp[pw],rfl⟩ ⟨by simp[fresh,aP,aJ,cx,inObs,Pv.look,jk,aB,aA],eS (by simp[fresh,aP,aJ,cx,inObs,Pv.look,jk,aB,aA]),eT (by simp[fresh,aP,aJ,et,inObs,Pv.look,jk,aB,aA]),Ψ⟩
 ·simp;have vO:=ak5 aG bt lA;rw[<-hb]at vO;have af0:xs.length<=1000000:=Ω
  refine cA.ob (RM xs af0) (HZ _) (by simp only[pP];exact aE) (by simp only[pP];exact aE) (by simp[inObs,pP,Pv.look]) ?_;rintro r ah ⟨rfl,rfl⟩;refine⟨Same.refl _,?_⟩;have zK:mf xs=q7 (cn c.up):=W0 vO;rw[zK];obtain⟨ba,kU⟩:∃ba,ba=q7 (cn c.up):=⟨_,rfl⟩;rw[<-kU]at he⊢;simp[pP,bX];simp only[DT,iK]at he;obtain⟨res,vD,oE⟩:=he;have kE:ba.length<=1000000:=by rw[kU,(DW _).length_eq];simpa[cn]using hlen
  refine ik (α:=bs×List Int) (fun i a=>⟨[(0,aB),(27,.slice 1 .no (dX ba)),(28,.int .i64 ba.length),(7,.row 5 (.loc 1) a.2.length),(29,.int .i64 i)],aA a.1,[(.loc 1,⟨a.2.length,61,5,some (a.2.map nJ)⟩)],2,[.obj 702,.obj 703,.obj 704,.obj 705,.obj 706,.obj 707]⟩) ba.length (fun i a=>sk n (ba.drop i) a.1 a.2=some res/\mo a.1/\a.2.length<=400) (c,[]) (by simp[aB,aA];exact⟨by simp[fresh,aP,aJ,cx,inObs,Pv.look,jk,aB,aA],eS (by simp[fresh,aP,aJ,cx,inObs,Pv.look,jk,aB,aA]),eT (by simp[fresh,aP,aJ,et,inObs,Pv.look,jk,aB,aA]),Ψ⟩) ⟨by simpa using vD,bk,Ψ⟩ ?_ ?_
  ·rintro⟨bT,out⟩ ⟨J,U,al⟩ ab;simp only at J U al ab⊢;simp[sk]at J;subst J;simp only[gr]at oE;obtain⟨⟨L,Y5⟩,aeN,rfl⟩:=oE;simp[aB,aA];refine ik (α:=bs×List ak) (fun j a=>⟨[(0,aB),(7,.row 5 (.loc 1) out.length),(71,.int .i64 out.length),(72,.int .i64 j)],aA a.1,[(.loc 1,⟨out.length,61,5,some (a.2.map ak.e++(out.drop j).map nJ)⟩)],2,[.obj 702,.obj 703,.obj 704,.obj 705,.obj 706,.obj 707]⟩) out.length (fun j a=>a.2.length=j/\∃rest,yD n (out.drop j) a.1=some (rest,Y5)/\a.2++rest=L) (bT,[]) (by simp[aB,aA];exact⟨by simp[fresh,aP,aJ,cx,inObs,Pv.look,aB,aA],eS (by simp[fresh,aP,aJ,cx,inObs,Pv.look,aB,aA]),eT (by simp[fresh,aP,aJ,et,inObs,Pv.look,aB,aA]),Ψ⟩) ⟨rfl,L,by simpa using aeN,rfl⟩ ?_ ?_
   ·rintro⟨cv,done⟩ ⟨a1,rest,bW,dd⟩ ab;simp only at a1 bW dd ab⊢;simp[yD]at bW;obtain⟨rfl,rfl⟩:=bW;simp at dd;subst dd;simp[aB,aA,a1];refine cI.at (aN cv) Ψ (cd _) (Same.keys (by simp[aN,aA]) (by simp[aN,aA])) (by simp only[aN,aA];exact aE) (by simp only[aN,aA];exact aE) ?_;simp[cL,GX,aT,aU,aS,aN,aA,fE];exact⟨cv,Ψ⟩
   ·rintro j ⟨cv,done⟩ ag ⟨a1,rest,bW,dd⟩ ab;simp only at a1 bW dd ab⊢;obtain⟨v,av⟩:∃v,out[j]? =some v:=⟨_,cr ag⟩;have aG:out.drop j=v::out.drop (j+1):=by rw[k4 ag];rw[cr ag]at av;cases av;rfl
    rw[aG]at bW;simp only[yD,iK,gr,jE]at bW;obtain⟨⟨x,dj⟩,dW,⟨t,ks⟩,nQ,⟨akL,aol⟩,sW,rfl,rfl⟩:=bW;simp only at nQ sW;have key:=adW n x dj _ nQ;rw[aG];have hJ:∀R,(done.map ak.e++nJ v::R)[j]? =some (nJ v):=fun R=>by rw[List.getElem?_append_right d8];simp[a1]
    have vR:∀R x,(done.map ak.e++nJ v::R).set j x=done.map ak.e++x::R:=fun R x=>by rw[List.set_append_right _ _ d8];simp[a1]
    simp[aB,aA];(with_reducible repeat' first|refine aj ?_|simp[hJ,ag]);(refine cA.ob (rC cv v x dj dW) bi bf bf d6 ?_;rintro r ah ⟨rfl,rfl⟩;refine⟨(Same.keys ci ci),?_⟩;simp[bX,aN,aA,aB]);(with_reducible repeat' first|refine aj ?_|simp);(refine cA.ob (key) bi bf bf d6 ?_;rintro r ah ⟨rfl,rfl⟩;refine⟨(Same.keys ci ci),?_⟩;simp[bX,aN,aA,aB]);(with_reducible repeat' first|refine aj ?_|refine aC (tL _) ?_|refine aD (tL _) ?_|simp[hJ,vR,ag,akP,-pK]);refine bR.rng (ks,done++[⟨v,t⟩]) ag ⟨by simp[a1],akL,sW,by simpa using dd⟩ ?_;simp[aB,aA];exact⟨by simp[fresh,aP,aJ,cx,inObs,Pv.look,aB,aA,j1],eS (by simp[fresh,aP,aJ,cx,inObs,Pv.look,aB,aA,j1]),eT (by simp[fresh,aP,aJ,et,inObs,Pv.look,aB,aA,j1]),Ψ⟩
  ·rintro i ⟨bT,out⟩ hi ⟨J,U,al⟩ ab;simp only at J U al ab⊢;obtain⟨v,av⟩:∃v,ba[i]? =some v:=⟨_,cr hi⟩;have aG:ba.drop i=v::ba.drop (i+1):=by rw[k4 hi];rw[cr hi]at av;cases av;rfl
   rw[aG]at J;simp only[sk,iK]at J;obtain⟨⟨x,cv⟩,a1,⟨f,dj⟩,bW,dd⟩:=J;simp only at bW dd;obtain⟨z3,key⟩:=adY n x cv _ bW (U.rt a1);have ae0:∀h,(dX ba)[i]'h= .int .i64 v:=fun h=>by rw[cr hi]at av;simp only[dy]at av;simp[dX,av]
   simp[aB,aA];(with_reducible repeat' first|refine aj ?_|simp[ae0,hi]);(refine cA.ob (rC bT v x cv a1) bi bf bf d6 ?_;rintro r ah ⟨rfl,rfl⟩;refine⟨(Same.keys ci ci),?_⟩;simp[bX,aN,aA,aB]);(with_reducible repeat' first|refine aj ?_|simp);(refine cA.ob (key) bi bf bf d6 ?_;rintro r ah ⟨rfl,rfl⟩;refine⟨(Same.keys ci ci),?_⟩;simp[bX,aN,aA,aB]);cases f with
   |false=>simp at dd;subst dd;simp at oE;subst oE;(with_reducible repeat' first|refine aj ?_|simp);refine cI.at (aN dj) Ψ (cd _) (Same.keys (by simp[aN,aA]) (by simp[aN,aA])) (by simp only[aN,aA];exact aE) (by simp only[aN,aA];exact aE) ?_;simp[cL,GX,aT,aU,aS,aN,aA,fE];exact⟨dj,Ψ⟩
   |true=>
    simp only[Bool.true_eq_false,if_false]at dd;by_cases aq:x=v/\dj.shd x=false
    ·rw[if_pos aq]at dd;obtain⟨af1,jg⟩:=aq;subst af1;have th:(tg x dj.shaped).getD false=false:=jg;(with_reducible repeat' first|refine aj ?_|simp[th]);refine bR.rng (dj,out) hi ⟨dd,z3,al⟩ ?_;exact⟨by simp[fresh,aP,aJ,cx,inObs,Pv.look,aB,aA],eS (by simp[fresh,aP,aJ,cx,inObs,Pv.look,aB,aA]),eT (by simp[fresh,aP,aJ,et,inObs,Pv.look,aB,aA]),Ψ⟩
    ·rw[if_neg aq]at dd;have SX:(x==v)=false\/((x==v)=true/\(tg x dj.shaped).getD false=true):=by
      by_cases e:x=v
      ·right;refine⟨by simp[e],?_⟩;cases aF:dj.shd x with
       |false=>exact absurd ⟨e,aF⟩ aq
       |true=>exact aF
      ·left;simp[e]
     by_cases au:5000<dj.sz x\/400<out.length+1
     ·rw[if_pos au]at dd;cases dd;simp at oE;subst oE;have nS:(decide (5000<jb dj.size x))=true\/(decide (5000<jb dj.size x)=false/\400<out.length+1):=by
       by_cases e:5000<jb dj.size x
       ·left;simp[e]
       ·right;exact⟨by simp[e],au.resolve_left e⟩
      have zH:True:=trivial;have kC:True:=trivial;rcases SX with bL|⟨bL,zH⟩;all_goals
       rcases nS with bI|⟨bI,kC⟩
       all_goals
        ((with_reducible repeat' first|refine aj ?_|simp[bL,zH,bI,kC]|((first|apply bD|apply bH|apply bG)<;>intro h<;>try simp at h))<;>(try exact b2))
        refine cI.at (aN dj) Ψ (cd _) (Same.keys (by simp[aN,aA]) (by simp[aN,aA])) (by simp only[aN,aA];exact aE) (by simp only[aN,aA];exact aE) ?_
        simp[cL,GX,aT,aU,aS,aN,aA,fE]
        exact⟨dj,Ψ⟩
     ·rw[if_neg au]at dd;have bI:decide (5000<jb dj.size x)=false:=by simp;exact Int.not_lt.1 fun h=>au (.inl h)
      have kC:¬400<out.length+1:=fun h=>au (.inr h);have zH:True:=trivial;rcases SX with bL|⟨bL,zH⟩;all_goals
       ((with_reducible repeat' first|refine aj ?_|simp[bL,zH,bI,kC]|((first|apply bD|apply bH|apply bG)<;>intro h<;>try simp at h))<;>(try exact b2))
       all_goals first|(refine⟨by unfold lim;omega,?_⟩)|skip
       ((with_reducible repeat' first|refine aj ?_|simp[bL,zH,bI,kC]|((first|apply bD|apply bH|apply bG)<;>intro h<;>try simp at h))<;>(try exact b2))
       refine bR.rng (dj,out++[v]) hi ⟨dd,z3,by simp;omega⟩ ?_
       exact⟨by simp[fresh,aP,aJ,cx,inObs,Pv.look,aB,aA,Ik,j1],eS (by simp[fresh,aP,aJ,cx,inObs,Pv.look,aB,aA,Ik,j1]),eT (by simp[fresh,aP,aJ,et,inObs,Pv.look,aB,aA,Ik,j1]),Ψ⟩
theorem Xb:∀{a b:T},a.tm=b.tm->a=b:=by
 intro a;induction a with
 |pair x y pz r4=>intro b h;cases b<;>simp[T.tm]at h;rw[pz h.1,r4 h.2]
 |_=>intro b h;cases b<;>simp[T.tm]at h⊢ <;>exact h
def Yr(l:List dO):Prop:= ∃s:List ak,l=s.map ak.b/\j7 s/\gN s/\fJ s
def H7(l:List dO):Prop:= ∃s:List ak,l=s.map ak.b/\j7 s/\eI s/\fJ s
theorem Oq:∀{l:List dO},(∀b∈l,b.t.fits=true)->∃s:List ak,l=s.map ak.b/\vu s
 |[],_=>⟨[],rfl,fun b ab=>by simp at ab⟩
 |b::l,h=>by
  obtain⟨s,J,U⟩:=Oq (l:=l) fun c aq=>h c (by simp[aq]);obtain⟨x,al,a1⟩:=b5.fits_ex (h b Ψ);refine⟨⟨b.v,x⟩::s,by rw[J];simp[ak.b,al],fun c aq=>?_⟩;rcases fI.1 aq with rfl|aq
  ·exact a1
  ·exact U c aq
theorem wY{l:List dO}:vj l↔Yr l:=by
 constructor
 ·rintro⟨J,U⟩;obtain⟨s,rfl,Cf⟩:=Oq (l:=l) fun b ab=>by obtain⟨i,hi,e⟩:=od ab;exact(U i hi b (by rw[cr hi,e])).2.2
  have Ss:∀b∈s,b.t.ok=true/\b.t.size<=5000:=fun b ab=>by have:=Cf b ab;simpa[T.fit]using this
  refine⟨s,rfl,fun b ab=>⟨?_,(Ss b ab).1⟩,?_,by simpa using J,fun b ab=>(Ss b ab).2⟩
  ·obtain⟨i,hi,e⟩:=od ab;have:=(U i (by simpa using hi) b.b (by simp[cr hi,e])).1;exact this
  ·rw[gN,oX];have jK:∀i (h:i+1<s.length),s[i].v<s[i+1].v:=fun i h=>by have:=(U (i+1) (by simpa using h) s[i+1].b (by simp[cr h])).2.1 s[i].b Ω (by simp[cr (show i<s.length by omega)]);exact this
   have:∀(d i:Nat) (h:i+d+1<s.length),s[i].v<s[i+d+1].v:=by
    intro d;induction d with
    |zero=>intro i h;exact jK i h
    |succ d bO=>intro i h;have bz:=bO i Ω;have a2:=jK (i+d+1) Ω;simp only[Nat.add_assoc]at bz a2⊢;omega
   intro i j hi ag lD;have:=this (j-i-1) i Ω;simpa[show i+(j-i-1)+1=j from by omega]using this
 ·rintro⟨s,rfl,aw,a7,aO⟩;refine⟨by simpa using aO.1,fun i hi b ab=>?_⟩;simp only[List.getElem?_map,gr]at ab;obtain⟨c,aq,rfl⟩:=ab;have hm:=eZ aq;refine⟨(aw c hm).1,fun d bA aG=>?_,?_⟩
  ·simp only[List.getElem?_map,gr]at aG;obtain⟨e,he,rfl⟩:=aG;obtain⟨J,ao⟩:=fp.1 he;obtain⟨U,aF⟩:=fp.1 aq;have:=oX.1 a7 (i-1) i J U Ω;rw[ao,aF]at this;exact this
  ·show c.t.tm.fits=true;rw[b5.fits_T];simp[T.fit,(aw c hm).2,aO.2 c hm]
def vr(s:List ak)(v:Int)(f:Bool):Bool:=if 0<=nb s v then false else f
def mr(s:List ak)(b:ak):Bool:=b.t.fold (vr s) true&& !(b.t.kind==1&&decide (b.v<=b.t.int))
theorem Rt{s:List ak}(a7:gN s)(t:T):∀f:Bool,t.fold (vr s) f=true↔f=true/\∀w,t.occ w=true->dc s w=none:=by
 induction t with
 |var n=>
  intro f;simp only[T.fold,T.occ,dM,vr];have:=Rr a7 n;by_cases h:0<=nb s n
  ·rw[if_pos h];constructor
   ·intro h;cases h
   ·rintro⟨_,U⟩;have:=this.2 (U n rfl);omega
  ·rw[if_neg h];exact⟨fun aO=>⟨aO,fun w hw=>by subst hw;exact this.1 Ω⟩,fun h=>h.1⟩
 |pair a b dB dC=>
  intro f;simp only[T.fold,dB,dC,T.occ,ls];constructor
  ·rintro⟨⟨J,U⟩,al⟩;exact⟨J,fun w hw=>hw.elim (U w) (al w)⟩
  ·rintro⟨J,U⟩;exact⟨⟨J,fun w hw=>U w (.inl hw)⟩,fun w hw=>U w (.inr hw)⟩
 |_=>intro f;simp[T.fold,T.occ]
theorem Im{s:List ak}(a7:gN s)(b:ak):mr s b=true↔(∀w,b.t.occ w=true->dc s w=none)/\∀w,b.t= .var w->w<b.v:=by
 unfold mr;rw[ct,Rt a7];simp only[true_and];refine and_congr_right fun _=>?_;constructor
 ·intro h w hw;have ad:(b.t.kind==1)=true:=by rw[hw];rfl
  have hi:b.t.int=w:=by rw[hw];rfl
  rw[ad,hi]at h;simpa using h
 ·intro h;cases ad:(b.t.kind==1)with
  |false=>rfl
  |true=>
   obtain⟨w,hw⟩:∃w,b.t= .var w:=by
    cases e:b.t with
    |var w=>exact⟨w,rfl⟩
    |_=>rw[e]at ad;simp at ad
   have hi:b.t.int=w:=by rw[hw];rfl
   have:=h w hw;rw[hi];simpa using this
theorem WY{s:List ak}(a7:gN s):eI s↔∀b∈s,mr s b=true:=by
 constructor
 ·intro h b ab;exact(Im a7 b).2 ⟨h.free b ab,h.ori b ab⟩
 ·intro h;exact⟨a7,fun b ab=>((Im a7 b).1 (h b ab)).1,fun b ab=>((Im a7 b).1 (h b ab)).2⟩
def np{α:Type}(p:α->Bool)(s:List α)(i:Nat)(_:Unit):Prop:= ∀k b,k<i->s[k]? =some b->p b=true
theorem np.step{α:Type}{p:α->Bool}{s:List α}{i:Nat}(h:np p s i ()){b:α}(ab:s[i]? =some b)(bL:p b=true):np p s (i+1) ():=fun k c ad aq=>by
 rcases(by omega:k<i\/k=i)with J|rfl
 ·exact h k c J aq
 ·rw[ab]at aq;cases aq;exact bL
open Classical in
noncomputable def gV(l:List dO):Bool:=decide (H7 l)
theorem wS{l:List dO}:gV l=true↔H7 l:=by unfold gV;simp
def iM(f:Bool):cM:=⟨[(.obj 731,[.bool f])],[]⟩
theorem vh(f:Bool):dN (iM f):=by unfold iM;exact dN.of ⟨by intro m;simp[Pv.look],by intro m;simp[Pv.look]⟩ Ψ Ψ
theorem Yj(a b:Bool):Same (iM a) (iM b):=Same.keys (by simp[iM]) (by simp[iM])
theorem ado(s:List ak)(au:s.length<=1000000)(v:Int)(f:Bool):bJ ay 133 [.int .i64 v,.eptr (.slice 5 .no (s.map ak.e)),.ptr (.obj 731) 0] (iM f) fun r ah=>r= .tuple []/\ah=iM (vr s v f):=by
 have af:=vh f;simp only[iM]at af⊢;by_cases h:0<=nb s v
 ·rw[vr,if_pos h];refine bJ.mk mixed ra Q8 UW Ψ af.obj fun aR cE=>?_;unfold Iu;simp;(with_reducible repeat' first|refine aj ?_|refine aC (tM s v au) ?_|refine aD (tM s v au) ?_|simp[h]);(refine cI.at (iM false) Ψ (by first|exact vh _|exact vh ‹_› _) (Same.keys (by simp[iM]) (by simp[iM])) (by simp only[iM,bV,b3];exact aE) (by simp only[iM,bV,b3];exact aE) ?_;simp[cL,L5,aT,aU,aS,inObs,Pv.look,iM])
 ·rw[vr,if_neg h];refine bJ.mk mixed ra Q8 UW Ψ af.obj fun aR cE=>?_;unfold Iu;simp;(with_reducible repeat' first|refine aj ?_|refine aC (tM s v au) ?_|refine aD (tM s v au) ?_|simp[h]);(refine cI.at (iM f) Ψ (by first|exact vh _|exact vh ‹_› _) (Same.keys (by simp[iM]) (by simp[iM])) (by simp only[iM,bV,b3];exact aE) (by simp only[iM,bV,b3];exact aE) ?_;simp[cL,L5,aT,aU,aS,inObs,Pv.look,iM])
theorem amn(l:List dO):bZ ay 55 [.slice 5 .no (l.map dO.e)] (.bool (gV l)):=by
 have av:=Xt l;by_cases h:vj l;rotate_left
 ·have bA:gV l=false:=by unfold gV;simp only[hx];rintro⟨s,J,U,al,a1⟩;exact h (wY.2 ⟨s,J,U,al.asc,a1⟩)
  rw[bA];refine bE ra Q7 UU fun aR=>?_;unfold It;exact c0
 ·obtain⟨s,rfl,aw,a7,aO⟩:=wY.1 h;have au:s.length<=1000000:=by have:=aO.1;omega
  have ao:(s.map ak.b).map dO.e=s.map ak.e:=by rw[List.map_map];exact List.map_congr_left fun b _=>ak.b_e b
  have bA:gV (s.map ak.b)=s.all (mr s):=by
   rw[pN,gH,wS,<-WY a7];constructor
   ·rintro⟨ah,J,U,al,a1⟩;have:ah=s:=by
     have aeZ:∀a b:List ak,a.map ak.b=b.map ak.b->a=b:=by
      intro a;induction a with
      |nil=>intro b ab;cases b<;>simp at ab⊢
      |cons x a bO=>
       intro b ab;cases b with
       |nil=>simp at ab
       |cons y b=>simp only[eO,yO,ak.b,dO.mk.injEq]at ab;rw[bO b ab.2];have:=Xb ab.1.2;obtain⟨⟨lB,_⟩,_⟩:=ab;cases x;cases y;simp_all
     exact(aeZ _ _ J).symm
    rw[<-this];exact al
   ·intro al;exact⟨s,rfl,aw,al,aO⟩
  rw[bA];rw[ao]at av⊢;refine bE ra Q7 UU fun aR=>?_;unfold It;simp;(with_reducible repeat' first|refine aj ?_|refine aC av ?_|refine aD av ?_|simp[h]);refine ik (α:=Unit) (fun i _=>⟨[(1,.eptr (.slice 5 .no (s.map ak.e))),(9,.slice 5 .no (s.map ak.e)),(10,.int .i64 s.length),(11,.int .i64 i)],[],[],1,[]⟩) s.length (np (mr s) s) () cb (fun k b ad=>Ω) (fun _ ag _=>?_) (fun i _ hi ag _=>?_)
  ·have:s.all (mr s)=true:=by rw[gH];intro b ab;obtain⟨k,ad,e⟩:=od ab;exact ag k b ad (by rw[cr ad,e])
   rw[this];exact c0
  ·obtain⟨b,l7⟩:∃b,s[i]? =some b:=⟨_,cr hi⟩;have gB:∀h,(s[i]'h)=b:=fun h=>by rw[cr hi]at l7;exact gu l7
   have key:=Jv iM vh Yj 133 [.eptr (.slice 5 .no (s.map ak.e)),.ptr (.obj 731) 0] (fun a=>by simp[iM,inObs,Pv.look]) Ψ (vr s) (fun v a=>ado s au v a) b.t true;have fY:mr s b=false->s.all (mr s)=false:=fun h=>by rw[Bool.eq_false_iff];intro ck;rw[gH]at ck;rw[ck b (eZ l7)]at h;cases h
   simp[hi,gB];(with_reducible repeat' first|refine aj ?_|simp[gB,hi]);(refine cA.ob (key) (by first|exact vh _|exact vh ‹_› _) (by simp only[iM,bV,b3];exact aE) (by simp only[iM,bV,b3];exact aE) (by simp[inObs,Pv.look,iM]) ?_;rintro r ah ⟨rfl,rfl⟩;refine⟨(Same.keys (by simp[iM]) (by simp[iM])),?_⟩;simp[bX,iM]);generalize aeR:b.t.fold (vr s) true=sT;have xx:mr s b=(sT&& !(b.t.kind==1&&decide (b.v<=b.t.int))):=by unfold mr;rw[aeR]
   cases sT with
   |false=>rw[fY (by rw[xx];rfl)];exact c0
   |true=>
    cases ad:(b.t.kind==1)with
    |false=>(with_reducible repeat' first|refine aj ?_|simp[ad]);refine bR.rng () hi (ag.step l7 (by rw[xx,ad];rfl)) ?_;exact cb
    |true=>
     by_cases hle:b.v<=b.t.int
     ·rw[fY (by rw[xx,ad];simp[hle])];exact c0
     ·(with_reducible repeat' first|refine aj ?_|simp[ad,hle]);refine bR.rng () hi (ag.step l7 (by rw[xx,ad];simp[hle])) ?_;exact cb
@[simp]theorem apG(S:aL->Prop):aP S (iv [])=True:=eq_true (jk S [])
theorem adR(n:Nat)(s:List ak)(l r:List T)(au:l.length=r.length)(kD:s.length<=1000000)(xH:l.length<=1000000)(o:Option (List ak))(he:AX n (fR s++l.zip r)=some o)
  (hinv:∀c,pU n (fR s++l.zip r) bs.new=some (true,c)->(cn c.up).Nodup/\c.up.length<=1000000/\mo c):bZ ay 118 [.slice 5 .no (s.map ak.e),.slice 4 .no (l.map T.e),.slice 4 .no (r.map T.e)] (fE o):=by
 obtain⟨E,c6⟩:∃E,E=fR s++l.zip r:=⟨_,rfl⟩;rw[<-c6]at he hinv;simp only[AX,iK]at he;obtain⟨fin,vD,oE⟩:=he;have hlen:E.length=s.length+l.length:=by rw[c6];simp[fR,au]
 have aej:∀i b,s[i]? =some b->E.drop i=(.var b.v,b.t)::E.drop (i+1):=fun i b ab=>by
  have hi:=(fp.1 ab).1;have aW:E[i]? =some (.var b.v,b.t):=by rw[c6,List.getElem?_append_left (by simp[fR];exact hi)];simp[fR,ab]
  rw[k4 Ω];rw[cr Ω]at aW;simp only[dy]at aW;rw[aW]
 have aei:∀i a b,l[i]? =some a->r[i]? =some b->E.drop (s.length+i)=(a,b)::E.drop (s.length+(i+1)):=fun i a b a7 ab=>by
  have hi:=(fp.1 a7).1;have aW:E[s.length+i]? =some (a,b):=by rw[c6,List.getElem?_append_right (by simp[fR])];simp[fR,List.getElem?_zip_eq_some,a7,ab]
  rw[k4 Ω];rw[cr Ω]at aW;simp only[dy]at aW;rw[aW];rfl
 refine bE Xg abM aiE fun aR=>?_;unfold Pp;simp;refine cA.new adF (dN.of ya Ψ Ψ) (fun k cs h=>by simp[Pv.look]at h) (fun k cs h=>by simp[Pv.look]at h) Ψ ?_;rintro r0 s0 ⟨rfl,rfl⟩;refine⟨fun m hm=>.inr Ψ,?_⟩;simp[aN,aA,bX,aB];refine ik (α:=bs) (fun i c=>⟨[(1,.slice 4 .no (l.map T.e)),(2,.slice 4 .no (r.map T.e)),(8,aB),(13,.slice 5 .no (s.map ak.e)),(14,.int .i64 s.length),(15,.int .i64 i)],aA c,[],0,[.obj 702,.obj 703,.obj 704,.obj 705,.obj 706,.obj 707]⟩) s.length (fun i c=>pU n (E.drop i) c=some fin) bs.new (by simp[aB,aA];exact⟨by simp[fresh,aP,aJ,cx,inObs,Pv.look,aB,aA,bs.new],eS (by simp[fresh,aP,aJ,cx,inObs,Pv.look,aB,aA,bs.new]),eT (by simp[fresh,aP,aJ,et,inObs,Pv.look,aB,aA,bs.new]),Ψ⟩) (by simpa using vD) ?_ ?_
 ·rintro c J ab;simp[aB,aA];refine ik (α:=bs) (fun i c=>⟨[(1,.slice 4 .no (l.map T.e)),(2,.slice 4 .no (r.map T.e)),(8,aB),(37,.int .i64 l.length),(38,.int .i64 i)],aA c,[],0,[.obj 702,.obj 703,.obj 704,.obj 705,.obj 706,.obj 707]⟩) l.length (fun i c=>pU n (E.drop (s.length+i)) c=some fin) c (by simp[aB,aA];exact⟨by simp[fresh,aP,aJ,cx,inObs,Pv.look,aB,aA],eS (by simp[fresh,aP,aJ,cx,inObs,Pv.look,aB,aA]),eT (by simp[fresh,aP,aJ,et,inObs,Pv.look,aB,aA]),Ψ⟩) J ?_ ?_
  ·rintro bT J ab;rw[List.drop_eq_nil_of_le Ω]at J;simp[pU]at J;subst J;simp at oE;obtain⟨aZ,bm,bP⟩:=hinv bT vD;simp[aB,aA];refine cA.ob (adS n bT o oE aZ bm bP) (cd _) (by simp only[aN,aA];exact aE) (by simp only[aN,aA];exact aE) d6 ?_;rintro r0 s0 ⟨rfl,cl,rfl⟩;refine⟨Same.keys (by simp[aN,aA]) (by simp[aN,aA]),?_⟩;simp[bX,aN,aA,fE];exact c0
  ·rintro i c hi J ab;simp only at J ab⊢;obtain⟨a,a7⟩:∃a,l[i]? =some a:=⟨_,cr hi⟩;obtain⟨b,fX⟩:∃b,r[i]? =some b:=⟨_,cr Ω⟩;have nh:∀h,(l[i]'h)=a:=fun h=>by rw[cr hi]at a7;exact gu a7
   have cq:∀h,(r[i]'h)=b:=fun h=>by rw[cr h]at fX;exact gu fX
   have rP:i<r.length:=Ω
   rw[aei i a b a7 fX]at J;simp only[pU,iK]at J;obtain⟨bT,U,cv,al,⟨f,dj⟩,a1,bW⟩:=J;simp only at a1 bW;have key:=RE n _ _ _ _ a1;simp[aB,aA];(with_reducible repeat' first|refine aj ?_|simp[nh,cq,hi,rP]);(refine cA.ob (Jz c a bT U) bi bf bf d6 ?_;rintro r ah ⟨rfl,rfl⟩;refine⟨(Same.keys ci ci),?_⟩;simp[bX,aN,aA,aB]);(with_reducible repeat' first|refine aj ?_|simp[nh,cq,hi,rP]);(refine cA.ob (Jz bT b cv al) bi bf bf d6 ?_;rintro r ah ⟨rfl,rfl⟩;refine⟨(Same.keys ci ci),?_⟩;simp[bX,aN,aA,aB]);(with_reducible repeat' first|refine aj ?_|simp[nh,cq,hi,rP]);(refine hW.ob (key) bi bi (Same.keys ci ci) bf bf d6 ?_;simp[bX,aN,aA,aB]);cases f with
   |false=>simp at bW;subst bW;simp at oE;subst oE;(with_reducible repeat' first|refine aj ?_|simp);simp[bn,Ma,aT,aU,aS];simp[fE]
   |true=>simp at bW;(with_reducible repeat' first|refine aj ?_|simp);refine bR.rng dj hi bW ?_;simp[aB,aA];exact⟨by simp[fresh,aP,aJ,cx,inObs,Pv.look,aB,aA],eS (by simp[fresh,aP,aJ,cx,inObs,Pv.look,aB,aA]),eT (by simp[fresh,aP,aJ,et,inObs,Pv.look,aB,aA]),Ψ⟩
 ·rintro i c hi J ab;simp only at J ab⊢;obtain⟨b,av,gB⟩:=fb hi;rw[aej i b av]at J;simp only[pU,iK]at J;obtain⟨bT,U,cv,al,⟨f,dj⟩,a1,bW⟩:=J;simp only[Ab,T.foldO,gr]at U;obtain⟨⟨x,Ox⟩,U,rfl⟩:=U;simp only at U al a1 bW;have key:=RE n _ _ _ _ a1;simp[aB,aA];(with_reducible repeat' first|refine aj ?_|simp[gB,hi]);(refine cA.ob (rC c b.v x Ox U) bi bf bf d6 ?_;rintro r ah ⟨rfl,rfl⟩;refine⟨(Same.keys ci ci),?_⟩;simp[bX,aN,aA,aB]);(with_reducible repeat' first|refine aj ?_|simp);(refine cA.ob (Jz Ox b.t cv al) bi bf bf d6 ?_;rintro r ah ⟨rfl,rfl⟩;refine⟨(Same.keys ci ci),?_⟩;simp[bX,aN,aA,aB]);(with_reducible repeat' first|refine aj ?_|refine aC (k1 _) ?_|refine aD (k1 _) ?_|simp);(refine hW.ob (key) bi bi (Same.keys ci ci) bf bf d6 ?_;simp[bX,aN,aA,aB]);cases f with
  |false=>simp at bW;subst bW;simp at oE;subst oE;(with_reducible repeat' first|refine aj ?_|simp);simp[bn,Ma,aT,aU,aS];simp[fE]
  |true=>simp at bW;(with_reducible repeat' first|refine aj ?_|simp);refine bR.rng dj hi bW ?_;simp[aB,aA];exact⟨by simp[fresh,aP,aJ,cx,inObs,Pv.look,aB,aA],eS (by simp[fresh,aP,aJ,cx,inObs,Pv.look,aB,aA]),eT (by simp[fresh,aP,aJ,et,inObs,Pv.look,aB,aA]),Ψ⟩
theorem XM(s:List ak)(l r:List T)(au:l.length=r.length)(af:eI s)(aO:fJ s)(aw:j7 s)(xH:l.length<=1000000)(J:∀t∈l,t.ok=true)(U:∀t∈r,t.ok=true):
  bZ ay 118 [.slice 5 .no (s.map ak.e),.slice 4 .no (l.map T.e),.slice 4 .no (r.map T.e)] (fE (mgu s (l.zip r))):=by
 have c6:∀e∈fR s++l.zip r,e.1.ok=true/\e.2.ok=true:=fun e he=>by
  rcases h9.1 he with he|he
  ·obtain⟨b,ab,rfl⟩:=ia.1 he;have:=aw b ab;exact⟨by simpa[T.ok]using this.1,this.2⟩
  ·exact⟨J _ (List.of_mem_zip he).1,U _ (List.of_mem_zip he).2⟩
 have bA:LD (fR s++l.zip r):=fun e he v av=>by
  rcases av with av|av
  ·exact(wZ (c6 e he).1 av).1
  ·exact(wZ (c6 e he).2 av).1
 obtain⟨n,o,aZ,bm,bP⟩:=aly _ bA;rw[pC (Yp.1 bm)];refine adR n s l r au (by have:=aO.1;omega) xH o aZ fun c aq=>?_;obtain⟨bz,a2,a3⟩:=bP c aq;have:=TR bz fun v av=>by
  obtain⟨e,he,av⟩:=a2 v av;rcases av with av|av
  ·exact wZ (c6 e he).1 av
  ·exact wZ (c6 e he).2 av
 refine⟨bz,by simp[cn]at this;omega,fun x=>?_⟩;simp[bs.sz,a3,tg]
structure eB (s:List ak):Prop where
 ok:j7 s
 sol:eI s
 fits:fJ s
theorem eB.len{s:List ak}(h:eB s):s.length<=1000000:=by have:=h.fits.1;omega
theorem eB.fit{s:List ak}(h:eB s):vu s:=fun b ab=>by simp[T.fit,(h.ok b ab).2,h.fits.2 b ab]
theorem eB.mgu{s:List ak}(h:eB s){E:List (T×T)}(c6:∀e∈E,e.1.ok=true/\e.2.ok=true){ah:List ak}(hm:mgu s E=some ah):eB ah:=⟨ahn h.sol h.fits h.ok c6 hm,(r9 h.sol h.fits hm).1,(r9 h.sol h.fits hm).2⟩
theorem tv(s:List ak):(s.map ak.b).map dO.e=s.map ak.e:=by rw[List.map_map];exact List.map_congr_left fun b _=>ak.b_e b
theorem ql{s:List ak}(h:eB s):bZ ay 55 [.slice 5 .no (s.map ak.e)] (.bool true):=by have:=amn (s.map ak.b);rw[tv,wS.2 ⟨s,rfl,h.ok,h.sol,h.fits⟩]at this;exact this
def agC(t:List ak)(i:Nat)(p:List T×List T):Prop:=p.1=(t.take i).map (fun b=>T.var b.v)/\p.2=(t.take i).map (·.t)
theorem amu(t:List ak)(aI:t.length<=1000000):bZ ay 201 [.slice 5 .no (t.map ak.e)] (.tuple [.slice 4 .no ((t.map fun b=>T.var b.v).map T.e),.slice 4 .no ((t.map (·.t)).map T.e)]):=by
 generalize bS:((t.map fun b=>T.var b.v).map T.e)=R1;generalize R8:((t.map fun x=>x.t).map T.e)=R2;have gn:∀S:aL->Prop,aP S R1=True:=fun S=>by rw[<-bS];exact TW S _
 have lf:∀S:aL->Prop,aP S R2=True:=fun S=>by rw[<-R8];exact TW S _
 refine bZ.mk mixed ra abu aim Ψ (by simp[aJ,gn,lf]) fun aR=>?_;unfold O6;simp;refine ik (α:=List T×List T) (fun i p=>⟨[(10,.slice 5 .no (t.map ak.e)),(11,.int .i64 t.length),(4,.slice 4 (.own (.loc 0)) (p.1.map T.e)),(5,.slice 4 (.own (.loc 1)) (p.2.map T.e)),(12,.int .i64 i)],[],[(.loc 0,⟨p.1.length,32,4,none⟩),(.loc 1,⟨p.2.length,32,4,none⟩)],2,[]⟩) t.length (agC t) ([],[]) cb ⟨Ψ,Ψ⟩ (fun p ag _=>?_) (fun i p hi ag _=>?_)
 ·obtain⟨A,B⟩:=p;obtain⟨bj,kj⟩:=ag;simp only at bj kj⊢;rw[hv (eC _)]at bj kj;rw[<-bS,<-R8,<-bj,<-kj];simp;(with_reducible repeat' first|refine aj ?_|simp);simp[bn,VG,aT,aU,aS]
 ·obtain⟨A,B⟩:=p;obtain⟨bj,kj⟩:=ag;simp only at bj kj⊢;obtain⟨b,av,gB⟩:=fb hi;have vU:t.take (i+1)=t.take i++[b]:=by rw[List.take_succ,av];rfl
  have aee:A.length<=1000000:=by rw[bj];simp;omega
  have aef:B.length<=1000000:=by rw[kj];simp;omega
  simp[hi,gB];((with_reducible repeat' first|refine aj ?_|refine aC (k1 _) ?_|refine aD (k1 _) ?_|simp[gB,hi]|((first|apply bD|apply bH|apply bG)<;>intro h<;>try simp at h))<;>(try exact b2));all_goals first|(refine⟨by unfold lim;omega,?_⟩)|skip
  (with_reducible repeat' first|refine aj ?_|simp);all_goals first|(refine⟨by unfold lim;omega,?_⟩)|skip
  (with_reducible repeat' first|refine aj ?_|simp);refine bR.rng (A++[.var b.v],B++[b.t]) hi ⟨by rw[vU,bj];simp,by rw[vU,kj];simp⟩ ?_;simp;exact⟨by simp[fresh,aP,aJ,cx,inObs,Pv.look,j1],eS (by simp[fresh,aP,aJ,cx,inObs,Pv.look,j1]),eT (by simp[fresh,aP,aJ,et,inObs,Pv.look,j1]),Ψ⟩
theorem amc{s t:List ak}(af:eB s)(aI:eB t):bZ ay 122 [.slice 5 .no (s.map ak.e),.slice 5 .no (t.map ak.e)] (fE (mgu s (fR t))):=by
 have bk:(t.map fun b=>T.var b.v).zip (t.map (·.t))=fR t:=by rw[fR,List.zip_map']
 have key:=XM s (t.map fun b=>T.var b.v) (t.map (·.t)) Ψ af.sol af.fits af.ok (by simpa using aI.len) (fun x ae=>by
  obtain⟨b,ab,rfl⟩:=ia.1 ae;have:=aI.ok b ab;simpa[T.ok]using this.1) (fun x ae=>by
  obtain⟨b,ab,rfl⟩:=ia.1 ae;exact(aI.ok b ab).2)
 rw[bk]at key;have heq:=amu t aI.len;generalize (t.map fun b=>T.var b.v)=A at key heq;generalize (t.map fun x=>x.t)=B at key heq;refine bE ra aa4 ahW fun aR=>?_;unfold OH;simp;(with_reducible repeat' first|refine aj ?_|refine aC (ql af) ?_|refine aD (ql af) ?_|refine aC (ql aI) ?_|refine aD (ql aI) ?_|refine aC heq ?_|refine aD heq ?_|refine aC key ?_|refine aD key ?_|simp);simp[bn,Vs,aT,aU,aS];simp[fE]
end
end Go.Proofs.YtohaalphocaebaaGreat
namespace Go.Pv
section
open Go
structure jF {α:Type} (c:α->α->Int):Prop where
 neg:∀a b,c b a= -c a b
 tr:∀a b d,c a b<=0->c b d<=0->c a d<=0
 zero:∀a b,c a b=0↔a=b
section
variable {α:Type} {c:α->α->Int}
def hK(c:α->α->Int)(a b:α):Bool:=decide (c a b<0)
theorem jF.ltOk(h:jF c):qu (hK c):=by
 refine⟨fun x y gz=>?_,fun x y z J U=>?_⟩
 ·simp only[hK,eF,hx]at gz⊢;rw[h.neg x y];omega
 ·simp only[hK,hx]at J U⊢;have ao:=h.neg x y;have aF:=h.neg y z;have bM:=h.neg x z;have:=h.tr x y z Ω Ω;omega
theorem jF.refl(h:jF c)(a:α):c a a=0:=(h.zero a a).2 rfl
theorem jF.ltr(h:jF c){a b d:α}(J:c a b<0)(U:c b d<=0):c a d<0:=by
 have al:=h.tr a b d Ω U;rcases(by omega:c a d<0\/c a d=0)with a1|a1
 ·exact a1
 ·obtain rfl:=(h.zero a d).1 a1;have:=h.neg a b;omega
def n4(c:α->α->Int)(l:List α):List α:=l.mergeSort fun x y=>decide (c x y<=0)
theorem wQ(c:α->α->Int)(l:List α):(n4 c l).Perm l:=List.mergeSort_perm l _
theorem M1(h:jF c)(l:List α):(n4 c l).Pairwise fun x y=>c x y<=0:=by have:=List.pairwise_mergeSort (le:=fun x y=>decide (c x y<=0)) (fun a b d J U=>by simp at J U⊢;exact h.tr a b d J U) (fun a b=>by simp;have:=h.neg a b;omega) l;exact this.imp Ψ
theorem W2(h:jF c){l a6:List α}(bL:a6.Perm l)(af:a6.Pairwise fun x y=>hK c y x=false):a6=n4 c l:=by refine NL (le:=fun x y=>c x y<=0) (fun x y _ _ J U=>(h.zero x y).1 (by have:=h.neg x y;omega)) (af.imp fun{x y} gz=>?_) (M1 h l) (bL.trans (wQ c l).symm);simp only[hK,hx]at gz;have:=h.neg x y;omega
def cK[DecidableEq α](p:Option α):List α->List α
 |[]=>[]
 |x::r=>if p=some x then cK (some x) r else x::cK (some x) r
def asc[DecidableEq α](c:α->α->Int)(l:List α):List α:=cK none (n4 c l)
def hH(c:α->α->Int)(l:List α):Prop:=l.Pairwise fun x y=>c x y<0
variable [DecidableEq α]
theorem QP:∀(l:List α) (p:Option α),(cK p l).length<=l.length
 |[],_=>by simp[cK]
 |x::r,p=>by have:=QP r (some x);simp only[cK];split<;>simp<;>omega
theorem YM(c:α->α->Int)(l:List α):(asc c l).length<=l.length:=by have J:=QP (n4 c l) none;have U:=(wQ c l).length_eq;unfold asc;omega
theorem IT:∀(l:List α) (p:Option α) (x:α),x∈cK p l->x∈l
 |[],_,_,h=>by simp[cK]at h
 |y::r,p,x,h=>by
  simp only[cK]at h;split at h
  ·exact og _ (IT r _ x h)
  ·rcases fI.1 h with rfl|h
   ·simp
   ·exact og _ (IT r _ x h)
theorem Lm:∀(l:List α) (p:Option α) (x:α),x∈l->x∈cK p l\/p=some x
 |y::r,p,x,h=>by
  simp only[cK];rcases fI.1 h with rfl|h
  ·split
   ·rename_i U;exact .inr U
   ·simp
  ·split
   ·rename_i U;rcases Lm r (some y) x h with al|al
    ·exact .inl al
    ·cases al;exact .inr U
   ·rcases Lm r (some y) x h with al|al
    ·exact .inl (og _ al)
    ·cases al;simp
theorem QQ(aq:jF c):∀(l:List α) (p:Option α),l.Pairwise (fun x y=>c x y<=0)->(∀y,p=some y->∀x∈l,c y x<=0)->hH c (cK p l)/\∀y,p=some y->∀x∈cK p l,c y x<0
 |[],p,_,_=>⟨arJ,fun y _ x ae=>by simp[cK]at ae⟩
 |z::r,p,h,bL=>by
  obtain⟨J,U⟩:=mS.1 h;have bO:=QQ aq r (some z) U (fun y aM x ae=>by cases aM;exact J x ae);simp only[cK];split
  ·rename_i al;subst al;exact bO
  ·rename_i al;refine⟨mS.2 ⟨fun x ae=>bO.2 z rfl x ae,bO.1⟩,fun y aM x ae=>?_⟩;subst aM;have r2:c y z<0:=by
    have a1:=bL y rfl z Ψ;rcases(by omega:c y z<0\/c y z=0)with bW|bW
    ·exact bW
    ·exact absurd (e4 some ((aq.zero y z).1 bW)) al
   rcases fI.1 ae with rfl|ae
   ·exact r2
   ·exact aq.ltr r2 (by have:=bO.2 z rfl x ae;omega)
theorem Ex(aq:jF c)(l:List α):hH c (asc c l):=(QQ aq _ none (M1 aq l) (fun y h=>by cases h)).1
theorem Ll(l:List α)(x:α):x∈asc c l↔x∈l:=by
 constructor
 ·intro h;exact(wQ c l).mem_iff.1 (IT _ _ _ h)
 ·intro h;rcases Lm (n4 c l) none x ((wQ c l).mem_iff.2 h)with h|h
  ·exact h
  ·cases h
omit [DecidableEq α]in
theorem hH.ext(aq:jF c){l a6:List α}(h:hH c l)(ck:hH c a6)(hm:∀x,x∈l↔x∈a6):l=a6:=by
 have aG:∀{l:List α},hH c l->l.Nodup:=fun{l} h=>h.imp fun{a b} h e=>by subst e;have:=aq.refl a;omega
 refine NL (le:=fun x y=>c x y<=0) (fun x y _ _ J U=>(aq.zero x y).1 (by have:=aq.neg x y;omega)) (h.imp fun h=>Ω) (ck.imp fun h=>Ω) ?_;exact(List.perm_ext_iff_of_nodup (aG h) (aG ck)).2 hm
omit [DecidableEq α]in
theorem hH.nodup(aq:jF c){l:List α}(h:hH c l):l.Nodup:=h.imp fun{a b} h e=>by subst e;have:=aq.refl a;omega
end
theorem Ip:∀a b:List c4,ht a b=true->ht b a=false
 |_,[],h=>by simp[ht]at h
 |[],_::_,_=>by simp[ht]
 |x::a,y::b,h=>by
  simp only[ht,ls,eF,ct,dM]at h;simp only[ht,Bool.or_eq_false_iff,hx,Bool.and_eq_false_iff];rcases h with h|⟨rfl,h⟩
  ·refine⟨fun U=>?_,.inl ?_⟩
   ·rw[UInt8.lt_iff_toNat_lt]at h U;omega
   ·simp;intro e;subst e;rw[UInt8.lt_iff_toNat_lt]at h;omega
  ·exact⟨fun U=>by rw[UInt8.lt_iff_toNat_lt]at U;omega,.inr (Ip a b h)⟩
theorem Oj:∀a b:List c4,a≠b->ht a b=false->ht b a=true
 |[],[],h,_=>absurd rfl h
 |x::a,[],_,_=>by simp[ht]
 |[],_::_,_,h=>by simp[ht]at h
 |x::a,y::b,cF,h=>by
  simp only[ht,Bool.or_eq_false_iff,hx,Bool.and_eq_false_iff]at h;simp only[ht,ls,eF,ct,dM];by_cases e:x=y
  ·subst e;right;refine⟨rfl,Oj a b (fun e=>cF (by rw[e])) ?_⟩;rcases h.2 with U|U
   ·simp at U
   ·exact U
  ·left;have J:=h.1;rw[UInt8.lt_iff_toNat_lt]at J⊢;have:x.toNat≠y.toNat:=fun h=>e (UInt8.toNat_inj.1 h);omega
theorem Oi:∀a b d:List c4,ht a b=true->ht b d=true->ht a d=true
 |_,[],_,h,_=>by simp[ht]at h
 |_,_::_,[],_,h=>by simp[ht]at h
 |[],_::_,_::_,_,_=>by simp[ht]
 |x::a,y::b,z::d,J,U=>by
  simp only[ht,ls,eF,ct,dM,UInt8.lt_iff_toNat_lt]at J U⊢;rcases J with J|⟨rfl,J⟩<;>rcases U with U|⟨rfl,U⟩
  ·left;omega
  ·left;exact J
  ·left;exact U
  ·exact .inr ⟨rfl,Oi a b d J U⟩
theorem kp:jF eu:=by
 refine⟨fun a b=>?_,fun a b d=>?_,fun a b=>?_⟩
 ·simp only[eu];repeat' split
  all_goals omega
 ·simp only[eu];repeat' split
  all_goals omega
 ·simp only[eu];repeat' split
  all_goals omega
theorem Dm:jF kI:=by
 have az:∀a b,kI b a= -kI a b:=fun a b=>by
  simp only[kI];by_cases e:a=b
  ·subst e;simp
  ·rw[if_neg e,if_neg (k5 e)];cases h:ht a b with
   |true=>simp[Ip a b h]
   |false=>simp[Oj a b e h]
 refine⟨az,fun a b d J U=>?_,fun a b=>?_⟩
 ·simp only[kI]at J U⊢;by_cases ao:a=b
  ·subst ao;exact U
  ·by_cases aF:b=d
   ·subst aF;exact J
   ·rw[if_neg ao]at J;rw[if_neg aF]at U;have g1:ht a b=true:=by cases h:ht a b<;>simp[h]at J⊢
    have g2:ht b d=true:=by cases h:ht b d<;>simp[h]at U⊢
    rw[Oi a b d g1 g2];split<;>simp
 ·simp only[kI];by_cases e:a=b
  ·simp[e]
  ·rw[if_neg e];simp[e];split<;>omega
theorem sd{a b:T}(h:a.kind≠b.kind):ep a b=eu a.kind b.kind:=by cases a<;>cases b<;>simp at h<;>simp[ep]
theorem GK:∀a b:T,ep b a= -ep a b
 | .pair a b,.pair c d=>by
  simp only[ep];have J:=GK a c;have U:=GK b d;by_cases e:ep a c=0
  ·rw[if_pos e,if_pos Ω,U]
  ·rw[if_neg e,if_neg Ω,J]
 | .nil,y=>by
  by_cases ad:T.nil.kind=y.kind
  ·cases y<;>simp at ad;simp[ep,kI]
  ·rw[sd ad,sd (k5 ad),kp.neg]
 | .var n,y=>by
  by_cases ad:(T.var n).kind=y.kind
  ·cases y<;>simp at ad;rename_i m;by_cases e:n=m
   ·subst e;simp[ep,kI]
   ·simp[ep,e,k5 e,kp.neg n m]
  ·rw[sd ad,sd (k5 ad),kp.neg]
 | .sym s,y=>by
  by_cases ad:(T.sym s).kind=y.kind
  ·cases y<;>simp at ad;rename_i m;simp[ep,Dm.neg s m]
  ·rw[sd ad,sd (k5 ad),kp.neg]
 | .num n,y=>by
  by_cases ad:(T.num n).kind=y.kind
  ·cases y<;>simp at ad;rename_i m;by_cases e:n=m
   ·subst e;simp[ep,kI]
   ·simp[ep,e,k5 e,kp.neg n m]
  ·rw[sd ad,sd (k5 ad),kp.neg]
 | .pair a b,.nil| .pair a b,.var _| .pair a b,.sym _| .pair a b,.num _=>by simp[ep,eu]
theorem GJ{a b:T}(h:ep a b<=0):a.kind<=b.kind:=by
 by_cases ad:a.kind=b.kind
 ·omega
 ·rw[sd ad]at h;simp only[eu]at h;repeat' split at h
  all_goals omega
theorem Vc(n m:Int):ep (.var n) (.var m)=eu n m:=by
 simp only[ep,T.kind,T.int,T.name,kI];by_cases e:n=m
 ·subst e;simp[eu]
 ·simp[e]
theorem Vb(n m:Int):ep (.num n) (.num m)=eu n m:=by
 simp only[ep,T.kind,T.int,T.name,kI];by_cases e:n=m
 ·subst e;simp[eu]
 ·simp[e]
theorem ajN(n m:List c4):ep (.sym n) (.sym m)=kI n m:=by simp[ep]
theorem GL(a b d:T)(a7:a.kind≠4)(J:ep a b<=0)(U:ep b d<=0):ep a d<=0:=by
 have aX:=GJ J;have bg:=GJ U;by_cases ad:a.kind=d.kind
 ·cases a<;>cases d<;>simp at ad a7;all_goals(cases b<;>simp at aX bg)
  ·simp[ep,kI]
  ·rw[Vc]at J U⊢;exact kp.tr _ _ _ J U
  ·rw[ajN]at J U⊢;exact Dm.tr _ _ _ J U
  ·rw[Vb]at J U⊢;exact kp.tr _ _ _ J U
 ·rw[sd ad];simp only[eu];repeat' split
  all_goals omega
theorem ajO:∀a b d:T,ep a b<=0->ep b d<=0->ep a d<=0:=by
 intro a;induction a with
 |pair bz a2 F2 F3=>
  intro b d J U;have aX:=GJ J;have bg:=GJ U;cases b<;>simp at aX;all_goals(cases d<;>simp at bg)
  rename_i cf b9 d1 d2;simp only[ep]at J U⊢;by_cases ao:ep bz cf=0
  ·obtain rfl:=(q1 bz cf).1 ao;rw[if_pos ao]at J;by_cases aF:ep bz d1=0
   ·rw[if_pos aF]at U⊢;exact F3 b9 d2 J U
   ·rw[if_neg aF]at U⊢;exact U
  ·rw[if_neg ao]at J;by_cases aF:ep cf d1=0
   ·obtain rfl:=(q1 cf d1).1 aF;rw[if_neg ao];exact J
   ·rw[if_neg aF]at U;have al:=F2 cf d1 J U;by_cases bM:ep bz d1=0
    ·obtain rfl:=(q1 bz d1).1 bM;have:=GK bz cf;omega
    ·rw[if_neg bM];exact al
 |nil=>exact fun b d=>GL _ b d Ψ
 |var n=>exact fun b d=>GL _ b d Ψ
 |sym n=>exact fun b d=>GL _ b d Ψ
 |num n=>exact fun b d=>GL _ b d Ψ
theorem LU:jF ep:=⟨GK,ajO,q1⟩
end
end Go.Pv
namespace Go.Proofs.YtohaalphocaebaaGreat
section
open Go Go.Pv
theorem sp{α:Type}{t:List α}{i:Nat}{b:α}(av:t[i]? =some b):t.take (i+1)=t.take i++[b]:=by rw[List.take_succ,av];rfl
def dR(s t:List ak):List ak:=t.filter fun b=>(dc s b.v).isNone
def qU(s t:List ak)(i:Nat)(out:List ak):Prop:=out=dR s (t.take i)
theorem Xq{s t:List ak}(af:eB s)(aI:eB t):bZ ay 123 [.slice 5 .no (s.map ak.e),.slice 5 .no (t.map ak.e)] (.slice 5 .no ((dR s t).map ak.e)):=by
 have afN:=aI.len;generalize bS:dR s t=R;refine bE ra aa9 ah1 fun aR=>?_;unfold OM;simp;(with_reducible repeat' first|refine aj ?_|refine aC (ql af) ?_|refine aD (ql af) ?_|refine aC (ql aI) ?_|refine aD (ql aI) ?_|simp);refine ik (α:=List ak) (fun i out=>⟨[(0,.slice 5 .no (s.map ak.e)),(17,.slice 5 .no (t.map ak.e)),(18,.int .i64 t.length),(5,.slice 5 (.own (.loc 0)) (out.map ak.e)),(19,.int .i64 i)],[],[(.loc 0,⟨out.length,61,5,none⟩)],1,[]⟩) t.length (qU s t) [] cb (by simp[qU,dR]) (fun out ag _=>?_) (fun i out hi ag _=>?_)
 ·rw[qU,hv (eC _),bS]at ag;rw[<-ag];exact c0
 ·obtain⟨b,av,gB⟩:=fb hi;have Cv:out.length<=1000000:=by
   have:out.length<=(t.take i).length:=by rw[ag];exact List.length_filter_le _ _
   simp at this;omega
  have qM:=Rr af.sol.asc b.v;simp[hi,gB];by_cases ab:nb s b.v<0
  ·(with_reducible repeat' first|refine aj ?_|refine aC (tM s b.v af.len) ?_|refine aD (tM s b.v af.len) ?_|refine aC (tL _) ?_|refine aD (tL _) ?_|simp[gB,hi,ab]);all_goals first|(refine⟨by unfold lim;omega,?_⟩)|skip
   (with_reducible repeat' first|refine aj ?_|simp);refine bR.rng (out++[b]) hi (by rw[qU,sp av,dR,List.filter_append,ag];simp[dR,qM.1 ab]) ?_;simp;exact⟨by simp[fresh,aP,aJ,cx,inObs,Pv.look,j1],eS (by simp[fresh,aP,aJ,cx,inObs,Pv.look,j1]),eT (by simp[fresh,aP,aJ,et,inObs,Pv.look,j1]),Ψ⟩
  ·(with_reducible repeat' first|refine aj ?_|refine aC (tM s b.v af.len) ?_|refine aD (tM s b.v af.len) ?_|simp[gB,hi,ab]);refine bR.rng out hi (by
    have:dc s b.v≠none:=fun e=>ab (qM.2 e);rw[qU,sp av,dR,List.filter_append,ag];cases e:dc s b.v with
    |none=>exact absurd e this
    |some x=>simp[dR,e]) ?_
   exact cb
def F7(t:List ak)(i:Nat)(out:List ak):Prop:=out=t.take i
theorem HJ(t:List ak)(aI:t.length<=1000000):bZ ay 119 [.slice 5 .no (t.map ak.e)] (.slice 5 .no (t.map ak.e)):=by
 refine bE ra abp aii fun aR=>?_;unfold O2;simp;refine ik (α:=List ak) (fun i out=>⟨[(7,.slice 5 .no (t.map ak.e)),(8,.int .i64 t.length),(3,.slice 5 (.own (.loc 0)) (out.map ak.e)),(9,.int .i64 i)],[],[(.loc 0,⟨out.length,61,5,none⟩)],1,[]⟩) t.length (F7 t) [] cb (by simp[F7]) (fun out ag _=>?_) (fun i out hi ag _=>?_)
 ·rw[F7,hv (eC _)]at ag;subst ag;exact c0
 ·obtain⟨b,av,gB⟩:=fb hi;have Cv:out.length<=1000000:=by rw[ag];simp;omega
  simp[hi,gB];(with_reducible repeat' first|refine aj ?_|refine aC (tL _) ?_|refine aD (tL _) ?_|simp[gB,hi]);all_goals first|(refine⟨by unfold lim;omega,?_⟩)|skip
  (with_reducible repeat' first|refine aj ?_|simp);refine bR.rng (out++[b]) hi (by rw[F7,sp av,ag]) ?_;simp;exact⟨by simp[fresh,aP,aJ,cx,inObs,Pv.look,j1],eS (by simp[fresh,aP,aJ,cx,inObs,Pv.look,j1]),eT (by simp[fresh,aP,aJ,et,inObs,Pv.look,j1]),Ψ⟩
def qY(t:List ak)(b:ak):Bool:=decide (aY t b.v=b.t.ap (aY t))
def j6(s t:List ak):Bool:=s.all (qY t)
theorem DQ{t:List ak}(aI:eB t)(v:Int):(aY t v).size<=5000:=by
 unfold aY;cases e:dc t v with
 |none=>simp[T.size]
 |some x=>exact aI.fits.2 _ (jH e)
theorem XH(s:List ak){t:List ak}(af:s.length<=1000000)(aI:eB t):bZ ay 205 [.slice 5 .no (s.map ak.e),.slice 5 .no (t.map ak.e)] (.bool (j6 s t)):=by
 refine bE ra abC aiu fun aR=>?_;unfold Pe;simp;refine eQ [1,11,12] (fun i (_:Unit)=>[(13,.int .i64 i)]) s.length (np (qY t) s) () cb (fun k b ad=>Ω) (fun _ ag _=>?_) (fun i _ hi ag _=>?_)
 ·have:j6 s t=true:=by rw[j6,gH];intro b ab;obtain⟨k,ad,e⟩:=od ab;exact ag k b ad (by rw[cr ad,e])
  rw[this];exact c0
 ·obtain⟨b,av,gB⟩:=fb hi;have fY:qY t b=false->j6 s t=false:=fun h=>by rw[Bool.eq_false_iff];intro ck;rw[j6,gH]at ck;rw[ck b (eZ av)]at h;cases h
  have aX:=D5 t (.var b.v) aI.len aI.sol.asc aI.fit;have bg:=D5 t b.t aI.len aI.sol.asc aI.fit;have xR:=DQ aI b.v;have F0:((T.var b.v).ap (aY t)).size<=5000:=xR;rw[if_pos F0,jS F0]at aX;rw[show(T.var b.v).ap (aY t)=aY t b.v from rfl]at aX;simp[hi,gB];by_cases bk:(b.t.ap (aY t)).size<=5000
  ·rw[if_pos bk,jS bk]at bg;by_cases he:aY t b.v=b.t.ap (aY t)
   ·rw[he]at aX;(with_reducible repeat' first|refine aj ?_|refine aC (k1 _) ?_|refine aD (k1 _) ?_|refine aC aX ?_|refine aD aX ?_|refine aC bg ?_|refine aD bg ?_|refine aC (ss _ _) ?_|refine aD (ss _ _) ?_|simp[gB,hi,he]);exact bR.rng () hi (ag.step av (by simp[qY,he])) cb
   ·rw[fY (by simp[qY,he])];(with_reducible repeat' first|refine aj ?_|refine aC (k1 _) ?_|refine aD (k1 _) ?_|refine aC aX ?_|refine aD aX ?_|refine aC bg ?_|refine aD bg ?_|refine aC (ss _ _) ?_|refine aD (ss _ _) ?_|simp[gB,hi,he]);simp[bn,L7,aT,aU,aS]
  ·rw[if_neg bk,lT bk]at bg;rw[fY (by simp only[qY,hx];intro e;rw[<-e]at bk;exact bk xR)];(with_reducible repeat' first|refine aj ?_|refine aC (k1 _) ?_|refine aD (k1 _) ?_|refine aC aX ?_|refine aD aX ?_|refine aC bg ?_|refine aD bg ?_|refine aC (ss _ _) ?_|refine aD (ss _ _) ?_|simp[gB,hi]);simp[bn,L7,aT,aU,aS]
def PR:C:=(aa [c3 2 0,bu 4 false] (aa [a8 5 4 2,cV 6 76 5,I 7 6,ar 7 true (a8 8 4 2),bU 7 true 9 1,ar 7 true (cg 10 77 8 9),dv 11 7 10,I 4 11] .ret))
@[simp] def akv:List bY:=[.tmp 4]
def By:C:=(aa [c3 2 0,bu 4 false] (.seq (aa [a8 7 5 2,cV 8 65 7,cB 9 8,I 10 9,bU 10 false 11 1,ar 10 false (cV 12 78 11),ar 10 false (cB 13 12),cW 14 10 13,I 15 14,bU 15 false 16 1,ar 15 false (cD 17 16),ar 15 false (aH 18 0 1 2),ar 15 false (ax 19 1 18),ar 15 false (bF 20 .neq 17 19),cW 21 15 20] (aV 21 (aa [bu 4 false] .ret) .skip)) (.seq (aa [I 22 1,cD 23 22,b7 24 0] (fj 25 24 23 (.seq (.block 1 (aa [I 26 24,cJ 27 5 22 24,a8 28 5 27,da 6 kn,I 5 26,bC 5 6 28] (aa [aH 29 0 1 6,ax 30 1 29,I 31 5,bF 32 .neq 30 31,I 33 32,ar 33 false (iI 34 1 4 6),ar 33 false (a8 35 4 34),ar 33 false (cV 36 79 35),ar 33 false (cB 37 36),cW 38 33 37] (aV 38 (aa [bu 4 false] .ret) .skip)))) (.region [aQ 39 .add 24 1,I 24 39])))) (aa [a8 40 5 2,I 41 1,cg 42 80 40 41,I 4 42] .ret))))
@[simp] def Me:List bY:=[.tmp 4]
def O3:C:=(aa [c3 1 0,da 2 h5] (.seq (.drawn true 39 [aH 6 0 1 1,ax 7 1 6,aH 8 1 1 1,ax 9 1 8,cV 10 119 9,ec 11 1 23 [],gE 12 h5 [(0,1,(.t 7)),(1,1,(.t 10)),(2,1,(.t 11))],da 3 h5,bC 5 3 12]) (.seq (aa [aH 13 2 1 1,ax 14 1 13,cD 15 14,b7 16 0] (fj 17 16 15 (.seq (.block 1 (aa [cJ 18 1 14 16,ax 19 1 18,I 5 19] (.drawn true 39 [aH 20 2 1 3,ax 21 1 20,I 22 5,cV 23 119 22,ec 24 1 23 [.t 23],gY 25 1 23 21 24,aH 26 2 1 3,bC 1 26 25]))) (.region [aQ 27 .add 16 1,I 16 27])))) (aa [ec 28 2 104 [],aH 29 3 1 1,ax 30 1 29,gY 31 2 104 28 30,aH 32 3 1 3,bC 1 32 31] (aa [ec 33 2 106 [],aH 34 4 1 1,ax 35 1 34,gY 36 2 106 33 35,aH 37 4 1 3,bC 1 37 36] (aa [a8 38 5 3,bC 5 2 38] .ret))))))
@[simp] def akh:List bY:=[.cell 2 true 5]
def P0:C:=(aa [bu 2 false] (aa [I 3 0,cV 4 164 3,I 2 4] .ret))
@[simp] def akB:List bY:=[.tmp 2]
def IF:C:=(aa [c3 1 0,bu 2 false] (aa [a8 3 4 1,cV 4 76 3,I 5 4,ar 5 true (a8 6 4 1),⟨(some (5,true)),.call (some 7) (.c (.func 165 [])) [.t 6,(.c (.slice 1 .nil []))]⟩,ar 5 true (cD 8 7),ar 5 true (aQ 9 .eql 8 0),dv 10 5 9,I 2 10] .ret))
@[simp] def V3:List bY:=[.tmp 2]
def Qt:C:=(aa [c3 2 0,bu 4 false] (.seq (aa [aH 21 1 1 2,ax 22 1 21,cD 23 22,b7 24 0] (fj 25 24 23 (.seq (.block 1 (aa [cJ 26 5 22 24,a8 27 5 26,da 6 kn,bC 5 6 27] (aa [I 29 1,aH 30 0 1 6,ax 31 1 30,cg 32 161 29 31,I 28 32,cu 33 0 28,cu 34 1 28,da 7 dm,bC 4 7 33,I 8 34] (aa [I 36 1,iI 37 1 4 6,a8 38 4 37,cg 39 166 36 38,I 35 39,cu 40 0 35,cu 41 1 35,da 9 dm,bC 4 9 40,I 10 41] (aa [I 42 10,cB 43 42,I 44 43,ar 44 false (a8 45 4 7),ar 44 false (a8 46 4 9),ar 44 false (cg 47 167 45 46),ar 44 false (cB 48 47),cW 49 44 48] (aV 49 (aa [bu 4 false] .ret) .skip)))))) (.region [aQ 50 .add 24 1,I 24 50])))) (.seq (aa [aH 51 2 1 2,ax 52 1 51,cD 53 52,b7 54 0] (.block 2 (.loop (aa [bF 55 .lss 54 53] (.seq (aV 55 .skip (.exit 2)) (.seq (.block 3 (aa [cJ 56 1 52 54,ax 57 1 56,I 12 57] (aa [I 58 12,I 59 1,cg 60 168 58 59,cB 61 60] (aV 61 (aa [bu 4 false] .ret) .skip)))) (.region [aQ 62 .add 54 1,I 54 62]))))))) (.seq (aa [aH 63 3 1 2,ax 64 1 63,cD 65 64,b7 66 0] (.block 4 (.loop (aa [bF 67 .lss 66 65] (.seq (aV 67 .skip (.exit 4)) (.seq (.block 5 (aa [cJ 68 2 64 66,a8 69 2 68,cH (.alloc 14 none (.agg [.int .i64 0,.int .i64 0])),bC 2 14 69] (aa [I 71 1,aH 72 0 1 14,ax 73 1 72,cg 74 161 71 73,I 70 74,cu 75 0 70,cu 76 1 70,da 15 dm,bC 4 15 75,I 16 76] (aa [aH 77 0 1 15,ax 78 1 77,aH 79 1 1 14,ax 80 1 79,bF 81 .neq 78 80] (aV 81 (aa [bu 4 false] .ret) .skip))))) (.region [aQ 82 .add 66 1,I 66 82]))))))) (.seq (aa [aH 83 4 1 2,ax 84 1 83,cD 85 84,b7 86 0] (.block 6 (.loop (aa [bF 87 .lss 86 85] (.seq (aV 87 .skip (.exit 6)) (.seq (.block 7 (aa [cJ 88 2 84 86,a8 89 2 88,cH (.alloc 18 none (.agg [.int .i64 0,.str []])),bC 2 18 89] (aa [I 91 1,aH 92 0 1 18,ax 93 1 92,cg 94 161 91 93,I 90 94,cu 95 0 90,cu 96 1 90,da 19 dm,bC 4 19 95,I 20 96] (aa [a8 97 4 19,aH 98 1 1 18,ax 99 1 98,cg 100 29 97 99] (aV 100 (aa [bu 4 false] .ret) .skip))))) (.region [aQ 101 .add 86 1,I 86 101]))))))) (aa [bu 4 true] .ret))))))
@[simp] def Wi:List bY:=[.tmp 4]
def EI:C:=(aa [ey 6 5,b7 7 0] (.seq (aa [I 8 2,cB 9 8] (aV 9 (aa [ey 6 5,b7 7 1] .ret) .skip)) (.seq (aa [I 10 0,I 11 1,cg 12 135 10 11] (aV 12 (aa [ey 6 5,b7 7 2] .ret) .skip)) (aa [I 13 0,I 14 1,cg 15 123 13 14,I 6 15,b7 7 0] .ret))))
@[simp] def akj:List bY:=[.tmp 6,.tmp 7]
def PS:C:=(aa [bu 4 false] (.seq (aa [I 11 0,cV 12 142 11,cB 13 12] (aV 13 (aa [bu 4 false] .ret) .skip)) (.seq (aa [I 14 0,cD 15 14,b7 16 0] (fj 17 16 15 (.seq (.block 1 (aa [cJ 18 5 14 16,a8 19 5 18,da 6 kn,bC 5 6 19] (aa [aH 21 0 1 6,ax 22 1 21,cV 23 91 22,I 24 1,cg 25 231 23 24,I 20 25,cu 26 0 20,cu 27 1 20,da 7 dm,bC 4 7 26,I 8 27] (aa [iI 29 1 4 6,a8 30 4 29,I 31 1,cg 32 231 30 31,I 28 32,cu 33 0 28,cu 34 1 28,da 9 dm,bC 4 9 33,I 10 34] (aa [I 35 8,I 36 35,bU 36 true 37 10,dv 38 36 37,I 39 38,ar 39 true (a8 40 4 7),ar 39 true (a8 41 4 9),ar 39 true (cg 42 167 40 41),ar 39 true (cB 43 42),dv 44 39 43] (aV 44 (aa [bu 4 true] .ret) .skip)))))) (.region [aQ 45 .add 16 1,I 16 45])))) (aa [bu 4 false] .ret))))
@[simp] def akw:List bY:=[.tmp 4]
def IE:C:=(aa [c3 2 0,da 4 dm,bu 5 false] (.seq (aa [a8 8 4 2,cV 9 76 8,cB 10 9,I 11 10,bU 11 false 12 1,ar 11 false (cV 13 78 12),ar 11 false (cB 14 13),cW 15 11 14] (aV 15 (aa [gE 16 dm [],bC 4 4 16,bu 5 false] .ret) .skip)) (aa [I 18 1,a8 19 4 2,cg 20 166 18 19,I 17 20,cu 21 0 17,cu 22 1 17,da 6 dm,bC 4 6 21,I 7 22] (.seq (aa [I 23 7,cB 24 23] (aV 24 (aa [gE 25 dm [],bC 4 4 25,bu 5 false] .ret) .skip)) (aa [a8 26 4 6,cV 27 74 26,bC 4 4 27,bu 5 true] .ret)))))
@[simp] def akx:List bY:=[.cell 4 true 4,.tmp 5]
def tJ:List (Nat×dA):=[
 (3,⟨1,8,.int .i64,.int .i64 0⟩),
 (9,⟨1,16,.str,.str []⟩),
 (23,⟨1,24,.slice 61,.slice 5 .nil []⟩),
 (24,⟨1,24,.slice 23,.slice 1 .nil []⟩),
 (25,⟨1,24,.slice 104,.slice 2 .nil []⟩),
 (26,⟨1,24,.slice 106,.slice 2 .nil []⟩),
 (28,⟨5,104,.struct [(0,3),(1,23),(2,24),(3,25),(4,26)],.agg [.int .i64 0,.slice 5 .nil [],.slice 1 .nil [],.slice 2 .nil [],.slice 2 .nil []]⟩),
 (30,⟨1,24,.slice 32,.slice 4 .nil []⟩),
 (32,⟨4,56,.struct [(0,3),(1,3),(2,9),(3,30)],.agg [.int .i64 0,.int .i64 0,.str [],.slice 4 .nil []]⟩),
 (61,⟨5,64,.struct [(0,3),(1,32)],.agg [.int .i64 0,.int .i64 0,.int .i64 0,.str [],.slice 4 .nil []]⟩),
 (104,⟨2,16,.struct [(0,3),(1,3)],.agg [.int .i64 0,.int .i64 0]⟩),
 (106,⟨2,24,.struct [(0,3),(1,9)],.agg [.int .i64 0,.str []]⟩),
 (112,⟨1,24,.slice 3,.slice 1 .nil []⟩)]
theorem n9:fN ay tJ=true:=by kernel_rfl
theorem ai5:ca tJ PR akv 2 Tryz.f29=true:=by kernel_rfl
theorem acd:ay.funcs[(29:Nat)]? =some Tryz.f29:=Tryz.func29
theorem GF:ca tJ By Me 2 Tryz.f30=true:=by kernel_rfl
theorem E6:ay.funcs[(30:Nat)]? =some Tryz.f30:=Tryz.func30
theorem aij:ca tJ O3 akh 1 Tryz.f49=true:=by kernel_rfl
theorem abq:ay.funcs[(49:Nat)]? =some Tryz.f49:=Tryz.func49
theorem aje:ca tJ P0 akB 1 Tryz.f78=true:=by kernel_rfl
theorem acn:ay.funcs[(78:Nat)]? =some Tryz.f78:=Tryz.func78
theorem U2:ca tJ IF V3 1 Tryz.f79=true:=by kernel_rfl
theorem Rf:ay.funcs[(79:Nat)]? =some Tryz.f79:=Tryz.func79
theorem ajH:ca tJ Qt Wi 2 Tryz.f80=true:=by kernel_rfl
theorem acR:ay.funcs[(80:Nat)]? =some Tryz.f80:=Tryz.func80
theorem LK:ca tJ EI akj 3 Tryz.f125=true:=by kernel_rfl
theorem Je:ay.funcs[(125:Nat)]? =some Tryz.f125:=Tryz.func125
theorem ai6:ca tJ PS akw 2 Tryz.f168=true:=by kernel_rfl
theorem ace:ay.funcs[(168:Nat)]? =some Tryz.f168:=Tryz.func168
theorem U1:ca tJ IE akx 2 Tryz.f231=true:=by kernel_rfl
theorem Re:ay.funcs[(231:Nat)]? =some Tryz.f231:=Tryz.func231
def CN(t:T)(k:Nat)(st:bo):Prop:=
 (k=t.args.length/\st=⟨[(2,.ptr (.loc 1) 0),(3,.ptr (.loc 2) 0),(14,.slice 4 .no (t.args.map T.e)),(15,.int .i64 t.args.length),(16,.int .i64 0)],[(.loc 1,[.int .i64 0,.int .i64 0,.str [],.slice 4 .nil []]),(.loc 2,[.int .i64 t.kind,.int .i64 t.int,.str t.name,.slice 4 .nil []])],[],3,[]⟩)\/
 ∃i:Nat,1<=i/\i<=t.args.length/\k=t.args.length-i/\st=⟨[(2,.ptr (.loc 1) 0),(3,.ptr (.loc 2) 0),(14,.slice 4 .no (t.args.map T.e)),(15,.int .i64 t.args.length),(16,.int .i64 i)],[(.loc 1,[.int .i64 0,.int .i64 0,.str [],.slice 4 .nil []]),(.loc 2,[.int .i64 t.kind,.int .i64 t.int,.str t.name,.slice 4 (.own (.loc 29)) ((t.args.take i).map T.e)])],[(.loc 29,⟨i,32,4,none⟩)],30,[]⟩
theorem amw(t:T):bZ ay 74 [t.e] t.e:=by
 induction t with
 |pair a b dB dC=>
  refine bE fF BJ Dh fun aR=>?_;unfold y3;simp;refine mZ (CN (.pair a b)) 2 _ cb (.inl ⟨rfl,rfl⟩) ?_;rintro k st (⟨ad,rfl⟩|⟨i,J,U,ad,rfl⟩) jf cE;all_goals clear jf cE
  ·simp;(with_reducible repeat' first|refine aj ?_|refine aC dB ?_|refine aD dB ?_|simp);refine bR.next 1 (by rw[ad];simp) (.inr ⟨1,Ω,Ψ,rfl,rfl⟩) cb
  ·rcases(by simp at U;omega:i=1\/i=2)with rfl|rfl
   ·simp;(with_reducible repeat' first|refine aj ?_|refine aC dC ?_|refine aD dC ?_|simp);refine bR.next 0 (by rw[ad];simp) (.inr ⟨2,Ω,Ψ,rfl,rfl⟩) cb
   ·exact c0
 |nil=>
  refine bE fF BJ Dh fun aR=>?_;unfold y3;simp;refine mZ (CN (.nil)) 0 _ cb (.inl ⟨rfl,rfl⟩) ?_;rintro k st (⟨ad,rfl⟩|⟨i,J,U,ad,rfl⟩) jf cE;all_goals clear jf cE
  ·exact c0
  ·simp at U;omega
 |var n=>
  refine bE fF BJ Dh fun aR=>?_;unfold y3;simp;refine mZ (CN (.var n)) 0 _ cb (.inl ⟨rfl,rfl⟩) ?_;rintro k st (⟨ad,rfl⟩|⟨i,J,U,ad,rfl⟩) jf cE;all_goals clear jf cE
  ·exact c0
  ·simp at U;omega
 |sym s=>
  refine bE fF BJ Dh fun aR=>?_;unfold y3;simp;refine mZ (CN (.sym s)) 0 _ cb (.inl ⟨rfl,rfl⟩) ?_;rintro k st (⟨ad,rfl⟩|⟨i,J,U,ad,rfl⟩) jf cE;all_goals clear jf cE
  ·exact c0
  ·simp at U;omega
 |num n=>
  refine bE fF BJ Dh fun aR=>?_;unfold y3;simp;refine mZ (CN (.num n)) 0 _ cb (.inl ⟨rfl,rfl⟩) ?_;rintro k st (⟨ad,rfl⟩|⟨i,J,U,ad,rfl⟩) jf cE;all_goals clear jf cE
  ·exact c0
  ·simp at U;omega
end
end Go.Proofs.YtohaalphocaebaaGreat
namespace Go.Pv
section
open Go
section
variable {α:Type} {c:α->α->Int}
def j4(c:α->α->Int):List α->List α->Int
 |[],[]=>0
 |[],_::_=> -1
 |_::_,[]=>1
 |x::xs,y::ys=>if c x y=0 then j4 c xs ys else c x y
theorem Ua(h:jF c):∀a b:List α,j4 c b a= -j4 c a b
 |[],[]=>rfl
 |[],_::_=>rfl
 |_::_,[]=>rfl
 |x::xs,y::ys=>by
  simp only[j4];have J:=h.neg x y;by_cases e:c x y=0
  ·rw[if_pos e,if_pos Ω,Ua h xs ys]
  ·rw[if_neg e,if_neg Ω,J]
theorem Uc(h:jF c):∀a b:List α,j4 c a b=0↔a=b
 |[],[]=>by simp[j4]
 |[],_::_=>by simp[j4]
 |_::_,[]=>by simp[j4]
 |x::xs,y::ys=>by
  simp only[j4,yO];by_cases e:c x y=0
  ·rw[if_pos e,Uc h xs ys];simp[(h.zero x y).1 e]
  ·rw[if_neg e];exact⟨fun ck=>absurd ck e,fun ck=>absurd ((h.zero x y).2 ck.1) e⟩
theorem Ub(h:jF c):∀a b d:List α,j4 c a b<=0->j4 c b d<=0->j4 c a d<=0
 |[],_,[],_,_=>by simp[j4]
 |[],_,_::_,_,_=>by simp[j4]
 |_::_,[],_,J,_=>by simp[j4]at J
 |_::_,_::_,[],_,U=>by simp[j4]at U
 |x::xs,y::ys,z::cH,J,U=>by
  simp only[j4]at J U⊢;by_cases ao:c x y=0
  ·have:=(h.zero x y).1 ao;subst this;rw[if_pos ao]at J;by_cases aF:c x z=0
   ·rw[if_pos aF]at U⊢;exact Ub h xs ys cH J U
   ·rw[if_neg aF]at U⊢;exact U
  ·rw[if_neg ao]at J;have bt:c x y<0:=Ω
   by_cases aF:c y z=0
   ·have:=(h.zero y z).1 aF;subst this;rw[if_neg ao];omega
   ·rw[if_neg aF]at U;have:=h.ltr bt U;rw[if_neg Ω];omega
theorem agZ(h:jF c):jF (j4 c):=⟨Ua h,Ub h,Uc h⟩
end
def yi(x y:ak):Int:=if eu x.v y.v=0 then ep x.t y.t else eu x.v y.v
theorem ajL:jF yi:=by
 refine⟨fun x y=>?_,fun x y z J U=>?_,fun x y=>?_⟩
 ·unfold yi;have:=kp.neg x.v y.v;have:=LU.neg x.t y.t;by_cases e:eu x.v y.v=0
  ·rw[if_pos e,if_pos Ω];omega
  ·rw[if_neg e,if_neg Ω];omega
 ·unfold yi at J U⊢;by_cases ao:eu x.v y.v=0
  ·rw[if_pos ao]at J;rw[(kp.zero _ _).1 ao];by_cases aF:eu y.v z.v=0
   ·rw[if_pos aF]at U⊢;exact LU.tr _ _ _ J U
   ·rw[if_neg aF]at U⊢;exact U
  ·rw[if_neg ao]at J;have bt:eu x.v y.v<0:=Ω
   by_cases aF:eu y.v z.v=0
   ·rw[<-(kp.zero _ _).1 aF,if_neg ao];exact J
   ·rw[if_neg aF]at U;have:=kp.ltr bt U;rw[if_neg Ω];omega
 ·unfold yi;by_cases e:eu x.v y.v=0
  ·rw[if_pos e,LU.zero];have:=(kp.zero _ _).1 e;cases x;cases y;simp_all
  ·rw[if_neg e];exact⟨fun h=>absurd h e,fun h=>by rw[h]at e;exact absurd (kp.refl _) e⟩
def ek:List ak->List ak->Int:=j4 yi
theorem kW:jF ek:=agZ ajL
end
section
open Go
structure b4 where
 v:Int
 k:Int
 deriving DecidableEq,Inhabited
def b4.e(b:b4):ai:= .agg [.int .i64 b.v,.int .i64 b.k]
@[simp]theorem b4.eta(b:b4):b4.mk b.v b.k=b:=rfl
@[simp]theorem N2(v k:Int):ai.agg [.int .i64 v,.int .i64 k]=(b4.mk v k).e:=rfl
@[simp]theorem apR(S:aL->Prop)(b:b4):aJ S b.e=True:=by simp[b4.e,-N2]
@[simp]theorem aru(b:b4):ev b.e=b.e:=by simp[b4.e,-N2]
theorem TY(S:aL->Prop):∀l:List b4,aP S (l.map b4.e)
 |[]=>by simp[aP]
 |x::xs=>by simp[aP,TY S xs]
@[simp]theorem apI(S:aL->Prop)(l:List b4):aP S (l.map b4.e)=True:=eq_true (TY S l)
@[simp]theorem M4:∀l:List b4,dr (l.map b4.e)=l.map b4.e
 |[]=>rfl
 |x::xs=>by simp[dr,M4 xs]
@[simp]theorem ara(b:b4):eH b.e=true:=rfl
@[simp]theorem aoe(b:b4):cells b.e=[.int .i64 b.v,.int .i64 b.k]:=rfl
@[simp]theorem apt(b:b4):Pv.isAgg 2 b.e:=⟨_,rfl,rfl⟩
@[simp]theorem aoG(off:Nat)(fV:Bool)(sz:Nat)(b:b4):ui off fV sz b.e=if fV then some (off+sz<=2,.agg (([.int .i64 b.v,.int .i64 b.k].drop off).take sz))else(([.int .i64 b.v,.int .i64 b.k]:List ai)[off]?).map fun p=>(True,p):=rfl
@[simp]theorem aoy(off:Nat)(fV:Bool)(sz:Nat)(b:b4):qJ off fV sz (.eptr b.e)=if fV then some (off+sz<=2,.eptr (.agg (([.int .i64 b.v,.int .i64 b.k].drop off).take sz)))else(([.int .i64 b.v,.int .i64 b.k]:List ai)[off]?).map fun p=>(eH p=true/\cells p=[p],.eptr p):=rfl
structure br where
 v:Int
 s:List c4
 deriving DecidableEq,Inhabited
def br.e(b:br):ai:= .agg [.int .i64 b.v,.str b.s]
@[simp]theorem br.eta(b:br):br.mk b.v b.s=b:=rfl
@[simp]theorem If(v:Int)(s:List c4):ai.agg [.int .i64 v,.str s]=(br.mk v s).e:=rfl
@[simp]theorem agM(S:aL->Prop)(b:br):aJ S b.e=True:=by simp[br.e,-If]
@[simp]theorem arv(b:br):ev b.e=b.e:=by simp[br.e,-If]
theorem KZ(S:aL->Prop):∀l:List br,aP S (l.map br.e)
 |[]=>by simp[aP]
 |x::xs=>by simp[aP,KZ S xs]
@[simp]theorem TZ(S:aL->Prop)(l:List br):aP S (l.map br.e)=True:=eq_true (KZ S l)
@[simp]theorem M5:∀l:List br,dr (l.map br.e)=l.map br.e
 |[]=>rfl
 |x::xs=>by simp[dr,M5 xs]
@[simp]theorem arb(b:br):eH b.e=true:=rfl
@[simp]theorem aof(b:br):cells b.e=[.int .i64 b.v,.str b.s]:=rfl
@[simp]theorem apu(b:br):Pv.isAgg 2 b.e:=⟨_,rfl,rfl⟩
@[simp]theorem aoH(off:Nat)(fV:Bool)(sz:Nat)(b:br):ui off fV sz b.e=if fV then some (off+sz<=2,.agg (([.int .i64 b.v,.str b.s].drop off).take sz))else(([.int .i64 b.v,.str b.s]:List ai)[off]?).map fun p=>(True,p):=rfl
@[simp]theorem aoz(off:Nat)(fV:Bool)(sz:Nat)(b:br):qJ off fV sz (.eptr b.e)=if fV then some (off+sz<=2,.eptr (.agg (([.int .i64 b.v,.str b.s].drop off).take sz)))else(([.int .i64 b.v,.str b.s]:List ai)[off]?).map fun p=>(eH p=true/\cells p=[p],.eptr p):=rfl
def e9(x y:br):Int:=if eu x.v y.v=0 then kI x.s y.s else eu x.v y.v
theorem lN:jF e9:=by
 refine⟨fun x y=>?_,fun x y z J U=>?_,fun x y=>?_⟩
 ·unfold e9;have:=kp.neg x.v y.v;have:=Dm.neg x.s y.s;by_cases e:eu x.v y.v=0
  ·rw[if_pos e,if_pos Ω];omega
  ·rw[if_neg e,if_neg Ω];omega
 ·unfold e9 at J U⊢;by_cases ao:eu x.v y.v=0
  ·rw[if_pos ao]at J;rw[(kp.zero _ _).1 ao];by_cases aF:eu y.v z.v=0
   ·rw[if_pos aF]at U⊢;exact Dm.tr _ _ _ J U
   ·rw[if_neg aF]at U⊢;exact U
  ·rw[if_neg ao]at J;have bt:eu x.v y.v<0:=Ω
   by_cases aF:eu y.v z.v=0
   ·rw[<-(kp.zero _ _).1 aF,if_neg ao];exact J
   ·rw[if_neg aF]at U;have:=kp.ltr bt U;rw[if_neg Ω];omega
 ·unfold e9;by_cases e:eu x.v y.v=0
  ·rw[if_pos e,Dm.zero];have:=(kp.zero _ _).1 e;cases x;cases y;simp_all
  ·rw[if_neg e];exact⟨fun h=>absurd h e,fun h=>by rw[h]at e;exact absurd (kp.refl _) e⟩
def tw(x y:br):Bool:=decide (x.v<y.v)||(x.v==y.v&&ht x.s y.s)
theorem YW(a:List c4):ht a a=false:=by
 cases h:ht a a with
 |false=>rfl
 |true=>rw[Ip a a h]at h;cases h
theorem UK(x y:br):tw x y=hK e9 x y:=by
 unfold tw hK e9;rw[pN];simp only[ls,eF,ct,dM];by_cases e:x.v=y.v
 ·have:eu x.v y.v=0:=(kp.zero _ _).2 e;rw[if_pos this];simp only[e,Int.lt_irrefl,false_or,true_and,kI];by_cases aF:x.s=y.s
  ·rw[if_pos aF,aF,YW];simp
  ·rw[if_neg aF];split<;>simp_all
 ·have bA:¬eu x.v y.v=0:=fun h=>e ((kp.zero _ _).1 h);rw[if_neg bA];simp only[e,false_and,or_false];unfold eu;(repeat' split)<;>omega
def ie{α:Type}(p:α->Prop)(r:α->α->Prop)(l:List α)(i:Nat):Prop:= ∀b,l[i]? =some b->p b/\∀c,0<i->l[i-1]? =some c->r c b
theorem NY{α:Type}{p:α->Prop}{r:α->α->Prop}(aI:∀a b c,r a b->r b c->r a c){l:List α}:(∀i,i<l.length->ie p r l i)↔(∀b∈l,p b)/\l.Pairwise r:=by
 constructor
 ·intro h;refine⟨fun b ab=>?_,?_⟩
  ·obtain⟨i,hi,e⟩:=od ab;exact(h i hi b (by rw[cr hi,e])).1
  ·rw[oX];have jK:∀i (h:i+1<l.length),r l[i] l[i+1]:=fun i hi=>(h (i+1) hi l[i+1] (by simp[cr hi])).2 l[i] Ω (by simp[cr (show i<l.length by omega)]);have:∀(d i:Nat) (h:i+d+1<l.length),r l[i] l[i+d+1]:=by
    intro d;induction d with
    |zero=>intro i h;exact jK i h
    |succ d bO=>intro i h;exact aI _ _ _ (bO i Ω) (jK (i+d+1) Ω)
   intro i j hi ag lD;have:=this (j-i-1) i Ω;simpa[show i+(j-i-1)+1=j from by omega]using this
 ·rintro⟨J,U⟩ i hi b ab;refine⟨J b (eZ ab),fun c bA aq=>?_⟩;obtain⟨g1,ao⟩:=fp.1 aq;obtain⟨g2,aF⟩:=fp.1 ab;have:=oX.1 U (i-1) i g1 g2 Ω;rw[ao,aF]at this;exact this
def km{α:Type}(c:α->α->Int)(x:α):List α->List α
 |[]=>[x]
 |y::l=>if c y x<0 then y::km c x l else if c y x=0 then y::l else x::y::l
section
variable {α:Type} {c:α->α->Int}
theorem Gv(aq:jF c){x z:α}:∀{l:List α},z∈km c x l↔z=x\/z∈l
 |[]=>by simp[km]
 |y::l=>by
  simp only[km];split
  ·simp only[fI,Gv aq (l:=l)];constructor
   ·rintro(h|h|h)
    ·exact .inr (.inl h)
    ·exact .inl h
    ·exact .inr (.inr h)
   ·rintro(h|h|h)
    ·exact .inr (.inl h)
    ·exact .inl h
    ·exact .inr (.inr h)
  ·split
   ·rename_i h;obtain rfl:=(aq.zero _ _).1 h;simp
   ·simp
theorem KF(aq:jF c){x:α}:∀{l:List α},hH c l->hH c (km c x l)
 |[],_=>by simp[km,hH]
 |y::l,h=>by
  obtain⟨J,U⟩:=mS.1 h;simp only[km];split
  ·rename_i al;refine mS.2 ⟨fun z bk=>?_,KF aq U⟩;rcases(Gv aq).1 bk with rfl|bk
   ·exact al
   ·exact J z bk
  ·split
   ·exact h
   ·rename_i al a1;have gz:c x y<0:=by have:=aq.neg x y;omega
    refine mS.2 ⟨fun z bk=>?_,h⟩;rcases fI.1 bk with rfl|bk
    ·exact gz
    ·exact aq.ltr gz (by have:=J z bk;omega)
theorem KH(x:α):∀l:List α,(km c x l).length<=l.length+1
 |[]=>by simp[km]
 |y::l=>by
  have:=KH x l;simp only[km];split
  ·simp;omega
  ·split<;>simp
theorem KG(aq:jF c)(x:α):∀(l:List α) (k:Nat),(∀i y,i<k->l[i]? =some y->c y x<0)->(∀y,l[k]? =some y->0<=c y x)->k<=l.length->km c x l=if(match l[k]? with|some y=>decide (c y x=0)|none=>false)=true then l else l.take k++x::l.drop k
 |[],k,_,_,ad=>by simp at ad;subst ad;simp[km]
 |y::l,0,_,U,_=>by
  have:=U y rfl;by_cases e:c y x=0
  ·simp[km,e]
  ·have al:¬c y x<0:=Ω
   simp[km,al,e]
 |y::l,k+1,J,U,ad=>by
  have bA:=J 0 y Ω rfl;simp only[km,if_pos bA,List.take_succ_cons,List.drop_succ_cons,bV,List.getElem?_cons_succ];rw[KG aq x l k (fun i d hi aG=>J (i+1) d Ω (by simpa using aG)) (fun d aG=>U d (by simpa using aG)) (by simpa using ad)];cases l[k]? with
  |none=>rfl
  |some z=>simp only[];split<;>rfl
end
structure ir (l:List b4):Prop where
 at':∀x∈l,(0<=x.v/\x.v<=100000)/\(x.k=2\/x.k=3)
 asc:l.Pairwise fun x y=>x.v<y.v
def kV(l:List b4)(v:Int):Option Int:=(l.find? fun x=>x.v==v).map (·.k)
def lJ(x:b4):List b4->List b4
 |[]=>[x]
 |y::l=>if y.v<x.v then y::lJ x l else x::y::l
theorem x5{x z:b4}:∀{l:List b4},z∈lJ x l↔z=x\/z∈l
 |[]=>by simp[lJ]
 |y::l=>by
  simp only[lJ];split
  ·simp only[fI,x5 (l:=l)];constructor
   ·rintro(h|h|h)
    ·exact .inr (.inl h)
    ·exact .inl h
    ·exact .inr (.inr h)
   ·rintro(h|h|h)
    ·exact .inr (.inl h)
    ·exact .inl h
    ·exact .inr (.inr h)
  ·simp
theorem KI(x:b4):∀l:List b4,(lJ x l).Perm (x::l)
 |[]=>.refl _
 |y::l=>by
  simp only[lJ];split
  ·exact((KI x l).cons y).trans (arL _ _ _)
  ·exact .refl _
theorem F4{x:b4}:∀{l:List b4},l.Pairwise (fun x y=>x.v<y.v)->(∀y∈l,y.v≠x.v)->(lJ x l).Pairwise fun x y=>x.v<y.v
 |[],_,_=>by simp[lJ]
 |y::l,h,az=>by
  obtain⟨J,U⟩:=mS.1 h;have aM:=az y Ψ;simp only[lJ];split
  ·rename_i al;refine mS.2 ⟨fun z bk=>?_,F4 U fun z bk=>az z (by simp[bk])⟩;rcases x5.1 bk with rfl|bk
   ·exact al
   ·exact J z bk
  ·refine mS.2 ⟨fun z bk=>?_,h⟩;rcases fI.1 bk with rfl|bk
   ·omega
   ·have:=J z bk;omega
theorem Tt(x:b4):∀(l:List b4) (k:Nat),(∀i y,i<k->l[i]? =some y->y.v<x.v)->(∀y,l[k]? =some y->¬y.v<x.v)->k<=l.length->lJ x l=l.take k++x::l.drop k
 |[],k,_,_,ad=>by simp at ad;subst ad;rfl
 |y::l,0,_,U,_=>by have:=U y rfl;simp[lJ,this]
 |y::l,k+1,J,U,ad=>by have bA:=J 0 y Ω rfl;simp only[lJ,if_pos bA,List.take_succ_cons,List.drop_succ_cons,bV];rw[Tt x l k (fun i d hi aG=>J (i+1) d Ω (by simpa using aG)) (fun d aG=>U d (by simpa using aG)) (by simpa using ad)]
theorem TL{l a6:List b4}(bL:a6.Perm l)(aG:l.Pairwise fun x y=>x.v<y.v)(af:a6.Pairwise fun x y=>decide (y.v<x.v)=false):a6=l:=by
 refine NL (le:=fun x y:b4=>x.v<=y.v) (fun x y ae aM J U=>?_) (af.imp Ψ) (aG.imp Ω) bL;have iq:x∈l:=bL.mem_iff.1 ae;have rZ:y∈l:=aM;obtain⟨i,hi,rfl⟩:=od iq;obtain⟨j,ag,rfl⟩:=od rZ;have:=oX.1 aG;rcases Nat.lt_trichotomy i j with h|h|h
 ·have:=this i j hi ag h;omega
 ·subst h;rfl
 ·have:=this j i ag hi h;omega
theorem xX{l:List b4}{v:Int}:kV l v=none↔∀x∈l,x.v≠v:=by simp[kV]
theorem CX{l:List b4}{v k:Int}(h:kV l v=some k):(⟨v,k⟩:b4)∈l:=by unfold kV at h;rw[gr]at h;obtain⟨x,J,rfl⟩:=h;have U:=List.find?_some J;simp at U;subst U;exact List.mem_of_find?_eq_some J
theorem Gf{l:List b4}(a7:l.Pairwise fun x y=>x.v<y.v){x:b4}(h:x∈l):kV l x.v=some x.k:=by
 induction l with
 |nil=>simp at h
 |cons y l bO=>
  obtain⟨J,U⟩:=mS.1 a7;rcases fI.1 h with rfl|h
  ·simp[kV]
  ·have:=J x h;have e:=bO U h;unfold kV at e⊢;rw[List.find?_cons_of_neg d8];exact e
def hM(l:List b4)(t:T)(k:Int):Option (List b4):=match t with
 | .var n=>match kV l n with
  |some bN=>if bN=k then some l else none
  |none=>some (lJ ⟨n,k⟩ l)
 |t=>if t.kind=k then some l else none
theorem Eu{l a6:List b4}{t:T}{k:Int}(h:ir l)(aI:t.ok=true)(ad:k=2\/k=3)(he:hM l t k=some a6):ir a6:=by
 unfold hM at he;split at he
 ·rename_i n;split at he
  ·split at he
   ·cases he;exact h
   ·cases he
  ·rename_i az;cases he;rw[xX]at az;refine⟨fun x ae=>?_,F4 h.asc az⟩;rcases x5.1 ae with rfl|ae
   ·exact⟨by simpa[T.ok]using aI,ad⟩
   ·exact h.at' x ae
 ·split at he
  ·cases he;exact h
  ·cases he
theorem uG{l:List b4}(h:ir l):l.length<=100001:=by
 have J:(l.map (·.v)).Nodup:=by rw[List.nodup_iff_pairwise_ne,List.pairwise_map];exact h.asc.imp fun h e=>Ω
 have:=TR J fun v av=>by obtain⟨x,ae,rfl⟩:=ia.1 av;exact(h.at' x ae).1
 simpa using this
def fC(s:List ak):List b4->List b4->Option (List b4)
 |[],acc=>some acc
 |x::r,acc=>match hM acc (aY s x.v) x.k with
  |some a=>fC s r a
  |none=>none
structure jM (l:List br):Prop where
 at':∀x∈l,(0<=x.v/\x.v<=100000)/\ji x.s=true
 asc:hH e9 l
def _root_.Go.Pv.T.has(s:List c4):T->Bool
 | .sym n=>n==s
 | .pair a b=>a.has s||b.has s
 |_=>false
def iQ(l:List br)(t:T)(s:List c4):Option (List br):=if t.has s then none else some (asc e9 (l++(nC t).map fun v=>⟨v,s⟩))
theorem D8{t:T}{v:Int}:v∈nC t↔t.occ v=true:=by
 refine⟨fun h=>?_,x6⟩;induction t with
 |var n=>simp[nC]at h;simp[T.occ,h]
 |pair a b dB dC=>simp only[nC,h9]at h;simp only[T.occ,ls];exact h.imp dB dC
 |_=>simp[nC]at h
theorem x4{l a6:List br}{t:T}{s:List c4}(h:iQ l t s=some a6)(x:br):x∈a6↔x∈l\/(x.s=s/\t.occ x.v=true):=by
 unfold iQ at h;split at h
 ·cases h
 ·cases h;rw[Ll,h9,ia];refine or_congr_right ?_;constructor
  ·rintro⟨v,av,rfl⟩;exact⟨rfl,D8.1 av⟩
  ·rintro⟨J,U⟩;exact⟨x.v,D8.2 U,by rw[<-J]⟩
theorem Ic{l a6:List br}{t:T}{s:List c4}(cw:t.has s=false)(a7:hH e9 a6)(hm:∀x,x∈a6↔x∈l\/(x.s=s/\t.occ x.v=true)):iQ l t s=some a6:=by
 have h:iQ l t s=some (asc e9 (l++(nC t).map fun v=>⟨v,s⟩)):=by unfold iQ;rw[cw];rfl
 rw[h];congr 1;exact(Ex lN _).ext lN a7 fun x=>by rw[hm,<-x4 h]
theorem Ev{l a6:List br}{t:T}{s:List c4}(h:jM l)(aI:t.ok=true)(af:ji s=true)(he:iQ l t s=some a6):jM a6:=by
 refine⟨fun x ae=>?_,?_⟩
 ·rcases(x4 he x).1 ae with J|⟨J,U⟩
  ·exact h.at' x J
  ·exact⟨wZ aI U,by rw[J];exact af⟩
 ·unfold iQ at he;split at he
  ·cases he
  ·cases he;exact Ex lN _
def fD(s:List ak):List br->List br->Option (List br)
 |[],acc=>some acc
 |x::r,acc=>match iQ acc (aY s x.v) x.s with
  |some a=>fD s r a
  |none=>none
end
end Go.Pv
namespace Go.Proofs.YtohaalphocaebaaGreat
section
open Go Go.Pv
theorem C1(c:ak->ak->Int):∀a b:List ak,a=[]\/b=[]->j4 c a b=eu a.length b.length
 |[],[],_=>by simp[j4,eu]
 |[],_::_,_=>by simp[j4,eu]<;>omega
 |_::_,[],_=>by simp[j4,eu]<;>omega
 |_::_,_::_,h=>by simp at h
theorem U9(x y:ak)(xs ys:List ak):ek (x::xs) (y::ys)=if eu x.v y.v=0 then(if ep x.t y.t=0 then ek xs ys else ep x.t y.t)else eu x.v y.v:=by
 by_cases aZ:eu x.v y.v=0
 ·by_cases bm:ep x.t y.t=0<;>simp[ek,j4,yi,aZ,bm]
 ·simp[ek,j4,yi,aZ]
theorem Va(a b k:Int):eu (a-k) (b-k)=eu a b:=by unfold eu;(repeat' split)<;>omega
def KL(d e:List ak)(i:Nat):Prop:=i<=d.length/\i<=e.length/\ek (d.drop i) (e.drop i)=ek d e
theorem HP(d e:List ak):bZ ay 204 [.slice 5 .no (d.map ak.e),.slice 5 .no (e.map ak.e)] (.int .i64 (ek d e)):=by
 generalize bS:ek d e=R;refine bE ra abF aix fun aR=>?_;unfold Ph;have aG:d.length<=68719476736:=by simp[ij,ho,hN,lim]at aR;omega
 have he:e.length<=68719476736:=by simp[ij,ho,hN,lim]at aR;omega
 simp;refine vt [0,1] (fun(i:Nat)=>[(5,.int .i64 i)]) (fun i=>d.length-i) (KL d e) 0 cb ⟨Ω,Ω,Ψ⟩ (fun i ag _=>?_);obtain⟨J,U,al⟩:=ag;rw[bS]at al;by_cases hi:i<d.length
 ·by_cases hE:i<e.length
  ·obtain⟨x,ae⟩:∃x,d[i]? =some x:=⟨_,cr hi⟩;obtain⟨y,aM⟩:∃y,e[i]? =some y:=⟨_,cr hE⟩;have dJ:∀h,(d[i]'h)=x:=fun h=>by rw[cr hi]at ae;exact gu ae
   have gh:∀h,(e[i]'h)=y:=fun h=>by rw[cr hE]at aM;exact gu aM
   have zu:d.drop i=x::d.drop (i+1):=by rw[k4 hi,dJ]
   have zv:e.drop i=y::e.drop (i+1):=by rw[k4 hE,gh]
   rw[zu,zv]at al;rw[U9]at al;simp[hi,hE,dJ,gh];by_cases aZ:eu x.v y.v=0
   ·rw[if_pos aZ]at al;by_cases bm:ep x.t y.t=0
    ·rw[if_pos bm]at al;(with_reducible repeat' first|refine aj ?_|refine aC (oa _ _) ?_|refine aD (oa _ _) ?_|refine aC (A9 _ _) ?_|refine aD (A9 _ _) ?_|simp[dJ,gh,hi,hE,aZ,bm]);refine bR.whl (i+1) Ω ⟨Ω,Ω,by rw[bS];exact al⟩ ?_;exact cb
    ·rw[if_neg bm]at al;((with_reducible repeat' first|refine aj ?_|refine aC (oa _ _) ?_|refine aD (oa _ _) ?_|refine aC (A9 _ _) ?_|refine aD (A9 _ _) ?_|simp[dJ,gh,hi,hE,aZ,bm]|((first|apply bD|apply bH|apply bG)<;>intro h<;>try simp at h))<;>(try exact b2));simp[bn,Dw,aT,aU,aS];exact al
   ·rw[if_neg aZ]at al;((with_reducible repeat' first|refine aj ?_|refine aC (oa _ _) ?_|refine aD (oa _ _) ?_|simp[dJ,gh,hi,hE,aZ]|((first|apply bD|apply bH|apply bG)<;>intro h<;>try simp at h))<;>(try exact b2));simp[bn,Dw,aT,aU,aS];exact al
  ·have:eu d.length e.length=R:=by rw[<-al,ek,C1 _ _ _ (.inr (List.drop_eq_nil_of_le Ω))];rw[<-Va d.length e.length i];simp only[sB];congr 1<;>omega
   simp[hi,hE];(with_reducible repeat' first|refine aj ?_|refine aC (oa _ _) ?_|refine aD (oa _ _) ?_|simp[hi,hE]);simp[bn,Dw,aT,aU,aS];exact this
 ·have:eu d.length e.length=R:=by rw[<-al,ek,C1 _ _ _ (.inl (List.drop_eq_nil_of_le Ω))];rw[<-Va d.length e.length i];simp only[sB];congr 1<;>omega
  simp[hi];(with_reducible repeat' first|refine aj ?_|refine aC (oa _ _) ?_|refine aD (oa _ _) ?_|simp[hi]);simp[bn,Dw,aT,aU,aS];exact this
theorem amt(a b:List ak)(a7:a.length<=1000000):bZ ay 135 [.slice 5 .no (a.map ak.e),.slice 5 .no (b.map ak.e)] (.bool (decide (a=b))):=by
 by_cases au:a.length=b.length;rotate_left
 ·have bA:decide (a=b)=false:=by simp only[hx];rintro rfl;exact au rfl
  have tb:((a.length:Int) !=(b.length:Int))=true:=by simp;omega
  have nS:¬(a.length:Int)=b.length:=Ω
  rw[bA];refine bE ra Rb UZ fun aR=>?_;unfold Ix;exact c0
 ·generalize bS:decide (a=b)=R;refine bE ra Rb UZ fun aR=>?_;unfold Ix;simp;(with_reducible repeat' first|refine aj ?_|simp[au]);refine eQ [0,1,12] (fun i (_:Unit)=>[(13,.int .i64 i)]) b.length (fun i (_:Unit)=> ∀k,k<i->a[k]? =b[k]?) () cb (fun k ad=>Ω) (fun _ ag _=>?_) (fun i _ hi ag _=>?_)
  ·have:R=true:=by
    rw[<-bS,eF];apply List.ext_getElem?;intro k;by_cases ad:k<b.length
    ·exact ag k ad
    ·rw[qp Ω,qp Ω]
   rw[this];exact c0
  ·obtain⟨x,ae⟩:∃x,a[i]? =some x:=⟨_,cr Ω⟩;obtain⟨y,aM⟩:∃y,b[i]? =some y:=⟨_,cr hi⟩;have jX:i<a.length:=Ω
   have dJ:∀h,(a[i]'h)=x:=fun h=>by rw[cr jX]at ae;exact gu ae
   have gh:∀h,(b[i]'h)=y:=fun h=>by rw[cr hi]at aM;exact gu aM
   have fY:x≠y->R=false:=fun h=>by rw[<-bS,hx];rintro rfl;rw[ae]at aM;cases aM;exact h rfl
   simp[hi,jX,dJ,gh];by_cases aZ:x.v=y.v
   ·have uW:(x.v !=y.v)=false:=by simp[aZ]
    by_cases bm:x.t=y.t
    ·(with_reducible repeat' first|refine aj ?_|refine aC (ss _ _) ?_|refine aD (ss _ _) ?_|simp[dJ,gh,hi,jX,aZ,uW,bm]);refine bR.rng () hi (fun k ad=>?_) ?_
     ·rcases(by omega:k<i\/k=i)with h|rfl
      ·exact ag k h
      ·rw[ae,aM];cases x;cases y;simp_all
     ·exact cb
    ·rw[fY (fun e=>bm (by rw[e]))];(with_reducible repeat' first|refine aj ?_|refine aC (ss _ _) ?_|refine aD (ss _ _) ?_|simp[dJ,gh,hi,jX,aZ,uW,bm]);simp[bn,VE,aT,aU,aS]
   ·have uW:(x.v !=y.v)=true:=by simp[aZ]
    rw[fY (fun e=>aZ (by rw[e]))];exact c0
def iu(l:List (List ak))(e:List ak):Bool:=l.all fun d=>decide (d=e)|| !j6 d e
theorem agG{l a6:List (List ak)}(h:∀x,x∈l↔x∈a6)(e:List ak):iu l e=iu a6 e:=by rw[pN,iu,iu,gH,gH];exact⟨fun J x ae=>J x ((h x).2 ae),fun J x ae=>J x ((h x).1 ae)⟩
def jN(l:List (List ak)):List (List ak):=(asc ek l).filter (iu l)
theorem sa{l:List (List ak)}{x:List ak}:x∈jN l↔x∈l/\iu l x=true:=by rw[jN,iA,Ll]
theorem UA(l:List (List ak)):hH ek (jN l):=(Ex kW l).filter _
theorem UB{l a6:List (List ak)}(a7:hH ek a6)(hm:∀x,x∈a6↔x∈l/\iu l x=true):jN l=a6:=(UA l).ext kW a7 fun x=>by rw[hm,sa]
theorem UC(l:List (List ak)):(jN l).length<=l.length:=gZ (List.length_filter_le _ _) (YM _ _)
structure cC where
 n:Int
 b:List ak
 d:List (List ak)
 k:List b4
 m:List br
 deriving DecidableEq,Inhabited
noncomputable def fh(b:List ak)(k:List b4)(m:List br):List (List ak)->Option (List (List ak))
 |[]=>some []
 |d::r=>match mgu b (fR d)with
  |none=>fh b k m r
  |some x=>if fC x k []=none\/fD x m []=none then fh b k m r else if dR b x=[]then none else(fh b k m r).map (dR b x:: ·)
def jB(k:List b4)(x:br):Bool:=kV k x.v !=some 3
noncomputable def fu(s:cC):Option cC:=match fC s.b s.k []with
 |none=>none
 |some k=>match fD s.b s.m []with
  |none=>none
  |some m=>match fh s.b k (m.filter (jB k)) s.d with
   |none=>none
   |some L=>if(jN L).length<=30 then some ⟨s.n,s.b,jN L,k,m.filter (jB k)⟩else none
def vk(t:T)(n:Int):Prop:= ∀v,t.occ v=true->v<n
def ot(l:List ak)(n:Int):Prop:= ∀b∈l,b.v<n/\vk b.t n
structure gK (s:cC):Prop where
 n:0<=s.n/\s.n<=100000
 b:eB s.b
 d:∀x∈s.d,eB x
 k:ir s.k
 m:jM s.m
 bb:ot s.b s.n
 db:∀x∈s.d,ot x s.n
 kb:∀x∈s.k,x.v<s.n
 mb:∀x∈s.m,x.v<s.n
def q8(s:cC):Prop:=gK s/\fu s=some s
theorem AU{s:List ak}(af:eB s){v:Int}(av:0<=v/\v<=100000):(aY s v).ok=true:=by have:=AT af.ok (t:= .var v) (by simpa[T.ok]using av);exact this
theorem Ha{s:List ak}(af:eB s):∀{l acc a:List b4},(∀x∈l,(0<=x.v/\x.v<=100000)/\(x.k=2\/x.k=3))->ir acc->fC s l acc=some a->ir a
 |[],acc,a,_,h,he=>by simp only[fC,dy]at he;rw[<-he];exact h
 |x::r,acc,a,au,h,he=>by
  simp only[fC]at he;split at he
  ·rename_i bz ao;have ae:=au x Ψ;exact Ha af (fun y aM=>au y (by simp[aM])) (Eu h (AU af ae.1) ae.2 ao) he
  ·cases he
theorem Hc{s:List ak}(af:eB s):∀{l acc a:List br},(∀x∈l,(0<=x.v/\x.v<=100000)/\ji x.s=true)->jM acc->fD s l acc=some a->jM a
 |[],acc,a,_,h,he=>by simp only[fD,dy]at he;rw[<-he];exact h
 |x::r,acc,a,au,h,he=>by
  simp only[fD]at he;split at he
  ·rename_i bz ao;have ae:=au x Ψ;exact Hc af (fun y aM=>au y (by simp[aM])) (Ev h (AU af ae.1) ae.2 ao) he
  ·cases he
def kY(G:List (List c4))(l:List br):Prop:= ∀x∈l,x.s∈G
theorem Bp{G:List (List c4)}{l a6:List br}{t:T}{s:List c4}(h:kY G l)(af:s∈G)(he:iQ l t s=some a6):kY G a6:=fun x ae=>by
 rcases(x4 he x).1 ae with J|⟨J,_⟩
 ·exact h x J
 ·rw[J];exact af
theorem He{G:List (List c4)}{s:List ak}:∀{l acc a:List br},kY G l->kY G acc->fD s l acc=some a->kY G a
 |[],acc,a,_,h,he=>by simp only[fD,dy]at he;rw[<-he];exact h
 |x::r,acc,a,au,h,he=>by
  simp only[fD]at he;split at he
  ·rename_i bz ao;exact He (fun y aM=>au y (by simp[aM])) (Bp h (au x Ψ) ao) he
  ·cases he
theorem ajV{α:Type}[DecidableEq α]:∀{G:List α} {l:List (Nat×α)},l.Nodup->(∀x∈l,x.1<100001/\x.2∈G)->l.length<=100001*G.length:=by
 intro G l az h;have:=Ef az (l₂:=(List.range 100001).flatMap fun i=>G.map fun g=>(i,g)) (fun x ae=>by obtain⟨J,U⟩:=h x ae;rw[List.mem_flatMap];exact⟨x.1,List.mem_range.2 J,ia.2 ⟨x.2,U,rfl⟩⟩)
 have e:((List.range 100001).flatMap fun i=>G.map fun g=>(i,g)).length=100001*G.length:=by
  generalize 100001=n;induction n with
  |zero=>simp
  |succ n bO=>rw[List.range_succ,List.flatMap_append,oW,bO];simp[Nat.succ_mul]
 omega
theorem C6{G:List (List c4)}{l:List br}(h:jM l)(aW:kY G l):l.length<=100001*G.length:=by
 have J:(l.map fun x=>(x.v.toNat,x.s)).Nodup:=by rw[List.nodup_iff_pairwise_ne,List.pairwise_map];refine anm (fun{a b} a7 ab cF e=>cF ?_) (h.asc.nodup lN);have:=(h.at' a a7).1;have:=(h.at' b ab).1;simp only[jE]at e;cases a;cases b;simp only[br.mk.injEq];simp only at*;exact⟨Ω,e.2⟩
 have:=ajV (G:=G) J fun x ae=>by obtain⟨y,aM,rfl⟩:=ia.1 ae;have:=(h.at' y aM).1;exact⟨by simp;omega,aW y aM⟩
 simpa using this
def wV(m:List br):Prop:= ∃G:List (List c4),G.length<=687000/\kY G m
theorem wV.len{m:List br}(h:wV m)(hm:jM m):m.length<=68719470000:=by obtain⟨G,J,U⟩:=h;have:=C6 hm U;omega
theorem ak2{s:List ak}(h:eB s)(p:ak->Bool):eB (s.filter p):=by
 have l6:∀b∈s.filter p,b∈s:=fun b ab=>(iA.1 ab).1;have az:∀w,dc s w=none->dc (s.filter p) w=none:=fun w hw=>by rw[vl]at hw⊢;exact fun b ab=>hw b (l6 b ab)
 exact⟨fun b ab=>h.ok b (l6 b ab),⟨X3 p h.sol.asc,fun b ab w hw=>az w (h.sol.free b (l6 b ab) w hw),fun b ab=>h.sol.ori b (l6 b ab)⟩,
  gZ (List.length_filter_le _ _) h.fits.1,fun b ab=>h.fits.2 b (l6 b ab)⟩
theorem Dc{b x:List ak}(h:eB x):eB (dR b x):=ak2 h _
theorem ahK{b x:List ak}(ab:eI b)(ae:eI x)(aO:fJ x)(h:∀θ,dS x θ->dS b θ):iO b (fR (dR b x)) (some x):=by
 refine⟨⟨ae,aO⟩,fun θ=>⟨fun fS=>⟨h θ fS,fun e he=>?_⟩,fun⟨J,U⟩ c aq=>?_⟩⟩
 ·obtain⟨c,aq,rfl⟩:=ia.1 he;exact fS c (iA.1 aq).1
 ·have jY:∀c∈x,dc b c.v=none->θ c.v=c.t.ap θ:=fun c aq az=>by have:=U (.var c.v,c.t) (ia.2 ⟨c,iA.2 ⟨aq,by simp[az]⟩,rfl⟩);exact this
  have xD:∀w,dc b w=none->(aY x w).ap θ=θ w:=fun w hw=>by
   unfold aY;cases e:dc x w with
   |none=>rfl
   |some t=>have hm:=jH e;exact(jY _ hm hw).symm
  cases e:dc b c.v with
  |none=>exact jY c aq e
  |some t=>
   have ao:θ c.v=t.ap θ:=J _ (jH e);have aF:=h (aY x) (va ae) _ (jH e);simp only at aF;have bM:aY x c.v=c.t:=by unfold aY;rw[rn ae.asc aq];rfl
   rw[bM]at aF;rw[ao,aF,xf];exact o5 fun w hw=>(xD w (ab.free _ (jH e) w hw)).symm
theorem qZ{s:List ak}(af:eI s)(aO:fJ s){E:List (T×T)}{x:List ak}(h:mgu s E=some x):∀θ,dS x θ↔dS s θ/\hY E θ:=by have:=wq af aO E;rw[h]at this;exact this.2
theorem C9{s:List ak}(af:eI s)(aO:fJ s){E:List (T×T)}{x:List ak}(h:mgu s E=some x):mgu s (fR (dR s x))=some x:=pC (ahK af (r9 af aO h).1 (r9 af aO h).2 fun θ fS=>((qZ af aO h θ).1 fS).1)
theorem Uz(p:Int->Prop){E:List (T×T)}:∀{s ah:List ak},eI s->fJ s->(∀b∈s,p b.v/\∀w,b.t.occ w=true->p w)->(∀e∈E,(∀w,e.1.occ w=true->p w)/\∀w,e.2.occ w=true->p w)->mgu s E=some ah->∀b∈ah,p b.v/\∀w,b.t.occ w=true->p w:=by
 induction E with
 |nil=>intro s ah af aO J _ h;rw[Da af aO]at h;cases h;exact J
 |cons e E bO=>
  intro s ah af aO J U h;rw[Ls af aO]at h;split at h
  ·rename_i s1 ao;obtain⟨V,gx⟩:∃V,V=s.flatMap (fun b=>b.v::nC b.t)++nC e.1++nC e.2:=⟨_,rfl⟩;have Sa:∀w∈V,p w:=by
    intro w hw;rw[gx]at hw;simp only[h9,List.mem_flatMap,fI]at hw;rcases hw with(⟨b,ab,rfl|hw⟩|hw)|hw
    ·exact(J b ab).1
    ·exact(J b ab).2 w (D8.1 hw)
    ·exact(U e Ψ).1 w (D8.1 hw)
    ·exact(U e Ψ).2 w (D8.1 hw)
   obtain⟨n,o,ja,jD,qk⟩:=Xi V _ _ s e.1 e.2 af aO (fun c aq=>⟨by rw[gx];simp only[h9,List.mem_flatMap];exact .inl (.inl ⟨c,aq,Ψ⟩),fun w hw=>by rw[gx];simp only[h9,List.mem_flatMap];exact .inl (.inl ⟨c,aq,by simp[x6 hw]⟩)⟩)
    (fun w hw=>by rw[gx];simp only[h9];exact .inl (.inr (x6 hw))) (fun w hw=>by rw[gx];simp only[h9];exact .inr (x6 hw)) rfl rfl
   have yI:=pC jD;rw[ao]at yI;subst yI;obtain⟨Xh,_⟩:=qk s1 rfl;have pt:=r9 af aO ao;exact bO pt.1 pt.2 (fun b ab=>⟨Sa _ (Xh b ab).1,fun w hw=>Sa w ((Xh b ab).2 w hw)⟩) (fun fL he=>U fL (by simp[he])) h
  ·cases h
theorem ala{s:List ak}(af:eI s){v n:Int}(h:aY s v= .var n):dc s n=none:=by have:=MQ af (t:= .var v) (w:=n) (by show(aY s v).occ n=true;rw[h];simp[T.occ]);exact this
theorem Ib{l a6:List b4}{t:T}{k:Int}(h:hM l t k=some a6):∀x∈a6,x∈l\/t= .var x.v:=by
 unfold hM at h;split at h
 ·rename_i n;split at h
  ·split at h
   ·cases h;exact fun x ae=>.inl ae
   ·cases h
  ·cases h;intro x ae;rcases x5.1 ae with rfl|ae
   ·exact .inr rfl
   ·exact .inl ae
 ·split at h
  ·cases h;exact fun x ae=>.inl ae
  ·cases h
theorem Wn{s:List ak}(af:eI s):∀{l acc a:List b4},(∀x∈acc,dc s x.v=none)->fC s l acc=some a->∀x∈a,dc s x.v=none
 |[],acc,a,h,he=>by simp only[fC,dy]at he;rw[<-he];exact h
 |y::r,acc,a,h,he=>by
  simp only[fC]at he;split at he
  ·rename_i bz ao;refine Wn af (fun x ae=>?_) he;rcases Ib ao x ae with J|J
   ·exact h x J
   ·exact ala af J
  ·cases he
theorem Tu{x:b4}:∀{l:List b4},(∀y∈l,y.v<x.v)->lJ x l=l++[x]
 |[],_=>rfl
 |y::l,h=>by simp only[lJ,if_pos (h y Ψ),Tu (l:=l) fun z bk=>h z (by simp[bk]),bV]
theorem Wo{s:List ak}:∀{l acc:List b4},(acc++l).Pairwise (fun x y=>x.v<y.v)->(∀x∈l,dc s x.v=none)->fC s l acc=some (acc++l)
 |[],acc,_,_=>by simp[fC]
 |x::r,acc,a7,aO=>by
  have J:∀y∈acc,y.v<x.v:=fun y aM=>(List.pairwise_append.1 a7).2.2 y aM x Ψ;have U:kV acc x.v=none:=xX.2 fun y aM=>by have:=J y aM;omega
  have al:hM acc (aY s x.v) x.k=some (acc++[x]):=by rw[AS (aO x Ψ)];simp only[hM,U];rw[Tu J]
  simp only[fC,al];rw[Wo (by simpa using a7) fun y aM=>aO y (by simp[aM])];simp
theorem Wq{s:List ak}(af:eI s):∀{l acc a:List br},(∀x∈acc,dc s x.v=none)->fD s l acc=some a->∀x∈a,dc s x.v=none
 |[],acc,a,h,he=>by simp only[fD,dy]at he;rw[<-he];exact h
 |y::r,acc,a,h,he=>by
  simp only[fD]at he;split at he
  ·rename_i bz ao;refine Wq af (fun x ae=>?_) he;rcases(x4 ao x).1 ae with J|⟨_,J⟩
   ·exact h x J
   ·exact MQ af (t:= .var y.v) J
  ·cases he
theorem Wr{s:List ak}:∀{l acc:List br},hH e9 (acc++l)->(∀x∈l,dc s x.v=none)->fD s l acc=some (acc++l)
 |[],acc,_,_=>by simp[fD]
 |x::r,acc,a7,aO=>by
  have al:iQ acc (aY s x.v) x.s=some (acc++[x]):=by
   rw[AS (aO x Ψ)];refine Ic rfl (arK ?_ a7) fun z=>?_
   ·simp
   ·simp only[h9,kg,T.occ,dM];refine or_congr_right ⟨fun h=>by rw[h];exact⟨rfl,rfl⟩,fun⟨J,U⟩=>?_⟩;cases z;cases x;simp_all
  simp only[fD,al];rw[Wr (by simpa using a7) fun y aM=>aO y (by simp[aM])];simp
def DX(b:List ak)(k:List b4)(m:List br)(d:List ak):Prop:= ∃x,mgu b (fR d)=some x/\¬(fC x k []=none\/fD x m []=none)/\dR b x=d/\d≠[]
theorem Gm{b:List ak}(ab:eB b){k:List b4}{m:List br}:∀{l L:List (List ak)},fh b k m l=some L->∀d∈L,DX b k m d
 |[],L,h=>by simp only[fh,dy]at h;rw[<-h];simp
 |d0::r,L,h=>by
  simp only[fh]at h;split at h
  ·exact Gm ab h
  ·rename_i x ae;split at h
   ·exact Gm ab h
   ·rename_i ad;split at h
    ·cases h
    ·rename_i az;rw[gr]at h;obtain⟨Eg,J,rfl⟩:=h;intro d aG;rcases fI.1 aG with rfl|aG
     ·exact⟨x,C9 ab.sol ab.fits ae,ad,rfl,az⟩
     ·exact Gm ab J d aG
theorem T8{b:List ak}{k:List b4}{m:List br}:∀{L:List (List ak)},(∀d∈L,DX b k m d)->fh b k m L=some L
 |[],_=>rfl
 |d::L,h=>by obtain⟨x,J,U,al,a1⟩:=h d Ψ;simp only[fh,J,if_neg U,al,if_neg a1,T8 (L:=L) fun e he=>h e (by simp[he]),nE]
theorem C0{b:List ak}(ab:eB b){k:List b4}{m:List br}:∀{l L:List (List ak)},(∀d∈l,eB d)->fh b k m l=some L->∀d∈L,eB d
 |[],L,_,h=>by simp only[fh,dy]at h;rw[<-h];simp
 |d0::r,L,au,h=>by
  simp only[fh]at h;split at h
  ·exact C0 ab (fun d aG=>au d (by simp[aG])) h
  ·rename_i x ae;split at h
   ·exact C0 ab (fun d aG=>au d (by simp[aG])) h
   ·split at h
    ·cases h
    ·rw[gr]at h;obtain⟨Eg,J,rfl⟩:=h;intro d aG;rcases fI.1 aG with rfl|aG
     ·exact Dc (ab.mgu (fun e he=>by obtain⟨c,aq,rfl⟩:=ia.1 he;have:=(au d0 Ψ).ok c aq;exact⟨by simpa[T.ok]using this.1,this.2⟩) ae)
     ·exact C0 ab (fun d aG=>au d (by simp[aG])) J d aG
theorem Gl{b:List ak}(ab:eB b){n:Int}(az:ot b n){k:List b4}{m:List br}:∀{l L:List (List ak)},(∀d∈l,ot d n)->fh b k m l=some L->∀d∈L,ot d n
 |[],L,_,h=>by simp only[fh,dy]at h;rw[<-h];simp
 |d0::r,L,au,h=>by
  simp only[fh]at h;split at h
  ·exact Gl ab az (fun d aG=>au d (by simp[aG])) h
  ·rename_i x ae;split at h
   ·exact Gl ab az (fun d aG=>au d (by simp[aG])) h
   ·split at h
    ·cases h
    ·rw[gr]at h;obtain⟨Eg,J,rfl⟩:=h;intro d aG;rcases fI.1 aG with rfl|aG
     ·have:=Uz (fun v=>v<n) ab.sol ab.fits az (fun e he=>by obtain⟨c,aq,rfl⟩:=ia.1 he;have:=au d0 Ψ c aq;exact⟨fun w hw=>by simp[T.occ]at hw;subst hw;exact this.1,this.2⟩) ae
      exact fun c aq=>this c (iA.1 aq).1
     ·exact Gl ab az (fun d aG=>au d (by simp[aG])) J d aG
theorem ahs{L:List (List ak)}:jN (jN L)=jN L:=UB (UA L) fun x=>by rw[sa,and_assoc];refine⟨fun⟨J,U⟩=>⟨J,U,?_⟩,fun⟨J,U,_⟩=>⟨J,U⟩⟩;rw[iu,gH]at U⊢;exact fun d aG=>U d (sa.1 aG).1
theorem KR{b:List ak}(ab:eB b){n:Int}(az:ot b n){v w:Int}(av:v<n)(h:(aY b v).occ w=true):w<n:=by
 unfold aY at h;cases e:dc b v with
 |none=>rw[e]at h;simp[T.occ]at h;omega
 |some t=>rw[e]at h;exact(az _ (jH e)).2 w h
theorem Wm{b:List ak}(ab:eB b){n:Int}(az:ot b n):∀{l acc a:List b4},(∀x∈l,x.v<n)->(∀x∈acc,x.v<n)->fC b l acc=some a->∀x∈a,x.v<n
 |[],acc,a,_,h,he=>by simp only[fC,dy]at he;rw[<-he];exact h
 |y::r,acc,a,au,h,he=>by
  simp only[fC]at he;split at he
  ·rename_i bz ao;refine Wm ab az (fun x ae=>au x (by simp[ae])) (fun x ae=>?_) he;rcases Ib ao x ae with J|J
   ·exact h x J
   ·exact KR ab az (au y Ψ) (by rw[J];simp[T.occ])
  ·cases he
theorem Wp{b:List ak}(ab:eB b){n:Int}(az:ot b n):∀{l acc a:List br},(∀x∈l,x.v<n)->(∀x∈acc,x.v<n)->fD b l acc=some a->∀x∈a,x.v<n
 |[],acc,a,_,h,he=>by simp only[fD,dy]at he;rw[<-he];exact h
 |y::r,acc,a,au,h,he=>by
  simp only[fD]at he;split at he
  ·rename_i bz ao;refine Wp ab az (fun x ae=>au x (by simp[ae])) (fun x ae=>?_) he;rcases(x4 ao x).1 ae with J|⟨_,J⟩
   ·exact h x J
   ·exact KR ab az (au y Ψ) J
  ·cases he
theorem AR{s ah:cC}(h:gK s)(he:fu s=some ah):q8 ah/\ah.n=s.n/\ah.b=s.b:=by
 unfold fu at he;split at he
 ·cases he
 rename_i k ad;split at he
 ·cases he
 rename_i m hm;split at he
 ·cases he
 rename_i L fe;split at he;rotate_left
 ·cases he
 rename_i la;cases he;have aX:=Ha h.b h.k.at' ⟨Ψ,Ψ⟩ ad;have m1:=Hc h.b h.m.at' ⟨Ψ,by simp[hH]⟩ hm;have m2:jM (m.filter (jB k)):=⟨fun x ae=>m1.at' x (iA.1 ae).1,X3 _ m1.asc⟩;have dh:=Gm h.b fe;have xN:=C0 h.b h.d fe;refine⟨⟨⟨h.n,h.b,fun x ae=>xN x (sa.1 ae).1,aX,m2,h.bb,fun x ae=>Gl h.b h.bb h.db fe x (sa.1 ae).1,Wm h.b h.bb h.kb Ψ ad,fun x ae=>Wp h.b h.bb h.mb Ψ hm x (iA.1 ae).1⟩,?_⟩,rfl,rfl⟩;unfold fu;have ao:fC s.b k []=some k:=Wo (acc:=[]) aX.asc (Wn h.b.sol Ψ ad);have aF:fD s.b (m.filter (jB k)) []=some (m.filter (jB k)):=Wr (acc:=[]) m2.asc fun x ae=>Wq h.b.sol Ψ hm x (iA.1 ae).1;have bM:(m.filter (jB k)).filter (jB k)=m.filter (jB k):=by rw[List.filter_filter];simp
 have dt:fh s.b k (m.filter (jB k)) (jN L)=some (jN L):=T8 fun d aG=>dh d (sa.1 aG).1;simp only[ao,aF,bM,dt,ahs,if_pos la]
def qC:C:=(aa [c3 6 2,ey 8 2,bu 9 false] (.seq (aa [I 15 0,cV 16 55 15,cB 17 16,I 18 17,ar 18 false (a8 19 4 6),ar 18 false (cV 20 117 19),ar 18 false (cB 21 20),cW 22 18 21,I 23 22,bU 23 false 24 1,ar 23 false (cV 25 56 24),ar 23 false (cB 26 25),cW 27 23 26,I 28 27,bU 28 false 29 3,ar 28 false (aQ 30 .neq 29 2),bU 28 false 31 30,bU 31 true 32 3,ar 31 true (aQ 33 .neq 32 3),ar 28 false (dv 34 31 33),cW 35 28 34] (aV 35 (aa [ey 8 2,bu 9 false] .ret) .skip)) (aa [I 37 0,a8 38 4 6,cg 39 95 37 38,I 36 39,cu 40 0 36,cu 41 1 36,da 10 dm,bC 4 10 40,I 11 41] (.seq (aa [I 42 11,cB 43 42] (aV 43 (aa [ey 8 2,bu 9 false] .ret) .skip)) (aa [cH (.bslm 44 (some 803) 2 104 []),I 45 1,cH (.appm 46 none 2 104 (.t 44) (.t 45)),cH (.alloc 12 (some 804) (.slice 2 .nil [])),bC 1 12 46] (.seq (aa [aH 47 0 1 10,ax 48 1 47,aQ 49 .neq 48 1] (aV 49 (.seq (aa [aH 50 0 1 10,ax 51 1 50,I 52 3,bF 53 .neq 51 52] (aV 53 (aa [ey 8 2,bu 9 false] .ret) .skip)) (.seq (.pubB 12 (.region [ax 54 1 12,I 8 54,bu 9 true])) .ret)) .skip)) (.seq (aa [I 55 1,cD 56 55,b7 57 0] (fj 58 57 56 (.seq (.block 1 (aa [cJ 59 2 55 57,a8 60 2 59,cH (.alloc 14 none (.agg [.int .i64 0,.int .i64 0])),bC 2 14 60] (aa [aH 61 0 1 14,ax 62 1 61,aH 63 1 1 10,ax 64 1 63,bF 65 .eql 62 64] (aV 65 (.seq (aa [aH 66 1 1 14,ax 67 1 66,I 68 3,bF 69 .neq 67 68] (aV 69 (aa [ey 8 2,bu 9 false] .ret) .skip)) (.seq (.pubB 12 (.region [ax 70 1 12,I 8 70,bu 9 true])) .ret)) .skip)))) (.region [aQ 71 .add 57 1,I 57 71])))) (aa [ax 72 1 12,aH 73 1 1 10,ax 74 1 73,I 75 3,bQ 76 (.build [.int .i64 0,.int .i64 0] [(0,1,(.t 74)),(1,1,(.t 75))]),ec 77 2 104 [.t 76],cH (.appm 78 none 2 104 (.t 72) (.t 77)),bC 1 12 78] (aa [ax 79 1 12,bQ 80 (.mkif 25 (.t 79)),bQ 81 (.mkf 127 [.t 12]),cg 82 126 80 81] (.seq (.pubB 12 (.region [ax 83 1 12,I 8 83,bu 9 true])) .ret))))))))))
@[simp] def j8:List bY:=[.tmp 8,.tmp 9]
def ED:C:=(aa [c3 6 2,cH (.box 7 (some 811) (.t 3)),ey 8 2,bu 9 false] (.seq (aa [I 17 0,cV 18 55 17,cB 19 18,I 20 19,ar 20 false (a8 21 4 6),ar 20 false (cV 22 117 21),ar 20 false (cB 23 22),cW 24 20 23,I 25 24,bU 25 false 26 1,ar 25 false (cV 27 57 26),ar 25 false (cB 28 27),cW 29 25 28,I 30 29,ar 30 false (ax 31 1 7),ar 30 false (cV 32 128 31),ar 30 false (cB 33 32),cW 34 30 33] (aV 34 (aa [ey 8 2,bu 9 false] .ret) .skip)) (aa [I 36 0,a8 37 4 6,cg 38 95 36 37,I 35 38,cu 39 0 35,cu 40 1 35,da 10 dm,bC 4 10 39,I 11 40] (.seq (aa [I 41 11,cB 42 41,I 43 42,ar 43 false (a8 44 4 10),ar 43 false (ax 45 1 7),ar 43 false (cg 46 109 44 45),cW 47 43 46] (aV 47 (aa [ey 8 2,bu 9 false] .ret) .skip)) (aa [cH (.mkmap 48 (some 812)),cH (.alloc 12 (some 813) (.junk)),bC 1 12 48] (.seq (aa [I 49 1,cD 50 49,b7 51 0] (fj 52 51 50 (.seq (.block 1 (aa [cJ 53 2 49 51,a8 54 2 53,cH (.alloc 14 none (.agg [.int .i64 0,.str []])),bC 2 14 54] (.region [ax 55 1 12,a8 56 2 14,cH (.mput (.a [false,true]) (.t 55) (.t 56) (.c (.bool true)))]))) (.region [aQ 57 .add 51 1,I 51 57])))) (aa [a8 58 4 10,bQ 59 (.mkf 130 [.t 12,.t 7]),cg 60 129 58 59] (aa [cH (.bslm 61 (some 814) 2 106 []),cH (.alloc 15 (some 815) (.slice 2 .nil [])),bC 1 15 61] (.seq (aa [ax 62 1 12,cH (.range 63 none (.t 62))] (.block 2 (.loop (aa [⟨none,.next 64 (.t 63)⟩,cu 65 0 64] (.seq (aV 65 .skip (.exit 2)) (.block 3 (aa [bQ 66 (.ment (.t 63)),cu 67 0 66,cH (.alloc 16 none (.agg [.int .i64 0,.str []])),bC 2 16 67] (.region [ax 68 1 15,a8 69 2 16,ec 70 2 106 [.t 69],cH (.appm 71 none 2 106 (.t 68) (.t 70)),bC 1 15 71])))))))) (aa [ax 72 1 15,bQ 73 (.mkif 26 (.t 72)),bQ 74 (.mkf 131 [.t 15]),cg 75 126 73 74] (.seq (.pubB 15 (.region [ax 76 1 15,I 8 76,bu 9 true])) .ret)))))))))))
@[simp] def GU:List bY:=[.tmp 8,.tmp 9]
def OI:C:=(aa [bu 2 false] (.seq (aa [I 5 0,cD 6 5,b7 7 0] (fj 8 7 6 (.seq (.block 1 (aa [I 9 7,cJ 10 2 5 7,a8 11 2 10,cH (.alloc 4 none (.agg [.int .i64 0,.int .i64 0])),I 3 9,bC 2 4 11] (.seq (.drawn true 46 [aH 12 0 1 4,ax 13 1 12,aQ 14 .lss 13 0,I 15 14,ar 15 false (aH 16 0 1 4),ar 15 false (ax 17 1 16),ar 15 false (aQ 18 .gtr 17 100000),cW 19 15 18,I 20 19,ar 20 false (aH 21 1 1 4),ar 20 false (ax 22 1 21),ar 20 false (aQ 23 .neq 22 2),bU 20 false 24 23,ar 24 true (aH 25 1 1 4),ar 24 true (ax 26 1 25),ar 24 true (aQ 27 .neq 26 3),ar 20 false (dv 28 24 27),cW 29 20 28,I 30 29,bU 30 false 31 3,ar 30 false (aQ 32 .gtr 31 0),bU 30 false 33 32,bU 33 true 34 0,bU 33 true 35 3,ar 33 true (aQ 36 .sub 35 1),ar 33 true (cJ 37 2 34 36),ar 33 true (aH 38 0 1 37),ar 33 true (ax 39 1 38),ar 33 true (aH 40 0 1 4),ar 33 true (ax 41 1 40),ar 33 true (bF 42 .geq 39 41),ar 30 false (dv 43 33 42),cW 44 30 43]) (aV 44 (aa [bu 2 false] .ret) .skip)))) (.region [aQ 45 .add 7 1,I 7 45])))) (aa [bu 2 true] .ret)))
@[simp] def Vt:List bY:=[.tmp 2]
def OJ:C:=(aa [bu 2 false] (.seq (aa [I 5 0,cD 6 5,b7 7 0] (fj 8 7 6 (.seq (.block 1 (aa [I 9 7,cJ 10 2 5 7,a8 11 2 10,cH (.alloc 4 none (.agg [.int .i64 0,.str []])),I 3 9,bC 2 4 11] (.seq (.drawn true 41 [aH 12 0 1 4,ax 13 1 12,aQ 14 .lss 13 0,I 15 14,ar 15 false (aH 16 0 1 4),ar 15 false (ax 17 1 16),ar 15 false (aQ 18 .gtr 17 100000),cW 19 15 18,I 20 19,ar 20 false (aH 21 1 1 4),ar 20 false (ax 22 1 21),ar 20 false (cV 23 128 22),ar 20 false (cB 24 23),cW 25 20 24,I 26 25,bU 26 false 27 3,ar 26 false (aQ 28 .gtr 27 0),bU 26 false 29 28,bU 29 true 30 0,bU 29 true 31 3,ar 29 true (aQ 32 .sub 31 1),ar 29 true (cJ 33 2 30 32),ar 29 true (a8 34 2 33),ar 29 true (a8 35 2 4),ar 29 true (cg 36 132 34 35),ar 29 true (cB 37 36),ar 26 false (dv 38 29 37),cW 39 26 38]) (aV 39 (aa [bu 2 false] .ret) .skip)))) (.region [aQ 40 .add 7 1,I 7 40])))) (aa [bu 2 true] .ret)))
@[simp] def L2:List bY:=[.tmp 2]
def EG:C:=(aa [c3 2 0,bu 4 false] (.seq (aa [aH 5 0 1 2,ax 6 1 5,aQ 7 .eql 6 4] (aV 7 (aa [aH 8 3 1 2,ax 9 1 8,gM 10 4 9 0,a8 11 4 10,I 12 1,cg 13 109 11 12,I 14 13,ar 14 false (aH 15 3 1 2),ar 14 false (ax 16 1 15),ar 14 false (gM 17 4 16 1),ar 14 false (a8 18 4 17),bU 14 false 19 1,ar 14 false (cg 20 109 18 19),cW 21 14 20,I 4 21] .ret) .skip)) (aa [aH 22 0 1 2,ax 23 1 22,aQ 24 .eql 23 2,I 25 24,ar 25 true (aH 26 2 1 2),ar 25 true (ax 27 1 26),bU 25 true 28 1,ar 25 true (bF 29 .eql 27 28),dv 30 25 29,I 4 30] .ret)))
@[simp] def G0:List bY:=[.tmp 4]
def OC:C:=(aa [bu 5 false] (.seq (.drawn true 17 [ax 6 1 2,I 7 0,cJ 8 2 6 7,aH 9 0 1 8,ax 10 1 9,ax 11 1 2,I 12 1,cJ 13 2 11 12,aH 14 0 1 13,ax 15 1 14,bF 16 .lss 10 15,I 5 16]) .ret))
@[simp] def Vp:List bY:=[.tmp 5]
def OA:C:=(.region [ax 4 1 1,I 5 0,ax 6 1 2,bQ 7 (.build [.int .i64 0,.str []] [(0,1,(.t 5)),(1,1,(.t 6))]),cH (.mput (.a [false,true]) (.t 4) (.t 7) (.c (.bool true)))])
@[simp] def Vn:List bY:=[]
def OB:C:=(aa [bu 5 false] (.seq (.drawn true 15 [ax 6 1 2,I 7 0,cJ 8 2 6 7,a8 9 2 8,ax 10 1 2,I 11 1,cJ 12 2 10 11,a8 13 2 12,cg 14 132 9 13,I 5 14]) .ret))
@[simp] def Vo:List bY:=[.tmp 5]
def EE:C:=(aa [c3 2 0,c3 3 1,bu 4 false] (aa [aH 5 0 1 2,ax 6 1 5,aH 7 0 1 3,ax 8 1 7,bF 9 .lss 6 8,I 10 9,ar 10 false (aH 11 0 1 2),ar 10 false (ax 12 1 11),ar 10 false (aH 13 0 1 3),ar 10 false (ax 14 1 13),ar 10 false (bF 15 .eql 12 14),bU 10 false 16 15,ar 16 true (aH 17 1 1 2),ar 16 true (ax 18 1 17),ar 16 true (aH 19 1 1 3),ar 16 true (ax 20 1 19),ar 16 true (bF 21 .lss 18 20),ar 10 false (dv 22 16 21),cW 23 10 22,I 4 23] .ret))
@[simp] def akf:List bY:=[.tmp 4]
def tI:List (Nat×dA):=[
 (3,⟨1,8,.int .i64,.int .i64 0⟩),
 (9,⟨1,16,.str,.str []⟩),
 (25,⟨1,24,.slice 104,.slice 2 .nil []⟩),
 (26,⟨1,24,.slice 106,.slice 2 .nil []⟩),
 (30,⟨1,24,.slice 32,.slice 4 .nil []⟩),
 (32,⟨4,56,.struct [(0,3),(1,3),(2,9),(3,30)],.agg [.int .i64 0,.int .i64 0,.str [],.slice 4 .nil []]⟩),
 (104,⟨2,16,.struct [(0,3),(1,3)],.agg [.int .i64 0,.int .i64 0]⟩),
 (106,⟨2,24,.struct [(0,3),(1,9)],.agg [.int .i64 0,.str []]⟩),
 (165,⟨1,8,.map 106 4,.junk⟩)]
theorem j9:fN ay tI=true:=by kernel_rfl
theorem sc:ca tI qC j8 4 Tryz.f52=true:=by kernel_rfl
theorem rA:ay.funcs[(52:Nat)]? =some Tryz.f52:=Tryz.func52
theorem LF:ca tI ED GU 4 Tryz.f54=true:=by kernel_rfl
theorem I9:ay.funcs[(54:Nat)]? =some Tryz.f54:=Tryz.func54
theorem ahX:ca tI OI Vt 1 Tryz.f56=true:=by kernel_rfl
theorem aa5:ay.funcs[(56:Nat)]? =some Tryz.f56:=Tryz.func56
theorem ahY:ca tI OJ L2 1 Tryz.f57=true:=by kernel_rfl
theorem aa6:ay.funcs[(57:Nat)]? =some Tryz.f57:=Tryz.func57
theorem LI:ca tI EG G0 2 Tryz.f109=true:=by kernel_rfl
theorem Jc:ay.funcs[(109:Nat)]? =some Tryz.f109:=Tryz.func109
theorem ahR:ca tI OC Vp 3 Tryz.f127=true:=by kernel_rfl
theorem aaZ:ay.funcs[(127:Nat)]? =some Tryz.f127:=Tryz.func127
theorem ahP:ca tI OA Vn 3 Tryz.f130=true:=by kernel_rfl
theorem aaX:ay.funcs[(130:Nat)]? =some Tryz.f130:=Tryz.func130
theorem ahQ:ca tI OB Vo 3 Tryz.f131=true:=by kernel_rfl
theorem aaY:ay.funcs[(131:Nat)]? =some Tryz.f131:=Tryz.func131
theorem LG:ca tI EE akf 2 Tryz.f132=true:=by kernel_rfl
theorem Ja:ay.funcs[(132:Nat)]? =some Tryz.f132:=Tryz.func132
def l8(x:b4):Prop:=(0<=x.v/\x.v<=100000)/\(x.k=2\/x.k=3)
def nr(x y:b4):Prop:=x.v<y.v
theorem Gd{l:List b4}:ir l↔∀i,i<l.length->ie l8 nr l i:=by rw[NY (p:=l8) (r:=nr) (fun a b c J U=>by unfold nr at*;omega)];exact⟨fun h=>⟨h.at',h.asc⟩,fun h=>⟨h.1,h.2⟩⟩
def ko(x:br):Prop:=(0<=x.v/\x.v<=100000)/\ji x.s=true
def kH(x y:br):Prop:=e9 x y<0
theorem Gs{l:List br}:jM l↔∀i,i<l.length->ie ko kH l i:=by rw[NY (p:=ko) (r:=kH) (fun a b c J U=>by unfold kH at*;exact lN.ltr J (Int.le_of_lt U))];exact⟨fun h=>⟨h.at',h.asc⟩,fun h=>⟨h.1,h.2⟩⟩
open Classical in
theorem amd(l:List b4):bZ ay 56 [.slice 2 .no (l.map b4.e)] (.bool (decide (ir l))):=by
 generalize bS:decide (ir l)=R;refine bE j9 aa5 ahX fun aR=>?_;unfold OI;have iH:l.length<=68719476736:=by simp[ij,ho,hN,lim]at aR;omega
 simp;refine eQ [0,5,6] (fun i (_:Unit)=>[(7,.int .i64 i)]) l.length (fun i _=> ∀j,j<i->ie l8 nr l j) () cb (fun k ad=>Ω) (fun _ ag _=>?_) (fun i _ hi ag _=>?_)
 ·have:R=true:=by rw[<-bS,eF,Gd];exact ag
  rw[this];exact c0
 ·obtain⟨b,ab⟩:∃b,l[i]? =some b:=⟨_,cr hi⟩;obtain⟨c,aq⟩:∃c,l[i-1]? =some c:=⟨_,cr Ω⟩;have cq:∀h,(l[i]'h)=b:=fun h=>by rw[cr hi]at ab;exact gu ab
  have c8:¬ie l8 nr l i->R=false:=fun h=>by rw[<-bS,hx];exact fun ck=>h (Gd.1 ck i hi)
  have dh:ie l8 nr l i->∀j,j<i+1->ie l8 nr l j:=fun h j jx=>by
   by_cases e:j=i
   ·rw[e];exact h
   ·exact ag j Ω
  simp[hi,cq,aq];((with_reducible repeat' first|refine aj ?_|simp[cq,aq,hi]|((first|apply bD|apply bH|apply bG)<;>intro h<;>try simp at h))<;>(try exact b2));all_goals first
   |(have az:¬ie l8 nr l i:=by(intro ck;have J:=ck b ab;have U:=J.2 c;have al:=J.1;unfold l8 nr at*;first|omega|(have a1:=U Ω aq;omega)|(simp_all;done)|(simp_all;omega))
     rw[c8 az]
     simp[bn,Vt,aT,aU,aS]
     done)
   |(refine bR.rng () hi (dh fun b0 fX=>?_) ?_
     ·rw[ab]at fX;cases fX
      refine⟨?_,fun cl bA hA=>?_⟩
      ·unfold l8;first|(simp_all;done)|(simp_all;omega)
      ·rw[aq]at hA;cases hA;unfold nr;simp_all
     ·exact cb)
theorem A5(a b:br):bZ ay 132 [a.e,b.e] (.bool (hK e9 a b)):=by
 rw[<-UK];have bS:tw a b=(decide (a.v<b.v)||(a.v==b.v&&ht a.s b.s)):=rfl;rcases Int.lt_trichotomy a.v b.v with h|h|h
 ·have:tw a b=true:=by rw[bS];simp[h]
  rw[this];refine bE j9 Ja LG fun aR=>?_;unfold EE;exact c0
 ·have J:¬a.v<b.v:=Ω
  have U:(a.v==b.v)=true:=by simp[h]
  have:tw a b=ht a.s b.s:=by rw[bS];simp[h]
  rw[this];refine bE j9 Ja LG fun aR=>?_;unfold EE;exact c0
 ·have J:¬a.v<b.v:=Ω
  have U:¬a.v=b.v:=Ω
  have al:(a.v==b.v)=false:=by simp[U]
  have:tw a b=false:=by rw[bS];simp[J,U]
  rw[this];refine bE j9 Ja LG fun aR=>?_;unfold EE;exact c0
open Classical in
theorem ami(l:List br):bZ ay 57 [.slice 2 .no (l.map br.e)] (.bool (decide (jM l))):=by
 generalize bS:decide (jM l)=R;refine bE j9 aa6 ahY fun aR=>?_;unfold OJ;have iH:l.length<=68719476736:=by simp[ij,ho,hN,lim]at aR;omega
 simp;refine eQ [0,5,6] (fun i (_:Unit)=>[(7,.int .i64 i)]) l.length (fun i _=> ∀j,j<i->ie ko kH l j) () cb (fun k ad=>Ω) (fun _ ag _=>?_) (fun i _ hi ag _=>?_)
 ·have:R=true:=by rw[<-bS,eF,Gs];exact ag
  rw[this];exact c0
 ·obtain⟨b,ab⟩:∃b,l[i]? =some b:=⟨_,cr hi⟩;obtain⟨c,aq⟩:∃c,l[i-1]? =some c:=⟨_,cr Ω⟩;have cq:∀h,(l[i]'h)=b:=fun h=>by rw[cr hi]at ab;exact gu ab
  have c8:¬ie ko kH l i->R=false:=fun h=>by rw[<-bS,hx];exact fun ck=>h (Gs.1 ck i hi)
  have dh:ie ko kH l i->∀j,j<i+1->ie ko kH l j:=fun h j jx=>by
   by_cases e:j=i
   ·rw[e];exact h
   ·exact ag j Ω
  have fY:∀p:Prop,(p->eN)->(ie ko kH l i->p)->R=false:=fun p J U=>c8 fun h=>J (U h);have lY:ie ko kH l i->ko b:=fun h=>(h b ab).1;have bt:ie ko kH l i->0<i->hK e9 c b=true:=fun h bA=>by simpa[hK,kH]using(h b ab).2 c bA aq
  have e0:ko b->(0<i->hK e9 c b=true)->ie ko kH l i:=fun J U b0 fX=>by rw[ab]at fX;cases fX;exact⟨J,fun cl bA hA=>by rw[aq]at hA;cases hA;simpa[hK,kH]using U bA⟩
  unfold ko at lY e0;by_cases g1:b.v<0
  ·rw[fY _ (fun h=>Ω) (fun h=>(lY h).1.1)];exact c0
  by_cases g2:100000<b.v
  ·rw[fY _ (fun h=>Ω) (fun h=>(lY h).1.2)];exact c0
  cases g3:ji b.s
  ·rw[fY _ (fun h=>by rw[h]at g3;cases g3) (fun h=>(lY h).2)];simp[hi,cq,aq];(with_reducible repeat' first|refine aj ?_|refine aC (tK _) ?_|refine aD (tK _) ?_|simp[cq,aq,hi,g1,g2,g3]);simp[bn,L2,aT,aU,aS]
  by_cases g4:0<i
  ·cases g5:hK e9 c b
   ·rw[fY _ (fun h=>by rw[h]at g5;cases g5) (fun h=>bt h g4)];simp[hi,cq,aq];(with_reducible repeat' first|refine aj ?_|refine aC (tK _) ?_|refine aD (tK _) ?_|refine aC (A5 _ _) ?_|refine aD (A5 _ _) ?_|simp[cq,aq,hi,g1,g2,g3,g4,g5]);simp[bn,L2,aT,aU,aS]
   ·simp[hi,cq,aq];(with_reducible repeat' first|refine aj ?_|refine aC (tK _) ?_|refine aD (tK _) ?_|refine aC (A5 _ _) ?_|refine aD (A5 _ _) ?_|simp[cq,aq,hi,g1,g2,g3,g4,g5]);exact bR.rng () hi (dh (e0 ⟨⟨Ω,Ω⟩,g3⟩ fun _=>g5)) cb
  ·obtain rfl:i=0:=Ω
   simp[hi,cq,aq];(with_reducible repeat' first|refine aj ?_|refine aC (tK _) ?_|refine aD (tK _) ?_|simp[cq,aq,hi,g1,g2,g3,g4]);exact bR.rng () hi (dh (e0 ⟨⟨Ω,Ω⟩,g3⟩ fun h=>Ω)) cb
theorem Xv(s:List c4):∀t:T,bZ ay 109 [t.e,.str s] (.bool (t.has s)):=by
 intro t;induction t with
 |pair a b dB dC=>
  refine bE j9 Jc LI fun aR=>?_;unfold EG;simp;cases a7:a.has s<;>cases ab:b.has s<;>rw[a7]at dB<;>rw[ab]at dC;all_goals(with_reducible repeat' first|refine aj ?_|refine aC dB ?_|refine aD dB ?_|refine aC dC ?_|refine aD dC ?_|simp)
  all_goals simp[bn,G0,aT,aU,aS]
  all_goals simp[T.has,a7,ab]
 |sym n=>
  refine bE j9 Jc LI fun aR=>?_;unfold EG;simp;(with_reducible repeat' first|refine aj ?_|simp);all_goals simp[bn,G0,aT,aU,aS]
  all_goals simp[T.has]
 |_=>
  refine bE j9 Jc LI fun aR=>?_;unfold EG;simp;(with_reducible repeat' first|refine aj ?_|simp);all_goals simp[bn,G0,aT,aU,aS]
  all_goals simp[T.has]
def PM:C:=(aa [c3 2 0] (aa [b7 4 20] (aa [I 8 4,b7 5 0,I 6 8] (.seq (.block 0 (.loop (.seq (aa [I 9 6,I 10 1,bF 11 .leq 9 10] (aV 11 .skip (.exit 0))) (.block 1 (aa [a8 12 2 2,I 13 5,I 14 6,c1 15 260 [.t 12,.t 13,.t 14]] (aa [I 16 6,I 5 16] (.region [I 17 6,I 18 4,bF 19 .add 17 18,I 6 19]))))))) (aa [a8 20 2 2,I 21 5,I 22 1,c1 23 260 [.t 20,.t 21,.t 22]] (.block 2 (.loop (.seq (aa [I 24 4,I 25 1,bF 26 .lss 24 25] (aV 26 .skip (.exit 2))) (.block 3 (aa [I 27 4,bQ 28 (.bin .mul false (dI 2) (.t 27)),b7 5 0,I 6 28] (.seq (.block 4 (.loop (.seq (aa [I 29 6,I 30 1,bF 31 .leq 29 30] (aV 31 .skip (.exit 4))) (.block 5 (aa [a8 32 2 2,I 33 5,I 34 5,I 35 4,bF 36 .add 34 35,I 37 6,c1 38 277 [.t 32,.t 33,.t 36,.t 37]] (aa [I 39 6,I 5 39] (.region [I 40 6,I 41 4,bQ 42 (.bin .mul false (dI 2) (.t 41)),bF 43 .add 40 42,I 6 43]))))))) (.seq (aa [I 44 5,I 45 4,bF 46 .add 44 45,I 7 46] (aa [I 47 7,I 48 1,bF 49 .lss 47 48] (aV 49 (.region [a8 50 2 2,I 51 5,I 52 7,I 53 1,c1 54 277 [.t 50,.t 51,.t 52,.t 53]]) .skip))) (.region [I 55 4,aQ 56 .mul 55 2,I 4 56])))))))))))))
@[simp] def akt:List bY:=[]
def Iy:C:=(aa [c3 3 0] (aa [I 8 1,aQ 9 .add 8 1,I 6 9] (.block 0 (.loop (.seq (aa [I 10 6,I 11 2,bF 12 .lss 10 11] (aV 12 .skip (.exit 0))) (.seq (.block 1 (aa [I 15 6,I 7 15] (.block 2 (.loop (.seq (aa [I 16 7,I 17 1,bF 18 .gtr 16 17,I 19 18,ar 19 true (aH 20 0 1 3),ar 19 true (ax 21 1 20),bU 19 true 22 7,bU 19 true 23 7,ar 19 true (aQ 24 .sub 23 1),ar 19 true (gp 25 21 [.t 22,.t 24]),dv 26 19 25] (aV 26 .skip (.exit 2))) (.seq (.block 3 (.region [aH 29 1 1 3,ax 30 1 29,I 31 7,I 32 7,aQ 33 .sub 32 1,gp 34 30 [.t 31,.t 33]])) (.region [I 27 7,aQ 28 .sub 27 1,I 7 28]))))))) (.region [I 13 6,aQ 14 .add 13 1,I 6 14])))))))
@[simp] def akp:List bY:=[]
def EL:C:=(aa [I 164 16,I 165 22,bF 166 .lss 164 165,I 167 166,bU 167 true 168 22,bU 167 true 169 3,ar 167 true (bF 170 .lss 168 169),dv 171 167 170] (aV 171 (.region [a8 172 2 4,I 173 16,I 174 22,I 175 3,c1 176 277 [.t 172,.t 173,.t 174,.t 175]]) .skip))
def EM:C:=(.seq (aa [I 151 1,I 152 18,bF 153 .lss 151 152,I 154 153,bU 154 true 155 18,bU 154 true 156 16,ar 154 true (bF 157 .lss 155 156),dv 158 154 157] (aV 158 (.region [a8 159 2 4,I 160 1,I 161 18,I 162 16,c1 163 277 [.t 159,.t 160,.t 161,.t 162]]) .skip)) EL)
def IC:C:=(.seq (aa [I 138 18,I 139 2,bF 140 .lss 138 139,I 141 140,bU 141 true 142 2,bU 141 true 143 22,ar 141 true (bF 144 .lss 142 143),dv 145 141 144] (aV 145 (.region [a8 146 2 4,I 147 18,I 148 2,I 149 22,c1 150 284 [.t 146,.t 147,.t 148,.t 149]]) .skip)) EM)
def ID:C:=(aa [I 113 17,aQ 114 .sub 113 1,I 20 114] (.seq (.block 8 (.loop (.seq (aa [I 115 18,I 116 19,bF 117 .lss 115 116] (aV 117 .skip (.exit 8))) (.block 9 (aa [I 118 18,I 119 19,bF 120 .add 118 119,bQ 121 (.conv .u64 (.t 120)),bQ 122 (.bin .shr false (.t 121) (.c (.int .u64 1))),bQ 123 (.conv .i64 (.t 122)),I 21 123] (aa [aH 124 0 1 4,ax 125 1 124,I 126 20,I 127 21,bF 128 .sub 126 127,I 129 21,gp 130 125 [.t 128,.t 129],cB 131 130] (aV 131 (.region [I 132 21,aQ 133 .add 132 1,I 18 133]) (.region [I 134 21,I 19 134])))))))) (aa [I 135 17,I 136 18,bF 137 .sub 135 136,I 22 137] IC)))
def PO:C:=(aa [c3 4 0] (.seq (aa [I 23 2,I 24 1,bF 25 .sub 23 24,aQ 26 .eql 25 1] (aV 26 (aa [I 27 2,I 8 27] (aa [I 28 3,I 9 28] (.seq (.block 0 (.loop (.seq (aa [I 29 8,I 30 9,bF 31 .lss 29 30] (aV 31 .skip (.exit 0))) (.block 1 (aa [I 32 8,I 33 9,bF 34 .add 32 33,bQ 35 (.conv .u64 (.t 34)),bQ 36 (.bin .shr false (.t 35) (.c (.int .u64 1))),bQ 37 (.conv .i64 (.t 36)),I 10 37] (aa [aH 38 0 1 4,ax 39 1 38,I 40 10,I 41 1,gp 42 39 [.t 40,.t 41]] (aV 42 (.region [I 43 10,aQ 44 .add 43 1,I 8 44]) (.region [I 45 10,I 9 45])))))))) (.seq (aa [I 46 1,I 11 46] (.block 2 (.loop (.seq (aa [I 47 11,I 48 8,aQ 49 .sub 48 1,bF 50 .lss 47 49] (aV 50 .skip (.exit 2))) (.seq (.block 3 (.region [aH 53 1 1 4,ax 54 1 53,I 55 11,I 56 11,aQ 57 .add 56 1,gp 58 54 [.t 55,.t 57]])) (.region [I 51 11,aQ 52 .add 51 1,I 11 52])))))) .ret)))) .skip)) (.seq (aa [I 59 3,I 60 2,bF 61 .sub 59 60,aQ 62 .eql 61 1] (aV 62 (aa [I 63 1,I 12 63] (aa [I 64 2,I 13 64] (.seq (.block 4 (.loop (.seq (aa [I 65 12,I 66 13,bF 67 .lss 65 66] (aV 67 .skip (.exit 4))) (.block 5 (aa [I 68 12,I 69 13,bF 70 .add 68 69,bQ 71 (.conv .u64 (.t 70)),bQ 72 (.bin .shr false (.t 71) (.c (.int .u64 1))),bQ 73 (.conv .i64 (.t 72)),I 14 73] (aa [aH 74 0 1 4,ax 75 1 74,I 76 2,I 77 14,gp 78 75 [.t 76,.t 77],cB 79 78] (aV 79 (.region [I 80 14,aQ 81 .add 80 1,I 12 81]) (.region [I 82 14,I 13 82])))))))) (.seq (aa [I 83 2,I 15 83] (.block 6 (.loop (.seq (aa [I 84 15,I 85 12,bF 86 .gtr 84 85] (aV 86 .skip (.exit 6))) (.seq (.block 7 (.region [aH 89 1 1 4,ax 90 1 89,I 91 15,I 92 15,aQ 93 .sub 92 1,gp 94 90 [.t 91,.t 93]])) (.region [I 87 15,aQ 88 .sub 87 1,I 15 88])))))) .ret)))) .skip)) (aa [I 95 1,I 96 3,bF 97 .add 95 96,bQ 98 (.conv .u64 (.t 97)),bQ 99 (.bin .shr false (.t 98) (.c (.int .u64 1))),bQ 100 (.conv .i64 (.t 99)),I 16 100] (aa [I 101 16,I 102 2,bF 103 .add 101 102,I 17 103] (aa [b7 18 0,b7 19 0] (.seq (aa [I 104 2,I 105 16,bF 106 .gtr 104 105] (aV 106 (aa [I 107 17,I 108 3,bF 109 .sub 107 108,I 18 109] (.region [I 110 16,I 19 110])) (aa [I 111 1,I 18 111] (.region [I 112 2,I 19 112])))) ID)))))))
@[simp] def aku:List bY:=[]
def PK:C:=(aa [c3 4 0] (aa [I 10 2,I 11 1,bF 12 .sub 10 11,I 8 12] (aa [I 13 3,I 14 2,bF 15 .sub 13 14,I 9 15] (.seq (.block 0 (.loop (.seq (aa [I 16 8,I 17 9,bF 18 .neq 16 17] (aV 18 .skip (.exit 0))) (.block 1 (aa [I 19 8,I 20 9,bF 21 .gtr 19 20] (aV 21 (aa [a8 22 2 4,I 23 2,I 24 8,bF 25 .sub 23 24,I 26 2,I 27 9,c1 28 295 [.t 22,.t 25,.t 26,.t 27]] (.region [I 29 8,I 30 9,bF 31 .sub 29 30,I 8 31])) (aa [a8 32 2 4,I 33 2,I 34 8,bF 35 .sub 33 34,I 36 2,I 37 9,bF 38 .add 36 37,I 39 8,bF 40 .sub 38 39,I 41 8,c1 42 295 [.t 32,.t 35,.t 40,.t 41]] (.region [I 43 9,I 44 8,bF 45 .sub 43 44,I 9 45])))))))) (.region [a8 46 2 4,I 47 2,I 48 8,bF 49 .sub 47 48,I 50 2,I 51 8,c1 52 295 [.t 46,.t 49,.t 50,.t 51]])))))
@[simp] def akr:List bY:=[]
def PN:C:=(aa [c3 4 0] (aa [b7 8 0] (.block 0 (.loop (.seq (aa [I 9 8,I 10 3,bF 11 .lss 9 10] (aV 11 .skip (.exit 0))) (.seq (.block 1 (.region [aH 14 1 1 4,ax 15 1 14,I 16 1,I 17 8,bF 18 .add 16 17,I 19 2,I 20 8,bF 21 .add 19 20,gp 22 15 [.t 18,.t 21]])) (.region [I 12 8,aQ 13 .add 12 1,I 8 13])))))))
@[simp] def V1:List bY:=[]
def AZ:List (Nat×dA):=[
 (3,⟨1,8,.int .i64,.int .i64 0⟩),
 (160,⟨1,8,.other,.junk⟩),
 (163,⟨1,8,.int .u64,.int .u64 0⟩),
 (216,⟨1,8,.other,.junk⟩),
 (222,⟨2,16,.struct [(0,160),(1,216)],.agg [.junk,.junk]⟩)]
theorem A1:fN ay AZ=true:=by kernel_rfl
theorem ai1:ca AZ PM akt 2 Tryz.f248=true:=by kernel_rfl
theorem ab8:ay.funcs[(248:Nat)]? =some Tryz.f248:=Tryz.func248
theorem U0:ca AZ Iy akp 3 Tryz.f260=true:=by kernel_rfl
theorem Rc:ay.funcs[(260:Nat)]? =some Tryz.f260:=Tryz.func260
theorem ai3:ca AZ PO aku 4 Tryz.f277=true:=by kernel_rfl
theorem aca:ay.funcs[(277:Nat)]? =some Tryz.f277:=Tryz.func277
theorem aiZ:ca AZ PK akr 4 Tryz.f284=true:=by kernel_rfl
theorem ab6:ay.funcs[(284:Nat)]? =some Tryz.f284:=Tryz.func284
theorem ai2:ca AZ PN V1 4 Tryz.f295=true:=by kernel_rfl
theorem ab9:ay.funcs[(295:Nat)]? =some Tryz.f295:=Tryz.func295
end
section
open Go Go.Pv
structure e1 {α:Type} (S:List α->cM) (n:Nat) (g b8:Nat) (lc b1:List ai) (lt:α->α->Bool):Prop where
 ok:∀l,dN (S l)
 same:∀l a6,l.length=n->a6.length=n->Same (S l) (S a6)
 klc:∀l,l.length=n->aP (inObs (S l)) lc
 ksc:∀l,l.length=n->aP (inObs (S l)) b1
 slc:dr lc=lc
 ssc:dr b1=b1
 le:n<=68719476736
 less:∀l,l.length=n->∀(i j:Nat) x y,l[i]? =some x->l[j]? =some y->bJ ay g (.int .i64 i:: .int .i64 j::lc) (S l) fun r ah=>r= .bool (lt x y)/\ah=S l
 swap:∀l,l.length=n->2<=n->∀i j:Nat,i<n->j<n->bJ ay b8 (.int .i64 i:: .int .i64 j::b1) (S l) fun r ah=>r= .tuple []/\ah=S (hd l i j)
variable {α:Type} {S:List α->cM} {n g b8:Nat} {lc b1:List ai} {lt:α->α->Bool}
def eV(g b8:Nat)(lc b1:List ai):ai:= .agg [.func g lc,.func b8 b1]
theorem JC(H:e1 S n g b8 lc b1 lt)(l:List α)(au:l.length=n)(a b c:Nat)(aoQ:a+c<=b)(Sf:b+c<=n):
  bJ ay 295 [eV g b8 lc b1,.int .i64 a,.int .i64 b,.int .i64 c] (S l) fun r ah=>r= .tuple []/\∃a6,ah=S a6/\gl a (b+c) l a6/\∀k,a6[k]? =l[sn a b c k]?:=by
 have af:=H.ok l;have az:∀l m,Pv.look (.loc m) (S l).b=none:=fun l=>(H.ok l).obj.1;have hu:∀l m cs,cy (.loc m) cs (S l).b=(S l).b++[(.loc m,cs)]:=fun l m cs=>kc (az l m);have aw:∀m,aL.loc m∉cX (S l):=j5 af.obj;have hle:=H.le;refine bJ.mk mixed A1 ab9 ai2 Ψ af.obj fun aR cE=>?_;unfold PN;simp[eV,hu,aw,cN,az,H.slc,H.ssc];refine ik (fun i (lk:List α)=>⟨[(1,.int .i64 a),(2,.int .i64 b),(3,.int .i64 c),(4,.ptr (.loc 0) 0),(8,.int .i64 i)],[(.loc 0,[.func g lc,.func b8 b1])]++(S lk).b,(S lk).e,1,cX (S l)⟩) c (fun i lk=>lk.length=n/\gl a (b+c) l lk/\∀k,lk[k]? =l[sn a b i k]?) l
  (iP.obL af (Same.refl _) d7 (by simp[cN,az,aJ,aP,Ak (H.klc l au),Ak (H.ksc l au)]) aE aE) ⟨au,.refl _,fun k=>by simp[sn];split<;>(try split)<;>(try rfl)<;>(exfalso;omega)⟩ ?_ ?_
 ·rintro lk ⟨J,U,al⟩ _;simp;refine cI.at (S lk) (.inr rfl) (H.ok lk) (H.same _ _ au J) aE aE ?_;simp[cL,V1,aT,aU,aS];exact⟨lk,rfl,U,al⟩
 ·rintro i lk hi ⟨J,U,al⟩ _;have ao:((a:Int)+i)=(a+i:Nat):=Ω
  have aF:((b:Int)+i)=(b+i:Nat):=Ω
  simp[hi,cN,az,H.ssc];(with_reducible repeat' first|refine aj ?_|simp);rw[ao,aF];refine cA.ob (H.swap lk J Ω (a+i) (b+i) Ω Ω) (H.ok lk) aE aE (by simp[H.ksc lk J]) ?_;rintro r ah ⟨rfl,rfl⟩;refine⟨H.same _ _ J (by simp[J]),?_⟩;simp[gX,iJ,bX,az];(with_reducible repeat' first|refine aj ?_|simp);refine bR.rng (hd lk (a+i) (b+i)) hi ⟨by simp[J],.step U Ω Ω Ω Ω Ω Ω,fun k=>?_⟩ (iP.obL (L:=[(.loc 0,[.func g lc,.func b8 b1])]) (H.ok _) (H.same _ _ au (by simp[J])) d7 (by simp[cN,az,aJ,aP,Ak (H.klc (hd lk (a+i) (b+i)) (by simp[J])),Ak (H.ksc (hd lk (a+i) (b+i)) (by simp[J]))]) aE aE);rw[z8 _ _ _ _ Ω Ω,al,al,al];have:sn a b (i+1) k=if k=a+i then sn a b i (b+i)else if k=b+i then sn a b i (a+i)else sn a b i k:=by
   simp only[sn];repeat' split
   all_goals omega
  rw[this];split
  ·rfl
  ·split<;>rfl
section
variable (H:e1 S n g b8 lc b1 lt)
include H
theorem e1.loc{l:List α}(m:Nat):Pv.look (.loc m) (S l).b=none:=(H.ok l).obj.1 m
theorem e1.weak{l lk:List α}(au:l.length=n)(ad:lk.length=n){st:bo}{dK:List (Nat×ai)}(aI:∀x∈dK,Pv.get x.1 st.t=x.2/\aJ (mc (S lk) 1) x.2)(bA:Pv.look (.loc 0) st.b=some [.func g lc,.func b8 b1])
  (ab:∀k cs,Pv.look k (S lk).b=some cs->Pv.look k st.b=some cs) (he:∀k o,Pv.look k (S lk).e=some o->Pv.look k st.e=some o):
  iP (cX (S l)) st ⟨dK,(.loc 0,[.func g lc,.func b8 b1])::(S lk).b,(S lk).e,1,cX (S l)⟩:=
 iP.obL (L:=[(.loc 0,[.func g lc,.func b8 b1])]) (H.ok _) (H.same _ _ au ad) aI (by simp[bA,aJ,aP,Ak (H.klc lk ad),Ak (H.ksc lk ad)]) ab he
theorem e1.weakC{l lk:List α}(au:l.length=n)(ad:lk.length=n){t dK:List (Nat×ai)}{q:Nat}{o:List aL}(aI:∀x∈dK,Pv.get x.1 t=x.2/\aJ (mc (S lk) 1) x.2):
  iP (cX (S l)) ⟨t,(.loc 0,[.func g lc,.func b8 b1])::(S lk).b,(S lk).e,q,o⟩ ⟨dK,(.loc 0,[.func g lc,.func b8 b1])::(S lk).b,(S lk).e,1,cX (S l)⟩:=
 H.weak au ad aI (by simp[Pv.look]) (fun k cs ae=>by
  cases k with
  |loc m=>rw[H.loc m]at ae;cases ae
  |obj m=>simpa[Pv.look]using ae) (fun _ _ ae=>ae)
theorem e1.call{lk:List α}(J:lk.length=n){f:Nat}{args:List ai}{R:ai->List α->Prop}(aO:bJ ay f args (S lk) fun r ah=> ∃a6,ah=S a6/\R r a6)(bS:∀r a6,R r a6->a6.length=n)(ad:aP (inObs (S lk)) args){t:List (Nat×ai)}{D:List ai}{o:List aL}{d:Option Nat}{K:bo->Prop}
  (h:∀r a6,R r a6->K ⟨eM d r t,(.loc 0,D)::(S a6).b,(S a6).e,1,o++cX (S a6)⟩):cA ay f args ⟨t,(.loc 0,D)::(S lk).b,(S lk).e,1,o⟩ d K:=by
 refine cA.ob aO (H.ok lk) (fun k cs ae=>?_) (fun _ _ ae=>ae) ad ?_
 ·cases k with
  |loc m=>rw[H.loc m]at ae;cases ae
  |obj m=>simpa[Pv.look]using ae
 ·rintro r ah ⟨a6,rfl,aK⟩;refine⟨H.same _ _ J (bS _ _ aK),?_⟩;have ao:bX (S lk).b ((.loc 0,D)::(S lk).b)=[(.loc 0,D)]:=by have:=iJ (S lk).b [(aL.loc 0,D)] (S lk).b;rw[gX]at this;simpa[bX,H.loc]using this
  have aF:bX (S lk).e (S lk).e=[]:=gX _;have:=h _ _ aK;simp only[ao,aF];exact this
theorem e1.doSwap{lk:List α}(J:lk.length=n)(i j:Nat)(hi:i<n)(ag:j<n)(U:2<=n){t:List (Nat×ai)}{D:List ai}{o:List aL}{d:Option Nat}{K:bo->Prop}
  (h:K ⟨eM d (.tuple []) t,(.loc 0,D)::(S (hd lk i j)).b,(S (hd lk i j)).e,1,o++cX (S (hd lk i j))⟩):cA ay b8 (.int .i64 i:: .int .i64 j::b1) ⟨t,(.loc 0,D)::(S lk).b,(S lk).e,1,o⟩ d K:=
 H.call J (R:=fun r a6=>r= .tuple []/\a6=hd lk i j) ((H.swap lk J U i j hi ag).mono fun r ah ⟨ao,aF⟩=>⟨_,aF,ao,rfl⟩) (fun r a6 ⟨_,e⟩=>by rw[e];simp[J]) (by simp[aJ,aP,H.ksc lk J]) (by rintro r a6 ⟨rfl,rfl⟩;exact h)
theorem e1.doLess{lk:List α}(J:lk.length=n)(i j:Nat){x y:α}(hi:lk[i]? =some x)(ag:lk[j]? =some y){t:List (Nat×ai)}{D:List ai}{o:List aL}{d:Option Nat}{K:bo->Prop}
  (h:K ⟨eM d (.bool (lt x y)) t,(.loc 0,D)::(S lk).b,(S lk).e,1,o++cX (S lk)⟩):cA ay g (.int .i64 i:: .int .i64 j::lc) ⟨t,(.loc 0,D)::(S lk).b,(S lk).e,1,o⟩ d K:=
 H.call J (R:=fun r a6=>r= .bool (lt x y)/\a6=lk) ((H.less lk J i j x y hi ag).mono fun r ah ⟨ao,aF⟩=>⟨_,aF,ao,rfl⟩) (fun r a6 ⟨_,e⟩=>by rw[e];exact J) (by simp[aJ,aP,H.klc lk J]) (by rintro r a6 ⟨rfl,rfl⟩;exact h)
theorem e1.doFn{lk:List α}(J:lk.length=n){f:Nat}{args:List ai}{R:List α->Prop}(aO:bJ ay f args (S lk) fun r ah=>r= .tuple []/\∃a6,ah=S a6/\R a6)(bS:∀a6,R a6->a6.length=n)(ad:aP (inObs (S lk)) args){t:List (Nat×ai)}{D:List ai}{o:List aL}{d:Option Nat}{K:bo->Prop}
  (h:∀a6,R a6->K ⟨eM d (.tuple []) t,(.loc 0,D)::(S a6).b,(S a6).e,1,o++cX (S a6)⟩):cA ay f args ⟨t,(.loc 0,D)::(S lk).b,(S lk).e,1,o⟩ d K:=
 H.call J (R:=fun r a6=>r= .tuple []/\R a6) (aO.mono fun r ah ⟨ao,a6,aF,bM⟩=>⟨a6,aF,ao,bM⟩) (fun r a6 h=>bS a6 h.2) ad (by rintro r a6 ⟨rfl,aK⟩;exact h a6 aK)
theorem e1.kdata{lk:List α}(J:lk.length=n):aJ (inObs (S lk)) (eV g b8 lc b1):=by simp[eV,aJ,aP,H.klc lk J,H.ksc lk J]
theorem e1.ret{l lk:List α}(au:l.length=n)(J:lk.length=n){Q:ai->cM->Prop}{e:Exit}(he:e= .ret\/e= .normal){t:List (Nat×ai)}{D:List ai}{q:Nat}{o:List aL}(bI:Q (.tuple []) (S lk)):cI [] (S l) Q e ⟨t,(.loc 0,D)::(S lk).b,(S lk).e,q,o⟩:=by
 refine cI.at (S lk) he (H.ok lk) (H.same _ _ au J) (fun k cs ae=>?_) (fun _ _ ae=>ae) ?_
 ·cases k with
  |loc m=>rw[H.loc m]at ae;cases ae
  |obj m=>simpa[Pv.look]using ae
 ·simp[cL,aT,aS,aJ,aP,bI]
end
theorem iy(H:e1 S n g b8 lc b1 lt):ev (eV g b8 lc b1)=eV g b8 lc b1:=by simp[eV,ev,dr,H.slc,H.ssc]
theorem ig:ai.agg [.func g lc,.func b8 b1]=eV g b8 lc b1:=rfl
theorem adO(H:e1 S n g b8 lc b1 lt)(l:List α)(au:l.length=n)(a m b:Nat)(B8:a<m)(rR:m<b)(ab:b<=n):
  bJ ay 284 [eV g b8 lc b1,.int .i64 a,.int .i64 m,.int .i64 b] (S l) fun r ah=>r= .tuple []/\∃a6,ah=S a6/\gl a b l a6/\∀k,a6[k]? =l[hT a m b k]?:=by
 have af:=H.ok l;have az:∀l m,Pv.look (.loc m) (S l).b=none:=fun l=>(H.ok l).obj.1;have hu:∀l m cs,cy (.loc m) cs (S l).b=(S l).b++[(.loc m,cs)]:=fun l m cs=>kc (az l m);have aw:∀m,aL.loc m∉cX (S l):=j5 af.obj;have hle:=H.le;refine bJ.mk mixed A1 ab6 aiZ Ψ af.obj fun aR cE=>?_;unfold PK;simp[eV,hu,aw,cN,az];(with_reducible repeat' first|refine aj ?_|simp[hu,aw,cN,az]);refine oy (fun(x:(Nat×Nat)×List α)=>⟨[(2,.int .i64 m),(4,.ptr (.loc 0) 0),(8,.int .i64 x.1.1),(9,.int .i64 x.1.2)],(.loc 0,[.func g lc,.func b8 b1])::(S x.2).b,(S x.2).e,1,cX (S l)⟩) (fun x=>x.1.1+x.1.2)
  (fun x=>x.2.length=n/\0<x.1.1/\0<x.1.2/\a+x.1.1<=m/\m+x.1.2<=b/\gl a b l x.2/\∀k,l[hT a m b k]? =x.2[hT (m-x.1.1) m (m+x.1.2) k]?) ((m-a,b-m),l)
  (H.weak au au (by simp[aJ];omega) (by simp[cN,az]) aE aE) ⟨au,by simp;omega,by simp;omega,by simp;omega,by simp;omega,.refl _,fun k=>by simp[show m-(m-a)=a by omega,show m+(b-m)=b by omega]⟩ ?_
 rintro⟨⟨i,j⟩,lk⟩ ⟨J,hi,ag,jX,FE,U,al⟩ _;simp only at J hi ag jX FE U al;simp[Pv.look];((with_reducible repeat' first|refine aj ?_|simp[Pv.look]|((first|apply bD|apply bH|apply bG)<;>intro h<;>try simp at h))<;>(try exact b2))
 ·have ao:((m:Int)-i)=(m-i:Nat):=Ω
  simp only[iy H,H.slc,H.ssc,ao,ig];refine H.doFn J (JC H lk J (m-i) m j Ω Ω) (fun a6 h=>by rw[h.1.length];exact J) (by simp[aP,aJ,H.kdata J]) ?_;rintro a6 ⟨aZ,bm⟩;have bP:a6.length=n:=by rw[aZ.length];exact J
  simp;((with_reducible repeat' first|refine aj ?_|simp|((first|apply bD|apply bH|apply bG)<;>intro h<;>try simp at h))<;>(try exact b2));refine bR.whl ((i-j,j),a6) d8 ⟨bP,by simp;omega,ag,by simp;omega,FE,U.trans (aZ.mono Ω Ω),fun k=>?_⟩ (H.weakC au bP (by simp[aJ];omega));rw[al,bm];congr 1;simp only[hT,sn];repeat' split
  all_goals omega
 ·have ao:((m:Int)-i)=(m-i:Nat):=Ω
  have aF:((m:Int)+j-i)=(m+j-i:Nat):=Ω
  simp only[iy H,H.slc,H.ssc,ao,aF,ig];refine H.doFn J (JC H lk J (m-i) (m+j-i) i Ω Ω) (fun a6 h=>by rw[h.1.length];exact J) (by simp[aP,aJ,H.kdata J]) ?_;rintro a6 ⟨aZ,bm⟩;have bP:a6.length=n:=by rw[aZ.length];exact J
  simp;(with_reducible repeat' first|refine aj ?_|simp);refine bR.whl ((i,j-i),a6) d8 ⟨bP,hi,by simp;omega,jX,by simp;omega,U.trans (aZ.mono Ω Ω),fun k=>?_⟩ (H.weakC au bP (by simp[aJ];omega));rw[al,bm];congr 1;simp only[hT,sn];repeat' split
  all_goals omega
 ·have ao:((m:Int)-i)=(m-i:Nat):=Ω
  simp only[iy H,H.slc,H.ssc,ao,ig];refine H.doFn J (JC H lk J (m-i) m i Ω Ω) (fun a6 h=>by rw[h.1.length];exact J) (by simp[aP,aJ,H.kdata J]) ?_;rintro a6 ⟨aZ,bm⟩;have bP:a6.length=n:=by rw[aZ.length];exact J
  simp;refine H.ret au bP (.inr rfl) ⟨rfl,a6,rfl,U.trans (aZ.mono Ω Ω),fun k=>?_⟩;rw[al,bm];congr 1;simp only[hT,sn];repeat' split
  all_goals omega
end
end Go.Proofs.YtohaalphocaebaaGreat
