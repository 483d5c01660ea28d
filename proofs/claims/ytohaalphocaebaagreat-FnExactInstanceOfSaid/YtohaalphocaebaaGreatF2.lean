/- The most general unifier within the limits. -/
import Derived.Deep.LoopGhost
import Derived.Test.YtohaalphocaebaaGreatF1
set_option linter.all false
set_option maxHeartbeats 4000000
set_option maxRecDepth 4000
open Array renaming getElem?_toList->uC
open Bool renaming and_eq_true->cC,false_eq_true->hl,or_eq_true->lH
open Decidable renaming not_not->avH
open Go renaming Program->cG,TypeId->fZ
open Go.IntKind renaming bits->oH,signed->s9,u64->hA,wrap->ta
open Go.IntWalk renaming i64_in->pz
open Go.Op renaming bytesLess->hF
open Go.Region renaming wanted->pA
open Go.Result renaming andThen_ok->fX
open Go.Sem renaming run_bind->fT,run_pure->gJ
open Go.Value renaming cells->pB
open List renaming all_eq_true->ga,cons_append->bZ,drop_eq_getElem_cons->lI,getElem?_eq_getElem->cc,getElem?_eq_none->qO,getElem?_eq_some_iff->eP,length_append->pC,length_cons->pD,length_map->oK,map_cons->gS,map_nil->nh,mem_append->kn,mem_cons->fA,mem_cons_of_mem->oL,mem_filter->nZ,mem_map->hB,nil_append->b6,pairwise_cons->ni,pairwise_iff_getElem->qg,pairwise_map->td
open List.Nodup renaming length_le_of_subset->Pp
open List.Pairwise renaming imp_of_mem->arl,nil->E9
open List.Perm renaming eq_of_pairwise->I3
open List.cons renaming injEq->oJ
open Nat renaming le_refl->e7,le_trans->kB
open Ne renaming symm->ld
open Option renaming bind_some->lf,getD_none->nk,getD_some->jA,isSome_iff_exists->fU,isSome_none->mc,map_eq_some_iff->ha,map_some->nl
open Option.some renaming inj->eQ,injEq->dQ
open Prod.mk renaming injEq->jB
open _root_ renaming False->e1,Option->ba,UInt8->dM,beq_iff_eq->dV,congrArg->e2,decide_eq_false->hG,decide_eq_false_iff_not->fJ,decide_eq_true_eq->fc
namespace Go.Pv
section
open Go Go.RowKit
def aky(A:dm)(s ah:cH)(rm:ba aI):Prop:=(∀k,(look k ah.b).isSome->(look k s.b).isSome\/rm=some k)/\(∀k,(look k ah.e).isSome->(look k s.e).isSome\/rm=some k)/\(∀k,(look k s.b).isSome->(look k ah.b).isSome)/\(∀k,(look k s.e).isSome->(look k ah.e).isSome)/\
 (∀k,rm=some k->(∃j,k= .obj j)/\A.F k/\A.b k=none/\A.e k=none/\((look k ah.b).isSome\/(look k ah.e).isSome))
def aaz(P:cG)(n:Nat)(args:List ai)(A:dm)(d:ba Nat)(x:kX):Prop:=
 ∃s ah r rm,(∀k cs,look k s.b=some cs->A.b k=some cs/\aH (inObs s) cs)/\(∀k o,look k s.e=some o->A.e k=some o/\dW (inObs s) o)/\jf s/\jf ah/\aky A s ah rm/\aH (inObs s) args/\
  bH P n args s (fun eT dZ=>eT=r/\dZ=ah)/\x=⟨d,r,ah.b,ah.e,rm⟩
def aaA(P:cG)(n0 n:Nat)(args:List ai)(A:dm)(d:ba Nat)(x:kX):Prop:=
 ∃cQ r,d=some cQ/\(A.F (.loc (n0+cQ))/\A.b (.loc (n0+cQ))=none/\A.e (.loc (n0+cQ))=none)/\aH (fun _=>e1) args/\
  I5 P n (n0+cQ) args ⟨[],[]⟩ (fun eT dZ=>eT=r/\dZ=⟨[],[]⟩)/\x=⟨d,r,[],[],some (.loc (n0+cQ))⟩
def yQ:ai->Bool
 | .ptr (.loc _) _=>true
 | .eptr _=>true
 |_=>false
def gd.isB:gd->Bool
 | .loadB _ _ _=>true
 | .mgetB _ _ _ _ _=>true
 |_=>false
def gd.ptrOf(t:Nat->ai):gd->ai
 | .load _ _ x=>dI t x
 | .loadB _ _ x=>dI t x
 |_=>.junk
def eA(P:cG)(q:Bool)(n0:Nat):er->dm->kX->Prop
 | .s (.v d i),A,x=> ∃c p,qe A.t A.b A.e i=some (c,p)/\c/\(i.isLoad=true->i.isB=true\/q=true\/yQ (i.ptrOf A.t)=true)/\x=⟨some d,p,[],[],none⟩
 | .s (.box d none v),A,x=>(A.F (.loc (n0+d))/\A.b (.loc (n0+d))=none/\A.e (.loc (n0+d))=none)/\eF (dI A.t v)=true/\x=⟨some d,.ptr (.loc (n0+d)) 0,[(.loc (n0+d),cells (dI A.t v))],[],some (.loc (n0+d))⟩
 | .s (.alloc d none z),A,x=>(A.F (.loc (n0+d))/\A.b (.loc (n0+d))=none/\A.e (.loc (n0+d))=none)/\x=⟨some d,.ptr (.loc (n0+d)) 0,[(.loc (n0+d),cells z)],[],some (.loc (n0+d))⟩
 | .s (.store sz u v),A,x=> ∃k off cs,dI A.t u= .ptr k off/\A.b k=some cs/\(gG cs=true/\eF (dI A.t v)=true/\(cells (dI A.t v)).length=sz/\off+sz<=cs.length)/\x=⟨none,.junk,[(k,oA cs off (cells (dI A.t v)))],[],none⟩
 | .s (.bsl d sz el xs),A,x=>(A.F (.loc (n0+d))/\A.b (.loc (n0+d))=none/\A.e (.loc (n0+d))=none)/\tk sz (xs.map (dI A.t))/\x=⟨some d,.slice sz (.own (.loc (n0+d))) (xs.map (dI A.t)),[],[(.loc (n0+d),⟨xs.length,el,sz,none⟩)],some (.loc (n0+d))⟩
 | .s (.app d sz el u v),A,x=> ∃tag xs k8 ys,dI A.t u= .slice sz tag xs/\dI A.t v= .slice sz k8 ys/\
   ((∃k o,tag= .own k/\A.e k=some o/\(o.xs=none/\o.n=xs.length/\o.el=el/\o.sz=sz/\xs.length+ys.length<=lim)/\x=⟨some d,.slice sz (.own k) (xs++ys),[],[(k,⟨xs.length+ys.length,el,sz,none⟩)],none⟩)\/
    (tag= .nil/\ys.length<=lim/\(A.F (.loc (n0+d))/\A.b (.loc (n0+d))=none/\A.e (.loc (n0+d))=none)/\x=⟨some d,.slice sz (.own (.loc (n0+d))) ys,[],[(.loc (n0+d),⟨ys.length,el,sz,none⟩)],some (.loc (n0+d))⟩))
 | .s (.appm d _ sz el u v),A,x=> ∃k n xs k8 ys,dI A.t u= .row sz k n/\dI A.t v= .slice sz k8 ys/\A.e k=some ⟨n,el,sz,some xs⟩/\xs.length+ys.length<=lim/\x=⟨some d,.row sz k (xs.length+ys.length),[],[(k,⟨xs.length+ys.length,el,sz,some (xs++ys)⟩)],none⟩
 | .s (.storeE sz u v),A,x=> ∃k n i f el dT xs q,dI A.t u= .rptr dT k n i f/\A.e k=some ⟨n,el,dT,some xs⟩/\xs[i]? =some q/\(eF q=true/\eF (dI A.t v)=true/\(cells (dI A.t v)).length=sz/\f+sz<=(cells q).length/\0<sz)/\x=⟨none,.junk,[],[(k,⟨n,el,dT,some (xs.set i (mZ q f (cells (dI A.t v))))⟩)],none⟩
 | .s (.mkmap d (some m)),A,x=>(A.F (.obj m)/\A.b (.obj m)=none/\A.e (.obj m)=none)/\x=⟨some d,.gmap (.obj m),[(.obj m,[.hdm 0 []])],[],some (.obj m)⟩
 | .s (.mput ck u k v),A,x=> ∃m cs cs',dI A.t u= .gmap m/\A.b m=some cs/\ox ck (dI A.t k) (dI A.t v) cs=some cs'/\x=⟨none,.junk,[(m,cs')],[],none⟩
 | .call d f xs,A,x=> ∃n dg,dI A.t f= .func n dg/\((aaz P n (c2 (xs.map (dI A.t)++dg)) A d x/\(q=true->x.bw=[]/\x.ew=[]))\/aaA P n0 n (c2 (xs.map (dI A.t)++dg)) A d x)
 |_,_,_=>e1
inductive Ch where
 |v|l|n|s|w|a|c|m|r|k
 deriving DecidableEq
def er.mode:er->Ch
 | .s (.v _ (.loadB _ _ _))=>.m
 | .s (.v _ (.mgetB _ _ _ _ _))=>.m
 | .s (.v _ i)=>if i.isLoad then .l else .v
 | .s (.storeE _ _ _)=>.r
 | .s (.box _ _ _)=>.n
 | .s (.alloc _ _ _)=>.n
 | .s (.store _ _ _)=>.w
 | .s (.bsl _ _ _ _)=>.s
 | .s (.app _ _ _ _ _)=>.a
 | .s (.bslm _ _ _ _ _)=>.w
 | .s (.mks _ _ _ _ _ _)=>.w
 | .s (.appm _ _ _ _ _ _)=>.r
 | .s (.mkmap _ _)=>.k
 | .s (.mput _ _ _ _)=>.w
 | .s (.range _ _ _)=>.w
 | .call _ _ _=>.c
 | .next _ _=>.w
structure Jk (q:Bool) (n0:Nat) (m:Ch) (dst:ba Nat) (A:dm) (x:kX):Prop where
 d:x.d=dst
 b:∀k,(look k x.bw).isSome->(m= .n/\∃d,dst=some d/\k= .loc (n0+d)/\A.b k=none/\A.e k=none)\/m= .w\/(m= .c/\(∃j,k= .obj j)/\q=false)\/(m= .k/\(∃j,k= .obj j)/\A.b k=none/\A.e k=none)
 e:∀k,(look k x.ew).isSome->(m= .s/\∃d,dst=some d/\k= .loc (n0+d)/\A.b k=none/\A.e k=none)\/(m= .a/\(A.e k≠none\/ ∃d,dst=some d/\k= .loc (n0+d)/\A.b k=none/\A.e k=none))\/(m= .c/\(∃j,k= .obj j)/\q=false)\/(m= .r/\∃o,A.e k=some o/\o.xs≠none)
 r:∀k,x.rm=some k->(∃d,dst=some d/\k= .loc (n0+d))\/((m= .c\/m= .k)/\(∃j,k= .obj j)/\((look k x.bw).isSome\/(look k x.ew).isSome))
 ex:m= .a->∀k o,(look k x.ew).isSome->A.e k=some o->o.xs=none
 xn:m= .a\/m= .s->∀k o,look k x.ew=some o->o.xs=none
theorem tZ{α:Type}{k bT:aI}{x:α}(h:(look k [(bT,x)]).isSome):k=bT:=by
 simp only[look]at h;split at h
 ·rename_i e;exact e.symm
 ·cases h
theorem Mt{k bT:aI}{n el sz:Nat}{o:fY}(h:look k [(bT,(⟨n,el,sz,none⟩:fY))]=some o):o.xs=none:=by
 simp only[look]at h;split at h
 ·cases h;rfl
 ·cases h
theorem Zv{P:cG}{q:Bool}{n0:Nat}{i:er}{A:dm}{x:kX}(h:eA P q n0 i A x):Jk q n0 i.mode i.dst A x:=by
 cases i with
 |s i=>
  cases i with
  |v d i=>simp only[eA]at h;obtain⟨c,p,_,_,_,rfl⟩:=h;exact⟨rfl,fun k ad=>by simp[look]at ad,fun k ad=>by simp[look]at ad,fun k ad=>by simp at ad,fun _ k o ad=>by simp[look]at ad,fun _ k o ad=>by simp[look]at ad⟩
  |box d key v=>
   cases key with
   |some m=>simp only[eA]at h
   |none=>simp only[eA]at h;obtain⟨⟨_,U,au⟩,_,rfl⟩:=h;exact⟨rfl,fun k ad=>by obtain rfl:=tZ ad;exact .inl ⟨rfl,d,rfl,rfl,U,au⟩,fun k ad=>by simp[look]at ad,fun k ad=>by simp at ad;exact .inl ⟨d,rfl,ad.symm⟩,fun _ k o ad=>by simp[look]at ad,fun _ k o ad=>by simp[look]at ad⟩
  |alloc d key z=>
   cases key with
   |some m=>simp only[eA]at h
   |none=>simp only[eA]at h;obtain⟨⟨_,U,au⟩,rfl⟩:=h;exact⟨rfl,fun k ad=>by obtain rfl:=tZ ad;exact .inl ⟨rfl,d,rfl,rfl,U,au⟩,fun k ad=>by simp[look]at ad,fun k ad=>by simp at ad;exact .inl ⟨d,rfl,ad.symm⟩,fun _ k o ad=>by simp[look]at ad,fun _ k o ad=>by simp[look]at ad⟩
  |store sz u v=>simp only[eA]at h;obtain⟨k,off,cs,_,_,_,rfl⟩:=h;exact⟨rfl,fun k ad=>.inr (.inl rfl),fun k ad=>by simp[look]at ad,fun k ad=>by simp at ad,fun _ k o ad=>by simp[look]at ad,fun _ k o ad=>by simp[look]at ad⟩
  |bsl d sz el xs=>simp only[eA]at h;obtain⟨⟨_,U,au⟩,_,rfl⟩:=h;exact⟨rfl,fun k ad=>by simp[look]at ad,fun k ad=>by obtain rfl:=tZ ad;exact .inl ⟨rfl,d,rfl,rfl,U,au⟩,fun k ad=>by simp at ad;exact .inl ⟨d,rfl,ad.symm⟩,fun e=>by simp[er.mode]at e,fun _ k o ad=>Mt ad⟩
  |app d sz el u v=>
   simp only[eA]at h;obtain⟨tag,xs,k8,ys,_,_,h⟩:=h;rcases h with⟨k,o,_,J,⟨gV,_⟩,rfl⟩|⟨_,_,⟨_,U,au⟩,rfl⟩
   ·exact⟨rfl,fun k ad=>by simp[look]at ad,fun k ad=>by obtain rfl:=tZ ad;exact .inr (.inl ⟨rfl,.inl (by rw[J];simp)⟩),fun k ad=>by simp at ad,fun _ bT o' ad ay=>by obtain rfl:=tZ ad;rw[J]at ay;cases ay;exact gV,fun _ k o ad=>Mt ad⟩
   ·exact⟨rfl,fun k ad=>by simp[look]at ad,fun k ad=>by obtain rfl:=tZ ad;exact .inr (.inl ⟨rfl,.inr ⟨d,rfl,rfl,U,au⟩⟩),fun k ad=>by simp at ad;exact .inl ⟨d,rfl,ad.symm⟩,fun _ bT o' ad ay=>(by obtain rfl:=tZ ad;rw[au]at ay;cases ay),fun _ k o ad=>Mt ad⟩
  |bslm d key sz el xs=>simp only[eA]at h
  |mks d key sz el z x=>simp only[eA]at h
  |appm d key sz el u v=>simp only[eA]at h;obtain⟨k,n,xs,k8,ys,_,_,J,_,rfl⟩:=h;exact⟨rfl,fun k ad=>by simp[look]at ad,fun k ad=>by obtain rfl:=tZ ad;exact .inr (.inr (.inr ⟨rfl,_,J,Ψ⟩)),fun k ad=>by simp at ad,fun e=>by simp[er.mode]at e,fun e=>by simp[er.mode]at e⟩
  |storeE sz u v=>simp only[eA]at h;obtain⟨k,n,i,f,el,dT,xs,q,_,J,_,_,rfl⟩:=h;exact⟨rfl,fun k ad=>by simp[look]at ad,fun k ad=>by obtain rfl:=tZ ad;exact .inr (.inr (.inr ⟨rfl,_,J,Ψ⟩)),fun k ad=>by simp at ad,fun e=>by simp[er.mode]at e,fun e=>by simp[er.mode]at e⟩
  |mkmap d key=>
   cases key with
   |none=>simp only[eA]at h
   |some m=>simp only[eA]at h;obtain⟨⟨_,U,au⟩,rfl⟩:=h;exact⟨rfl,fun k ad=>by obtain rfl:=tZ ad;exact .inr (.inr (.inr ⟨rfl,⟨m,rfl⟩,U,au⟩)),fun k ad=>by simp[look]at ad,fun k ad=>by simp at ad;subst ad;exact .inr ⟨.inr rfl,⟨m,rfl⟩,.inl (by simp[look])⟩,fun e=>by simp[er.mode]at e,fun e=>by simp[er.mode]at e⟩
  |mput ck x k v=>simp only[eA]at h;obtain⟨m,cs,cs',_,_,_,rfl⟩:=h;exact⟨rfl,fun k ad=>.inr (.inl rfl),fun k ad=>by simp[look]at ad,fun k ad=>by simp at ad,fun e=>by simp[er.mode]at e,fun e=>by simp[er.mode]at e⟩
  |range d key x=>simp only[eA]at h
 |next d x=>simp only[eA]at h
 |call d f xs=>
  simp only[eA]at h;obtain⟨n,dg,_,h⟩:=h;rcases h with⟨⟨s,ah,r,rm,_,_,_,ay,UL,_,_,rfl⟩,bm⟩|⟨cQ,r,rfl,_,_,_,rfl⟩;rotate_left
  ·exact⟨rfl,fun k ad=>by simp[look]at ad,fun k ad=>by simp[look]at ad,fun k ad=>by simp at ad;exact .inl ⟨cQ,rfl,ad.symm⟩,fun _ k o ad=>by simp[look]at ad,fun _ k o ad=>by simp[look]at ad⟩
  refine⟨rfl,fun k ad=>.inr (.inr (.inl ⟨rfl,?_,?_⟩)),fun k ad=>.inr (.inr (.inl ⟨rfl,?_,?_⟩)),fun k ad=>.inr ⟨.inl rfl,(UL.2.2.2.2 k ad).1,(UL.2.2.2.2 k ad).2.2.2.2⟩,fun e=>by simp[er.mode]at e,fun e=>by simp[er.mode]at e⟩
  ·cases k with
   |loc m=>rw[ay.1 m]at ad;cases ad
   |obj m=>exact⟨m,rfl⟩
  ·cases q with
   |false=>rfl
   |true=>rw[(bm rfl).1]at ad;simp[look]at ad
  ·cases k with
   |loc m=>rw[ay.2 m]at ad;cases ad
   |obj m=>exact⟨m,rfl⟩
  ·cases q with
   |false=>rfl
   |true=>rw[(bm rfl).2]at ad;simp[look]at ad
theorem Ps{P:cG}{q:Bool}{n0:Nat}{i:er}{A gu:dm}{x:kX}(h:eA P q n0 i A x)(aN:qV i.looks A.t gu.t)
  (ar:i.mode= .l->∀k,(q=true\/ ∃m,k= .loc m)->A.b k≠none->gu.b k=A.b k) (UC:i.mode= .m->∀k,A.b k≠none->gu.b k=A.b k)
  (ls:i.mode= .l->q=true->∀k o,A.e k=some o->o.xs≠none->gu.e k=some o)
  (ax:∀d,i.dst=some d->(i.mode= .n\/i.mode= .s\/i.mode= .a\/i.mode= .c)->(A.F (.loc (n0+d))/\A.b (.loc (n0+d))=none/\A.e (.loc (n0+d))=none)->(gu.F (.loc (n0+d))/\gu.b (.loc (n0+d))=none/\gu.e (.loc (n0+d))=none))
  (bu:i.mode= .a->∀k o,A.e k=some o->gu.e k=some o) (hw:i.mode= .w->∀k,gu.b k=A.b k) (aiI:i.mode= .k->∀m,(A.F (.obj m)/\A.b (.obj m)=none/\A.e (.obj m)=none)->(gu.F (.obj m)/\gu.b (.obj m)=none/\gu.e (.obj m)=none)) (Dv:i.mode= .r->∀k o,A.e k=some o->o.xs≠none->gu.e k=some o)
  (aw:i.mode= .c->∀m,gu.b (.obj m)=A.b (.obj m)/\gu.e (.obj m)=A.e (.obj m)/\(A.F (.obj m)->gu.F (.obj m))):eA P q n0 i gu x:=by
 cases i with
 |s i=>
  cases i with
  |v d i=>
   simp only[eA]at h⊢;obtain⟨c,p,J,U,au,a6⟩:=h;by_cases jP:∃agg sz y,i= .loadB agg sz y
   ·obtain⟨agg,sz,y,rfl⟩:=jP;simp only[er.looks,ey.looks,gd.looks]at aN;have vc:=gC aN;refine⟨c,p,?_,U,fun _=>.inl rfl,a6⟩;rw[<-J];simp only[qe,<-vc];have hm:=UC (by simp[er.mode]);simp only[qe]at J;cases bB:dI A.t y<;>simp only[sD];rename_i key off;rw[bB]at J;simp only[sD]at J;cases ab:A.b key with
    |none=>simp[ab]at J
    |some cs=>have:gu.b key=A.b key:=hm key (by rw[ab];simp);rw[this,ab]
   by_cases Gl:∃ck zero ok y z,i= .mgetB ck zero ok y z
   ·obtain⟨ck,zero,ok,y,z,rfl⟩:=Gl;simp only[er.looks,ey.looks,gd.looks]at aN;obtain⟨t1,t2⟩:=kD aN;refine⟨c,p,?_,U,fun _=>.inl rfl,a6⟩;simp only[qe]at J⊢;rw[<-gC t1,<-gC t2];exact WC (UC (by simp[er.mode])) J
   replace au:i.isLoad=true->q=true\/yQ (i.ptrOf A.t)=true:=fun oi=>(au oi).resolve_left (fun ab=>by cases i<;>simp[gd.isB]at ab;exact jP ⟨_,_,_,rfl⟩;exact Gl ⟨_,_,_,_,_,rfl⟩);have ah1:i.isLoad=true->(er.s (.v d i)).mode= .l:=by intro oi;cases i<;>simp only[gd.isLoad]at oi<;>first|(cases oi;done)|(simp[er.mode,gd.isLoad];done)|exact absurd ⟨_,_,_,rfl⟩ jP|exact absurd ⟨_,_,_,_,_,rfl⟩ Gl
   by_cases oi:i.isLoad=true
   ·have bm:∀(bB:yQ (i.ptrOf A.t)=false),∀k,A.b k≠none->gu.b k=A.b k:=fun bB k ad=>ar (ah1 oi) k (.inl ((au oi).resolve_right (by rw[bB];simp))) ad;cases i<;>simp only[gd.isLoad]at oi<;>try(cases oi;done)
    case mget ck zero ok y z=>simp only[er.looks,ey.looks,gd.looks]at aN;obtain⟨t1,t2⟩:=kD aN;refine⟨c,p,?_,U,fun _=>.inr (au rfl),a6⟩;simp only[qe]at J⊢;rw[<-gC t1,<-gC t2];exact WC (bm rfl) J
    case ment y=>simp only[er.looks,ey.looks,gd.looks]at aN;refine⟨c,p,?_,U,fun _=>.inr (au rfl),a6⟩;simp only[qe]at J⊢;rw[<-gC aN];exact ajY (bm rfl) J
    case mlen y=>simp only[er.looks,ey.looks,gd.looks]at aN;refine⟨c,p,?_,U,fun _=>.inr (au rfl),a6⟩;simp only[qe]at J⊢;rw[<-gC aN];exact akj (bm rfl) J
    case loadB agg sz y=>exact absurd ⟨_,_,_,rfl⟩ jP
    case mgetB=>exact absurd ⟨_,_,_,_,_,rfl⟩ Gl
    rename_i agg sz y;simp only[er.looks,ey.looks,gd.looks]at aN;have vc:=gC aN;refine⟨c,p,?_,U,fun _=>.inr (by have:=au rfl;simpa only[gd.ptrOf,<-vc]using this),a6⟩;rw[<-J];simp only[qe,<-vc];have hm:=ar (by simp[er.mode,gd.isLoad]);simp only[qe]at J;have tz:=au rfl;simp only[gd.ptrOf]at tz;cases bB:dI A.t y<;>simp only[sD]
    ·rename_i key off;rw[bB]at J tz;simp only[sD]at J;cases ab:A.b key with
     |none=>simp[ab]at J
     |some cs=>have:gu.b key=A.b key:=hm key (by rcases tz with h|h;exact .inl h;cases key;exact .inr ⟨_,rfl⟩;simp[yQ]at h) (by rw[ab];simp);rw[this,ab]
    ·rename_i dT key n i f;rw[bB]at J tz;simp only[sD]at J;have UX:q=true:=tz.resolve_right (by simp[yQ]);unfold zs at J;split at J
     ·rename_i n' el jz xs he;rw[he,ls (by simp[er.mode,gd.isLoad]) UX key _ he Ψ]
     ·cases J
   ·have oi:i.isLoad=false:=by simpa using oi
    refine⟨c,p,?_,U,(fun e=>by rw[oi]at e;cases e),a6⟩;rw[<-J];exact(apB (by simpa only[er.looks,ey.looks]using aN) oi).symm
  |box d key v=>
   cases key with
   |some m=>simp only[eA]at h
   |none=>simp only[eA,er.looks,ey.looks]at h aN⊢;obtain⟨J,U,au⟩:=h;rw[<-gC aN];exact⟨ax d rfl (.inl rfl) J,U,au⟩
  |alloc d key z=>
   cases key with
   |some m=>simp only[eA]at h
   |none=>simp only[eA]at h⊢;exact⟨ax d rfl (.inl rfl) h.1,h.2⟩
  |store sz u v=>simp only[eA,er.looks,ey.looks]at h aN⊢;obtain⟨J,U⟩:=kD aN;rw[<-gC J,<-gC U];obtain⟨k,off,cs,g1,g2,g3,g4⟩:=h;exact⟨k,off,cs,g1,by rw[hw rfl];exact g2,g3,g4⟩
  |bsl d sz el xs=>simp only[eA,er.looks,ey.looks]at h aN⊢;rw[<-Hs aN];exact⟨ax d rfl (.inr (.inl rfl)) h.1,h.2⟩
  |app d sz el u v=>
   simp only[eA,er.looks,ey.looks]at h aN⊢;obtain⟨J,U⟩:=kD aN;rw[<-gC J,<-gC U];obtain⟨tag,xs,k8,ys,g1,g2,h⟩:=h;refine⟨tag,xs,k8,ys,g1,g2,?_⟩;rcases h with⟨k,o,al,aE,bn⟩|⟨al,aE,bn,dh⟩
   ·exact .inl ⟨k,o,al,bu rfl k o aE,bn⟩
   ·exact .inr ⟨al,aE,ax d rfl (.inr (.inr (.inl rfl))) bn,dh⟩
  |bslm d key sz el xs=>simp only[eA]at h
  |mks d key sz el z x=>simp only[eA]at h
  |appm d key sz el u v=>simp only[eA,er.looks,ey.looks]at h aN⊢;obtain⟨J,U⟩:=kD aN;rw[<-gC J,<-gC U];obtain⟨k,n,xs,k8,ys,g1,g2,g3,g4,g5⟩:=h;exact⟨k,n,xs,k8,ys,g1,g2,Dv rfl k _ g3 Ψ,g4,g5⟩
  |storeE sz u v=>simp only[eA,er.looks,ey.looks]at h aN⊢;obtain⟨J,U⟩:=kD aN;rw[<-gC J,<-gC U];obtain⟨k,n,i,f,el,dT,xs,q,g1,g2,g3⟩:=h;exact⟨k,n,i,f,el,dT,xs,q,g1,Dv rfl k _ g2 Ψ,g3⟩
  |mkmap d key=>
   cases key with
   |none=>simp only[eA]at h
   |some m=>simp only[eA]at h⊢;exact⟨aiI rfl m h.1,h.2⟩
  |mput ck u k v=>simp only[eA,er.looks,ey.looks]at h aN⊢;obtain⟨t1,t3⟩:=kD aN;obtain⟨t1,t2⟩:=kD t1;obtain⟨m,cs,cs',g1,g2,g3,g4⟩:=h;rw[<-gC t1,<-gC t2,<-gC t3];exact⟨m,cs,cs',g1,by rw[hw rfl];exact g2,g3,g4⟩
  |range d key x=>simp only[eA]at h
 |next d x=>simp only[eA]at h
 |call d f xs=>
  simp only[eA,er.looks]at h aN⊢;obtain⟨J,U⟩:=kD aN;rw[<-gC J,<-Hs U];obtain⟨n,dg,g1,h⟩:=h;rcases h with⟨⟨s,ah,r,rm,bK,cq,da,hT,kE,pN⟩,g3⟩|⟨cQ,r,rfl,bK,cq⟩;rotate_left
  ·exact⟨n,dg,g1,.inr ⟨cQ,r,rfl,ax cQ rfl (.inr (.inr (.inr rfl))) bK,cq⟩⟩
  refine⟨n,dg,g1,.inl ⟨⟨s,ah,r,rm,fun k cs ad=>?_,fun k o ad=>?_,da,hT,⟨kE.1,kE.2.1,kE.2.2.1,kE.2.2.2.1,fun k ad=>?_⟩,pN⟩,g3⟩⟩
  ·cases k with
   |loc m=>rw[da.1 m]at ad;cases ad
   |obj m=>rw[(aw rfl m).1];exact bK _ _ ad
  ·cases k with
   |loc m=>rw[da.2 m]at ad;cases ad
   |obj m=>rw[(aw rfl m).2.1];exact cq _ _ ad
  ·obtain⟨⟨j,rfl⟩,d2,d3,d4,d5⟩:=kE.2.2.2.2 k ad;exact⟨⟨j,rfl⟩,(aw rfl j).2.2 d2,by rw[(aw rfl j).1];exact d3,by rw[(aw rfl j).2.1];exact d4,d5⟩
def lE(d:ba Nat):kX:=⟨d,.tuple [],[],[],none⟩
def kY(P:cG)(q:Bool)(n0:Nat)(g:dd)(A:dm)(x:kX):Prop:=
 match g.g with
 |none=>eA P q n0 g.i A x
 |some (s,w)=>match A.t s with
  | .bool b=>(b=w/\eA P q n0 g.i A x)\/(b= !w/\x=lE g.i.dst)
  | .tuple []=>x=lE g.i.dst
  |_=>e1
def fh:Ch->Ch->Bool
 | .v,_=>true
 |_,.v=>true
 | .l,.l| .l,.n| .l,.s| .l,.a| .l,.c=>true
 | .n,.n| .n,.s| .n,.a| .n,.c=>true
 | .s,.l| .s,.n| .s,.s| .s,.c=>true
 | .a,.l| .a,.n| .a,.s=>true
 | .c,.l| .c,.n| .c,.s=>true
 | .l,.m| .m,.l| .m,.m| .m,.n| .m,.s| .m,.a| .s,.m| .a,.m=>true
 | .l,.k| .m,.k| .n,.k| .s,.k=>true
 | .m,.r| .r,.m| .r,.n| .r,.s| .n,.r| .s,.r| .r,.w| .w,.r=>true
 |_,_=>false
def Ap(g h:dd):Bool:=(match g.i.dst with|some d=> !(h.looks.contains d)&&h.i.dst !=some d|none=>true)&&(match h.i.dst with|some d=> !(g.looks.contains d)|none=>true)&&fh g.i.mode h.i.mode
theorem Zw(q:Bool)(n0:Nat)(m:Ch)(d:ba Nat)(A:dm):Jk q n0 m d A (lE d):=⟨rfl,fun k ad=>by simp[lE,look]at ad,fun k ad=>by simp[lE,look]at ad,fun k ad=>by simp[lE]at ad,fun _ k o ad=>by simp[lE,look]at ad,fun _ k o ad=>by simp[lE,look]at ad⟩
theorem OT{P:cG}{q:Bool}{n0:Nat}{g:dd}{A:dm}{x:kX}(h:kY P q n0 g A x):Jk q n0 g.i.mode g.i.dst A x:=by
 unfold kY at h;split at h
 ·exact Zv h
 ·split at h
  ·rcases h with⟨_,h⟩|⟨_,rfl⟩
   ·exact Zv h
   ·exact Zw _ _ _ _ _
  ·subst h;exact Zw _ _ _ _ _
  ·exact h.elim
theorem tu{A:dm}{x:kX}{k:aI}(h:look k x.bw=none):(A.do x).b k=A.b k:=by simp[dm.do,iJ,h]
theorem tv{A:dm}{x:kX}{k:aI}(h:look k x.ew=none):(A.do x).e k=A.e k:=by simp[dm.do,iJ,h]
theorem J9{A:dm}{x:kX}{k:aI}(h:(A.do x).b k=none):A.b k=none:=by
 simp only[dm.do,iJ]at h;split at h
 ·cases h
 ·exact h
theorem Ka{A:dm}{x:kX}{k:aI}(h:(A.do x).e k=none):A.e k=none:=by
 simp only[dm.do,iJ]at h;split at h
 ·cases h
 ·exact h
theorem l2{α:Type}{o:ba α}(h:¬o.isSome):o=none:=by cases o<;>simp at h⊢
theorem Pu{P:cG}{q:Bool}{n0:Nat}{g:dd}{A gu:dm}{x:kX}(h:kY P q n0 g A x)(aN:qV g.looks A.t gu.t)(hm:eA P q n0 g.i A x->eA P q n0 g.i gu x):kY P q n0 g gu x:=by
 unfold kY at h⊢;cases a7:g.g with
 |none=>simp only[a7]at h⊢;exact hm h
 |some zA=>
  obtain⟨s,w⟩:=zA;have:A.t s=gu.t s:=aN s (by simp[dd.looks,a7]);simp only[a7,this]at h⊢;split at h
  ·rcases h with⟨J,U⟩|h
   ·exact .inl ⟨J,hm U⟩
   ·exact .inr h
  ·exact h
  ·exact h
theorem swap{P:cG}{q:Bool}{n0:Nat}{g h:dd}(Ut:Ap g h=true){A:dm}{x y:kX}(af:kY P q n0 g A x)(aO:kY P q n0 h (A.do x) y):
  kY P q n0 h A y/\kY P q n0 g (A.do y) x/\x.apart y:=by
 simp only[Ap,cC]at Ut;obtain⟨⟨fC,eW⟩,hm⟩:=Ut;have zB:=OT af;have cM:∀d cj,g.i.dst=some d->h.i.dst=some cj->d≠cj:=by intro d cj al aE e;simp only[al,cC,bne_iff_ne]at fC;exact fC.2 (by rw[aE,e])
 have Gn:qV h.looks (A.do x).t A.t:=by intro i hi;simp only[dm.do];rw[if_neg];intro e;rw[zB.d]at e;simp only[e,cC,Bool.not_eq_true',List.contains_eq_mem,fJ]at fC;exact fC.1 hi
 have rf:∀k,(look k x.bw).isSome->_:=zB.b;have hle:∀k,(look k x.ew).isSome->_:=zB.e;have VM:kY P q n0 h A y:=by
  refine Pu aO Gn fun ny=>Ps ny (fun i hi=>Gn i (by simp[dd.looks,hi])) (fun e k ad ab=>?_) (fun e k ab=>?_) (fun e bm k o ay gV=>?_) (fun d aR wM lQ=>?_) (fun e k o ay=>?_) (fun e k=>?_) (fun e m lQ=>⟨lQ.1.1,J9 lQ.2.1,Ka lQ.2.2⟩) (fun e k o ay gV=>?_) (fun e m=>?_)
  ·rw[tu (l2 fun ag=>?_)];rcases rf k ag with⟨al,_⟩|al|⟨al,⟨j,aE⟩,bn⟩|⟨al,_⟩;rotate_left 3
   ·rw[e,al]at hm;simp[fh]at hm
   ·rw[e,al]at hm;simp[fh]at hm
   ·rw[e,al]at hm;simp[fh]at hm
   ·rcases ad with ad|⟨m,ad⟩
    ·rw[ad]at bn;cases bn
    ·rw[ad]at aE;cases aE
  ·rw[tu (l2 fun ag=>?_)];rcases rf k ag with⟨al,_⟩|al|⟨al,_⟩|⟨al,_⟩<;>(rw[e,al]at hm;simp[fh]at hm)
  ·rw[e]at hm;cases ik:look k x.ew with
   |none=>rw[tv ik]at ay;exact ay
   |some o'=>
    exfalso;have Lz:(A.do x).e k=some o':=by simp[dm.do,iJ,ik]
    rw[Lz]at ay;cases ay;rcases hle k (by simp[ik])with⟨al,_⟩|⟨al,_⟩|⟨al,_,bn⟩|⟨al,_⟩
    ·exact gV (zB.xn (.inr al) k _ ik)
    ·exact gV (zB.xn (.inl al) k _ ik)
    ·rw[bm]at bn;cases bn
    ·rw[al]at hm;simp[fh]at hm
  ·exact⟨lQ.1.1,J9 lQ.2.1,Ka lQ.2.2⟩
  ·rw[tv (l2 fun ag=>?_)]at ay
   ·exact ay
   ·rw[e]at hm;rcases hle k ag with⟨al,_⟩|⟨al,_⟩|⟨al,_⟩|⟨al,_⟩<;>(rw[al]at hm;simp[fh]at hm)
  ·rw[tu (l2 fun ag=>?_)];rw[e]at hm;rcases rf k ag with⟨al,_⟩|al|⟨al,_⟩|⟨al,_⟩<;>(rw[al]at hm;simp[fh]at hm)
  ·rw[e]at hm;cases ik:look k x.ew with
   |none=>rw[tv ik]at ay;exact ay
   |some o'=>
    exfalso;have Lz:(A.do x).e k=some o':=by simp[dm.do,iJ,ik]
    rw[Lz]at ay;cases ay;rcases hle k (by simp[ik])with⟨al,_⟩|⟨al,_⟩|⟨al,_⟩|⟨al,_⟩
    ·exact gV (zB.xn (.inr al) k _ ik)
    ·rw[al]at hm;simp[fh]at hm
    ·rw[al]at hm;simp[fh]at hm
    ·rw[al]at hm;simp[fh]at hm
  ·rw[e]at hm;refine⟨?_,?_,fun hb=>hb.1⟩
   ·rw[tu (l2 fun ag=>?_)];rcases rf _ ag with⟨al,d,_,aE,_⟩|al|⟨al,_⟩|⟨al,_⟩;rotate_left 3
    ·rw[al]at hm;simp[fh]at hm
    ·cases aE
    ·rw[al]at hm;simp[fh]at hm
    ·rw[al]at hm;simp[fh]at hm
   ·rw[tv (l2 fun ag=>?_)];rcases hle _ ag with⟨al,d,_,aE,_⟩|⟨al,_⟩|⟨al,_⟩|⟨al,_⟩
    ·cases aE
    ·rw[al]at hm;simp[fh]at hm
    ·rw[al]at hm;simp[fh]at hm
    ·rw[al]at hm;simp[fh]at hm
 have ty:=OT VM;have Ub:qV g.looks A.t (A.do y).t:=by intro i hi;simp only[dm.do];rw[if_neg];intro e;rw[ty.d]at e;simp only[e,Bool.not_eq_true',List.contains_eq_mem,fJ]at eW;exact eW hi
 refine⟨VM,?_,?_⟩
 ·refine Pu af Ub fun ny=>Ps ny (fun i hi=>Ub i (by simp[dd.looks,hi])) (fun e k ad ab=>?_) (fun e k ab=>?_) (fun e bm k o ay gV=>?_) (fun d aR wM lQ=>?_) (fun e k o ay=>?_) (fun e k=>?_) (fun e m lQ=>?_) (fun e k o ay gV=>?_) (fun e m=>?_)
  ·refine tu (l2 fun ag=>?_);rcases ty.b k ag with⟨al,d,_,_,aE,_⟩|al|⟨al,⟨j,aE⟩,bn⟩|⟨_,_,aE,_⟩;rotate_left 3
   ·exact ab aE
   ·exact ab aE
   ·rw[e,al]at hm;simp[fh]at hm
   ·rcases ad with ad|⟨m,ad⟩
    ·rw[ad]at bn;cases bn
    ·rw[ad]at aE;cases aE
  ·refine tu (l2 fun ag=>?_);rcases ty.b k ag with⟨al,d,_,_,aE,_⟩|al|⟨al,_⟩|⟨_,_,aE,_⟩;rotate_left 3
   ·exact ab aE
   ·exact ab aE
   ·rw[e,al]at hm;simp[fh]at hm
   ·rw[e,al]at hm;simp[fh]at hm
  ·rw[tv (l2 fun ag=>?_)]
   ·exact ay
   ·rcases ty.e k ag with⟨al,d,_,_,_,aE⟩|⟨al,aE⟩|⟨al,_,bn⟩|⟨al,_⟩
    ·rw[aE]at ay;cases ay
    ·exact gV (ty.ex al k o ag ay)
    ·rw[bm]at bn;cases bn
    ·rw[e,al]at hm;simp[fh]at hm
  ·refine⟨⟨lQ.1,fun q3=>?_⟩,?_,?_⟩
   ·rcases ty.r _ q3 with⟨cj,al,aE⟩|⟨_,⟨j,aE⟩,_⟩
    ·simp only[aI.loc.injEq]at aE;exact cM d cj aR al Ω
    ·cases aE
   ·rw[tu (l2 fun ag=>?_)]
    ·exact lQ.2.1
    ·rcases ty.b _ ag with⟨al,cj,aE,bn,_⟩|al|⟨al,⟨j,aE⟩,_⟩|⟨al,⟨j,aE⟩,_⟩;rotate_left 3
     ·cases aE
     ·simp only[aI.loc.injEq]at bn;exact cM d cj aR aE Ω
     ·rcases wM with aE|aE|aE|aE<;>(rw[al,aE]at hm;simp[fh]at hm)
     ·cases aE
   ·rw[tv (l2 fun ag=>?_)]
    ·exact lQ.2.2
    ·rcases ty.e _ ag with⟨al,cj,aE,bn,_⟩|⟨al,aE⟩|⟨al,⟨j,aE⟩,_⟩|⟨al,o,aE,_⟩
     ·simp only[aI.loc.injEq]at bn;exact cM d cj aR aE Ω
     ·rcases aE with aE|⟨cj,aE,bn,_⟩
      ·exact aE lQ.2.2
      ·simp only[aI.loc.injEq]at bn;exact cM d cj aR aE Ω
     ·cases aE
     ·rw[lQ.2.2]at aE;cases aE
  ·rw[tv (l2 fun ag=>?_)]
   ·exact ay
   ·rw[e]at hm;rcases ty.e k ag with⟨al,d,_,_,_,aE⟩|⟨al,_⟩|⟨al,_⟩|⟨al,_⟩
    ·rw[aE]at ay;cases ay
    ·rw[al]at hm;simp[fh]at hm
    ·rw[al]at hm;simp[fh]at hm
    ·rw[al]at hm;simp[fh]at hm
  ·refine tu (l2 fun ag=>?_);rw[e]at hm;rcases ty.b k ag with⟨al,_⟩|al|⟨al,_⟩|⟨al,_⟩<;>(rw[al]at hm;simp[fh]at hm)
  ·rw[e]at hm;refine⟨⟨lQ.1,fun q3=>?_⟩,?_,?_⟩
   ·rcases ty.r _ q3 with⟨cj,al,aE⟩|⟨al|al,_⟩
    ·cases aE
    ·rw[al]at hm;simp[fh]at hm
    ·rw[al]at hm;simp[fh]at hm
   ·rw[tu (l2 fun ag=>?_)]
    ·exact lQ.2.1
    ·rcases ty.b _ ag with⟨al,_⟩|al|⟨al,_⟩|⟨al,_⟩<;>(rw[al]at hm;simp[fh]at hm)
   ·rw[tv (l2 fun ag=>?_)]
    ·exact lQ.2.2
    ·rcases ty.e _ ag with⟨al,_⟩|⟨al,_⟩|⟨al,_⟩|⟨al,o,aE,_⟩
     ·rw[al]at hm;simp[fh]at hm
     ·rw[al]at hm;simp[fh]at hm
     ·rw[al]at hm;simp[fh]at hm
     ·rw[lQ.2.2]at aE;cases aE
  ·rw[tv (l2 fun ag=>?_)]
   ·exact ay
   ·rw[e]at hm;rcases ty.e k ag with⟨al,d,_,_,_,aE⟩|⟨al,_⟩|⟨al,_⟩|⟨al,_⟩
    ·rw[aE]at ay;cases ay
    ·rw[al]at hm;simp[fh]at hm
    ·rw[al]at hm;simp[fh]at hm
    ·rw[al]at hm;simp[fh]at hm
  ·rw[e]at hm;refine⟨?_,?_,fun hb=>⟨hb,fun q3=>?_⟩⟩;rotate_left 2
   ·rcases ty.r _ q3 with⟨cj,_,aE⟩|⟨aE|aE,_⟩
    ·cases aE
    ·rw[aE]at hm;simp[fh]at hm
    ·rw[aE]at hm;simp[fh]at hm
   ·refine tu (l2 fun ag=>?_);rcases ty.b _ ag with⟨al,d,_,aE,_⟩|al|⟨al,_⟩|⟨al,_⟩;rotate_left 3
    ·rw[al]at hm;simp[fh]at hm
    ·cases aE
    ·rw[al]at hm;simp[fh]at hm
    ·rw[al]at hm;simp[fh]at hm
   ·refine tv (l2 fun ag=>?_);rcases ty.e _ ag with⟨al,d,_,aE,_⟩|⟨al,_⟩|⟨al,_⟩|⟨al,_⟩
    ·cases aE
    ·rw[al]at hm;simp[fh]at hm
    ·rw[al]at hm;simp[fh]at hm
    ·rw[al]at hm;simp[fh]at hm
 ·refine⟨fun i hi e=>?_,fun k ad=>l2 fun ag=>?_,fun k ad=>l2 fun ag=>?_⟩
  ·rw[zB.d]at hi;rw[ty.d]at e;exact cM i i hi e rfl
  ·rcases rf k ad with⟨bC,d,a2,a3,_⟩|bC|⟨bC,⟨j,a2⟩,_⟩|⟨bC,_⟩<;>rcases ty.b k ag with⟨ch,cj,ca,fB,_⟩|ch|⟨ch,⟨dP,ca⟩,_⟩|⟨ch,⟨dP,ca⟩,_⟩;all_goals first|(rw[bC,ch]at hm;simp[fh]at hm;done)|skip
   ·rw[a3]at fB;simp only[aI.loc.injEq]at fB;exact cM d cj a2 ca Ω
   ·rw[a3]at ca;cases ca
   ·rw[a3]at ca;cases ca
   ·rw[a2]at fB;cases fB
  ·rcases hle k ad with⟨bC,d,a2,a3,_,a4⟩|⟨bC,a2⟩|⟨bC,⟨j,a2⟩,_⟩|⟨bC,gP,a2,_⟩<;>rcases ty.e k ag with⟨ch,cj,ca,fB,_,oT⟩|⟨ch,ca⟩|⟨ch,⟨dP,ca⟩,_⟩|⟨ch,gF,ca,_⟩
   ·rw[a3]at fB;simp only[aI.loc.injEq]at fB;exact cM d cj a2 ca Ω
   ·rw[bC,ch]at hm;simp[fh]at hm
   ·rw[a3]at ca;cases ca
   ·rw[a4]at ca;cases ca
   ·rcases a2 with a2|⟨d,a2,a3,_⟩
    ·exact a2 oT
    ·rw[a3]at fB;simp only[aI.loc.injEq]at fB;exact cM d cj a2 ca Ω
   ·rw[bC,ch]at hm;simp[fh]at hm
   ·rw[bC,ch]at hm;simp[fh]at hm
   ·rw[bC,ch]at hm;simp[fh]at hm
   ·rw[a2]at fB;cases fB
   ·rw[bC,ch]at hm;simp[fh]at hm
   ·rw[bC,ch]at hm;simp[fh]at hm
   ·rw[bC,ch]at hm;simp[fh]at hm
   ·rw[oT]at a2;cases a2
   ·rw[bC,ch]at hm;simp[fh]at hm
   ·rw[bC,ch]at hm;simp[fh]at hm
   ·rw[bC,ch]at hm;simp[fh]at hm
def xU(C:ft)(A:dm)(a:Act)(w:World):Prop:= ∃st ν,lJ st A/\(∀k,A.F k->fresh st.n st.o k)/\cY C st a w ν
theorem Mq{st:br}{A:dm}(h:lJ st A)(d:Nat)(p:ai):lJ {st with t:=put d p st.t} (A.do ⟨some d,p,[],[],none⟩):=by
 refine⟨fun i=>?_,fun k=>?_,fun k=>?_⟩
 ·simp only[dm.do,pV,dQ,h.t]
 ·simpa[dm.do,iJ,look]using h.b k
 ·simpa[dm.do,iJ,look]using h.e k
theorem Wm{st:br}{A:dm}(h:lJ st A)(d:Nat)(p:ai)(o':List aI)(rm:ba aI):lJ {st with t:=put d p st.t,o:=o'} (A.do ⟨some d,p,[],[],rm⟩):=by have:=Mq h d p;exact⟨this.t,this.b,this.e⟩
theorem aan{α:Type}{β:Type}:∀l:List (aI×α),cl ([]:List (aI×β)) l=l
 |[]=>rfl
 |(k,x)::r=>by simp[cl,look,aan r]
theorem Bh{st:br}{A:dm}(h:lJ st A)(d:Nat)(p:ai)(κ:aI)(cs:List ai)(n':Nat)(o':List aI)(rm:ba aI):lJ ⟨put d p st.t,cA κ cs st.b,st.e,n',o'⟩ (A.do ⟨some d,p,[(κ,cs)],[],rm⟩):=by
 refine⟨fun i=>?_,fun k=>?_,fun k=>?_⟩
 ·simp only[dm.do,pV,dQ,h.t]
 ·simp only[dm.do,iJ,look,je,h.b];by_cases e:κ=k<;>simp[e]
 ·simpa[dm.do,iJ,look]using h.e k
theorem Hn{st:br}{A:dm}(h:lJ st A)(κ:aI)(cs:List ai)(p:ai):lJ {st with b:=cA κ cs st.b} (A.do ⟨none,p,[(κ,cs)],[],none⟩):=by
 refine⟨fun i=>?_,fun k=>?_,fun k=>?_⟩
 ·simpa[dm.do]using h.t i
 ·simp only[dm.do,iJ,look,je,h.b];by_cases e:κ=k<;>simp[e]
 ·simpa[dm.do,iJ,look]using h.e k
theorem w9{st:br}{A:dm}(h:lJ st A)(d:Nat)(p:ai)(κ:aI)(o:fY)(n':Nat)(o':List aI)(rm:ba aI):lJ ⟨put d p st.t,st.b,cA κ o st.e,n',o'⟩ (A.do ⟨some d,p,[],[(κ,o)],rm⟩):=by
 refine⟨fun i=>?_,fun k=>?_,fun k=>?_⟩
 ·simp only[dm.do,pV,dQ,h.t]
 ·simpa[dm.do,iJ,look]using h.b k
 ·simp only[dm.do,iJ,look,je,h.e];by_cases e:κ=k<;>simp[e]
theorem Wl{st:br}{A:dm}(h:lJ st A)(κ:aI)(o:fY)(p:ai):lJ {st with e:=cA κ o st.e} (A.do ⟨none,p,[],[(κ,o)],none⟩):=by
 refine⟨fun i=>?_,fun k=>?_,fun k=>?_⟩
 ·simpa[dm.do]using h.t i
 ·simpa[dm.do,iJ,look]using h.b k
 ·simp only[dm.do,iJ,look,je];by_cases e:κ=k<;>simp[e,h.e]
theorem MF{α:Type}{k:aI}:∀{l:List (aI×α)},k∈l.map (·.1)->(look k l).isSome
 |[],h=>by simp at h
 |(i,x)::r,h=>by
  simp only[look];split
  ·rfl
  ·rename_i e;simp only[gS,fA]at h;rcases h with h|h
   ·exact absurd h.symm e
   ·exact MF h
theorem wv{n:Nat}{o:List aI}{κ:aI}:∀j,fresh n (κ::o) j->fresh n o j/\j≠κ:=by intro j ae;simp only[fresh,fA,not_or]at ae⊢;exact⟨⟨ae.1,ae.2.2⟩,ae.2.1⟩
theorem afW{n:Nat}{o:List aI}{κ j:aI}(h:fresh n o j)(ae:some κ≠some j):fresh n (κ::o) j:=by simp only[fresh,fA,not_or]at h⊢;exact⟨h.1,fun e=>ae (by rw[e]),h.2⟩
theorem Pt{P:cG}{bG:List (Nat×dH)}(aN:fS P bG=true){C:ft}{q:Bool}{n0:Nat}{i:er}{o:Oper}(ay:vI C.N bG i o=true){A:dm}{x:kX}(af:eA P q n0 i A x){a:Act}{w:World}(aM:xU C A a w)
  {K:Act->World->Prop} {Q:Exit->Act->World->Prop} (c8:∀bq w',xU C (A.do x) bq w'->K bq w'):o.wp P a w K Q:=by
 obtain⟨st,ν,ar,hb,aM⟩:=aM;have yl:∀(t:List (Nat×ai)) (b:List (aI×List ai)) (e:List (aI×fY)) (d:ba Nat) (p:ai) (bw:List (aI×List ai)) (ew:List (aI×fY)),∀k,(A.do ⟨d,p,bw,ew,none⟩).F k->fresh st.n st.o k:=fun t b e d p bw ew k ad=>hb k ad.1;have nx:∀(d:ba Nat) (p:ai) (bw:List (aI×List ai)) (ew:List (aI×fY)) (κ:aI),∀k,(A.do ⟨d,p,bw,ew,some κ⟩).F k->fresh st.n (κ::st.o) k:=fun d p bw ew κ k ad=>afW (hb k ad.1) ad.2;cases i with
 |s i=>
  have h2:EF C.N bG i o=true:=by simpa only[vI]using ay
  cases i with
  |v d i=>simp only[eA]at af;obtain⟨c,p,J,U,_,rfl⟩:=af;rw[<-ZC ar]at J;refine j2 (κ:= .loc 0) (n':=0) (o₁:=[]) aN aM h2 (fun h=>by simp[ey.makes]at h) (fun h=>by simp[ey.makes]at h) (st':={st with t:=put d p st.t}) (by simp only[eJ,J]) U fun bq w' bt cf=>c8 _ _ ⟨_,bt,Mq ar d p,fun k ad=>hb k ad.1,cf⟩
  |box d key v=>
   cases key with
   |some m=>simp only[eA]at af
   |none=>simp only[eA]at af;obtain⟨⟨J,_⟩,U,rfl⟩:=af;rw[<-iX ar]at U;refine j2 (κ:= .loc (n0+d)) (n':=st.n) (o₁:= .loc (n0+d)::st.o) aN aM h2 (fun _=>hb _ J) (fun _=>wv) (st':=⟨put d (.ptr (.loc (n0+d)) 0) st.t,cA (.loc (n0+d)) (cells (cv st.t v)) st.b,st.e,st.n,.loc (n0+d)::st.o⟩) (by simp only[eJ]) U fun bq w' bt cf=>c8 _ _ ⟨_,bt,?_,nx _ _ _ _ _,cf⟩;rw[iX ar];exact Bh ar d _ _ _ _ _ _
  |alloc d key z=>
   cases key with
   |some m=>simp only[eA]at af
   |none=>simp only[eA]at af;obtain⟨⟨J,_⟩,rfl⟩:=af;refine j2 (κ:= .loc (n0+d)) (n':=st.n) (o₁:= .loc (n0+d)::st.o) aN aM h2 (fun _=>hb _ J) (fun _=>wv) (st':=⟨put d (.ptr (.loc (n0+d)) 0) st.t,cA (.loc (n0+d)) (cells z) st.b,st.e,st.n,.loc (n0+d)::st.o⟩) (by simp only[eJ]) trivial fun bq w' bt cf=>c8 _ _ ⟨_,bt,Bh ar d _ _ _ _ _ _,nx _ _ _ _ _,cf⟩
  |store sz u v=>simp only[eA]at af;obtain⟨k,off,cs,J,U,au,rfl⟩:=af;rw[<-iX ar]at J au;rw[<-ar.b]at U;refine j2 (κ:= .loc 0) (n':=0) (o₁:=[]) aN aM h2 (fun h=>by simp[ey.makes]at h) (fun h=>by simp[ey.makes]at h) (st':={st with b:=cA k (oA cs off (cells (cv st.t v))) st.b}) (by simp only[eJ,J,U]) au fun bq w' bt cf=>c8 _ _ ⟨{st with b:=cA k (oA cs off (cells (cv st.t v))) st.b},bt,by rw[iX ar];exact Hn ar k _ _,fun k ad=>hb k ad.1,cf⟩
  |bsl d sz el xs=>simp only[eA]at af;obtain⟨⟨J,_⟩,U,rfl⟩:=af;rw[<-u0 ar]at U;refine j2 (κ:= .loc (n0+d)) (n':=st.n) (o₁:= .loc (n0+d)::st.o) aN aM h2 (fun _=>hb _ J) (fun _=>wv) (st':=⟨put d (.slice sz (.own (.loc (n0+d))) (xs.map (cv st.t))) st.t,st.b,cA (.loc (n0+d)) ⟨xs.length,el,sz,none⟩ st.e,st.n,.loc (n0+d)::st.o⟩) (by simp only[eJ]) U fun bq w' bt cf=>c8 _ _ ⟨_,bt,?_,nx _ _ _ _ _,cf⟩;rw[u0 ar];exact w9 ar d _ _ _ _ _ _
  |app d sz el u v=>
   simp only[eA]at af;obtain⟨tag,xs,k8,ys,J,U,af⟩:=af;rw[<-iX ar]at J U;rcases af with⟨k,ow,rfl,au,a6,rfl⟩|⟨rfl,au,⟨a6,_⟩,rfl⟩
   ·rw[<-ar.e]at au;refine j2 (κ:= .loc 0) (n':=0) (o₁:=[]) aN aM h2 (fun h=>by simp[ey.makes,J]at h) (fun h=>by simp[ey.makes,J]at h) (st':=⟨put d (.slice sz (.own k) (xs++ys)) st.t,st.b,cA k ⟨xs.length+ys.length,el,sz,none⟩ st.e,st.n,st.o⟩) (by simp only[eJ,J,U,au,and_self,if_true]) a6.2 fun bq w' bt cf=>c8 _ _ ⟨_,bt,w9 ar d _ _ _ _ _ _,fun k ad=>hb k ad.1,cf⟩
   ·refine j2 (κ:= .loc (n0+d)) (n':=st.n) (o₁:= .loc (n0+d)::st.o) aN aM h2 (fun _=>hb _ a6) (fun _=>wv) (st':=⟨put d (.slice sz (.own (.loc (n0+d))) ys) st.t,st.b,cA (.loc (n0+d)) ⟨ys.length,el,sz,none⟩ st.e,st.n,.loc (n0+d)::st.o⟩) (by simp only[eJ,J,U,and_self,if_true]) au fun bq w' bt cf=>c8 _ _ ⟨_,bt,w9 ar d _ _ _ _ _ _,nx _ _ _ _ _,cf⟩
  |bslm d key sz el xs=>simp only[eA]at af
  |mks d key sz el z x=>simp only[eA]at af
  |appm d key sz el u v=>simp only[eA]at af;obtain⟨k,n,xs,k8,ys,J,U,au,a6,rfl⟩:=af;rw[<-iX ar]at J U;rw[<-ar.e]at au;refine j2 (κ:= .loc 0) (n':=0) (o₁:=[]) aN aM h2 (fun h=>by simp[ey.makes,J]at h) (fun h=>by simp[ey.makes,J]at h) (st':=⟨put d (.row sz k (xs.length+ys.length)) st.t,st.b,cA k ⟨xs.length+ys.length,el,sz,some (xs++ys)⟩ st.e,st.n,st.o⟩) (by simp only[eJ,tl,J,U,au,and_self,if_true]) a6 fun bq w' bt cf=>c8 _ _ ⟨_,bt,w9 ar d _ _ _ _ _ _,fun k ad=>hb k ad.1,cf⟩
  |storeE sz u v=>simp only[eA]at af;obtain⟨k,n,i,f,el,dT,xs,q,J,U,au,a6,rfl⟩:=af;rw[<-iX ar]at J a6;rw[<-ar.e]at U;refine j2 (κ:= .loc 0) (n':=0) (o₁:=[]) aN aM h2 (fun h=>by simp[ey.makes]at h) (fun h=>by simp[ey.makes]at h) (st':={st with e:=cA k ⟨n,el,dT,some (xs.set i (mZ q f (cells (cv st.t v))))⟩ st.e}) (by simp only[eJ,rG,J,U,au,and_self,if_true]) a6 fun bq w' bt cf=>c8 _ _ ⟨{st with e:=cA k ⟨n,el,dT,some (xs.set i (mZ q f (cells (cv st.t v))))⟩ st.e},bt,by rw[iX ar];exact Wl ar k _ _,fun k ad=>hb k ad.1,cf⟩
  |mkmap d key=>
   cases key with
   |none=>simp only[eA]at af
   |some m=>simp only[eA]at af;obtain⟨⟨J,_⟩,rfl⟩:=af;exact j2 (κ:= .obj m) (n':=st.n) (o₁:= .obj m::st.o) aN aM h2 (fun _=>hb _ J) (fun _=>wv) (st':=⟨put d (.gmap (.obj m)) st.t,cA (.obj m) [.hdm 0 []] st.b,st.e,st.n,.obj m::st.o⟩) (by simp only[eJ]) trivial fun bq w' bt cf=>c8 _ _ ⟨_,bt,Bh ar d _ _ _ _ _ _,nx _ _ _ _ _,cf⟩
  |mput ck u k v=>simp only[eA]at af;obtain⟨m,cs,cs',J,U,au,rfl⟩:=af;rw[<-iX ar]at J;rw[<-iX ar,<-iX ar]at au;rw[<-ar.b]at U;exact j2 (κ:= .loc 0) (n':=0) (o₁:=[]) aN aM h2 (fun h=>by simp[ey.makes]at h) (fun h=>by simp[ey.makes]at h) (st':={st with b:=cA m cs' st.b}) (by simp only[eJ,J,U,au]) trivial fun bq w' bt cf=>c8 _ _ ⟨{st with b:=cA m cs' st.b},bt,Hn ar m _ _,fun k ad=>hb k ad.1,cf⟩
  |range d key x=>simp only[eA]at af
 |next d x=>simp only[eA]at af
 |call d f xs=>
  simp only[eA]at af;obtain⟨n,dg,J,af⟩:=af;rw[<-iX ar]at J;rcases af with⟨⟨s,ah,r,rm,bK,cq,da,hT,kE,pN,Cx,rfl⟩,_⟩|⟨cQ,r,rfl,bK,cq,da,rfl⟩;rotate_left
  ·rw[<-u0 ar]at cq da;simp only[vI]at ay;split at ay
   ·rename_i r5 args eG nF;simp only[cC,dV]at ay;obtain⟨⟨⟨al,aE⟩,bn⟩,dh⟩:=ay;have mj:=ev aM bn;rw[J]at mj;refine Ss aM nF al aE mj (EA aM dh) (K:=fun st'=>st'={st with t:=put cQ r st.t,o:= .loc (n0+cQ)::st.o}) ⟨⟨[],[]⟩,_,some (n0+cQ),st.n,fun _=>.loc (n0+cQ)::st.o,fun k cs ad=>by simp[look]at ad,fun k cs ad=>by simp[look]at ad,⟨fun _=>rfl,fun _=>rfl⟩,kd (fun _ h=>h.elim) _ cq,da,fun m hm=>?_,fun k eT ah bm ad=>?_,?_⟩ ?_
    ·cases hm;exact hb _ bK.1
    ·obtain⟨_,rfl⟩:=bm;have:=wv k ad;exact⟨by simpa[c1]using this.1,fun m hm=>by cases hm;exact this.2⟩
    ·rintro eT pe ⟨rfl,rfl⟩;refine⟨⟨fun m hm=>by simp[look]at hm,fun m hm=>by simp[look]at hm⟩,?_⟩;simp[after,aan,eZ]
    ·rintro st' bq w' bt rfl cf;exact c8 _ _ ⟨_,bt,Wm ar cQ r _ _,nx _ _ _ _ _,cf⟩
   ·cases ay
  rw[<-u0 ar]at pN Cx;simp only[vI]at ay;split at ay
  ·rename_i r5 args eG nF;simp only[cC,dV]at ay;obtain⟨⟨⟨al,aE⟩,bn⟩,dh⟩:=ay;have mj:=ev aM bn;rw[J]at mj;obtain⟨aU,bo,cd,e9,di⟩:=kE;refine Sr aM nF al aE mj (EA aM dh) (K:=fun st'=>st'=after st s ah d r) (.inl ⟨s,_,fun k cs ad=>⟨by rw[ar.b];exact(bK k cs ad).1,.inl (by simp[ad]),(bK k cs ad).2⟩,fun k o' ad=>⟨by rw[ar.e];exact(cq k o' ad).1,.inr (by simp[ad]),(cq k o' ad).2⟩,da,pN,Cx,?_⟩) ?_
   ·rintro eT pe ⟨rfl,rfl⟩;refine⟨⟨fun m hm=>?_,fun m hm=>?_⟩,rfl⟩
    ·rcases aU _ hm with h|h
     ·exact .inl h
     ·exact .inr (hb _ (di _ h).2.1).2
    ·rcases bo _ hm with h|h
     ·exact .inl h
     ·exact .inr (hb _ (di _ h).2.1).2
   ·rintro st' bq w' bt rfl cf;refine c8 _ _ ⟨_,bt,⟨fun i=>?_,fun k=>?_,fun k=>?_⟩,fun k ad=>?_,cf⟩
    ·simp only[after,dm.do];cases d with
     |none=>simpa[eZ]using ar.t i
     |some d=>simp only[eZ,pV,dQ,ar.t]
    ·simp only[after,dm.do,iJ,y0,vz];by_cases ag:(look k s.b).isSome
     ·have:=cd k ag;obtain⟨y,aO⟩:=fU.1 this;simp[ag,aO]
     ·cases ax:look k ah.b with
      |none=>simp only[ag,ar.b];cases A.b k<;>simp
      |some y=>
       rcases aU k (by simp[ax])with h|h
       ·exact absurd h ag
       ·have:=di k h;simp[ag,ar.b,this]
    ·simp only[after,dm.do,iJ,y0,vz];by_cases ag:(look k s.e).isSome
     ·have:=e9 k ag;obtain⟨y,aO⟩:=fU.1 this;simp[ag,aO]
     ·cases ax:look k ah.e with
      |none=>simp only[ag,ar.e];cases A.e k<;>simp
      |some y=>
       rcases bo k (by simp[ax])with h|h
       ·exact absurd h ag
       ·have:=di k h;simp[ag,ar.e,this]
    ·have Li:=hb k ad.1;have o5:=aM.lookNone Li;simp only[after];refine⟨Li.1,fun iL=>?_⟩;rcases kn.1 iL with iL|iL
     ·exact Li.2 iL
     ·rcases kn.1 iL with iL|iL
      ·rcases aU k (MF iL)with h|h
       ·obtain⟨y,aO⟩:=fU.1 h;have:=(bK k y aO).1;rw[<-ar.b,o5.1]at this;cases this
       ·exact ad.2 h
      ·rcases bo k (MF iL)with h|h
       ·obtain⟨y,aO⟩:=fU.1 h;have:=(cq k y aO).1;rw[<-ar.e,o5.2]at this;cases this
       ·exact ad.2 h
  ·cases ay
theorem aaC{P:cG}{bG:List (Nat×dH)}(aN:fS P bG=true){C:ft}{q:Bool}{n0:Nat}{ops:Array Oper}{g:dd}{o:Oper}{j:Nat}(ae:ops[j]? =some o)(ay:CU C.N bG ops.toList g o=true){A:dm}{x:kX}(af:kY P q n0 g A x){a:Act}{w:World}(aM:xU C A a w)
  {K:Act->World->Prop} {Q:Exit->Act->World->Prop} (c8:∀bq w',xU C (A.do x) bq w'->K bq w'):wpOp P ops Q j K a w:=by
 unfold wpOp;rw[ae];simp only;simp only[CU,cC]at ay;obtain⟨ra,si⟩:=ay;unfold kY at af;cases Db:g.g with
 |none=>
  cases ej:o.guard with
  |some x=>simp[ej,Db]at ra
  |none=>
   have hw:pA o (yielded ops a.tmps)=true:=by simp[pA,ej]
   rw[if_pos hw];simp only[Db]at af;exact .inl (Pt aN si af aM c8)
 |some zA=>
  obtain⟨s,want⟩:=zA;cases ej:o.guard with
  |none=>simp[ej,Db]at ra
  |some aq8=>
   obtain⟨atf,cb⟩:=aq8;simp only[ej,Db,cC,dV,fc]at ra;obtain⟨⟨⟨⟨rfl,U⟩,au⟩,a6⟩,b3⟩:=ra;obtain⟨st,ν,ar,hb,dS⟩:=id aM;obtain⟨kV,pw⟩:=aar dS U au;simp only[Db]at af;have U4:∀(h:x=lE g.i.dst),K (a.put o.dst undef) w:=by
    rintro rfl;rw[a6];refine c8 _ _ ⟨_,ν,?_,fun k ad=>?_,dS.put b3 (p:= .tuple []) (by simp[bd,cW,undef])⟩
    ·refine⟨fun i=>?_,fun k=>?_,fun k=>?_⟩
     ·simp only[dm.do,lE];cases g.i.dst with
      |none=>simpa[eZ]using ar.t i
      |some d=>simp only[eZ,pV,dQ,ar.t]
     ·simpa[dm.do,iJ,look,lE]using ar.b k
     ·simpa[dm.do,iJ,look,lE]using ar.e k
    ·exact hb k ad.1
   split at af
   ·rename_i b ab;have aO:=kV b (by rw[ar.t];exact ab);rcases af with⟨rfl,af⟩|⟨rfl,af⟩
    ·have hw:pA o (yielded ops a.tmps)=true:=by simp[pA,ej,aO]
     rw[if_pos hw];exact .inl (Pt aN si af aM c8)
    ·have hw:¬(pA o (yielded ops a.tmps)=true):=by simp[pA,ej,aO]
     rw[if_neg hw];exact U4 af
   ·rename_i ab;have aO:=pw (by rw[ar.t];exact ab);have hw:¬(pA o (yielded ops a.tmps)=true):=by simp[pA,ej,aO]
    rw[if_neg hw];exact U4 af
   ·exact af.elim
def wo(P:cG)(q:Bool)(n0:Nat)(K:dm->Prop):List (Nat×dd)->dm->Prop
 |[],A=>K A
 |(_,g)::r,A=> ∃x,kY P q n0 g A x/\wo P q n0 K r (A.do x)
theorem Qc{P:cG}{q:Bool}{n0:Nat}{K:dm->Prop}{i:Nat}{g:dd}:∀(oN pH:List (Nat×dd)) (A:dm),(∀x∈oN,Ap x.2 g=true)->wo P q n0 K (oN++(i,g)::pH) A->∃x,kY P q n0 g A x/\wo P q n0 K (oN++pH) (A.do x)
 |[],pH,A,_,h=>h
 |(j,TZ)::oN,pH,A,aw,h=>by simp only[bZ,wo]at h;obtain⟨y,aO,h⟩:=h;obtain⟨x,af,h⟩:=Qc oN pH (A.do y) (fun z bp=>aw z (oL _ bp)) h;obtain⟨s1,s2,s3⟩:=swap (aw _ (List.mem_cons_self ..)) aO af;refine⟨x,s1,y,s2,?_⟩;rw[<-dm.do_comm A s3];exact h
def rem(hN:Array Bool):Nat->List dd->List (Nat×dd)
 |_,[]=>[]
 |k,g::r=>if hN.getD k false then rem hN (k+1) r else(k,g)::rem hN (k+1) r
theorem Yx{l aZ:Array Bool}:∀(gs:List dd) (k:Nat),(∀j,k<=j->l.getD j false=aZ.getD j false)->rem l k gs=rem aZ k gs
 |[],_,_=>rfl
 |g::r,k,h=>by simp only[rem,h k (e7 _),Yx r (k+1) fun j ae=>h j Ω]
theorem Gh{l:Array Bool}{i j:Nat}(h:i<l.size):(l.setIfInBounds i true).getD j false=if i=j then true else l.getD j false:=by
 simp only[Array.getD_eq_getD_getElem?];by_cases e:i=j
 ·subst e;simp[h]
 ·simp[e]
theorem N5{l:Array Bool}{i:Nat}(hi:i<l.size)(ax:l.getD i false=false):∀(gs:List dd) (k:Nat),k<=i->i<k+gs.length->∃oN pH g,gs[i-k]? =some g/\rem l k gs=oN++(i,g)::pH/\rem (l.setIfInBounds i true) k gs=oN++pH/\
  ∀x∈oN,gs[x.1-k]? =some x.2/\k<=x.1/\x.1<i/\l.getD x.1 false=false
 |[],k,J,U=>by simp at U;omega
 |g::r,k,J,U=>by
  by_cases e:k=i
  ·subst e;refine⟨[],rem l (k+1) r,g,Ψ,by simp[rem,ax],?_,fun x af=>by simp at af⟩;simp only[rem,Gh hi,if_true,b6];exact Yx r (k+1) fun j ae=>by rw[Gh hi,if_neg Ω]
  ·obtain⟨oN,pH,fu,al,aE,bn,dh⟩:=N5 hi ax r (k+1) Ω (by simp at U;omega);have wF:i-k=(i-(k+1))+1:=Ω
   have hr:(l.setIfInBounds i true).getD k false=l.getD k false:=by rw[Gh hi,if_neg Ω]
   by_cases ad:l.getD k false=true
   ·refine⟨oN,pH,fu,by rw[wF];simpa using al,by simp only[rem,ad,if_true,aE],by simp only[rem,hr,ad,if_true,bn],fun x af=>?_⟩;obtain⟨f1,f2,f3,f4⟩:=dh x af;refine⟨?_,Ω,f3,f4⟩;have:x.1-k=(x.1-(k+1))+1:=Ω
    rw[this];simpa using f1
   ·have ad:l.getD k false=false:=by simpa using ad
    refine⟨(k,g)::oN,pH,fu,by rw[wF];simpa using al,by simp[rem,ad,aE],by simp[rem,hr,ad,bn],fun x af=>?_⟩;rcases fA.1 af with rfl|af
    ·exact⟨Ψ,e7 _,by simp;omega,ad⟩
    ·obtain⟨f1,f2,f3,f4⟩:=dh x af;refine⟨?_,Ω,f3,f4⟩;have:x.1-k=(x.1-(k+1))+1:=Ω
     rw[this];simpa using f1
def vA(acc:List Nat):List Edge->Nat
 |[]=>0
 |e::r=>if Region.binds .any e then(2 ^ e.on)|||(acc.getD e.on 0)|||vA acc r else vA acc r
def sG(acc:List Nat):List Oper->List Nat
 |[]=>acc
 |o::os=>sG (acc++[vA acc o.after.toList]) os
def EC(m:Nat)(h:dd):Nat->List dd->Bool
 |_,[]=>true
 |i,g::r=>(m.testBit i||Ap g h)&&EC m h (i+1) r
def Em:List dd->List dd->List Nat->Bool
 |_,[],_=>true
 |pre,h::r,m::ms=>EC m h 0 pre&&Em (pre++[h]) r ms
 |_,_,[]=>false
def CD:Nat->List Oper->Bool
 |_,[]=>true
 |k,o::os=>o.after.toList.all (fun e=> !Region.binds .any e||decide (e.on<k))&&CD (k+1) os
def Cq(gs:List dd)(ops:List Oper):Bool:=CD 0 ops&&Em [] gs (sG [] ops)
theorem Mz{acc:List Nat}{j:Nat}:∀{es:List Edge},(vA acc es).testBit j=true->∃e∈es,Region.binds .any e=true/\(j=e.on\/(acc.getD e.on 0).testBit j=true)
 |[],h=>by simp[vA]at h
 |e::r,h=>by
  simp only[vA]at h;split at h
  ·rename_i ab;simp only[Nat.testBit_or,lH]at h;rcases h with(h|h)|h
   ·refine⟨e,Ψ,ab,.inl ?_⟩;rw[Nat.testBit_two_pow]at h;have cf:e.on=j:=by simpa using h
    exact cf.symm
   ·exact⟨e,Ψ,ab,.inr h⟩
   ·obtain⟨ff,J,U⟩:=Mz h;exact⟨ff,by simp[J],U⟩
  ·obtain⟨ff,J,U⟩:=Mz h;exact⟨ff,by simp[J],U⟩
theorem MA:∀(os:List Oper) (acc:List Nat) (k:Nat),k<acc.length->(sG acc os)[k]? =acc[k]?
 |[],acc,k,_=>rfl
 |o::os,acc,k,h=>by simp only[sG];rw[MA os _ k (by simp;omega),List.getElem?_append_left h]
theorem Wu:∀(os:List Oper) (acc:List Nat) (k:Nat) (o:Oper),os[k]? =some o->∃uN,(sG acc os)[acc.length+k]? =some (vA uN o.after.toList)/\uN.length=acc.length+k/\∀i,i<uN.length->uN[i]? =(sG acc os)[i]?
 |[],acc,k,o,h=>by simp at h
 |o'::os,acc,0,o,h=>by
  simp only[List.getElem?_cons_zero,dQ]at h;subst h;refine⟨acc,?_,Ψ,fun i hi=>?_⟩
  ·simp only[sG,Nat.add_zero];rw[MA os _ _ Ψ];simp
  ·simp only[sG];rw[MA os _ i (by simp;omega),List.getElem?_append_left hi]
 |o'::os,acc,k+1,o,h=>by simp only[List.getElem?_cons_succ]at h;obtain⟨uN,J,U,au⟩:=Wu os (acc++[vA acc o'.after.toList]) k o h;refine⟨uN,?_,by rw[U];simp;omega,fun i hi=>by rw[au i hi];rfl⟩;simp only[sG];rw[show acc.length+(k+1)=(acc++[vA acc o'.after.toList]).length+k from by simp;omega];exact J
def Pq(ops:Array Oper)(hN:Array Bool):Prop:= ∀k o,ops[k]? =some o->hN.getD k false=true->∀e∈o.after.toList,Region.binds .any e=true->hN.getD e.on false=true
theorem ajU{ops:Array Oper}{hN:Array Bool}(aR:Pq ops hN):∀(k:Nat) (o:Oper),ops[k]? =some o->(∀e∈o.after.toList,Region.binds .any e=true->hN.getD e.on false=true)->∀j,((sG [] ops.toList).getD k 0).testBit j=true->hN.getD j false=true:=by
 intro k;induction k using Nat.strongRecOn with
 |_ k bR=>
  intro o ay ar j ae;obtain⟨uN,J,U,au⟩:=Wu ops.toList [] k o (by simpa using ay);simp only[List.length_nil,Nat.zero_add]at J U;rw[List.getD_eq_getElem?_getD,J]at ae;obtain⟨e,he,ab,cz⟩:=Mz ae;rcases cz with rfl|cz
  ·exact ar e he ab
  ·by_cases bD:e.on<uN.length
   ·have hm:uN.getD e.on 0=(sG [] ops.toList).getD e.on 0:=by rw[List.getD_eq_getElem?_getD,au _ bD,List.getD_eq_getElem?_getD]
    have ad:k<ops.size:=(Array.getElem?_eq_some_iff.1 ay).1;have h2:ops[e.on]? =some ops[e.on]:=Array.getElem?_eq_getElem Ω;rw[hm]at cz;exact bR e.on Ω _ h2 (fun ff wE fW=>aR e.on _ h2 (ar e he ab) ff wE fW) j cz
   ·rw[List.getD_eq_getElem?_getD,qO Ω]at cz;simp at cz
theorem YO{m:Nat}{h:dd}:∀{gs:List dd} {i0:Nat},EC m h i0 gs=true->∀i g,gs[i]? =some g->m.testBit (i0+i)=true\/Ap g h=true
 |[],i0,_,i,g,a7=>by simp at a7
 |fu::r,i0,aM,0,g,a7=>by simp only[EC,cC,lH]at aM;simp only[List.getElem?_cons_zero,dQ]at a7;subst a7;simpa using aM.1
 |fu::r,i0,aM,i+1,g,a7=>by simp only[EC,cC]at aM;have:=YO aM.2 i g (by simpa using a7);rwa[show i0+1+i=i0+(i+1)from by omega]at this
theorem Xt:∀{gs pre:List dd} {ms:List Nat},Em pre gs ms=true->∀j h,gs[j]? =some h->∀i g,i<pre.length+j->(pre++gs)[i]? =some g->(ms.getD j 0).testBit i=true\/Ap g h=true
 |[],pre,ms,_,j,h,ae,_,_,_,_=>by simp at ae
 |cf::r,pre,[],bB,j,h,ae,_,_,_,_=>by simp[Em]at bB
 |cf::r,pre,m::ms,bB,j,h,ae,i,g,hi,a7=>by
  simp only[Em,cC]at bB;cases j with
  |zero=>simp only[List.getElem?_cons_zero,dQ]at ae;subst ae;rw[List.getElem?_append_left Ω]at a7;simpa using YO bB.1 i g a7
  |succ j=>have:=Xt bB.2 j h (by simpa using ae) i g (by simp;omega) (by simpa using a7);simpa using this
theorem SV:∀{os:List Oper} {k:Nat},CD k os=true->∀i o,os[i]? =some o->∀e∈o.after.toList,Region.binds .any e=true->e.on<k+i
 |[],k,_,i,o,ay,_,_,_=>by simp at ay
 |o'::os,k,h,0,o,ay,e,he,ab=>by simp only[CD,cC,ga]at h;simp only[List.getElem?_cons_zero,dQ]at ay;subst ay;have:=h.1 e he;simpa[ab]using this
 |o'::os,k,h,i+1,o,ay,e,he,ab=>by simp only[CD,cC]at h;have:=SV h.2 i o (by simpa using ay) e he ab;omega
theorem T1{N:Nat}{bG:List (Nat×dH)}{ops:List Oper}:∀{gs:List dd} {os:List Oper},kG N bG ops gs os=true->∀(i:Nat) (g:dd),gs[i]? =some g->∃o,os[i]? =some o/\CU N bG ops g o=true
 |[],[],_,i,g,h=>by simp at h
 |[],_::_,h,_,_,_=>by simp[kG]at h
 |_::_,[],h,_,_,_=>by simp[kG]at h
 |fu::gs,o::os,h,0,g,a7=>by simp only[kG,cC]at h;simp only[List.getElem?_cons_zero,dQ]at a7;subst a7;exact⟨o,Ψ,h.1⟩
 |fu::gs,o::os,h,i+1,g,a7=>by simp only[kG,cC]at h;obtain⟨o',J,U⟩:=T1 h.2 i g (by simpa using a7);exact⟨o',by simpa using J,U⟩
theorem K0{N:Nat}{bG:List (Nat×dH)}{ops:List Oper}:∀{gs:List dd} {os:List Oper},kG N bG ops gs os=true->gs.length=os.length
 |[],[],_=>rfl
 |[],_::_,h=>by simp[kG]at h
 |_::_,[],h=>by simp[kG]at h
 |g::gs,o::os,h=>by simp only[kG,cC]at h;simp[K0 h.2]
theorem Yy{l:Array Bool}:∀(gs:List dd) (k:Nat),rem l k gs=[]\/ ∃i g,i<gs.length/\gs[i]? =some g/\l.getD (k+i) false=false/\∀j,j<i->l.getD (k+j) false=true
 |[],_=>.inl rfl
 |g::r,k=>by
  by_cases h:l.getD k false=true
  ·rcases Yy (l:=l) r (k+1)with J|⟨i,fu,J,U,au,a6⟩
   ·left;simp only[rem,h,if_true,J]
   ·refine .inr ⟨i+1,fu,by simp;omega,by simpa using U,by rw[show k+(i+1)=k+1+i from by omega];exact au,fun j ae=>?_⟩;cases j with
    |zero=>simpa using h
    |succ j=>rw[show k+(j+1)=k+1+j from by omega];exact a6 j Ω
  ·exact .inr ⟨0,g,Ψ,Ψ,by simpa using h,fun j ae=>Ω⟩
theorem aa7{P:cG}{bG:List (Nat×dH)}(aN:fS P bG=true){C:ft}{q:Bool}{n0:Nat}{ops:Array Oper}{gs:List dd}(kI:kG C.N bG ops.toList gs ops.toList=true)(Gq:Cq gs ops.toList=true){K:dm->Prop}{Q:Exit->Act->World->Prop}
  (hV:∀A a w,K A->xU C A a w->Q .normal a w):∀(fuel:Nat) (hN:Array Bool) (A:dm) (a:Act) (w:World),hN.size=ops.size->Pq ops hN->(rem hN 0 gs).length<=fuel->wo P q n0 K (rem hN 0 gs) A->xU C A a w->wpAny P .any ops Q fuel hN a w:=by
 simp only[Cq,cC]at Gq;obtain⟨La,aif⟩:=Gq;have hlen:gs.length=ops.size:=by simpa using K0 kI
 have Um:∀(hN:Array Bool) (A:dm) (a:Act) (w:World),hN.size=ops.size->wo P q n0 K (rem hN 0 gs) A->xU C A a w->Region.ready .any ops hN=[]->Q .normal a w:=by
  intro hN A a w en tD aM GP;rcases Yy (l:=hN) gs 0 with h|⟨i,g,J,U,au,a6⟩
  ·rw[h]at tD;exact hV A a w tD aM
  ·exfalso;have hi:i<ops.size:=Ω
   have iL:i∈Region.ready .any ops hN:=by
    unfold Region.ready;simp only[nZ,List.mem_range,cC,Bool.not_eq_true'];refine⟨hi,?_,?_⟩
    ·rw[Nat.zero_add]at au;simp only[Array.getD_eq_getD_getElem?]at au⊢;rw[Array.getElem?_eq_getElem Ω]at au⊢;simpa using au
    ·rw[Array.getElem?_eq_getElem hi];simp only[nl,jA];rw[<-Array.all_toList,ga];intro e he;by_cases ab:Region.binds .any e=true
     ·have bD:=SV La i ops[i] (by simp[hi]) e he ab;have:=a6 e.on Ω;rw[Nat.zero_add]at this;simp[this]
     ·simp[ab]
   rw[GP]at iL;simp at iL
 intro fuel;induction fuel with
 |zero=>
  intro hN A a w en aR aJ tD aM;have ah9:rem hN 0 gs=[]:=List.eq_nil_of_length_eq_zero Ω;have GP:Region.ready .any ops hN=[]:=by
   rw[List.eq_nil_iff_forall_not_mem];intro i hi;unfold Region.ready at hi;simp only[nZ,List.mem_range,cC,Bool.not_eq_true']at hi;obtain⟨J,U,_⟩:=hi;have ax:hN.getD i false=false:=by simp only[Array.getD_eq_getD_getElem?]at U⊢;rw[Array.getElem?_eq_getElem Ω]at U⊢;simpa using U
   obtain⟨oN,pH,g,_,aE,_⟩:=N5 Ω ax gs 0 Ω Ω;rw[ah9]at aE;simp at aE
  exact⟨GP,Um hN A a w en tD aM GP⟩
 |succ fuel bR=>
  intro hN A a w en aR aJ tD aM;refine⟨Um hN A a w en tD aM,fun i hi=>?_⟩;unfold Region.ready at hi;simp only[nZ,List.mem_range,cC,Bool.not_eq_true']at hi;obtain⟨J,U,au⟩:=hi;have ax:hN.getD i false=false:=by simp only[Array.getD_eq_getD_getElem?]at U⊢;rw[Array.getElem?_eq_getElem Ω]at U⊢;simpa using U
  have ay:ops[i]? =some ops[i]:=Array.getElem?_eq_getElem J;have Uo:∀e∈ops[i].after.toList,Region.binds .any e=true->hN.getD e.on false=true:=by rw[ay]at au;simp only[nl,jA]at au;rw[<-Array.all_toList,ga]at au;intro e he ab;simpa[ab]using au e he
  obtain⟨oN,pH,g,al,aE,bn,dh⟩:=N5 Ω ax gs 0 Ω Ω;simp only[Nat.sub_zero]at al dh;rw[aE]at tD;obtain⟨x,af,ahm⟩:=Qc oN pH A (fun y aO=>by
   obtain⟨f1,f2,f3,f4⟩:=dh y aO;rcases Xt aif i g al y.1 y.2 (by simpa using f3) (by simpa using f1)with h|h
   ·have:=ajU aR i ops[i] ay Uo y.1 h;rw[f4]at this;cases this
   ·exact h) tD
  obtain⟨o',g1,g2⟩:=T1 kI i g al;have:o'=ops[i]:=by rw[uC,ay]at g1;exact(eQ g1).symm
  subst this;refine aaC aN ay g2 af aM fun bq w' dS=>?_;refine bR (hN.setIfInBounds i true) (A.do x) bq w' (by simpa using en) ?_ ?_ (by rw[bn];exact ahm) dS
  ·intro k o ad ar e he ab;rw[Gh Ω]at ar⊢;split
   ·rfl
   ·by_cases wF:i=k
    ·subst wF;rw[ay]at ad;cases ad;exact Uo e he ab
    ·rw[if_neg wF]at ar;exact aR k o ad ar e he ab
  ·rw[bn];rw[aE]at aJ;simp at aJ⊢;omega
def yf(n0 d:Nat)(st:br):Prop:= .loc (n0+d)∉st.o/\look (.loc (n0+d)) st.b=none/\look (.loc (n0+d)) st.e=none
def gd.loadO(q:Bool)(t:List (Nat×ai)):gd->Prop
 | .load _ _ x=>q=true\/yQ (cv t x)=true
 | .loadB _ _ _=>True
 | .mgetB _ _ _ _ _=>True
 | .mget _ _ _ _ _=>q=true
 | .ment _=>q=true
 | .mlen _=>q=true
 |_=>True
def mh(q:Bool)(nw:List Nat)(n0:Nat)(st:br):ey->Prop
 | .v _ i=>i.loadO q st.t
 | .box d none _=>yf n0 d st
 | .alloc d none _=>yf n0 d st
 | .box _ (some _) _=>e1
 | .alloc _ (some _) _=>e1
 | .store _ x _=>match cv st.t x with| .ptr _ _=>True|_=>e1
 | .bslm _ _ _ _ _=>e1
 | .mks _ _ _ _ _ _=>e1
 | .appm _ _ _ _ x _=>match cv st.t x with| .row _ _ _=>True|_=>e1
 | .storeE _ _ _=>True
 | .mkmap _ none=>e1
 | .mkmap _ (some m)=>m∈nw/\look (.obj m) st.b=none/\look (.obj m) st.e=none
 | .mput _ _ _ _=>True
 | .range _ _ _=>e1
 | .bsl d _ _ _=>yf n0 d st
 | .app d _ _ x _=>match cv st.t x with
  | .slice _ .nil _=>yf n0 d st
  | .slice _ (.own k) _=>(look k st.e).bind (·.xs)=none
  |_=>True
def pP(n0:Nat):ey->aI
 | .mkmap _ (some m)=>.obj m
 | .v d _| .box d _ _| .alloc d _ _| .bsl d _ _ _| .app d _ _ _ _| .bslm d _ _ _ _| .appm d _ _ _ _ _| .mkmap d _| .range d _ _| .mks d _ _ _ _ _=>.loc (n0+d)
 | .store _ _ _| .mput _ _ _ _| .storeE _ _ _=>.loc n0
def ajn(nw:List Nat)(st:br)(s ah:cH)(rm:ba aI):Prop:=(∀k,(look k ah.b).isSome->(look k s.b).isSome\/rm=some k)/\(∀k,(look k ah.e).isSome->(look k s.e).isSome\/rm=some k)/\(∀k,(look k s.b).isSome->(look k ah.b).isSome)/\(∀k,(look k s.e).isSome->(look k ah.e).isSome)/\
 (∀k,rm=some k->(∃j,j∈nw/\k= .obj j)/\look k st.b=none/\look k st.e=none/\((look k ah.b).isSome\/(look k ah.e).isSome))
def hn(P:cG)(q:Bool)(nw:List Nat)(n:Nat)(args:List ai)(st:br)(d:ba Nat)(K:br->Prop):Prop:=
 (∃cQ r,d=some cQ/\yf st.n cQ st/\aH (fun _=>e1) args/\I5 P n (st.n+cQ) args ⟨[],[]⟩ (fun eT dZ=>eT=r/\dZ=⟨[],[]⟩)/\K {st with t:=put cQ r st.t,o:= .loc (st.n+cQ)::st.o})\/
 ∃s ah r rm,gY (inObs s) s.b st.b/\pj (inObs s) s.e st.e/\jf s/\jf ah/\ajn nw st s ah rm/\aH (inObs s) args/\bH P n args s (fun eT dZ=>eT=r/\dZ=ah)/\(q=true->ah.b=[]/\ah.e=[])/\K {after st s ah d r with o:=st.o}
def kF(P:cG)(q:Bool)(nw:List Nat)(n0:Nat)(st:br)(K:br->Prop):er->Prop
 | .s i=>match eJ (pP n0 i) st.n (pP n0 i::st.o) st i with
  |some (c,st')=>mh q nw n0 st i/\c/\K st'
  |none=>e1
 | .call d f xs=>match cv st.t f with
  | .func n dg=>hn P q nw n (c2 (xs.map (cv st.t)++dg)) st d K
  |_=>e1
 | .next _ _=>e1
def h1(P:cG)(q:Bool)(nw:List Nat)(n0:Nat):List dd->br->(br->Prop)->Prop
 |[],st,K=>K st
 |⟨none,i⟩::r,st,K=>kF P q nw n0 st (fun st'=>h1 P q nw n0 r st' K) i
 |⟨some (s,want),i⟩::r,st,K=>match get s st.t with
  | .bool b=>(b=want->kF P q nw n0 {st with t:=put s (.bool want) st.t} (fun st'=>h1 P q nw n0 r st' K) i)/\(b= !want->h1 P q nw n0 r {st with t:=eZ i.dst (.tuple []) (put s (.bool !want) st.t)} K)
  | .tuple []=>h1 P q nw n0 r {st with t:=eZ i.dst (.tuple []) st.t} K
  |_=>e1
structure te (nw:List Nat) (n0 N:Nat) (p8:List aI) (st:br) (A:dm):Prop where
 like:lJ st A
 n:st.n=n0
 F:∀k,fresh n0 st.o k->(∀j∈nw,k≠ .obj j)->A.F k
 o:∀k∈st.o,k∈p8\/(∃d,d<N/\k= .loc (n0+d))\/ ∃j∈nw,k= .obj j
def Ci(nw:List Nat)(A:dm):Prop:= ∀j∈nw,A.b (.obj j)=none->A.e (.obj j)=none->A.F (.obj j)
theorem Ci.do{P:cG}{q:Bool}{n0:Nat}{nw:List Nat}{A:dm}(h:Ci nw A){g:dd}{x:kX}(af:kY P q n0 g A x):Ci nw (A.do x):=by
 intro j ae ab he;refine⟨h j ae (J9 ab) (Ka he),fun q3=>?_⟩;rcases(OT af).r _ q3 with⟨d,_,e⟩|⟨_,_,ag⟩
 ·cases e
 ·rcases ag with ag|ag
  ·obtain⟨y,aO⟩:=fU.1 ag;simp[dm.do,iJ,aO]at ab
  ·obtain⟨y,aO⟩:=fU.1 ag;simp[dm.do,iJ,aO]at he
theorem S4{P:cG}{q:Bool}{nw:List Nat}{n0 N:Nat}{p8:List aI}{i:er}(aR:∀d,i.dst=some d->d<N){st:br}{A:dm}(h:te nw n0 N p8 st A)(o0:Ci nw A){K:br->Prop}(he:kF P q nw n0 st K i):∃x st',eA P q n0 i A x/\K st'/\te nw n0 N p8 st' (A.do x):=by
 have ar:=h.like;have yv:∀d,yf n0 d st->(A.F (.loc (n0+d))/\A.b (.loc (n0+d))=none/\A.e (.loc (n0+d))=none):=fun d aJ=>⟨h.F _ ⟨Ψ,aJ.1⟩ (fun _ _ e=>by cases e),by rw[<-ar.b];exact aJ.2.1,by rw[<-ar.e];exact aJ.2.2⟩;have nx:∀(d:ba Nat) (p:ai) (bw:List (aI×List ai)) (ew:List (aI×fY)) (κ:aI),∀k,fresh n0 (κ::st.o) k->(∀j∈nw,k≠ .obj j)->(A.do ⟨d,p,bw,ew,some κ⟩).F k:=fun d p bw ew κ k ad ae=>⟨h.F k (wv k ad).1 ae,fun e=>(wv k ad).2 (eQ e).symm⟩;have yl:∀(d:ba Nat) (p:ai) (bw:List (aI×List ai)) (ew:List (aI×fY)),∀k,fresh n0 st.o k->(∀j∈nw,k≠ .obj j)->(A.do ⟨d,p,bw,ew,none⟩).F k:=fun d p bw ew k ad ae=>⟨h.F k ad ae,Ψ⟩;have lS:∀d,d<N->∀k∈aI.loc (n0+d)::st.o,k∈p8\/(∃d,d<N/\k= .loc (n0+d))\/ ∃j∈nw,k= .obj j:=fun d aR k ad=>by
  rcases fA.1 ad with rfl|ad
  ·exact .inr (.inl ⟨d,aR,rfl⟩)
  ·exact h.o k ad
 cases i with
 |s i=>
  cases i with
  |v d i=>
   simp only[kF,eJ]at he;cases aB:hy st i with
   |none=>simp[aB]at he
   |some J6=>
    obtain⟨c,p⟩:=J6;simp only[aB]at he;obtain⟨J,U,au⟩:=he;refine⟨⟨some d,p,[],[],none⟩,_,⟨c,p,by rw[<-ZC ar];exact aB,U,fun oi=>?_,rfl⟩,au,Mq ar d p,h.n,yl _ _ _ _,h.o⟩;cases i<;>simp only[gd.isLoad]at oi<;>try(cases oi;done)
    case mget=>exact .inr (.inl J)
    case ment=>exact .inr (.inl J)
    case mlen=>exact .inr (.inl J)
    case loadB=>exact .inl rfl
    case mgetB=>exact .inl rfl
    simp only[mh,gd.loadO,iX ar]at J;exact .inr (by simpa only[gd.ptrOf]using J)
  |box d key v=>
   cases key with
   |some m=>simp only[kF,eJ,mh,false_and]at he
   |none=>simp only[kF,eJ,mh,pP]at he;obtain⟨J,U,au⟩:=he;rw[iX ar]at U;refine⟨_,_,⟨yv d J,U,rfl⟩,au,?_,h.n,nx _ _ _ _ _,lS d (aR d rfl)⟩;rw[iX ar];exact Bh ar d _ _ _ _ _ _
  |alloc d key z=>
   cases key with
   |some m=>simp only[kF,eJ,mh,false_and]at he
   |none=>simp only[kF,eJ,mh,pP]at he;obtain⟨J,U,au⟩:=he;exact⟨_,_,⟨yv d J,rfl⟩,au,Bh ar d _ _ _ _ _ _,h.n,nx _ _ _ _ _,lS d (aR d rfl)⟩
  |store sz u v=>
   simp only[kF,eJ]at he;cases hu:cv st.t u with
   |ptr k off=>
    cases ab:look k st.b with
    |none=>simp[hu,ab]at he
    |some cs=>simp only[hu,ab]at he;obtain⟨J,U,au⟩:=he;rw[iX ar]at U hu;refine⟨⟨none,.junk,[(k,oA cs off (cells (dI A.t v)))],[],none⟩,_,⟨k,off,cs,hu,by rw[<-ar.b];exact ab,U,rfl⟩,au,?_,h.n,yl _ _ _ _,h.o⟩;rw[iX ar];exact Hn ar k _ _
   |_=>
    exfalso;simp only[hu]at he;split at he
    ·have:=he.1;simp[mh,hu]at this
    ·exact he
  |bsl d sz el xs=>simp only[kF,eJ,mh,pP]at he;obtain⟨J,U,au⟩:=he;rw[u0 ar]at U;refine⟨_,_,⟨yv d J,U,rfl⟩,au,?_,h.n,nx _ _ _ _ _,lS d (aR d rfl)⟩;rw[u0 ar];exact w9 ar d _ _ _ _ _ _
  |app d sz el u v=>
   simp only[kF,eJ]at he;cases hu:cv st.t u with
   |slice dT tag xs=>
    cases aB:cv st.t v with
    |slice jz k8 ys=>
     simp only[hu,aB]at he;by_cases fp:dT=sz/\jz=sz
     ·obtain⟨rfl,rfl⟩:=fp;rw[iX ar]at hu aB;cases tag with
      |no=>simp at he
      |tr k j=>simp at he
      |lo k=>simp at he
      |nil=>simp only[and_self,if_true,mh,iX ar,hu,pP]at he;obtain⟨J,U,au⟩:=he;exact⟨_,_,⟨.nil,xs,k8,ys,hu,aB,.inr ⟨rfl,U,yv d J,rfl⟩⟩,au,w9 ar d _ _ _ _ _ _,h.n,nx _ _ _ _ _,lS d (aR d rfl)⟩
      |own k=>
       cases ad:look k st.e with
       |none=>simp[ad]at he
       |some o=>simp only[and_self,if_true,ad]at he;obtain⟨J,U,au⟩:=he;exact⟨_,_,⟨.own k,xs,k8,ys,hu,aB,.inl ⟨k,o,rfl,by rw[<-ar.e];exact ad,⟨by simpa[mh,iX ar,hu,ad]using J,U⟩,rfl⟩⟩,au,w9 ar d _ _ _ _ _ _,h.n,yl _ _ _ _,h.o⟩
     ·simp[fp]at he
    |_=>simp[hu,aB]at he
   |_=>simp[hu]at he
  |bslm d key sz el xs=>simp only[kF,eJ,mh,false_and]at he
  |mks d key sz el z x=>simp only[kF,eJ,mh,false_and]at he;split at he<;>simp at he
  |appm d key sz el u v=>
   simp only[kF,eJ]at he;cases hu:cv st.t u with
   |row dT k n=>
    cases aB:cv st.t v with
    |slice jz k8 ys=>
     simp only[hu,aB,tl]at he;by_cases fp:dT=sz/\jz=sz
     ·obtain⟨rfl,rfl⟩:=fp;rw[iX ar]at hu aB;simp only[and_self,if_true]at he;cases ad:look k st.e with
      |none=>simp[ad]at he
      |some o=>
       obtain⟨n',gh,xA,Nq⟩:=o;cases Nq with
       |none=>simp[ad]at he
       |some xs=>
        simp only[ad]at he;by_cases yp:n'=n/\gh=el/\xA=jz
        ·obtain⟨rfl,rfl,rfl⟩:=yp;simp only[and_self,if_true]at he;obtain⟨J,U,au⟩:=he;exact⟨_,_,⟨k,n',xs,k8,ys,hu,aB,by rw[<-ar.e];exact ad,U,rfl⟩,au,w9 ar d _ _ _ _ _ _,h.n,yl _ _ _ _,h.o⟩
        ·simp[yp]at he
     ·simp[fp]at he
    |_=>simp[hu,aB,tl]at he
   |slice dT tag xs=>
    exfalso;simp only[hu]at he;split at he
    ·have:=he.1;simp[mh,hu]at this
    ·exact he
   |_=>simp[hu,tl]at he
  |storeE sz u v=>
   simp only[kF,eJ]at he;cases hu:cv st.t u with
   |rptr dT k n i f=>
    cases ad:look k st.e with
    |none=>simp[hu,rG,ad]at he
    |some o=>
     obtain⟨n',el,xA,Nq⟩:=o;cases Nq with
     |none=>simp[hu,rG,ad]at he
     |some xs=>
      simp only[hu,rG,ad]at he;by_cases yp:n'=n/\xA=dT
      ·obtain⟨rfl,rfl⟩:=yp;simp only[and_self,if_true]at he;cases bm:xs[i]? with
       |none=>simp[bm]at he
       |some q=>simp only[bm]at he;obtain⟨J,U,au⟩:=he;rw[iX ar]at U hu;refine⟨⟨none,.junk,[],[(k,⟨n',el,xA,some (xs.set i (mZ q f (cells (dI A.t v))))⟩)],none⟩,_,⟨k,n',i,f,el,xA,xs,q,hu,by rw[<-ar.e];exact ad,bm,U,rfl⟩,au,?_,h.n,yl _ _ _ _,h.o⟩;rw[iX ar];exact Wl ar k _ _
      ·simp[yp]at he
   |_=>simp[hu,rG]at he
  |mkmap d key=>
   cases key with
   |none=>simp only[kF,eJ,mh,false_and]at he
   |some m=>
    simp only[kF,eJ,mh,pP]at he;obtain⟨⟨bs,J,U⟩,_,au⟩:=he;rw[ar.b]at J;rw[ar.e]at U;refine⟨_,_,⟨⟨o0 m bs J U,J,U⟩,rfl⟩,au,Bh ar d _ _ _ _ _ _,h.n,nx _ _ _ _ _,fun k ad=>?_⟩;rcases fA.1 ad with rfl|ad
    ·exact .inr (.inr ⟨m,bs,rfl⟩)
    ·exact h.o k ad
  |mput ck u k v=>
   simp only[kF,eJ,mh]at he;cases hu:cv st.t u with
   |gmap m=>
    cases ab:look m st.b with
    |none=>simp[hu,ab]at he
    |some cs=>
     cases hm:ox ck (cv st.t k) (cv st.t v) cs with
     |none=>simp[hu,ab,hm]at he
     |some cs'=>simp only[hu,ab,hm]at he;rw[iX ar]at hu;rw[iX ar,iX ar]at hm;exact⟨⟨none,.junk,[(m,cs')],[],none⟩,_,⟨m,cs,cs',hu,by rw[<-ar.b];exact ab,hm,rfl⟩,he.2.2,Hn ar m _ _,h.n,yl _ _ _ _,h.o⟩
   |_=>simp[hu]at he
  |range d key x=>simp only[kF,mh,false_and]at he;split at he<;>exact he.elim
 |next d x=>simp only[kF]at he
 |call d f xs=>
  simp only[kF]at he;cases aJ:cv st.t f with
  |func n dg=>
   simp only[aJ]at he;rw[iX ar]at aJ;rcases he with⟨cQ,r,rfl,bK,cq,da,hT⟩|⟨s,ah,r,rm,bK,cq,da,hT,kE,pN,Cx,abB,abC⟩
   ·rw[u0 ar]at cq da;have ax:=h.n;subst ax;refine⟨⟨some cQ,r,[],[],some (.loc (st.n+cQ))⟩,_,⟨n,dg,aJ,.inr ⟨cQ,r,rfl,yv cQ bK,cq,da,rfl⟩⟩,hT,Wm ar cQ r _ _,rfl,nx _ _ _ _ _,lS cQ (aR cQ rfl)⟩
   rw[u0 ar]at pN Cx;obtain⟨aU,bo,cd,e9,di⟩:=kE;refine⟨⟨d,r,ah.b,ah.e,rm⟩,_,⟨n,dg,aJ,.inl ⟨⟨s,ah,r,rm,fun k cs ad=>⟨by rw[<-ar.b];exact(bK k cs ad).1,(bK k cs ad).2.2⟩,fun k o ad=>⟨by rw[<-ar.e];exact(cq k o ad).1,(cq k o ad).2.2⟩,da,hT,⟨aU,bo,cd,e9,fun k ad=>?_⟩,pN,Cx,rfl⟩,abB⟩⟩,abC,⟨fun i=>?_,fun k=>?_,fun k=>?_⟩,h.n,fun k ad ae=>⟨h.F k ad ae,fun q3=>?_⟩,h.o⟩
   ·obtain⟨⟨j,ae,rfl⟩,aE,bn,dh⟩:=di k ad;rw[ar.b]at aE;rw[ar.e]at bn;exact⟨⟨j,rfl⟩,o0 j ae aE bn,aE,bn,dh⟩
   ·simp only[after,dm.do];cases d with
    |none=>simpa[eZ]using ar.t i
    |some d=>simp only[eZ,pV,dQ,ar.t]
   ·simp only[after,dm.do,iJ,y0,vz];by_cases ag:(look k s.b).isSome
    ·have:=cd k ag;obtain⟨y,aO⟩:=fU.1 this;simp[ag,aO]
    ·cases ax:look k ah.b with
     |none=>simp only[ag,ar.b];cases A.b k<;>simp
     |some y=>
      rcases aU k (by simp[ax])with h|h
      ·exact absurd h ag
      ·have:=di k h;simp[ag,this]
   ·simp only[after,dm.do,iJ,y0,vz];by_cases ag:(look k s.e).isSome
    ·have:=e9 k ag;obtain⟨y,aO⟩:=fU.1 this;simp[ag,aO]
    ·cases ax:look k ah.e with
     |none=>simp only[ag,ar.e];cases A.e k<;>simp
     |some y=>
      rcases bo k (by simp[ax])with h|h
      ·exact absurd h ag
      ·have:=di k h;simp[ag,this]
   ·obtain⟨⟨j,iK,rfl⟩,_⟩:=di k q3;exact ae j iK rfl
  |_=>simp[aJ]at he
def Ae(N:Nat):List dd->Bool
 |[]=>true
 |g::r=>jD N g.i.dst&&Ae N r
def zJ:Nat->List dd->List (Nat×dd)
 |_,[]=>[]
 |k,g::r=>(k,g)::zJ (k+1) r
theorem PO{nw:List Nat}{n0 N:Nat}{p8:List aI}{st:br}{A:dm}(h:te nw n0 N p8 st A){s:Nat}{p:ai}(ag:get s st.t=p):te nw n0 N p8 {st with t:=put s p st.t} A:=by
 refine⟨⟨fun i=>?_,h.like.b,h.like.e⟩,h.n,h.F,h.o⟩;simp only[pV];split
 ·rename_i e;subst e;rw[<-ag];exact h.like.t _
 ·exact h.like.t i
theorem PQ{nw:List Nat}{n0 N:Nat}{p8:List aI}{st:br}{A:dm}(h:te nw n0 N p8 st A)(d:ba Nat):te nw n0 N p8 {st with t:=eZ d (.tuple []) st.t} (A.do (lE d)):=by
 refine⟨⟨fun i=>?_,fun k=>?_,fun k=>?_⟩,h.n,fun k ad ae=>⟨h.F k ad ae,by simp[lE]⟩,h.o⟩
 ·simp only[dm.do,lE];cases d with
  |none=>simpa[eZ]using h.like.t i
  |some d=>simp only[eZ,pV,dQ,h.like.t]
 ·simpa[dm.do,iJ,look,lE]using h.like.b k
 ·simpa[dm.do,iJ,look,lE]using h.like.e k
theorem CG{P:cG}{q:Bool}{nw:List Nat}{n0 N:Nat}{p8:List aI}{K:br->Prop}:∀(gs:List dd) (k:Nat),Ae N gs=true->∀(st:br) (A:dm),te nw n0 N p8 st A->Ci nw A->h1 P q nw n0 gs st K->wo P q n0 (fun gu=> ∃st',K st'/\te nw n0 N p8 st' gu) (zJ k gs) A
 |[],k,_,st,A,h,_,he=>⟨st,he,h⟩
 |⟨nv,i⟩::r,k,aR,st,A,h,o0,he=>by
  simp only[Ae,cC]at aR;have tE:∀d,i.dst=some d->d<N:=fun d e=>by have:=aR.1;rw[e]at this;simpa[jD]using this
  simp only[zJ,wo];cases nv with
  |none=>simp only[h1]at he;obtain⟨x,st',J,U,au⟩:=S4 tE h o0 he;have a7:kY P q n0 ⟨none,i⟩ A x:=J;exact⟨x,a7,CG r (k+1) aR.2 st' _ au (o0.do a7) U⟩
  |some zA=>
   obtain⟨s,want⟩:=zA;simp only[h1]at he;split at he
   ·rename_i b ab;by_cases e:b=want
    ·subst e;obtain⟨x,st',J,U,au⟩:=S4 tE (PO h ab) o0 (he.1 rfl);have a7:kY P q n0 ⟨some (s,b),i⟩ A x:=by unfold kY;simp only[<-h.like.t,ab];exact .inl ⟨trivial,J⟩
     exact⟨x,a7,CG r (k+1) aR.2 st' _ au (o0.do a7) U⟩
    ·have fW:b= !want:=by cases b<;>cases want<;>simp at e⊢
     subst fW;have a7:kY P q n0 ⟨some (s,want),i⟩ A (lE i.dst):=by unfold kY;simp only[<-h.like.t,ab];exact .inr ⟨trivial,trivial⟩
     exact⟨lE i.dst,a7,CG r (k+1) aR.2 _ _ (PQ (PO h ab) i.dst) (o0.do a7) (he.2 rfl)⟩
   ·rename_i ab;have a7:kY P q n0 ⟨some (s,want),i⟩ A (lE i.dst):=by unfold kY;simp only[<-h.like.t,ab]
    exact⟨lE i.dst,a7,CG r (k+1) aR.2 _ _ (PQ h i.dst) (o0.do a7) he⟩
   ·exact he.elim
theorem N4:∀(gs:List dd) (l:Array Bool) (k:Nat),(∀j,l.getD j false=false)->rem l k gs=zJ k gs
 |[],_,_,_=>rfl
 |g::r,l,k,h=>by simp only[rem,h k,zJ,N4 r l (k+1) h];simp
def uE(n:Nat)(o:List aI)(K:br->Prop)(st:br):Prop:=K {st with n:=n,o:=o}
theorem Good.like{pr:Nat->Prop}{w:World}{ν:bg}{b cb:List (aI×List ai)}{e ff:List (aI×fY)}(h:Good pr w ν b e)(ab:∀k,look k cb=look k b)(he:∀k,look k ff=look k e):Good pr w ν cb ff:=
 ⟨h.alt,fun k cs ad=>h.box k cs (by rw[<-ab];exact ad),fun k bT bl J U=>h.inj k bT bl (by rw[<-ab];exact J) (by rw[<-ab];exact U),fun g o a7=>h.own g o (by rw[<-he];exact a7),
  fun g fu n n' v v' bl J U=>h.oinj g fu n n' v v' bl (by rw[<-he];exact J) (by rw[<-he];exact U),fun g k n v bl J U=>h.obx g k n v bl (by rw[<-he];exact J) (by rw[<-ab];exact U),h.one,
  fun bl aN=>h.otr bl (aN.imp (fun⟨k,bC,a2⟩=>⟨k,by rw[<-ab];exact bC,a2⟩) (fun⟨g,n,v,bC,a2⟩=>⟨g,n,v,by rw[<-he];exact bC,a2⟩))⟩
theorem S5{P:cG}(hm:P.follows .mixedOrders=true){bG:List (Nat×dH)}(aN:fS P bG=true){C:ft}{q:Bool}{nw:List Nat}{id:Nat}{ops:Array Oper}{gs:List dd}(kI:kG C.N bG ops.toList gs ops.toList=true)(Gq:Cq gs ops.toList=true)(iY:Ae C.N gs=true)
  {K:br->Prop} {Q:Exit->Act->World->Prop} (hV:∀st' bq w' bt,K st'->cY C st' bq w' bt->Q .normal bq w') {st:br} {a:Act} {w:World} {ν:bg} (aic:∀j∈nw,.obj j∉st.o) (he:h1 P q nw st.n gs st (uE (st.n+C.N) (nw.map aI.obj++st.o) K)) (aM:cY C st a w ν):(Code.region id ops true).wp P Q a w:=by
 refine wp_region_any hm ?_;have dS:cY C st a {w with drawn:=w.drawn+1} ν:=aM.drawn _;let A:dm:=⟨fun i=>get i st.t,fun k=>look k st.b,fun k=>look k st.e,fresh st.n st.o⟩
 have sd:te nw st.n C.N st.o st A:=⟨⟨fun _=>rfl,fun _=>rfl,fun _=>rfl⟩,rfl,fun k ad _=>ad,fun k ad=>.inl ad⟩;have tD:=CG gs 0 iY st A sd (fun j ae _ _=>⟨trivial,aic j ae⟩) he;have o5:∀j,(Array.replicate ops.size false).getD j false=false:=fun j=>by simp[Array.getD_eq_getD_getElem?,Array.getElem?_replicate];split<;>rfl
 refine aa7 aN kI Gq (q:=q) (n0:=st.n) (K:=fun gu=> ∃st',uE (st.n+C.N) (nw.map aI.obj++st.o) K st'/\te nw st.n C.N st.o st' gu) ?_ ops.size _ A a _ Ψ ?_ ?_ (by rw[N4 gs _ 0 o5];exact tD) ⟨st,ν,sd.like,fun k ad=>ad,dS⟩
 ·rintro gu bq w' ⟨st',ad,bu⟩ ⟨avi,bt,oh,CZ,mL⟩;refine hV _ bq w' bt ad ⟨mL.good.like (fun k=>by rw[oh.b,<-bu.like.b]) (fun k=>by rw[oh.e,<-bu.like.e]),mL.fr,mL.defers,mL.size,fun i=>?_,fun k AP=>?_⟩
  ·have:=mL.slot i;rw[oh.t,<-bu.like.t]at this;exact this
  ·refine mL.new k (CZ k (bu.F k ?_ fun j ae e=>AP.2 (by subst e;exact List.mem_append_left _ (List.mem_map_of_mem ae))));simp only at AP;refine⟨(KK (Nat.le_add_right st.n C.N) (fun _ h=>h) AP).1,fun iL=>?_⟩;rcases bu.o k iL with h|⟨d,aR,rfl⟩|⟨j,ae,rfl⟩;rotate_left 2
   ·exact AP.2 (List.mem_append_left _ (List.mem_map_of_mem ae))
   ·exact AP.2 (List.mem_append_right _ h)
   ·have:=AP.1;simp at this;omega
 ·intro k o ad ar;rw[o5]at ar;cases ar
 ·rw[N4 gs _ 0 o5];have:∀(gs:List dd) k,(zJ k gs).length=gs.length:=by
   intro gs;induction gs with
   |nil=>intro k;rfl
   |cons g r bR=>intro k;simp[zJ,bR]
  rw[this];have:=K0 kI;simp at this;omega
def eg:List ai->Prop
 |[]=>True
 |p::b0=>(match p with| .slice _ _ xs=>xs.length<=lim| .str s=>s.length<=lim|_=>True)/\eg b0
def ec:ai->Prop
 | .slice _ _ xs=>xs.length<=lim
 | .str s=>s.length<=lim
 | .agg cs=>eg cs
 |_=>True
def ek:List ai->Prop
 |[]=>True
 |p::r=>ec p/\ek r
theorem N7{w:World}{ν:bg}:∀{cs:List ai} {us:List Value},dc w ν cs us->eg cs
 |[],_,_=>trivial
 |c::cs,us,h=>by
  simp only[dc]at h;obtain⟨u,ct,_,J,U⟩:=h;refine⟨?_,N7 U⟩;cases c<;>simp only<;>have au:=J.1<;>simp only[bd]at au
  ·exact au.2
  ·obtain⟨⟨a,cap,_,_,a6,_⟩,_⟩:=au;exact a6.2
theorem Yz{w:World}{ν:bg}{cs:List ai}{us:List Value}(h:jx w ν cs us):gG cs=true->eg cs:=fun bB=>by rw[vG bB]at h;exact N7 h
theorem YL{w:World}{ν:bg}{p:ai}{v:Value}(h:bd w ν p v):ec p:=by
 cases p<;>simp only[ec]<;>simp only[bd]at h
 ·exact h.2
 ·obtain⟨⟨a,cap,_,_,a6,_⟩,_⟩:=h;exact a6.2
 ·obtain⟨us,_,U⟩:=h;exact N7 U
theorem YJ{w:World}{ν:bg}:∀{cs:List ai} {us:List Value},cW w ν cs us->ek cs
 |[],_,_=>trivial
 |c::cs,us,h=>by simp only[cW]at h;obtain⟨u,ct,_,J,U⟩:=h;exact⟨YL J,YJ U⟩
inductive C where
 |skip
 |region (gs:List dd)
 |drawn (q:Bool) (N:Nat) (gs:List dd)
 |drawnW (nw:List Nat) (N:Nat) (gs:List dd)
 |seq (a b:C)
 |cond (x:dz) (t e:C)
 |block (id:Nat) (c:C)
 |loop (c:C)
 |exit (id:Nat)
 |ret
 |pub (s:Nat) (c:C)
 |pubB (s:Nat) (c:C)
 |fg (p4:Bool) (s:Nat) (c:C)
 |fz (agg:Bool) (s:Nat) (c:C)
 |no
def Ep(st:br):ai->ba (ai×List (aI×fY))
 | .row sz k n=>match look k st.e with
  |some ⟨n',el,dT,some xs⟩=>if n'=n/\dT=sz then some (.slice sz (.own k) xs,cA k ⟨n,el,sz,none⟩ st.e)else none
  |_=>none
 |_=>none
def xo(st:br)(s:Nat):ba br:=
 match Ep st (get s st.t)with
 |some (p,e)=>some {st with t:=put s p st.t,e:=e}
 |none=>none
def xm(st:br)(s:Nat):ba br:=
 match get (s%1000) st.t with
 | .ptr k off=>match look k st.b with
  |some cs=>match cs[off+s/1000]? with
   |some p=>match Ep st p with
    |some (BB,e)=>if gG cs then some {st with b:=cA k (cs.set (off+s/1000) BB) st.b,e:=e}else none
    |none=>none
   |none=>none
  |none=>none
 |_=>none
theorem N3{C:ft}{st:br}{a:Act}{w:World}{ν:bg}(h:cY C st a w ν){s:Nat}{p:ai}(ag:bd w ν p (a.tmps.getD s undef)):cY C {st with t:=put s p st.t} a w ν:=by
 refine⟨h.good,h.fr,h.defers,h.size,fun i=>?_,h.new⟩;have:=h.slot i;simp only[pV];split
 ·rename_i e;subst e;exact ag
 ·exact this
theorem Xy{C:ft}{st:br}{a:Act}{w:World}{ν:bg}(h:cY C st a w ν){p BB:ai}{e:List (aI×fY)}{v:Value}(bB:bd w ν p v)(he:Ep st p=some (BB,e)):
  ∃bt,cY C {st with e:=e} a w bt/\bd w bt BB v/\lK w ν w bt:=by
 unfold Ep at he;split at he
 ·rename_i sz k n;split at he
  ·rename_i n' el dT xs ad;split at he
   ·rename_i aw;obtain⟨rfl,rfl⟩:=aw;cases he;simp only[bd]at bB;obtain⟨_,ar,n0,u,J,U,au⟩:=bB;obtain⟨v0,fH,bc,bE,b1,c5⟩:=h.good.own k _ ad;rw[J]at bc;simp only[dQ,jB]at bc;obtain⟨rfl,rfl⟩:=bc;have aB:v=u:=au rfl;subst aB;obtain⟨df,_,_⟩:=c5 xs rfl;simp only at df;obtain⟨g1,g2⟩:=h.publish ad rfl J (by rw[df];exact ar);refine⟨_,g1,g2,⟨fun b o bk=>⟨.inl bk,rfl⟩,fun j b _ ae=>ae,fun g n u _ iZ=>⟨n,u,?_,.inl ⟨rfl,rfl⟩⟩,fun _ _ _=>rfl,fun _ _ _ _ h=>h⟩⟩;simp only[bg.withRowOf];split
    ·rename_i e;subst e;rw[J]at iZ;exact iZ
    ·exact iZ
   ·cases he
  ·cases he
 ·cases he
def Am(p4:Bool):ai->ai
 | .slice sz tag xs=>.slice sz (if p4 then tag else .no) (c2 xs)
 |p=>dt p
theorem afJ{w:World}{ν:bg}{p4:Bool}{p:ai}{v:Value}(h:bd w ν p v):bd w ν (Am p4 p) v:=by
 have J:=zr p v h;cases p with
 |slice sz tag xs=>
  simp only[Am];cases p4 with
  |false=>simpa only[hl,if_false,dt]using J
  |true=>
   simp only[if_true];simp only[bd,dt]at h J⊢;refine⟨J.1,fun e=>h.2.1 e,fun g e=>?_,fun k j e=>?_,fun k e=>?_⟩
   ·obtain⟨n,u,al,aE,bn⟩:=h.2.2.1 g e;exact⟨n,u,al,by rw[vV];exact aE,by rw[vV];exact bn⟩
   ·exact TG _ _ (h.2.2.2.1 k j e)
   ·exact TG _ _ (h.2.2.2.2 k e)
 |_=>exact J
theorem amW{C:ft}{st st':br}{a:Act}{w:World}{ν:bg}(h:cY C st a w ν){s:Nat}(he:xo st s=some st'):∃bt,cY C st' a w bt:=by
 unfold xo at he;split at he
 ·rename_i p e bB;cases he;obtain⟨bt,J,U,_⟩:=Xy h (h.slot s) bB;exact⟨_,N3 J U⟩
 ·cases he
theorem YG{w:World}{ν:bg}:∀{cs:List ai} {us:List Value} {i:Nat} {p q:ai} {v:Value},dc w ν cs us->cs[i]? =some p->us[i]? =some v->bd w ν q v->dc w ν (cs.set i q) us
 |[],_,_,_,_,_,_,h,_,_=>by simp at h
 |c::cs,us,0,p,q,v,h,_,aB,bm=>by simp only[dc]at h;obtain⟨u,ct,rfl,J,U⟩:=h;simp only[List.getElem?_cons_zero,dQ]at aB;subst aB;simp only[List.set_cons_zero,dc];exact⟨_,_,rfl,⟨bm,J.2⟩,U⟩
 |c::cs,us,i+1,p,q,v,h,bB,aB,bm=>by simp only[dc]at h;obtain⟨u,ct,rfl,J,U⟩:=h;simp only[List.set_cons_succ,dc];exact⟨_,_,rfl,J,YG U (by simpa using bB) (by simpa using aB) bm⟩
theorem amV{C:ft}{st st':br}{a:Act}{w:World}{ν:bg}(h:cY C st a w ν){s:Nat}(he:xm st s=some st'):∃bt,cY C st' a w bt:=by
 unfold xm at he;split at he
 ·rename_i k akC ad;generalize akC+s/1000=off at he;split at he
  ·rename_i cs dw;split at he
   ·rename_i p bB;split at he
    ·rename_i BB e GM;split at he
     ·rename_i tL;cases he;obtain⟨bl,us,el,g1,g2,g3,g4,g5⟩:=h.good.box k cs dw;rw[vG tL]at g5;have bD:off<us.toList.length:=by rw[qb g5];exact(eP.1 bB).1
      obtain⟨v,aB⟩:∃v,us.toList[off]? =some v:=⟨_,cc bD⟩;have AW:bd w ν p v:=by have:=BR off g5;rw[lI (eP.1 bB).1,lI bD]at this;simp only[dc]at this;obtain⟨u,ct,al,aE,_⟩:=this;rw[(eP.1 bB).2]at aE;rw[(eP.1 aB).2]at al;cases al;exact aE.1
      obtain⟨bt,J,U,au⟩:=Xy h AW GM;have wQ:dc w bt (cs.set off BB) us.toList:=YG (YF au g5) bB aB U;have US:=BT wQ;refine⟨bt,⟨J.good.alt,fun j eV ae=>?_,fun j dP b ae iK=>J.good.inj j dP b ?_ ?_,J.good.own,J.good.oinj,fun g j n v b a7 ae=>J.good.obx g j n v b a7 ?_,J.good.one,fun bl ab=>J.good.otr bl (ab.imp (fun⟨bT,bC,a2⟩=>⟨bT,by rw[je]at bC;split at bC;(rename_i e;subst e;simp[dw]);exact bC,a2⟩) id)⟩,J.fr,J.defers,J.size,J.slot,J.new⟩
      ·simp only at ae;rw[je]at ae;split at ae
       ·rename_i e;subst e;cases ae;obtain⟨iI,ct,gh,f1,f2,f3,f4,f5⟩:=J.good.box k cs dw;have:iI=bl:=by have:=au.bx k bl trivial g1;rw[this]at f1;cases f1;rfl
        subst this;rw[vF tL]at g4 f4;rw[g4]at f4;injection f4 with f4;injection f4 with f4 f6 f7;refine⟨iI,us,el,f1,f2,f3,by rw[vF US];exact g4,by rw[vG US];exact wQ⟩
       ·exact J.good.box j eV ae
      ·simp only at ae;rw[je]at ae;split at ae
       ·rename_i e;subst e;simp[dw]
       ·exact ae
      ·simp only at iK;rw[je]at iK;split at iK
       ·rename_i e;subst e;simp[dw]
       ·exact iK
      ·simp only at ae;rw[je]at ae;split at ae
       ·rename_i e;subst e;simp[dw]
       ·exact ae
     ·cases he
    ·cases he
   ·cases he
  ·cases he
 ·cases he
def tt{α:Type}(k:aI)(l:List (aI×α)):List (aI×α):=match l with
 |[]=>[]
 |(i,x)::r=>if i=k then tt k r else(i,x)::tt k r
theorem Mr{α:Type}(k j:aI):∀l:List (aI×α),look j (tt k l)=if j=k then none else look j l
 |[]=>by simp[tt,look]
 |(i,x)::r=>by
  simp only[tt];by_cases h:i=k
  ·subst h;rw[if_pos rfl,Mr i j r];by_cases U:j=i
   ·simp[U]
   ·have:¬i=j:=fun e=>U e.symm;simp[look,U,this]
  ·rw[if_neg h];simp only[look];by_cases U:i=j
   ·subst U;simp[h]
   ·simp only[U,if_false];exact Mr k j r
def KN(agg:Bool):List ai->ba ai
 |[p]=>if agg then some (.agg [p])else some p
 |cs=>if agg then some (.agg cs)else none
def wx(st:br)(agg:Bool)(s:Nat):ba br:=
 match get s st.t with
 | .ptr k 0=>match look k st.b with
  |some cs=>if gG cs then match KN agg cs with
    |some x=>some {st with t:=put s (.eptr x) st.t,b:=tt k st.b}
    |none=>none
   else none
  |none=>none
 |_=>none
theorem amK{u:Value}(h:u.oneCell'=true):u.cells.toList=[u]:=by cases u<;>first|rfl|(simp[Value.oneCell']at h)
theorem Wc{w:World}{A:Nat->Nat->Prop}{b:Nat}{us:Array Value}{el:fZ}(ab:w.heap[b]? =some (.cells us el))(bk:∀o,o<us.size->A b o):∀(bf:List Value) (off:Nat),us.toList.drop off=bf->l1 w A b off bf
 |[],_,_=>trivial
 |v::bf,off,h=>by
  have bD:off<us.toList.length:=by
   rcases Nat.lt_or_ge off us.toList.length with J|J
   ·exact J
   ·rw[List.drop_eq_nil_of_le J]at h;cases h
  have U:=lI bD;rw[h]at U;injection U with U au;refine⟨⟨bk off (by simpa using bD),?_⟩,Wc ab bk bf (off+1) au.symm⟩;have wK:off<us.size:=by simpa using bD
  simp only[World.cell?,ab,mc,hl,if_false];rw[U];simp[wK]
theorem af0{C:ft}{st st':br}{a:Act}{w:World}{ν:bg}(h:cY C st a w ν){agg:Bool}{s:Nat}(he:wx st agg s=some st'):∃bt,cY C st' a w bt:=by
 unfold wx at he;split at he
 ·rename_i k ad;split at he
  ·rename_i cs dw;split at he
   ·rename_i tL;split at he
    ·rename_i x af;cases he;obtain⟨bl,us,el,g1,g2,g3,g4,g5⟩:=h.good.box k cs dw;rw[vG tL]at g5;rw[vF tL]at g4;have bD:bl<w.heap.size:=by
      rcases Nat.lt_or_ge bl w.heap.size with J|J
      ·exact J
      ·rw[Array.getElem?_eq_none J]at g4;cases g4
     let bt:bg:={ν with A:=fun b o=>ν.A b o\/(b=bl/\o<us.size)}
     have ay:lK w ν w bt:=⟨fun b o bk=>⟨.inl bk,rfl⟩,fun j b _ ae=>ae,fun g n u _ iZ=>⟨n,u,iZ,.inl ⟨rfl,rfl⟩⟩,fun _ _ _=>rfl,fun _ _ _ _ h=>h⟩;have ik:∀j eV,look j (tt k st.b)=some eV->j≠k/\look j st.b=some eV:=fun j eV ae=>by
      rw[Mr]at ae;split at ae
      ·cases ae
      ·rename_i e;exact⟨e,ae⟩
     have GD:∀j,(look j (tt k st.b)).isSome->(look j st.b).isSome:=fun j ae=>by obtain⟨eV,iY⟩:=fU.1 ae;simp[(ik j eV iY).2]
     have q7:∀(g:aI) (n:Nat) (v:Value),(look g st.e).isSome->ν.ow g=some (n,v)->v.ownBlock=some bl->e1:=fun g n v J U au=>h.good.obx g k n v bl J (by simp[dw]) U au g1;have mN:bd w bt (.eptr x) (a.tmps.getD s undef):=by
      have ag:=h.slot s;rw[ad]at ag;simp only[bd]at ag⊢;obtain⟨cb,bc,bE⟩:=ag;rw[g1]at bc;cases bc;have ar:l1 w bt.A bl 0 us.toList:=Wc g4 (fun o ay=>.inr ⟨rfl,ay⟩) _ 0 rfl;have g6:dc w bt cs us.toList:=YF ay g5;unfold KN at af;split at af
      ·rename_i p;simp only[dc]at g6;obtain⟨u,ct,al,aE,bn⟩:=g6;subst bn;split at af
       ·cases af;exact⟨bl,0,.agg us,bE,by simp only[bd];exact⟨us,rfl,by rw[al];simp only[dc];exact⟨u,[],rfl,aE,rfl⟩⟩,by simpa[pB]using ar⟩
       ·cases af;refine⟨bl,0,u,bE,aE.1,?_⟩;rw[amK aE.2,<-al];exact ar
      ·split at af
       ·cases af;exact⟨bl,0,.agg us,bE,by simp only[bd];exact⟨us,rfl,g6⟩,by simpa[pB]using ar⟩
       ·cases af
     refine⟨bt,N3 (ν:=bt) (st:={st with b:=tt k st.b}) ⟨⟨fun b o bk=>?_,fun j eV ae=>?_,fun j dP b J U=>h.good.inj j dP b (GD j J) (GD dP U),fun g o a7=>?_,h.good.oinj,fun g j n v b J U=>h.good.obx g j n v b J (GD j U),h.good.one,fun b aN=>h.good.otr b (aN.imp (fun⟨j,bC,a2⟩=>⟨j,GD j bC,a2⟩) id)⟩,⟨h.fr.os,h.fr.tape,h.fr.output,h.fr.size,h.fr.block,fun b o bk=>⟨.inl (h.fr.keep b o bk).1,(h.fr.keep b o bk).2⟩,fun b o bk=>?_,h.fr.obj,h.fr.obn,h.fr.row,h.fr.obr,h.fr.trd,h.fr.trb,h.fr.trn,h.fr.sh⟩,h.defers,h.size,fun i=>zq ay (h.slot i),h.new⟩ mN⟩
     ·rcases bk with bk|⟨rfl,_⟩
      ·exact h.good.alt b o bk
      ·exact bD
     ·obtain⟨cM,iK⟩:=ik j eV ae;obtain⟨iI,ct,gh,f1,f2,f3,f4,f5⟩:=h.good.box j eV iK;refine⟨iI,ct,gh,f1,f2,fun o bk=>?_,f4,qG ay f5⟩;rcases bk with bk|⟨rfl,_⟩
      ·exact f3 o bk
      ·exact cM (h.good.inj j k _ (by simp[iK]) (by simp[dw]) f1 g1)
     ·obtain⟨v0,fH,al,aE,bn,dh⟩:=h.good.own g o a7;have wA:∀b,v0.ownBlock=some b->∀j,bt.A b j->ν.A b j:=fun b ab j bk=>by
       rcases bk with bk|⟨rfl,_⟩
       ·exact bk
       ·exact(q7 g _ v0 (by simp[a7]) al ab).elim
      exact⟨v0,fH,al,aE,fun b ab=>⟨(bn b ab).1,fun j bk=>(bn b ab).2 j (wA b ab j bk)⟩,sR ay wA dh⟩
     ·rcases bk with bk|⟨rfl,_⟩
      ·exact h.fr.fresh b o bk
      ·exact .inr g2
    ·cases he
   ·cases he
  ·cases he
 ·cases he
def sQ(st:br)(x:dz)(b:Bool):br:=match x with
 | .t i=>{st with t:=put i (.bool b) st.t}
 | .c _=>st
def c4(P:cG)(ob:List aI):C->(Exit->br->Prop)->br->Prop
 | .skip,Q,st=>Q .normal st
 | .region gs,Q,st=>ig P gs st (Q .normal)
 | .drawn q N gs,Q,st=>h1 P q [] st.n gs st (uE (st.n+N) st.o (Q .normal))
 | .drawnW nw N gs,Q,st=>(∀j∈nw,.obj j∉st.o)/\h1 P false nw st.n gs st (uE (st.n+N) (nw.map aI.obj++st.o) (Q .normal))
 | .seq a b,Q,st=>c4 P ob a (fun e st'=>match e with| .normal=>c4 P ob b Q st'|e=>Q e st') st
 | .cond x t e,Q,st=>match cv st.t x with
  | .bool b=>(b=true->c4 P ob t Q (sQ st x true))/\(b=false->c4 P ob e Q (sQ st x false))
  |_=>e1
 | .block id c,Q,st=>c4 P ob c (fun e st'=>match e with| .exit j=>if j=id then Q .normal st' else Q (.exit j) st'|e=>Q e st') st
 | .loop c,Q,st=> ∃(hp:Nat->br->Prop) (m:Nat) (xy:br),iU ob st xy/\hp m xy/\
   ∀k s,hp k s->(∀i,ec (get i s.t))->(∀j cs,look j s.b=some cs->gG cs=true->eg cs)->c4 P ob c (fun e ah=>match e with| .normal=> ∃bT pe,bT<k/\iU ob ah pe/\hp bT pe|e=>Q e ah) s
 | .exit id,Q,st=>Q (.exit id) st
 | .ret,Q,st=>Q .ret st
 | .pub s c,Q,st=>match xo st s with
  |some st'=>c4 P ob c Q st'
  |none=>e1
 | .pubB s c,Q,st=>match xm st s with
  |some st'=>c4 P ob c Q st'
  |none=>e1
 | .fg p4 s c,Q,st=>c4 P ob c Q {st with t:=put s (Am p4 (get s st.t)) st.t}
 | .fz gf s c,Q,st=>match wx st gf s with
  |some st'=>c4 P ob c Q st'
  |none=>e1
 | .no,_,_=>e1
def hH(N:Nat)(bG:List (Nat×dH)):C->Code->Bool
 | .skip,.skip=>true
 | .region gs,.region _ ops false=>kG N bG ops.toList gs ops.toList
 | .drawn _ N' gs,.region _ ops true=>N'==N&&kG N bG ops.toList gs ops.toList&&Cq gs ops.toList&&Ae N gs
 | .drawnW _ N' gs,.region _ ops true=>N'==N&&kG N bG ops.toList gs ops.toList&&Cq gs ops.toList&&Ae N gs
 | .seq a b,.seq x y=>hH N bG a x&&hH N bG b y
 | .cond x t e,.cond o dZ ff=>eu x o&&hH N bG t dZ&&hH N bG e ff
 | .block id c,.block DF cw=>id==DF&&hH N bG c cw
 | .loop c,.loop cw=>hH N bG c cw
 | .exit id,.exit DF=>id==DF
 | .ret,.ret=>true
 | .pub _ c,cw=>hH N bG c cw
 | .pubB _ c,cw=>hH N bG c cw
 | .fg _ _ c,cw=>hH N bG c cw
 | .fz _ _ c,cw=>hH N bG c cw
 | .no,_=>true
 |_,_=>false
theorem T2{N:Nat}{bG:List (Nat×dH)}{ops:List Oper}:∀{gs:List dd} {os:List Oper},kG N bG ops gs os=true->gs.length=os.length
 |[],[],_=>rfl
 |[],_::_,h=>by simp[kG]at h
 |_::_,[],h=>by simp[kG]at h
 |g::gs,o::os,h=>by simp only[kG,cC]at h;simp[T2 h.2]
def aaB(P:cG)(C:ft)(c:Code)(Q:Exit->br->Prop)(st:br):Prop:= ∀a w ν,cY C st a w ν->c.wp P (fun e bq w'=> ∃st' bt,Q e st'/\cY C st' bq w' bt) a w
theorem r4{P:cG}(hm:P.follows .mixedOrders=true){bG:List (Nat×dH)}(aN:fS P bG=true){X:ft}:∀(c:C) (code:Code) (Q:Exit->br->Prop) (st:br),hH X.N bG c code=true->c4 P X.ob c Q st->aaB P X code Q st
 | .skip,code,Q,st,ay,he=>by
  cases code<;>simp only[hH]at ay<;>try cases ay
  intro a w ν aM;exact wp_skip ⟨st,ν,he,aM⟩
 | .region gs,code,Q,st,ay,he=>by
  cases code<;>try(simp[hH]at ay;done)
  rename_i id ops draw;cases draw<;>simp only[hH]at ay
  ·intro a w ν aM;refine wp_region ?_;have ar:gs.length=ops.size:=by simpa using T2 ay
   rw[List.range_eq_range',<-ar];exact S6 aN (K:=Q .normal) (fun st' bq w' bt J U=>⟨st',bt,J,U⟩) gs ops.toList 0 Ψ ay st a w ν he aM
  ·cases ay
 | .drawn q N gs,code,Q,st,ay,he=>by
  cases code<;>try(simp[hH]at ay;done)
  rename_i id ops draw;cases draw<;>simp only[hH]at ay
  ·cases ay
  ·simp only[cC,dV]at ay;obtain⟨⟨⟨rfl,J⟩,U⟩,au⟩:=ay;intro a w ν aM;exact S5 hm aN J U au (nw:=[]) (K:=Q .normal) (fun st' bq w' bt J U=>⟨st',bt,J,U⟩) Ψ he aM
 | .drawnW nw N gs,code,Q,st,ay,he=>by
  cases code<;>try(simp[hH]at ay;done)
  rename_i id ops draw;cases draw<;>simp only[hH]at ay
  ·cases ay
  ·simp only[cC,dV]at ay;obtain⟨⟨⟨rfl,J⟩,U⟩,au⟩:=ay;intro a w ν aM;exact S5 hm aN J U au (nw:=nw) (K:=Q .normal) (fun st' bq w' bt J U=>⟨st',bt,J,U⟩) he.1 he.2 aM
 | .seq x y,code,Q,st,ay,he=>by
  cases code<;>try(simp[hH]at ay;done)
  rename_i pO lN;simp only[hH,cC]at ay;intro a w ν aM;refine wp_seq ?_;have J:=r4 hm aN x pO _ st ay.1 he a w ν aM;refine wp_mono J fun e bq w' cz=>?_;obtain⟨st',bt,bm,dS⟩:=cz;cases e with
  |normal=>exact r4 hm aN y lN Q st' ay.2 bm bq w' bt dS
  |_=>exact⟨st',bt,bm,dS⟩
 | .cond x t e,code,Q,st,ay,he=>by
  cases code<;>try(simp[hH]at ay;done)
  rename_i o acr ce;simp only[hH,cC]at ay;intro a w ν aM;simp only[c4]at he;have af:=ev aM ay.1.1;split at he
  ·rename_i b ab;rw[ab]at af;simp only[bd]at af;have Dv:cY X (sQ st x b) a w ν:=by
    unfold sQ;split
    ·exact N2 aM (by simpa[cv]using ab)
    ·exact aM
   refine wp_cond af ?_;cases b
   ·exact r4 hm aN e ce Q _ ay.2 (he.2 rfl) a w ν Dv
   ·exact r4 hm aN t acr Q _ ay.1.2 (he.1 rfl) a w ν Dv
  ·exact he.elim
 | .block id c,code,Q,st,ay,he=>by
  cases code<;>try(simp[hH]at ay;done)
  rename_i DF cw;simp only[hH,cC,dV]at ay;obtain⟨rfl,ay⟩:=ay;intro a w ν aM;refine wp_block ?_;refine wp_mono (r4 hm aN c cw _ st ay he a w ν aM) fun e bq w' cz=>?_;obtain⟨st',bt,bm,dS⟩:=cz;cases e with
  |exit j=>
   simp only[Exit.inBlock]at bm⊢;by_cases ae:j=id
   ·rw[if_pos ae]at bm⊢;exact⟨st',bt,bm,dS⟩
   ·rw[if_neg ae]at bm⊢;exact⟨st',bt,bm,dS⟩
  |_=>exact⟨st',bt,bm,dS⟩
 | .loop c,code,Q,st,ay,he=>by
  cases code<;>try(simp[hH]at ay;done)
  rename_i cw;simp only[hH]at ay;intro a w ν aM;simp only[c4]at he;obtain⟨hp,m,xy,hw,hi,jV⟩:=he;refine wp_loop_ghost (fun k a w=> ∃s ν,hp k s/\cY X s a w ν) m ⟨xy,_,hi,aM.weaker hw⟩ ?_;intro k a w ag9;obtain⟨s,ν,ag,Dw⟩:=ag9;have J:=jV k s ag (fun i=>YL (Dw.slot i)) (fun j cs ae=>by obtain⟨bl,us,el,_,_,_,_,g5⟩:=Dw.good.box j cs ae;exact Yz g5);refine wp_mono (r4 hm aN c cw _ s ay J a w ν Dw) fun e bq w' cz=>?_;obtain⟨st',bt,bm,dS⟩:=cz;cases e with
  |normal=>obtain⟨bT,pe,al,aE,bn⟩:=bm;exact⟨bT,al,pe,_,bn,dS.weaker aE⟩
  |_=>exact⟨st',bt,bm,dS⟩
 | .exit id,code,Q,st,ay,he=>by
  cases code<;>try(simp[hH]at ay;done)
  rename_i DF;simp only[hH,dV]at ay;subst ay;intro a w ν aM;exact wp_exit ⟨st,ν,he,aM⟩
 | .ret,code,Q,st,ay,he=>by
  cases code<;>try(simp[hH]at ay;done)
  intro a w ν aM;exact wp_ret ⟨st,ν,he,aM⟩
 | .pub s c,code,Q,st,ay,he=>by
  simp only[hH]at ay;simp only[c4]at he;split at he
  ·rename_i st' ag;intro a w ν aM;obtain⟨bt,J⟩:=amW aM ag;exact r4 hm aN c code Q st' ay he a w bt J
  ·exact he.elim
 | .pubB s c,code,Q,st,ay,he=>by
  simp only[hH]at ay;simp only[c4]at he;split at he
  ·rename_i st' ag;intro a w ν aM;obtain⟨bt,J⟩:=amV aM ag;exact r4 hm aN c code Q st' ay he a w bt J
  ·exact he.elim
 | .fg p4 s c,code,Q,st,ay,he=>by simp only[hH]at ay;simp only[c4]at he;intro a w ν aM;exact r4 hm aN c code Q _ ay he a w ν (N3 aM (afJ (aM.slot s)))
 | .fz gf s c,code,Q,st,ay,he=>by
  simp only[hH]at ay;simp only[c4]at he;intro a w ν aM;split at he
  ·rename_i st' cR;obtain⟨bt,J⟩:=af0 aM cR;exact r4 hm aN c code Q st' ay he a w bt J
  ·exact he.elim
 | .no,code,Q,st,ay,he=>by simp only[c4]at he
inductive bN where
 |tmp (i:Nat)
 |cell (i:Nat) (agg:Bool) (sz:Nat)
def aY(st:br):bN->ba (Prop×ai)
 | .tmp i=>some (True,get i st.t)
 | .cell i agg sz=>mW st.b st.e agg sz (get i st.t)
def aX(st:br):List bN->ba (Prop×List ai)
 |[]=>some (True,[])
 |r::fw=>match aY st r,aX st fw with
  |some (c,p),some (cw,b0)=>some (c/\cw,p::b0)
  |_,_=>none
def ry(bG:List (Nat×dH)):List bN->List ResultVar->Bool
 |[],[]=>true
 | .tmp i::fw,.tmp j::os=>i==j&&ry bG fw os
 | .cell i agg sz::fw,.cell j t::os=>i==j&&(match eo bG t with|some f=>f.size==sz&&f.kind.isAgg==agg|none=>false)&&ry bG fw os
 |_,_=>false
def aW:List ai->ai
 |[p]=>p
 |b0=>.tuple b0
def Is(tmps:Array Value):ResultVar->Sem Value
 | .tmp t=>pure (tmps.getD t undef)
 | .cell x t=>do loadVar t (<-asAddr (tmps.getD x undef))
theorem aoj(fn:Func)(tmps:Array Value):results fn tmps=(do let bf<-fn.results.mapM (Is tmps);pure (if h:bf.size=1 then bf[0]else .tuple bf)):=by unfold results;congr 2
theorem Ob{P:cG}{bG:List (Nat×dH)}(aN:fS P bG=true){X:ft}{st:br}{a:Act}{w:World}{ν:bg}(aM:cY X st a w ν):
  ∀(fw:List bN) (os:List ResultVar) (c:Prop) (b0:List ai),ry bG fw os=true->aX st fw=some (c,b0)->c->
  ∃bf,(os.mapM (Is a.tmps)).run P w= .ok bf w/\cW w ν b0 bf
 |[],[],c,b0,_,he,_=>by simp only[aX]at he;cases he;exact⟨[],Ψ,by simp[cW]⟩
 |[],_::_,_,_,ay,_,_=>by simp[ry]at ay
 | .tmp _::_,[],_,_,ay,_,_=>by simp[ry]at ay
 | .cell _ _ _::_,[],_,_,ay,_,_=>by simp[ry]at ay
 |r::fw,o::os,c,b0,ay,he,aw=>by
  simp only[aX]at he;split at he
  ·rename_i bK p cq l5 J U;cases he;cases r with
   |tmp i=>
    cases o with
    |cell _ _=>simp[ry]at ay
    |tmp j=>simp only[ry,cC,dV]at ay;obtain⟨rfl,ay⟩:=ay;simp only[aY]at J;cases J;obtain⟨bf,g1,g2⟩:=Ob aN aM fw os cq l5 ay U aw.2;refine⟨a.tmps.getD i undef::bf,?_,by simp only[cW];exact⟨_,_,rfl,aM.slot i,g2⟩⟩;simp only[List.mapM_cons,fT,Is,gJ,fX,g1]
   |cell i agg sz=>
    cases o with
    |tmp _=>simp[ry]at ay
    |cell j t=>
     simp only[ry,cC,dV]at ay;obtain⟨⟨rfl,au⟩,ay⟩:=ay;split at au
     ·rename_i f aJ;simp only[cC,dV]at au;obtain⟨rfl,rfl⟩:=au;simp only[aY]at J;obtain⟨bf,g1,g2⟩:=Ob aN aM fw os cq l5 ay U aw.2;obtain⟨v,f1,f2⟩:=Ho aN aM.good aJ (aM.slot i) J aw.1;have Ds:∃tj,a.tmps.getD i undef= .pointer (some tj):=by
       have ag:=aM.slot i;unfold mW at J;split at J
       ·rename_i dT k n wX r5 ad;rw[ad]at ag;simp only[bd]at ag;obtain⟨⟨b,o,e⟩,_⟩:=ag;exact⟨_,e⟩
       ·rename_i k off ad;rw[ad]at ag;simp only[bd]at ag;obtain⟨b,_,e⟩:=ag;exact⟨_,e⟩
       ·rename_i q ad;rw[ad]at ag;simp only[bd]at ag;obtain⟨b,off,u,e,_⟩:=ag;exact⟨_,e⟩
       ·cases J
      obtain⟨tj,C3⟩:=Ds;rw[C3]at f1;simp only[Instr.loadAt,Instr.sureAddr,fT,gJ,fX]at f1;refine⟨v::bf,?_,by simp only[cW];exact⟨_,_,rfl,f2,g2⟩⟩;have ahf:(asAddr (.pointer (some tj)):Sem Addr).run P w= .ok tj w:=rfl;simp only[List.mapM_cons,fT,Is,gJ,fX,g1,C3,ahf,f1]
     ·cases au
  ·cases he
theorem EB{w:World}{ν:bg}:∀{b0:List ai} {bf:List Value},cW w ν b0 bf->bf.length=b0.length
 |[],bf,h=>by simp only[cW]at h;subst h;rfl
 |p::b0,bf,h=>by simp only[cW]at h;obtain⟨u,ct,rfl,_,U⟩:=h;simp[EB U]
def kA:Nat->List ai->List (Nat×ai)
 |_,[]=>[]
 |i,p::b0=>(i,p)::kA (i+1) b0
theorem KY:∀(b0:List ai) (i j:Nat),get j (kA i b0)=if i<=j/\j<i+b0.length then b0.getD (j-i) .junk else .junk
 |[],i,j=>by simp[kA,get]
 |p::b0,i,j=>by
  simp only[kA,get];by_cases h:i=j
  ·subst h;simp
  ·rw[if_neg h,KY b0 (i+1) j];by_cases U:i<=j/\j<i+(p::b0).length
   ·rw[if_pos U,if_pos (by simp at U⊢;omega)];have:j-i=(j-(i+1))+1:=Ω
    rw[this];simp
   ·rw[if_neg U,if_neg (by simp at U⊢;omega)]
def l0{α:Type}(ah:cH):List (aI×α)->Prop
 |[]=>True
 |(k,_)::r=>inObs ah k/\l0 ah r
theorem Bc{α:Type}{ah:cH}:∀{l:List (aI×α)},l0 ah l->∀k,(look k l).isSome->inObs ah k
 |[],_,k,h=>by simp[look]at h
 |(i,x)::r,ad,k,h=>by
  simp only[l0]at ad;simp only[look]at h;split at h
  ·rename_i e;subst e;exact ad.1
  ·exact Bc ad.2 k h
def cF(fw:List bN)(s:cH)(Q:ai->cH->Prop)(e:Exit)(st:br):Prop:=
 (e= .ret\/e= .normal)/\match aX st fw with
  |some (c,b0)=>c/\∃ah,l0 ah s.b/\l0 ah s.e/\gY (inObs ah) ah.b st.b/\pj (inObs ah) ah.e st.e/\jf ah/\aD (inObs ah) (dt (aW b0))/\Q (dt (aW b0)) ah
  |none=>e1
theorem bH.of{P:cG}(hm:P.follows .mixedOrders=true){bG:List (Nat×dH)}(aN:fS P bG=true){f:FuncId}{fn:Func}(aJ:P.funcs[f]? =some fn){code:Code}(ab:fn.body=some code)(Dm:(fn.name== "runtime.NumGoroutine")=false){c:C}(aw:hH fn.ntmps bG c code=true){fw:List bN}(Dw:ry bG fw fn.results.toList=true)
  {args:List ai} (ar:args.length<=fn.ntmps) {s:cH} (oo:jf s) {Q:ai->cH->Prop} (he:ek args->(∀j cs,look j s.b=some cs->gG cs=true->eg cs)->c4 P (c1 s) c (cF fw s Q) ⟨kA 0 args,s.b,s.e,0,c1 s⟩):bH P f args s Q:=by
 intro w ν bf a7 af aM;refine .inl ⟨⟨fn,aJ,by simp[ab],Dm⟩,?_⟩;have jG:=EB aM;have k5:bf.size=args.length:=by simpa using jG
 let X:ft:=⟨w,ν,fK ν s,fn.ntmps,c1 s⟩
 have o5:∀k,fresh 0 (c1 s) k->ν.bx k=none/\ν.ow k=none/\∀j b,¬ν.tr k j b:=by
  intro k ad;cases k with
  |loc m=>exact⟨(af _).1 (oo.1 m),(af _).2.1 (oo.2 m),(af _).2.2⟩
  |obj m=>
   simp only[fresh,true_and]at ad;refine⟨?_,?_,(af _).2.2⟩
   ·refine(af _).1 ?_;cases h:look (.obj m) s.b with
    |none=>rfl
    |some x=>exact absurd (ud (.inl (by simp[h]))) ad
   ·refine(af _).2.1 ?_;cases h:look (.obj m) s.e with
    |none=>rfl
    |some x=>exact absurd (ud (.inr (by simp[h]))) ad
 have jE:∀m,(ν.bx (.obj m)≠none\/ν.ow (.obj m)≠none)-> .obj m∈c1 s:=by
  intro m hm;refine Classical.byContradiction fun aw=>?_;obtain⟨J,U,_⟩:=o5 (.obj m) ⟨trivial,aw⟩;rcases hm with hm|hm
  ·exact hm J
  ·exact hm U
 have qu:cY X ⟨kA 0 args,s.b,s.e,0,c1 s⟩ {tmps:=bf++Array.replicate (fn.ntmps-bf.size) undef,defers:=[]} w ν:=by
  refine⟨⟨a7.alt,fun k cs ad=>?_,a7.inj,fun g o ej=>?_,a7.oinj,a7.obx,a7.one,a7.otr⟩,⟨rfl,rfl,rfl,e7 _,fun _ _ _=>rfl,fun b o h=>⟨h,rfl⟩,fun b o h=>.inl h,fun n b h=>h,fun n b h=>jE n (.inl (by rw[h];simp)),fun m n u h=>⟨n,u,h,.inl ⟨rfl,rfl⟩⟩,fun m n u h=>jE m (.inr (by rw[h];simp)),fun k j _ _ b h=>absurd h ((af k).2.2 j b),fun k j b h=>absurd h ((af k).2.2 j b),fun k j b h=>absurd h ((af k).2.2 j b),fun _ _ _=>rfl⟩,rfl,?_,fun i=>?_,o5⟩
  ·obtain⟨bl,us,el,g1,g2,g3⟩:=a7.box k cs ad;exact⟨bl,us,el,g1,.inl g2,g3⟩
  ·obtain⟨v,us,g1,g2,g3,g4⟩:=a7.own g o ej;exact⟨v,us,g1,g2,fun bl e4=>⟨.inl (g3 bl e4).1,(g3 bl e4).2⟩,g4⟩
  ·show(bf++Array.replicate (fn.ntmps-bf.size) undef).size=fn.ntmps;simp;omega
  ·rw[KY];by_cases hi:i<args.length
   ·rw[if_pos Ω];have vg:args[i]? =some args[i]:=cc hi;obtain⟨v,al,aE⟩:=Ik i aM vg;have aB:(bf++Array.replicate (fn.ntmps-bf.size) undef).getD i undef=v:=by
     have Kd:bf[i]? =some v:=by simpa using al
     rw[Array.getD_eq_getD_getElem?,Array.getElem?_append_left Ω,Kd];rfl
    show bd w ν _ ((bf++Array.replicate (fn.ntmps-bf.size) undef).getD i undef);rw[aB];simpa[List.getD,vg]using aE
   ·rw[if_neg Ω];simp[bd]
 have vc:=he (YJ aM) (fun j cs ae=>by obtain⟨bl,us,el,_,_,_,_,g5⟩:=a7.box j cs ae;exact Yz g5);have aiJ:=r4 hm aN (X:=X) c code (cF fw s Q) _ aw vc _ w ν qu;refine calls_of_wp aJ ab (wp_mono aiJ fun e bq w' cz=>?_);obtain⟨st',bt,⟨vb,bm⟩,dS⟩:=cz;cases yI:aX st' fw with
 |none=>simp[yI]at bm
 |some x=>
  obtain⟨cw,b0⟩:=x;simp only[yI]at bm;obtain⟨hJ,ah,kb,ke,bc,bE,b1,c5,df⟩:=bm;obtain⟨xw,g1,g2⟩:=Ob aN dS fw fn.results.toList cw b0 Dw yI hJ;have aio:=EB g2;have dR:bq.defers=[]/\∃v,(results fn bq.tmps).run P w'= .ok v w'/\(fun(e:Ending) w'=> ∃v r ah bt,e= .returned v/\Q r ah/\bd w' bt r v/\Good (fun bl=>fK ν s bl\/w.heap.size<=bl) w' bt ah.b ah.e/\pT bt ah/\jf ah/\qR ⟨w,ν,fK ν s,0,c1 s⟩ w' bt) (.returned v) w':=by
   refine⟨dS.defers,?_⟩;have jc:(results fn bq.tmps).run P w'= .ok (if h:xw.toArray.size=1 then xw.toArray[0]else .tuple xw.toArray) w':=by rw[aoj];simp only[fT,Array.mapM_eq_mapM_toList,Sem.run_map,g1,fX,gJ]
   refine⟨_,jc,_,dt (aW b0),ah,bt.cut (inObs ah),rfl,df,?_,dS.good.cut bc bE (fun bl h _=>h),?_,b1,?_⟩
   ·have mM:bd w' bt (aW b0) (if h:xw.toArray.size=1 then xw.toArray[0]else .tuple xw.toArray):=by
     match b0,xw,g2,aio with
     |[p],[v],g2,_=>simp only[cW]at g2;obtain⟨u,ct,al,aE,_⟩:=g2;cases al;simpa[aW]using aE
     |[],[],g2,_=>simp[aW,bd,cW]
     |p::dC::b0,v::v2::xw,g2,_=>rw[dif_neg Ψ];simp only[aW,bd];exact⟨_,rfl,by simpa using g2⟩
     |[_],[],_,h=>simp at h
     |[],_::_,_,h=>simp at h
     |[_],_::_::_,_,h=>simp at h
     |_::_::_,[],_,h=>simp at h
     |_::_::_,[_],_,h=>simp at h
    exact vN (pI.cut _ w' bt) _ _ c5 (zr _ _ mM)
   ·intro k;refine⟨?_,?_,?_⟩;rotate_left 2
    ·rintro j b ⟨ag,ab⟩;obtain⟨t1,t2⟩:=dS.fr.trn k j b ab;rcases ag with ag|ag<;>obtain⟨x,iy⟩:=fU.1 ag
     ·obtain⟨bl,ct,el,al,_⟩:=dS.good.box k x (bc k x iy).1;rw[t1]at al;cases al
     ·obtain⟨v',ct,al,_⟩:=dS.good.own k x (bE k x iy).1;rw[t2]at al;cases al
    ·intro ad;by_cases ag:inObs ah k
     ·rw[bg.cut_bx ag];rcases ag with ag|ag
      ·rw[ad]at ag;cases ag
      ·obtain⟨x,iy⟩:=fU.1 ag;obtain⟨v',ct,al,_⟩:=dS.good.own k x (bE k x iy).1;rcases dS.good.one k with J|J
       ·exact J
       ·rw[J]at al;cases al
     ·exact(bg.cut_no ag).1
    ·intro ad;by_cases ag:inObs ah k
     ·rw[bg.cut_ow ag];rcases ag with ag|ag
      ·obtain⟨x,iy⟩:=fU.1 ag;obtain⟨bl,ct,el,al,_⟩:=dS.good.box k x (bc k x iy).1;rcases dS.good.one k with J|J
       ·rw[J]at al;cases al
       ·exact J
      ·rw[ad]at ag;cases ag
     ·exact(bg.cut_no ag).2.1
   ·refine⟨dS.fr.os,dS.fr.tape,dS.fr.output,dS.fr.size,dS.fr.block,dS.fr.keep,dS.fr.fresh,fun n b h=>?_,fun n b h=>jE n (.inl (by rw[h];simp)),fun m n u h=>?_,fun m n u h=>jE m (.inr (by rw[h];simp)),fun k j bT dP b J U=>dS.fr.trd k j bT dP b J.2 U.2,fun k j b ab=>dS.fr.trb k j b ab.2,fun k j b ab=>(by rw[bg.cut_bx ab.1,bg.cut_ow ab.1];exact dS.fr.trn k j b ab.2),dS.fr.sh⟩
    ·have ag:inObs ah (.obj n):=by
      cases ar:look (.obj n) s.b with
      |none=>rw[(af _).1 ar]at h;cases h
      |some x=>exact Bc kb _ (by simp[ar])
     rw[bg.cut_bx ag];exact dS.fr.obj n b h
    ·have ag:inObs ah (.obj m):=by
      cases ar:look (.obj m) s.e with
      |none=>rw[(af _).2.1 ar]at h;cases h
      |some x=>exact Bc ke _ (by simp[ar])
     rw[bg.cut_ow ag];exact dS.fr.row m n u h
  rcases vb with rfl|rfl<;>exact dR
def bU(bG:List (Nat×dH))(c:C)(fw:List bN)(akx:Nat)(fn:Func):Bool:=
 match fn.body with
 |some code=>hH fn.ntmps bG c code&&ry bG fw fn.results.toList&& !(fn.name== "runtime.NumGoroutine")&&decide (akx<=fn.ntmps)
 |none=>false
theorem bH.mk{P:cG}(hm:P.follows .mixedOrders=true){bG:List (Nat×dH)}(aN:fS P bG=true){f:FuncId}{fn:Func}(aJ:P.funcs[f]? =some fn){c:C}{fw:List bN}{n:Nat}(dY:bU bG c fw n fn=true)
  {args:List ai} (ar:args.length<=n) {s:cH} (oo:jf s) {Q:ai->cH->Prop} (he:ek args->(∀j cs,look j s.b=some cs->gG cs=true->eg cs)->c4 P (c1 s) c (cF fw s Q) ⟨kA 0 args,s.b,s.e,0,c1 s⟩):bH P f args s Q:=by
 unfold bU at dY;split at dY
 ·rename_i code ab;simp only[cC,Bool.not_eq_true',fc]at dY;obtain⟨⟨⟨J,U⟩,au⟩,a6⟩:=dY;exact bH.of hm aN aJ ab au J U (kB ar a6) oo he
 ·cases dY
theorem y7:jf ⟨[],[]⟩:=⟨fun _=>rfl,fun _=>rfl⟩
def bz(fw:List bN)(r:ai)(e:Exit)(st:br):Prop:=
 (e= .ret\/e= .normal)/\match aX st fw with
  |some (c,b0)=>c/\dt (aW b0)=r
  |none=>e1
theorem bF.mk{P:cG}(hm:P.follows .mixedOrders=true){bG:List (Nat×dH)}(aN:fS P bG=true){f:FuncId}{fn:Func}(aJ:P.funcs[f]? =some fn){c:C}{fw:List bN}{n:Nat}(dY:bU bG c fw n fn=true)
  {args:List ai} (ar:args.length<=n) {r:ai} (aM:aD (fun _=>e1) r) (he:ek args->c4 P [] c (bz fw r) ⟨kA 0 args,[],[],0,[]⟩):bF P f args r:=by
 refine bH.mk hm aN aJ dY ar y7 fun J _=>?_;have:=he J;have hV:bz fw r=cF fw ⟨[],[]⟩ (fun eT ah=>eT=r/\ah=⟨[],[]⟩):=by
  funext e st;unfold bz cF;apply propext;refine and_congr_right fun _=>?_;cases aX st fw with
  |none=>exact Iff.rfl
  |some x=>
   obtain⟨c,b0⟩:=x;refine and_congr_right fun _=>?_;constructor
   ·intro h;refine⟨⟨[],[]⟩,trivial,trivial,fun k cs ad=>by simp[look]at ad,fun k cs ad=>by simp[look]at ad,y7,?_,h,rfl⟩;rw[h];exact w6 (fun k ad=>ad.elim) r aM
   ·rintro⟨ah,_,_,_,_,_,_,h,_⟩;exact h
 rw[hV]at this;exact this
theorem Ph{α:Type}{β:Type}:∀l:List (aI×α),cl ([]:List (aI×β)) l=l
 |[]=>rfl
 |(k,x)::r=>by simp[cl,look,Ph r]
theorem cT.val{P:cG}{n:Nat}{args:List ai}{st:br}{d:ba Nat}{K:br->Prop}{r:ai}(ad:aH (fun _=>e1) args)(aJ:bF P n args r)(h:K {st with t:=eZ d r st.t}):cT P n args st d K:=by
 refine .inl ⟨⟨[],[]⟩,_,fun k cs ad=>by simp[look]at ad,fun k cs ad=>by simp[look]at ad,y7,kd (fun _ h=>h.elim) _ ad,aJ,?_⟩;rintro eT ah ⟨rfl,rfl⟩;refine⟨⟨fun m h=>by simp[look]at h,fun m h=>by simp[look]at h⟩,?_⟩;have:after st ⟨[],[]⟩ ⟨[],[]⟩ d eT={st with t:=eZ d eT st.t}:=by simp[after,Ph,c1]
 rw[this];exact h
@[reducible,simp] def gI(n:Int):dz:= .c (.int .i64 n)
@[reducible,simp] def I(a b:Nat):dd:=⟨none,.s (.v a (.mov (.t b)))⟩
@[reducible,simp] def b5(a:Nat)(i:gd):dd:=⟨none,.s (.v a i)⟩
@[reducible,simp] def cN(i:ey):dd:=⟨none,.s i⟩
@[reducible,simp] def dL(a f:Nat)(l:List dz):dd:=⟨none,.call (some a) (.c (.func f [])) l⟩
@[reducible,simp] def b4(j:Nat)(w:Bool)(a b:Nat):dd:=⟨some (j,w),.s (.v a (.mov (.t b)))⟩
@[reducible,simp] def xN(j:Nat)(w:Bool)(a:Nat)(i:gd):dd:=⟨some (j,w),.s (.v a i)⟩
@[reducible,simp] def ys(j:Nat)(w:Bool)(i:ey):dd:=⟨some (j,w),.s i⟩
@[reducible,simp] def b9(d s a b:Nat):dd:=b5 d (.iaddr s (.t a) (.t b))
@[reducible,simp] def av(d s a:Nat):dd:=b5 d (.load false s (.t a))
@[reducible,simp] def a1(d s a:Nat):dd:=b5 d (.load true s (.t a))
@[reducible,simp] def aC(d o s a:Nat):dd:=b5 d (.faddr o false s (.t a))
@[reducible,simp] def fi(d o s a:Nat):dd:=b5 d (.faddr o true s (.t a))
@[reducible,simp] def bh(d:Nat)(o:BinOp)(a b:Nat):dd:=b5 d (.bin o false (.t a) (.t b))
@[reducible,simp] def aT(d:Nat)(o:BinOp)(a:Nat)(n:Int):dd:=b5 d (.bin o false (.t a) (gI n))
@[reducible,simp] def b2(d a:Nat):dd:=b5 d (.len (.t a))
@[reducible,simp] def cn(d a:Nat):dd:=b5 d (.notB (.t a))
@[reducible,simp] def cD(d i a:Nat):dd:=b5 d (.ext i (.t a))
@[reducible,simp] def cZ(d a b:Nat):dd:=b5 d (.pick (.t a) (.c (.bool true)) (.t b))
@[reducible,simp] def dx(d a b:Nat):dd:=b5 d (.pick (.t a) (.t b) (.c (.bool false)))
@[reducible,simp] def a8(d:Nat)(b:Bool):dd:=b5 d (.mov (.c (.bool b)))
@[reducible,simp] def bP(d:Nat)(n:Int):dd:=b5 d (.mov (gI n))
@[reducible,simp] def bM(s a b:Nat):dd:=cN (.store s (.t a) (.t b))
@[reducible,simp] def ao(j:Nat)(w:Bool)(x:dd):dd:=⟨some (j,w),x.i⟩
@[reducible,simp] def aa(l:List dd)(c:C):C:= .seq (.region l) c
@[reducible,simp] def aS(n:Nat)(a b:C):C:= .cond (.t n) a b
@[reducible,simp] def gZ(d a:Nat)(l:List dz):dd:=⟨none,.call (some d) (.t a) l⟩
@[reducible,simp] def cE(d f a:Nat):dd:=dL d f [.t a]
@[reducible,simp] def bY(d f a b:Nat):dd:=dL d f [.t a,.t b]
@[reducible,simp] def dj:List ai:=[.int .i64 0,.int .i64 0,.str [],.slice 4 .nil []]
@[reducible,simp] def iA:List ai:=[.int .i64 0,.int .i64 0,.int .i64 0,.str [],.slice 4 .nil []]
@[reducible,simp] def p5:List ai:=[.int .i64 0,.slice 5 .nil [],.slice 1 .nil [],.slice 2 .nil [],.slice 2 .nil []]
@[reducible,simp] def cO(a b:Nat):dd:=cN (.box a none (.t b))
@[reducible,simp] def c9(a:Nat)(l:List ai):dd:=cN (.alloc a none (.agg l))
@[reducible,simp] def ep(a n:Nat):dd:=b5 a (.mov (.c (.slice n .nil [])))
@[reducible,simp] def iP(a b c d e:Nat):dd:=cN (.app a b c (.t d) (.t e))
@[reducible,simp] def fj(a b c:Nat)(l:List dz):dd:=cN (.bsl a b c l)
@[reducible,simp] def fI(a b:Nat):dd:=b5 a (.nck (.t b))
@[reducible,simp] def iO(d s a:Nat)(n:Int):dd:=b5 d (.iaddr s (.t a) (gI n))
@[reducible,simp] def j5(d:Nat)(l:List ai)(m:List (Nat×Nat×dz)):dd:=b5 d (.build l m)
@[reducible,simp] def eH(a b c:Nat)(x:C):C:= .block 0 (.loop (aa [bh a .lss b c] (.seq (aS a .skip (.exit 0)) x)))
end
section
open Go Go.RowKit
theorem dB{α:Type}{l:List α}{i:Nat}(h:i<l.length):∃b,l[i]? =some b/\∀h,(l[i]'h)=b:=⟨l[i],cc h,fun _=>rfl⟩
def Oj(st:br)(i:ey):Prop:=match mv st i with|some (c,_)=>c|none=>e1
def Ol(st:br)(i:ey):br:=match mv st i with|some (_,s)=>s|none=>st
def Fc(P:cG)(r:List dd)(K:br->Prop)(st:br):Prop:=ig P r st K
def zO(P:cG)(ob:List aI)(c:C)(Q:Exit->br->Prop)(st:br):Prop:=c4 P ob c Q st
def qp(P:cG)(v:ai)(s:Nat)(w:Bool)(i:er)(r:List dd)(st:br)(K:br->Prop):Prop:=
 match v with
 | .bool b=>(b=w->ig P (⟨none,i⟩::r) {st with t:=put s (.bool w) st.t} K)/\(b= !w->ig P r {st with t:=eZ i.dst (.tuple []) (put s (.bool !w) st.t)} K)
 | .tuple []=>ig P r {st with t:=eZ i.dst (.tuple []) st.t} K
 |_=>e1
def uZ(P:cG)(ob:List aI)(v:ai)(x:dz)(t e:C)(Q:Exit->br->Prop)(st:br):Prop:=
 match v with
 | .bool b=>(b=true->c4 P ob t Q (sQ st x true))/\(b=false->c4 P ob e Q (sQ st x false))
 |_=>e1
def Kn(P:cG)(v:ai)(d:ba Nat)(xs:List ai)(r:List dd)(st:br)(K:br->Prop):Prop:=
 match v with
 | .func n dg=>cT P n (c2 (xs++dg)) st d (Fc P r K)
 |_=>e1
section
variable {P:cG} {ob:List aI} {st:br} {K:br->Prop} {r:List dd} {Q:Exit->br->Prop} {a b c t e:C}
theorem adr:ig P [] st K=K st:=rfl
theorem ads{i:ey}:ig P (⟨none,.s i⟩::r) st K=(Oj st i/\ig P r (Ol st i) K):=by
 simp only[ig,uX,Oj,Ol];cases mv st i with
 |none=>simp
 |some x=>rfl
theorem ado{d:ba Nat}{f:dz}{xs:List dz}:ig P (⟨none,.call d f xs⟩::r) st K=Kn P (cv st.t f) d (xs.map (cv st.t)) r st K:=by simp only[ig,uX,Kn];rfl
theorem adq{d:Nat}{x:dz}:ig P (⟨none,.next d x⟩::r) st K=r3 st d (cv st.t x) (Fc P r K):=by simp only[ig,uX];rfl
def xT(P:cG)(ob:List aI)(c:C)(Q:Exit->br->Prop):ba br->Prop
 |some st=>c4 P ob c Q st
 |none=>e1
theorem aaL:xT P ob c Q (some st)=c4 P ob c Q st:=rfl
theorem ac1{s:Nat}:c4 P ob (.pub s c) Q st=xT P ob c Q (xo st s):=by simp only[c4];cases xo st s<;>rfl
theorem acX{p4:Bool}{s:Nat}:c4 P ob (.fg p4 s c) Q st=c4 P ob c Q {st with t:=put s (Am p4 (get s st.t)) st.t}:=rfl
theorem acY{p4:Bool}{s:Nat}{d:C}:c4 P ob (.seq (.fg p4 s c) d) Q st=c4 P ob (.seq c d) Q {st with t:=put s (Am p4 (get s st.t)) st.t}:=rfl
theorem acZ{gf:Bool}{s:Nat}:c4 P ob (.fz gf s c) Q st=xT P ob c Q (wx st gf s):=by simp only[c4];cases wx st gf s<;>rfl
theorem ac0{gf:Bool}{s:Nat}{d:C}:c4 P ob (.seq (.fz gf s c) d) Q st=xT P ob (.seq c d) Q (wx st gf s):=by simp only[c4];cases wx st gf s<;>rfl
theorem ac2{s:Nat}:c4 P ob (.pubB s c) Q st=xT P ob c Q (xm st s):=by simp only[c4];cases xm st s<;>rfl
theorem adn{n:Nat}{dg:List ai}{d:ba Nat}{xs:List ai}:Kn P (.func n dg) d xs r st K=cT P n (c2 (xs++dg)) st d (Fc P r K):=rfl
theorem adp{s:Nat}{w:Bool}{i:er}:ig P (⟨some (s,w),i⟩::r) st K=qp P (get s st.t) s w i r st K:=by simp only[ig,qp];try rfl
theorem adx{s:Nat}{i:er}:qp P (.bool true) s true i r st K=ig P (⟨none,i⟩::r) {st with t:=put s (.bool true) st.t} K:=by simp[qp]
theorem adt{s:Nat}{i:er}:qp P (.bool false) s false i r st K=ig P (⟨none,i⟩::r) {st with t:=put s (.bool false) st.t} K:=by simp[qp]
theorem adw{s:Nat}{i:er}:qp P (.bool true) s false i r st K=ig P r {st with t:=eZ i.dst (.tuple []) (put s (.bool true) st.t)} K:=by simp[qp]
theorem adu{s:Nat}{i:er}:qp P (.bool false) s true i r st K=ig P r {st with t:=eZ i.dst (.tuple []) (put s (.bool false) st.t)} K:=by simp[qp]
theorem adv{s:Nat}{w:Bool}{i:er}:qp P (.tuple []) s w i r st K=ig P r {st with t:=eZ i.dst (.tuple []) st.t} K:=by simp[qp]
theorem bW{x:Bool}{s:Nat}{w:Bool}{i:er}(J:x=w->ig P (⟨none,i⟩::r) {st with t:=put s (.bool w) st.t} K)(U:x= !w->ig P r {st with t:=eZ i.dst (.tuple []) (put s (.bool !w) st.t)} K):qp P (.bool x) s w i r st K:=⟨J,U⟩
theorem acM:c4 P ob (.seq (.seq a b) c) Q st=c4 P ob (.seq a (.seq b c)) Q st:=by simp only[c4];congr 1;funext e st';cases e<;>rfl
theorem ac7:c4 P ob (.seq .skip c) Q st=c4 P ob c Q st:=rfl
theorem ac5:c4 P ob (.seq .ret c) Q st=Q .ret st:=rfl
theorem acV{n:Nat}:c4 P ob (.seq (.exit n) c) Q st=Q (.exit n) st:=rfl
theorem ac8:c4 P ob .skip Q st=Q .normal st:=rfl
theorem ac6:c4 P ob .ret Q st=Q .ret st:=rfl
theorem acW{n:Nat}:c4 P ob (.exit n) Q st=Q (.exit n) st:=rfl
theorem ac3{gs:List dd}:c4 P ob (.seq (.region gs) c) Q st=ig P gs st (zO P ob c Q):=rfl
theorem ac4{gs:List dd}:c4 P ob (.region gs) Q st=ig P gs st (Q .normal):=rfl
theorem acP{x:dz}:c4 P ob (.seq (.cond x t e) c) Q st=uZ P ob (cv st.t x) x (.seq t c) (.seq e c) Q st:=by simp only[c4,uZ];try rfl
theorem acQ{x:dz}:c4 P ob (.cond x t e) Q st=uZ P ob (cv st.t x) x t e Q st:=by simp only[c4,uZ];try rfl
theorem ada{x:dz}:uZ P ob (.bool true) x t e Q st=c4 P ob t Q (sQ st x true):=by simp[uZ]
theorem ac9{x:dz}:uZ P ob (.bool false) x t e Q st=c4 P ob e Q (sQ st x false):=by simp[uZ]
theorem bS{v:Bool}{x:dz}(J:v=true->c4 P ob t Q (sQ st x true))(U:v=false->c4 P ob e Q (sQ st x false)):uZ P ob (.bool v) x t e Q st:=⟨J,U⟩
def zK(P:cG)(ob:List aI)(id:Nat)(c:C)(Q:Exit->br->Prop)(e:Exit)(st:br):Prop:=
 match e with
 | .normal=>c4 P ob c Q st
 | .exit j=>if j=id then c4 P ob c Q st else Q (.exit j) st
 |e=>Q e st
theorem acN{id:Nat}:c4 P ob (.seq (.block id a) c) Q st=c4 P ob a (zK P ob id c Q) st:=by
 simp only[c4];congr 1;funext e st';cases e with
 |exit j=>rfl
 |_=>rfl
theorem acO{id:Nat}:c4 P ob (.block id a) Q st=c4 P ob a (zK P ob id .skip Q) st:=by
 simp only[c4];congr 1;funext e st';cases e with
 |exit j=>simp only[zK];by_cases ae:j=id<;>simp[ae,c4]
 |_=>rfl
theorem aax{id:Nat}:zK P ob id c Q .normal st=zO P ob c Q st:=rfl
theorem aaw{id j:Nat}:zK P ob id c Q (.exit j) st=if j=id then zO P ob c Q st else Q (.exit j) st:=rfl
theorem aay{id:Nat}:zK P ob id c Q .ret st=Q .ret st:=rfl
def bO(ob:List aI)(hp:Nat->br->Prop)(k:Nat)(Q:Exit->br->Prop)(e:Exit)(st:br):Prop:=
 match e with
 | .normal=> ∃bT pe,bT<k/\iU ob st pe/\hp bT pe
 |e=>Q e st
theorem Fa{hp:Nat->br->Prop}{k:Nat}:bO ob hp k Q .normal st= ∃bT pe,bT<k/\iU ob st pe/\hp bT pe:=rfl
theorem aaG{hp:Nat->br->Prop}{k n:Nat}:bO ob hp k Q (.exit n) st=Q (.exit n) st:=rfl
theorem aaH{hp:Nat->br->Prop}{k:Nat}:bO ob hp k Q .ret st=Q .ret st:=rfl
theorem oX(hp:Nat->br->Prop)(m:Nat)(xy:br)(hw:iU ob st xy)(bs:hp m xy)(h:∀k s,hp k s->(∀i,ec (get i s.t))->(∀j cs,look j s.b=some cs->gG cs=true->eg cs)->c4 P ob a (bO ob hp k Q) s):c4 P ob (.loop a) Q st:=by
 simp only[c4];refine⟨hp,m,xy,hw,bs,fun k s J U au=>?_⟩;have:=h k s J U au;have bm:(bO ob hp k Q)=(fun e ah=>match e with| .normal=> ∃bT pe,bT<k/\iU ob ah pe/\hp bT pe|e=>Q e ah):=by funext e ah;cases e<;>rfl
 rw[bm]at this;exact this
end
/-Regions cS draw kj order. -/
def Oh(n0:Nat)(st:br)(i:ey):Prop:=match eJ (pP n0 i) st.n (pP n0 i::st.o) st i with|some (c,_)=>c|none=>e1
def Oi(n0:Nat)(st:br)(i:ey):br:=match eJ (pP n0 i) st.n (pP n0 i::st.o) st i with|some (_,s)=>s|none=>st
def I6(P:cG)(q:Bool)(nw:List Nat)(n0:Nat)(r:List dd)(K:br->Prop)(st:br):Prop:=h1 P q nw n0 r st K
def qo(P:cG)(q:Bool)(nw:List Nat)(n0:Nat)(v:ai)(s:Nat)(w:Bool)(i:er)(r:List dd)(st:br)(K:br->Prop):Prop:=
 match v with
 | .bool b=>(b=w->h1 P q nw n0 (⟨none,i⟩::r) {st with t:=put s (.bool w) st.t} K)/\(b= !w->h1 P q nw n0 r {st with t:=eZ i.dst (.tuple []) (put s (.bool !w) st.t)} K)
 | .tuple []=>h1 P q nw n0 r {st with t:=eZ i.dst (.tuple []) st.t} K
 |_=>e1
def Km(P:cG)(q:Bool)(nw:List Nat)(n0:Nat)(v:ai)(d:ba Nat)(xs:List ai)(r:List dd)(st:br)(K:br->Prop):Prop:=
 match v with
 | .func n dg=>hn P q nw n (c2 (xs++dg)) st d (I6 P q nw n0 r K)
 |_=>e1
section
variable {P:cG} {ob:List aI} {st:br} {K:br->Prop} {r:List dd} {Q:Exit->br->Prop} {c:C} {q:Bool} {nw:List Nat} {n0 N:Nat}
theorem adg:h1 P q nw n0 [] st K=K st:=rfl
theorem adh{i:ey}:h1 P q nw n0 (⟨none,.s i⟩::r) st K=(mh q nw n0 st i/\Oh n0 st i/\h1 P q nw n0 r (Oi n0 st i) K):=by
 simp only[h1,kF,Oh,Oi];cases eJ (pP n0 i) st.n (pP n0 i::st.o) st i with
 |none=>simp
 |some x=>rfl
theorem ade{d:ba Nat}{f:dz}{xs:List dz}:h1 P q nw n0 (⟨none,.call d f xs⟩::r) st K=Km P q nw n0 (cv st.t f) d (xs.map (cv st.t)) r st K:=by simp only[h1,kF,Km];rfl
theorem adb{n:Nat}{dg:List ai}{d:ba Nat}{xs:List ai}:Km P q nw n0 (.func n dg) d xs r st K=hn P q nw n (c2 (xs++dg)) st d (I6 P q nw n0 r K):=rfl
theorem adf{s:Nat}{w:Bool}{i:er}:h1 P q nw n0 (⟨some (s,w),i⟩::r) st K=qo P q nw n0 (get s st.t) s w i r st K:=by simp only[h1,qo];try rfl
theorem adm{s:Nat}{i:er}:qo P q nw n0 (.bool true) s true i r st K=h1 P q nw n0 (⟨none,i⟩::r) {st with t:=put s (.bool true) st.t} K:=by simp[qo]
theorem adi{s:Nat}{i:er}:qo P q nw n0 (.bool false) s false i r st K=h1 P q nw n0 (⟨none,i⟩::r) {st with t:=put s (.bool false) st.t} K:=by simp[qo]
theorem adl{s:Nat}{i:er}:qo P q nw n0 (.bool true) s false i r st K=h1 P q nw n0 r {st with t:=eZ i.dst (.tuple []) (put s (.bool true) st.t)} K:=by simp[qo]
theorem adj{s:Nat}{i:er}:qo P q nw n0 (.bool false) s true i r st K=h1 P q nw n0 r {st with t:=eZ i.dst (.tuple []) (put s (.bool false) st.t)} K:=by simp[qo]
theorem adk{s:Nat}{w:Bool}{i:er}:qo P q nw n0 (.tuple []) s w i r st K=h1 P q nw n0 r {st with t:=eZ i.dst (.tuple []) st.t} K:=by simp[qo]
theorem bV{x:Bool}{s:Nat}{w:Bool}{i:er}(J:x=w->h1 P q nw n0 (⟨none,i⟩::r) {st with t:=put s (.bool w) st.t} K)(U:x= !w->h1 P q nw n0 r {st with t:=eZ i.dst (.tuple []) (put s (.bool !w) st.t)} K):qo P q nw n0 (.bool x) s w i r st K:=⟨J,U⟩
theorem acR{gs:List dd}:c4 P ob (.seq (.drawn q N gs) c) Q st=h1 P q [] st.n gs st (uE (st.n+N) st.o (zO P ob c Q)):=rfl
theorem acS{gs:List dd}:c4 P ob (.drawn q N gs) Q st=h1 P q [] st.n gs st (uE (st.n+N) st.o (Q .normal)):=rfl
theorem acT{gs:List dd}:c4 P ob (.seq (.drawnW nw N gs) c) Q st=((∀j∈nw,.obj j∉st.o)/\h1 P false nw st.n gs st (uE (st.n+N) (nw.map aI.obj++st.o) (zO P ob c Q))):=rfl
theorem acU{gs:List dd}:c4 P ob (.drawnW nw N gs) Q st=((∀j∈nw,.obj j∉st.o)/\h1 P false nw st.n gs st (uE (st.n+N) (nw.map aI.obj++st.o) (Q .normal))):=rfl
theorem hn.val{n:Nat}{args:List ai}{d:ba Nat}{r:ai}(ad:aH (fun _=>e1) args)(aJ:bF P n args r)(h:K {st with t:=eZ d r st.t}):hn P q nw n args st d K:=by
 refine .inr ⟨⟨[],[]⟩,⟨[],[]⟩,r,none,fun k cs ad=>by simp[look]at ad,fun k cs ad=>by simp[look]at ad,y7,y7,⟨fun k h=>.inl h,fun k h=>.inl h,fun k h=>h,fun k h=>h,fun k h=>by cases h⟩,kd (fun _ h=>h.elim) _ ad,aJ,fun _=>⟨rfl,rfl⟩,?_⟩;have:({after st ⟨[],[]⟩ ⟨[],[]⟩ d r with o:=st.o}:br)={st with t:=eZ d r st.t}:=by simp[after,Ph]
 rw[this];exact h
theorem aG{n:Nat}{args:List ai}{d:ba Nat}{r:ai}(aJ:bF P n args r)(h:K {st with t:=eZ d r st.t})(ad:aH (fun _=>e1) args:=by simp):hn P q nw n args st d K:=hn.val ad aJ h
end
section
variable {k:IntKind} {n:Int} {b:Bool} {s:List dM} {sz:Nat} {tag:Cn} {xs:List ai} {key:aI} {off f:Nat} {x:ai}
@[simp]theorem au8:eF (.int k n)=true:=rfl
@[simp]theorem auV:eF (.bool b)=true:=rfl
@[simp]theorem avg:eF (.str s)=true:=rfl
@[simp]theorem avf:eF (.slice sz tag xs)=true:=rfl
@[simp]theorem auR:eF (.agg xs)=true:=rfl
@[simp]theorem avd:eF (.ptr key off)=true:=rfl
@[simp]theorem au4:eF (.eptr x)=true:=rfl
@[simp]theorem au7{t:Nat}:eF (.iface t x)=true:=rfl
@[simp]theorem arV{t:Nat}:cells (.iface t x)=[.iface t x]:=rfl
@[simp]theorem auX{a:ba Addr}{n c:Nat}:eF (.cst (.slice a n c))=true:=rfl
@[simp]theorem auY{s}:eF (.cst (.string s))=true:=rfl
@[simp]theorem avc:eF .nilp=true:=rfl
@[simp]theorem au5:eF (.func f xs)=true:=rfl
@[simp]theorem au6:eF (.gmap key)=true:=rfl
@[simp]theorem ave{n:Nat}:eF (.row sz key n)=true:=rfl
@[simp]theorem ar3{n:Nat}:cells (.row sz key n)=[.row sz key n]:=rfl
@[simp]theorem arW:cells (.int k n)=[.int k n]:=rfl
@[simp]theorem arL:cells (.bool b)=[.bool b]:=rfl
@[simp]theorem ar5:cells (.str s)=[.str s]:=rfl
@[simp]theorem ar4:cells (.slice sz tag xs)=[.slice sz tag xs]:=rfl
@[simp]theorem arH:cells (.agg xs)=xs:=rfl
@[simp]theorem ar2:cells (.ptr key off)=[.ptr key off]:=rfl
@[simp]theorem arS:cells (.eptr x)=[.eptr x]:=rfl
@[simp]theorem ar1:cells .nilp=[.nilp]:=rfl
@[simp]theorem arT:cells (.func f xs)=[.func f xs]:=rfl
@[simp]theorem arU:cells (.gmap key)=[.gmap key]:=rfl
end
section
variable {b:List (aI×List ai)} {e:List (aI×fY)} {agg:Bool} {sz off:Nat} {k:aI} {p:ai} {cs xs bf:List ai} {eR:IntKind} {n i:Int} {m j:Nat} {tag:Cn} {s:List dM} {P8:Bool} {lo hi:ba ai}
@[simp]theorem at1{dT:Nat}{f:Nat}:mW b e agg sz (.rptr dT k m j f)=zs agg sz dT m j f (look k e):=rfl
@[simp]theorem at0:mW b e agg sz (.ptr k off)=(match look k b with
  |some cs=>if agg then some (gG cs=true/\off+sz<=cs.length,.agg ((cs.drop off).take sz))else(cs[off]?).map fun p=>(gG cs=true,p)
  |none=>none):=rfl
@[simp]theorem atZ:mW b e agg sz (.eptr p)=if agg then some (isAgg sz p,p)else some (eF p=true/\cells p=[p],p):=rfl
@[simp]theorem asv:CT agg sz (.eptr p)=if agg then some (isAgg sz p,p)else some (eF p=true/\cells p=[p],p):=rfl
@[simp]theorem asn{o:Nat}:q5 off agg sz (.ptr k o)=some (True,.ptr k (o+off)):=rfl
@[simp]theorem aso{dT f:Nat}:q5 off agg sz (.rptr dT k m j f)=some (True,.rptr dT k m j (f+off)):=rfl
@[simp]theorem asg:q5 off agg sz (.eptr (.agg cs))=if agg then some (off+sz<=cs.length,.eptr (.agg ((cs.drop off).take sz)))else(cs[off]?).map fun p=>(eF p=true/\cells p=[p],.eptr p):=rfl
@[simp]theorem asq:u3 off agg sz (.agg cs)=if agg then some (off+sz<=cs.length,.agg ((cs.drop off).take sz))else(cs[off]?).map fun p=>(True,p):=rfl
@[simp]theorem as2{dT:Nat}:A4 sz (.slice dT tag xs) (.int eR i)=if dT=sz then some (0<=i/\i<xs.length,.eptr (xs.getD i.toNat .junk))else none:=rfl
@[simp]theorem as1{dT:Nat}:A4 sz (.row dT k m) (.int eR i)=if dT=sz then some (0<=i/\i<m,.rptr dT k m i.toNat 0)else none:=rfl
@[simp]theorem atY{dT:Nat}:Bg (.slice dT tag xs)=some (True,.int .i64 xs.length):=rfl
@[simp]theorem atX{dT:Nat}:Bg (.row dT k m)=some (True,.int .i64 m):=rfl
@[simp]theorem atW{a:ba Addr}{n c:Nat}:Bg (.cst (.slice a n c))=some (True,.int .i64 n):=rfl
@[simp]theorem auP{s}:EK (.cst (.string s))=some (True,.int .i64 s.size):=rfl
@[simp]theorem auQ:EK (.str s)=some (True,.int .i64 s.length):=rfl
@[simp]theorem asf:Ag j (.tuple bf)=(bf[j]?).map fun p=>(True,p):=rfl
@[simp]theorem auq:Br (.ptr k off)=some (True,.ptr k off):=rfl
@[simp]theorem auo:Br (.eptr p)=some (True,.eptr p):=rfl
@[simp]theorem aup:Br (.func j cs)=some (True,.func j cs):=rfl
@[simp]theorem aur:HD (.bool P8)=some (True,.bool (!P8)):=rfl
@[simp]theorem auO:Ix (.str s) (.int eR i)=some (0<=i/\i<s.length,.int .u8 (s.getD i.toNat 0).toNat):=rfl
@[simp]theorem avh:IC (.str s) lo hi=(match rr 0 lo,rr s.length hi with
  |some l,some h=>some (0<=l/\l<=h/\h<=s.length,.str ((s.take h.toNat).drop l.toNat))
  |_,_=>none):=rfl
@[simp]theorem at2{dT:Nat}:Hp sz (.slice dT tag xs) lo hi=(if dT=sz then match rr 0 lo,rr xs.length hi with
  |some l,some h=>some (0<=l/\l<=h/\h<=xs.length,.slice sz .no ((xs.take h.toNat).drop l.toNat))
  |_,_=>none else none):=rfl
theorem WD{f:aI->ba (List ai)}{ck:jL}{z q:ai}{ok:Bool}:nM f ck z ok (.gmap k) q=(match f k with
  |some (.hdm _ _::kvs)=>if w4 ck q=false then none else match xd ck q kvs with
   |some (some v)=>some (True,if ok then .tuple [v,.bool true]else v)
   |some none=>some (True,if ok then .tuple [z,.bool false]else z)
   |none=>none
  |_=>none):=rfl
theorem WA{f:aI->ba (List ai)}:ov f (.ptr k 0)=(match f k with
  |some [.hdi _ seen last,.gmap mk]=>match f mk with
   |some (.hdm clock borns::kvs)=>match seen.getLast? with
    |some n=>(mX n borns kvs).map fun p=>(clock=last,p)
    |none=>none
   |_=>none
  |_=>none):=rfl
@[simp]theorem auL{dT f n' el jz:Nat}:zs agg sz dT m j f (some ⟨n',el,jz,some xs⟩)=(if n'=m/\jz=dT then
   (match xs[j]? with
    |some p=>if agg then some (eF p=true/\f+sz<=(cells p).length,.agg (((cells p).drop f).take sz))else((cells p)[f]?).map fun q=>(eF p=true,q)
    |none=>none)else none):=rfl
end
attribute [simp] acM ac3 acN acP ac7 ac5 acV ac8 ac6 acW ac4 acO acQ zO aax aaw aay aaG aaH adr ads ado adn adp
 adx adt adw adu adv ada ac9 Oj Ol mv hy kA cv get put j0 qA nO nP cA rr Cu GY ID oA uS HQ Hy FW Hx
 look eZ ey.dst er.dst sQ Fc tk c2 dt aD aH
 acR acS acT acU adg adh ade adb adf adm adi adl adj adk Oh Oi eJ pP mh yf gd.loadO uE I6 yQ gG tl adq ac1 ac2 acX acY acZ ac0 wx KN tt Am aaL xo Ep xm rG mZ iH Ht
theorem aF{P:cG}{n:Nat}{args:List ai}{st:br}{d:ba Nat}{K:br->Prop}{r:ai}(aJ:bF P n args r)(h:K {st with t:=eZ d r st.t})(ad:aH (fun _=>e1) args:=by simp):cT P n args st d K:=cT.val ad aJ h
theorem aj{a b:Prop}(ab:b)(bu:a:=by first|omega|(unfold tQ;omega)|(unfold lim;omega)):a/\b:=⟨bu,ab⟩
theorem cy{p:Prop}(h:e1:=by first|contradiction|omega):p:=h.elim
theorem bJ{p:Prop}(h:p:=by(try simp[*]);(repeat' first|with_reducible refine aj ?_|with_reducible refine aF (by assumption) ?_|with_reducible refine aG (by assumption) ?_|simp[*]);(all_goals first|done|(simp[bz,aX,aY,aW, *];done))):p:=h
end
section
open Go Go.RowKit
structure dN (s:cH):Prop where
 obj:jf s
 kb:∀k cs,look k s.b=some cs->aH (inObs s) cs
 ke:∀k o,look k s.e=some o->dW (inObs s) o
structure Same (s ah:cH):Prop where
 b:∀k,(look k s.b).isSome=(look k ah.b).isSome
 e:∀k,(look k s.e).isSome=(look k ah.e).isSome
theorem Same.refl(s:cH):Same s s:=⟨fun _=>rfl,fun _=>rfl⟩
theorem Same.inObs{s ah:cH}(h:Same s ah)(k:aI):inObs s k↔inObs ah k:=by unfold Pv.inObs;rw[h.b,h.e]
theorem vx{α:Type}{k:aI}{x:α}:∀{l:List (aI×α)},(k,x)∈l->(look k l).isSome
 |(i,y)::r,h=>by
  simp only[look];split
  ·rfl
  ·rename_i cM;rcases fA.1 h with h|h
   ·cases h;exact absurd rfl cM
   ·exact vx h
theorem Vg{s:cH}{k:aI}(h:k∈c1 s):inObs s k:=by
 unfold c1 at h;rcases kn.1 h with h|h
 ·obtain⟨⟨bT,x⟩,J,rfl⟩:=hB.1 h;exact .inl (vx J)
 ·obtain⟨⟨bT,x⟩,J,rfl⟩:=hB.1 h;exact .inr (vx J)
theorem jY{s:cH}(h:jf s)(m:Nat):aI.loc m∉c1 s:=fun hm=>by
 rcases Vg hm with J|J
 ·rw[h.1 m]at J;cases J
 ·rw[h.2 m]at J;cases J
theorem ia{α β:Type}(s:List (aI×β)):∀(a b:List (aI×α)),cl s (a++b)=cl s a++cl s b
 |[],b=>rfl
 |(k,x)::r,b=>by
  simp only[bZ,cl];cases look k s with
  |none=>simp[ia s r b]
  |some _=>exact ia s r b
theorem Pj{α β:Type}(s:List (aI×β)):∀(l:List (aI×α)),(∀k x,(k,x)∈l->(look k s).isSome)->cl s l=[]
 |[],_=>rfl
 |(k,x)::r,h=>by
  have J:=h k x Ψ;simp only[cl];cases ar:look k s with
  |none=>rw[ar]at J;cases J
  |some _=>exact Pj s r fun k x af=>h k x (by simp[af])
theorem gR{α:Type}(s:List (aI×α)):cl s s=[]:=Pj s s fun k x h=>vx h
theorem j4{α:Type}{k:aI}{x:α}:∀{l:List (aI×α)},look k l=none->cA k x l=l++[(k,x)]
 |[],_=>rfl
 |(i,y)::r,h=>by
  simp only[look]at h;split at h
  ·cases h
  ·rename_i cM;simp[cA,cM,j4 h]
theorem cK{α:Type}(k:aI):∀(a b:List (aI×α)),look k (a++b)=match look k a with|some x=>some x|none=>look k b
 |[],b=>rfl
 |(i,y)::r,b=>by
  simp only[bZ,look];split
  ·rfl
  ·exact cK k r b
theorem cT.ob{P:cG}{n:Nat}{args:List ai}{st:br}{d:ba Nat}{K:br->Prop}{s:cH}{Q:ai->cH->Prop}(aJ:bH P n args s Q)(ag:dN s)(ab:∀k cs,look k s.b=some cs->look k st.b=some cs)(he:∀k o,look k s.e=some o->look k st.e=some o)
  (ad:aH (inObs s) args) (h:∀r ah,Q r ah->Same s ah/\K ⟨eZ d r st.t,cl s.b st.b++ah.b,cl s.e st.e++ah.e,st.n,st.o++c1 ah⟩):cT P n args st d K:=by
 refine .inl ⟨s,Q,fun k cs aw=>⟨ab k cs aw,.inl (by simp[aw]),ag.kb k cs aw⟩,fun k o ay=>⟨he k o ay,.inr (by simp[ay]),ag.ke k o ay⟩,ag.obj,ad,aJ,fun r ah bm=>?_⟩;obtain⟨J,U⟩:=h r ah bm;exact⟨⟨fun m hm=>.inl (by rw[J.b];exact hm),fun m hm=>.inl (by rw[J.e];exact hm)⟩,U⟩
theorem cF.ob{fw:List bN}{s ah:cH}{Q:ai->cH->Prop}{e:Exit}{st:br}{c:Prop}{b0:List ai}(vb:e= .ret\/e= .normal)(yI:aX st fw=some (c,b0))(aw:c)(ag:dN ah)(fp:Same s ah)(ab:∀k cs,look k ah.b=some cs->look k st.b=some cs)(dJ:∀k o,look k ah.e=some o->look k st.e=some o)
  (ad:aD (inObs ah) (dt (aW b0))) (bm:Q (dt (aW b0)) ah):cF fw s Q e st:=by
 refine⟨vb,?_⟩;rw[yI];have Ux:∀{α:Type} (l:List (aI×α)),(∀k x,(k,x)∈l->inObs ah k)->l0 ah l:=by
  intro α l;induction l with
  |nil=>intro _;trivial
  |cons x r bR=>obtain⟨k,x⟩:=x;intro h;exact⟨h k x Ψ,bR fun k x af=>h k x (by simp[af])⟩
 exact⟨aw,ah,Ux _ fun k x af=>.inl (by rw[<-fp.b];exact vx af),Ux _ fun k x af=>.inr (by rw[<-fp.e];exact vx af),fun k cs dw=>⟨ab k cs dw,.inl (by simp[dw]),ag.kb k cs dw⟩,fun k o ay=>⟨dJ k o ay,.inr (by simp[ay]),ag.ke k o ay⟩,ag.obj,ad,bm⟩
theorem bH.mono{P:cG}{f:FuncId}{args:List ai}{s:cH}{Q oO:ai->cH->Prop}(h:bH P f args s Q)(bm:∀r ah,Q r ah->oO r ah):bH P f args s oO:=by
 intro w ν bf J U au;have hm:∀(e:Ending) (w':World),(∃v r ah bt,e= .returned v/\Q r ah/\bd w' bt r v/\Good (fun bl=>fK ν s bl\/w.heap.size<=bl) w' bt ah.b ah.e/\pT bt ah/\jf ah/\qR ⟨w,ν,fK ν s,0,c1 s⟩ w' bt)->(∃v r ah bt,e= .returned v/\oO r ah/\bd w' bt r v/\Good (fun bl=>fK ν s bl\/w.heap.size<=bl) w' bt ah.b ah.e/\pT bt ah/\jf ah/\qR ⟨w,ν,fK ν s,0,c1 s⟩ w' bt):=by rintro e w' ⟨v,r,ah,bt,bC,a2,a3⟩;exact⟨v,r,ah,bt,bC,bm _ _ a2,a3⟩
 rcases h w ν bf J U au with⟨q9,aw⟩|⟨v,w',aw,aM⟩
 ·exact .inl ⟨q9,aw.mono hm⟩
 ·exact .inr ⟨v,w',aw,hm _ _ aM⟩
theorem D6{s:cH}{k:aI}(h:inObs s k):¬fresh 0 (c1 s) k:=fun aJ=>aJ.2 (ud h)
theorem iU.ob{s:cH}(ag:dN s){st:br}{dZ:List (Nat×ai)}(aN:∀x∈dZ,get x.1 st.t=x.2/\aD (inObs s) x.2)(ab:∀k cs,look k s.b=some cs->look k st.b=some cs)(he:∀k o,look k s.e=some o->look k st.e=some o):
  iU (c1 s) st ⟨dZ,s.b,s.e,0,c1 s⟩:=
 ⟨fun x af=>⟨(aN x af).1,w6 (fun k ad=>D6 ad) _ (aN x af).2⟩,fun k cs aw=>⟨ab k cs aw,D6 (.inl (by simp[aw])),kd (fun k ad=>D6 ad) _ (ag.kb k cs aw)⟩,
  fun k o ay=>⟨he k o ay,D6 (.inr (by simp[ay])),fun xs af=>kd (fun k ad=>D6 ad) _ (ag.ke k o ay xs af)⟩,fun m hm=>hm⟩
def cL(st:br)(fw:List bN)(R:ai->Prop):Prop:=match aX st fw with
 |some (c,b0)=>c/\R (dt (aW b0))
 |none=>e1
theorem cF.at{fw:List bN}{s:cH}{Q:ai->cH->Prop}{e:Exit}{st:br}(ah:cH)(vb:e= .ret\/e= .normal)(ag:dN ah)(fp:Same s ah)(ab:∀k cs,look k ah.b=some cs->look k st.b=some cs)(dJ:∀k o,look k ah.e=some o->look k st.e=some o)
  (h:cL st fw fun r=>aD (inObs ah) r/\Q r ah):cF fw s Q e st:=by
 unfold cL at h;split at h
 ·rename_i c b0 aM;exact cF.ob vb aM h.1 ag fp ab dJ h.2.1 h.2.2
 ·exact h.elim
theorem hn.ob{P:cG}{nw:List Nat}{n:Nat}{args:List ai}{st:br}{d:ba Nat}{K:br->Prop}{s ah:cH}{r:ai}(aJ:bH P n args s fun eT dZ=>eT=r/\dZ=ah)(ag:dN s)(ei:dN ah)(fp:Same s ah)(ab:∀k cs,look k s.b=some cs->look k st.b=some cs)(he:∀k o,look k s.e=some o->look k st.e=some o)
  (ad:aH (inObs s) args) (h:K ⟨eZ d r st.t,cl s.b st.b++ah.b,cl s.e st.e++ah.e,st.n,st.o⟩):hn P false nw n args st d K:=
 .inr ⟨s,ah,r,none,fun k cs aw=>⟨ab k cs aw,.inl (by simp[aw]),ag.kb k cs aw⟩,fun k o ay=>⟨he k o ay,.inr (by simp[ay]),ag.ke k o ay⟩,ag.obj,ei.obj,⟨fun k ad=>.inl (by rw[fp.b];exact ad),fun k ad=>.inl (by rw[fp.e];exact ad),fun k ad=>by rw[<-fp.b];exact ad,fun k ad=>by rw[<-fp.e];exact ad,fun k ad=>by cases ad⟩,ad,aJ,(fun e=>by cases e),h⟩
theorem dN.of{s:cH}(ay:jf s)(ab:∀x∈s.b,aH (inObs s) x.2)(he:∀x∈s.e,∀xs,x.2.xs=some xs->aH (inObs s) xs):dN s:=⟨ay,fun k cs ad=>ab (k,cs) (tY ad),fun k o ad xs af=>he (k,o) (tY ad) xs af⟩
@[simp]theorem aus(b:List (aI×List ai))(e:List (aI×fY)):c1 ⟨b,e⟩=b.map (·.1)++e.map (·.1):=rfl
theorem B6{α:Type}{k:aI}{p:α}:∀{a r:List (aI×α)},look k a=none->cA k p (a++r)=a++cA k p r
 |[],_,_=>rfl
 |(i,y)::a,r,h=>by
  simp only[look]at h;split at h
  ·cases h
  ·rename_i cM;simp[cA,cM,B6 h]
theorem ajA{α:Type}{s b:List (aI×α)}(h:∀p∈s,look p.1 b=some p.2):∀k x,look k s=some x->look k b=some x:=fun k x af=>h (k,x) (tY af)
theorem ee{S:aI->Prop}{cb b:List (aI×List ai)}(h:∀p∈cb,look p.1 b=some p.2/\S p.1/\aH S p.2):gY S cb b:=fun k x af=>h (k,x) (tY af)
theorem ef{S:aI->Prop}{cb b:List (aI×fY)}(h:∀p∈cb,look p.1 b=some p.2/\S p.1/\dW S p.2):pj S cb b:=fun k x af=>h (k,x) (tY af)
theorem aL{α:Type}{s b:List (aI×α)}(h:∀k x,look k s=some x->look k b=some x:=by first|(refine ajA ?_;simp;done)|(intro k x af;first|exact af|(simp[af,gR];done)|(simp[cK,gR,af];done)|(cases k<;>simp_all[cK];done))):∀k x,look k s=some x->look k b=some x:=h
theorem bL{ob:List aI}{st st':br}(J:∀x∈st'.t,get x.1 st.t=x.2/\aD (fun k=> ¬fresh st'.n st'.o k) x.2:=by simp[fresh,aH,aD,b7,inObs,Pv.look])(U:∀p∈st'.b,look p.1 st.b=some p.2/\(¬fresh st'.n st'.o p.1)/\aH (fun k=> ¬fresh st'.n st'.o k) p.2:=by simp[fresh,aH,aD,b7,inObs,Pv.look])(au:∀p∈st'.e,look p.1 st.e=some p.2/\(¬fresh st'.n st'.o p.1)/\dW (fun k=> ¬fresh st'.n st'.o k) p.2:=by simp[fresh,aH,aD,dW,inObs,Pv.look])(a6:∀m∈ob,m∈st'.o:=by simp):iU ob st st':=⟨J,ee U,ef au,a6⟩
theorem bO.next{ob:List aI}{hp:Nat->br->Prop}{k:Nat}{Q:Exit->br->Prop}{st:br}(bT:Nat){ah:br}(ad:bT<k)(hi:hp bT ah)(hw:iU ob st ah):bO ob hp k Q .normal st:=⟨bT,ah,ad,hw,hi⟩
def jO:List (Int×ai)->List ai
 |[]=>[]
 |(k,v)::r=>.int .i64 k::v::jO r
def jZ(l:List (Int×ai)):List ai:= .hdm l.length (List.range l.length)::jO l
def uO(k:Int):List (Int×ai)->ba ai
 |[]=>none
 |(i,v)::r=>if k=i then some v else uO k r
def n3(k:Int)(v:ai):List (Int×ai)->ba (List (Int×ai))
 |[]=>none
 |(i,w)::r=>if k=i then some ((k,v)::r)else match n3 k v r with|some eT=>some ((i,w)::eT)|none=>none
def Cs(k:Int)(v:ai)(l:List (Int×ai)):List (Int×ai):=match n3 k v l with|some aZ=>aZ|none=>l++[(k,v)]
@[simp]theorem auc:[ai.hdm 0 []]=jZ []:=rfl
theorem Ty:∀a b,jO (a++b)=jO a++jO b
 |[],_=>rfl
 |(k,v)::r,b=>by simp[jO,Ty r b]
theorem WB(k:Int):∀l,xd .i (.int .i64 k) (jO l)=some (uO k l)
 |[]=>rfl
 |(i,v)::r=>by
  simp only[jO,xd,tV,uO];by_cases h:k=i
  ·simp[h]
  ·have:(k==i)=false:=by simp[h]
   simp[h,WB k r,this]
theorem PX{k:Int}{v:ai}:∀{l aZ},n3 k v l=some aZ->aZ.length=l.length
 |[],_,h=>by simp[n3]at h
 |(i,w)::r,aZ,h=>by
  simp only[n3]at h;split at h
  ·cases h;rfl
  ·split at h
   ·rename_i eT aM;cases h;simp[PX aM]
   ·cases h
theorem WR(k:Int)(v:ai):∀l,vB .i (.int .i64 k) v (jO l)=some ((n3 k v l).map jO)
 |[]=>rfl
 |(i,w)::r=>by
  simp only[jO,vB,tV,n3];by_cases h:k=i
  ·subst h;simp[jO]
  ·simp only[and_self,if_true,h,if_false,dV,WR k v r];have:(k==i)=false:=by simp[h]
   rw[this];cases n3 k v r<;>simp[jO]
@[simp]theorem WQ(k:Int)(v:ai)(l:List (Int×ai)):ox .i (.int .i64 k) v (jZ l)=some (jZ (Cs k v l)):=by
 simp only[jZ,ox,VO,Bool.true_eq_false,reduceCtorEq,if_false,WR,Cs];cases h:n3 k v l with
 |some aZ=>simp[PX h]
 |none=>simp[Ty,jO,List.range_succ]
@[simp]theorem WE(f:aI->ba (List ai))(m:aI)(l:List (Int×ai))(z:ai)(ok:Bool)(k:Int)(hm:f m=some (jZ l)):nM f .i z ok (.gmap m) (.int .i64 k)=(match uO k l with
  |some v=>some (True,if ok then .tuple [v,.bool true]else v)
  |none=>some (True,if ok then .tuple [z,.bool false]else z)):=by
 simp only[WD,hm,jZ,VO,Bool.true_eq_false,reduceCtorEq,if_false,WB];cases uO k l<;>rfl
def b7(n:Nat)(seen:List Nat)(m:aI):List ai:=[.hdi n seen n,.gmap m]
@[simp]theorem auI(m:aI)(l:List (Int×ai)):xt m (jZ l)=some (b7 l.length [] m):=rfl
@[simp]theorem auC(l:List (Int×ai)):gG (jZ l)=false:=rfl
theorem MB(b:Nat):∀(n:Nat) (l:List (Int×ai)),mX b (List.range' n l.length) (jO l)=(if n<=b then(l[b-n]?).map fun x=>.tuple [.int .i64 x.1,x.2]else none)
 |n,[]=>by simp[mX,jO]
 |n,(k,v)::r=>by
  simp only[pD,List.range'_succ,jO,mX];by_cases h:n=b
  ·subst h;simp
  ·rw[if_neg h,MB b (n+1) r];by_cases U:n<=b
   ·rw[if_pos U,if_pos Ω];have:b-n=(b-(n+1))+1:=Ω
    rw[this];simp
   ·rw[if_neg U,if_neg Ω]
@[simp]theorem MG(f:aI->ba (List ai))(eR mk:aI)(n:Nat)(seen:List Nat)(b:Nat)(l:List (Int×ai))(hi:f eR=some (b7 n (seen++[b]) mk))(hm:f mk=some (jZ l))(ax:n=l.length):ov f (.ptr eR 0)=(l[b]?).map fun x=>(True,.tuple [.int .i64 x.1,x.2]):=by subst ax;simp only[WA,hi,hm,b7,jZ,List.getLast?_append,List.getLast?_singleton,Option.some_or,List.range_eq_range',MB,Nat.zero_le,if_true,Nat.sub_zero,Option.map_map];cases l[b]?<;>simp
theorem Kl{st:br}{d:Nat}{K:br->Prop}{eR mk:aI}{n:Nat}{seen:List Nat}{l:List (Int×ai)}(hi:look eR st.b=some (b7 n seen mk))(hm:look mk st.b=some (jZ l))(ax:n=l.length)
  (J:(∀b,b<n->b∈seen)->K {st with t:=put d (.tuple [.bool false]) st.t}) (U:∀b k v,l[b]? =some (k,v)->b∉seen->K {st with t:=put d (.tuple [.bool true,.int .i64 k,v]) st.t,b:=cA eR (b7 n (seen++[b]) mk) st.b}):
  r3 st d (.ptr eR 0) K:=by
 subst ax;simp only[r3,hi,b7,hm,jZ,MV,and_self,true_and];refine⟨fun h=>J fun b ab=>h b (by simpa using ab),fun b k v yE ab=>?_⟩;rw[List.range_eq_range',MB]at yE;simp only[Nat.zero_le,if_true,Nat.sub_zero,ha,ai.tuple.injEq,oJ,and_true]at yE;obtain⟨⟨bT,v'⟩,al,aE,bn⟩:=yE;simp only at aE bn;subst aE bn;exact U b bT v' al ab
theorem amT{n:Nat}{seen:List Nat}(aR:seen.Nodup)(bD:∀b∈seen,b<n)(jR:∀b,b<n->b∈seen):seen.Perm (List.range n):=(List.perm_ext_iff_of_nodup aR List.nodup_range).2 fun b=>⟨fun h=>by simpa using bD b h,fun h=>jR b (by simpa using h)⟩
theorem EH{n:Nat}{seen:List Nat}(aR:seen.Nodup)(bD:∀b∈seen,b<n):seen.length<=n:=by have:=Pp aR (l₂:=List.range n) (fun b ab=>by simpa using bD b ab);simpa using this
theorem Iu{n b:Nat}{seen:List Nat}(aR:seen.Nodup)(bD:∀b∈seen,b<n)(ab:b<n)(ax:b∉seen):seen.length<n:=by have J:(b::seen).Nodup:=List.nodup_cons.2 ⟨ax,aR⟩;have:=EH J (n:=n) (by simp;exact⟨ab,bD⟩);simp at this;omega
theorem Yq{α:Type}:∀(l pre:List α),(List.range' pre.length l.length).filterMap (fun b=>(pre++l)[b]?)=l
 |[],_=>rfl
 |x::r,pre=>by have bR:=Yq r (pre++[x]);simp only[pC,List.length_singleton,List.append_assoc,List.singleton_append]at bR;simp[List.range'_succ,bR]
theorem It{α:Type}{l:List α}{seen:List Nat}(aR:seen.Nodup)(bD:∀b∈seen,b<l.length)(jR:∀b,b<l.length->b∈seen):(seen.filterMap fun b=>l[b]?).Perm l:=by have J:=(amT aR bD jR).filterMap fun b=>l[b]?;have U:=Yq l [];simp only[List.length_nil,b6,<-List.range_eq_range']at U;rwa[U]at J
theorem HC{b:Nat}{seen:List Nat}(aR:seen.Nodup)(ax:b∉seen):(seen++[b]).Nodup:=by rw[List.nodup_append];exact⟨aR,Ψ,by simp;intro a bu e;subst e;exact ax bu⟩
theorem cY.start{w:World}{ν:bg}{s:cH}{args:List ai}{bf:Array Value}(oo:jf s)(a7:Good (fK ν s) w ν s.b s.e)(af:pT ν s)(aM:cW w ν args bf.toList):
  cY ⟨w,ν,fK ν s,bf.size,c1 s⟩ ⟨kA 0 args,s.b,s.e,0,c1 s⟩ {tmps:=bf,defers:=[]} w ν:=by
 have jG:=EB aM;have k5:bf.size=args.length:=by simpa using jG
 have o5:∀k,fresh 0 (c1 s) k->ν.bx k=none/\ν.ow k=none/\∀j b,¬ν.tr k j b:=by
  intro k ad;cases k with
  |loc m=>exact⟨(af _).1 (oo.1 m),(af _).2.1 (oo.2 m),(af _).2.2⟩
  |obj m=>
   simp only[fresh,true_and]at ad;refine⟨?_,?_,(af _).2.2⟩
   ·refine(af _).1 ?_;cases h:look (.obj m) s.b with
    |none=>rfl
    |some x=>exact absurd (ud (.inl (by simp[h]))) ad
   ·refine(af _).2.1 ?_;cases h:look (.obj m) s.e with
    |none=>rfl
    |some x=>exact absurd (ud (.inr (by simp[h]))) ad
 have jE:∀m,(ν.bx (.obj m)≠none\/ν.ow (.obj m)≠none)-> .obj m∈c1 s:=by
  intro m hm;refine Classical.byContradiction fun aw=>?_;obtain⟨J,U,_⟩:=o5 (.obj m) ⟨trivial,aw⟩;rcases hm with hm|hm
  ·exact hm J
  ·exact hm U
 refine⟨⟨a7.alt,fun k cs ad=>?_,a7.inj,fun g o ej=>?_,a7.oinj,a7.obx,a7.one,a7.otr⟩,⟨rfl,rfl,rfl,e7 _,fun _ _ _=>rfl,fun b o h=>⟨h,rfl⟩,fun b o h=>.inl h,fun n b h=>h,fun n b h=>jE n (.inl (by rw[h];simp)),fun m n u h=>⟨n,u,h,.inl ⟨rfl,rfl⟩⟩,fun m n u h=>jE m (.inr (by rw[h];simp)),fun k j _ _ b h=>absurd h ((af k).2.2 j b),fun k j b h=>absurd h ((af k).2.2 j b),fun k j b h=>absurd h ((af k).2.2 j b),fun _ _ _=>rfl⟩,rfl,rfl,fun i=>?_,o5⟩
 ·obtain⟨bl,us,el,g1,g2,g3⟩:=a7.box k cs ad;exact⟨bl,us,el,g1,.inl g2,g3⟩
 ·obtain⟨v,us,g1,g2,g3,g4⟩:=a7.own g o ej;exact⟨v,us,g1,g2,fun bl e4=>⟨.inl (g3 bl e4).1,(g3 bl e4).2⟩,g4⟩
 ·rw[KY];by_cases hi:i<args.length
  ·rw[if_pos Ω];have vg:args[i]? =some args[i]:=cc hi;obtain⟨v,al,aE⟩:=Ik i aM vg;have Kd:bf[i]? =some v:=by simpa using al
   show bd w ν _ (bf.getD i undef);rw[Array.getD_eq_getD_getElem?,Kd];simpa[List.getD,vg]using aE
  ·rw[if_neg Ω];simp[bd]
theorem bH.sem{P:cG}{f:FuncId}{args:List ai}{s:cH}{Q:ai->cH->Prop}(oo:jf s)
  (h:∀(w:World) (ν:bg) (bf:Array Value),bf.size=args.length->cY ⟨w,ν,fK ν s,bf.size,c1 s⟩ ⟨kA 0 args,s.b,s.e,0,c1 s⟩ {tmps:=bf,defers:=[]} w ν->
   xO P f bf w fun e w'=> ∃v st' bq bt r ah,e= .returned v/\cY ⟨w,ν,fK ν s,bf.size,c1 s⟩ st' bq w' bt/\bd w' bt r v/\l0 ah s.b/\l0 ah s.e/\gY (inObs ah) ah.b st'.b/\pj (inObs ah) ah.e st'.e/\jf ah/\aD (inObs ah) r/\Q r ah):bH P f args s Q:=by
 intro w ν bf a7 af aM;have k5:bf.size=args.length:=by simpa using EB aM
 have qu:=cY.start oo a7 af aM;have hm:∀(e:Ending) (w':World),(∃v st' bq bt r ah,e= .returned v/\cY ⟨w,ν,fK ν s,bf.size,c1 s⟩ st' bq w' bt/\bd w' bt r v/\l0 ah s.b/\l0 ah s.e/\gY (inObs ah) ah.b st'.b/\pj (inObs ah) ah.e st'.e/\jf ah/\aD (inObs ah) r/\Q r ah)->
   ∃v r ah bt,e= .returned v/\Q r ah/\bd w' bt r v/\Good (fun bl=>fK ν s bl\/w.heap.size<=bl) w' bt ah.b ah.e/\pT bt ah/\jf ah/\qR ⟨w,ν,fK ν s,0,c1 s⟩ w' bt:=by
  rintro e w' ⟨v,st',bq,bt,r,ah,rfl,dS,kg,kb,ke,bc,bE,b1,c5,df⟩;refine⟨v,r,ah,bt.cut (inObs ah),rfl,df,vN (pI.cut _ w' bt) _ _ c5 kg,dS.good.cut bc bE (fun bl h _=>h),?_,b1,?_⟩
  ·intro k;refine⟨?_,?_,?_⟩;rotate_left 2
   ·rintro j b ⟨ag,ab⟩;obtain⟨t1,t2⟩:=dS.fr.trn k j b ab;rcases ag with ag|ag<;>obtain⟨x,iy⟩:=fU.1 ag
    ·obtain⟨bl,ct,el,al,_⟩:=dS.good.box k x (bc k x iy).1;rw[t1]at al;cases al
    ·obtain⟨v',ct,al,_⟩:=dS.good.own k x (bE k x iy).1;rw[t2]at al;cases al
   ·intro ad;by_cases ag:inObs ah k
    ·rw[bg.cut_bx ag];rcases ag with ag|ag
     ·rw[ad]at ag;cases ag
     ·obtain⟨x,iy⟩:=fU.1 ag;obtain⟨v',ct,al,_⟩:=dS.good.own k x (bE k x iy).1;rcases dS.good.one k with J|J
      ·exact J
      ·rw[J]at al;cases al
    ·exact(bg.cut_no ag).1
   ·intro ad;by_cases ag:inObs ah k
    ·rw[bg.cut_ow ag];rcases ag with ag|ag
     ·obtain⟨x,iy⟩:=fU.1 ag;obtain⟨bl,ct,el,al,_⟩:=dS.good.box k x (bc k x iy).1;rcases dS.good.one k with J|J
      ·rw[J]at al;cases al
      ·exact J
     ·rw[ad]at ag;cases ag
    ·exact(bg.cut_no ag).2.1
  ·refine⟨dS.fr.os,dS.fr.tape,dS.fr.output,dS.fr.size,dS.fr.block,dS.fr.keep,dS.fr.fresh,fun n b h=>?_,dS.fr.obn,fun m n u h=>?_,dS.fr.obr,fun k j bT dP b J U=>dS.fr.trd k j bT dP b J.2 U.2,fun k j b ab=>dS.fr.trb k j b ab.2,fun k j b ab=>(by rw[bg.cut_bx ab.1,bg.cut_ow ab.1];exact dS.fr.trn k j b ab.2),dS.fr.sh⟩
   ·have ag:inObs ah (.obj n):=by
     cases ar:look (.obj n) s.b with
     |none=>rw[(af _).1 ar]at h;cases h
     |some x=>exact Bc kb _ (by simp[ar])
    rw[bg.cut_bx ag];exact dS.fr.obj n b h
   ·have ag:inObs ah (.obj m):=by
     cases ar:look (.obj m) s.e with
     |none=>rw[(af _).2.1 ar]at h;cases h
     |some x=>exact Bc ke _ (by simp[ar])
    rw[bg.cut_ow ag];exact dS.fr.row m n u h
 rcases h w ν bf k5 qu with⟨q9,aw⟩|⟨v,w',aw,yI⟩
 ·exact .inl ⟨q9,aw.mono hm⟩
 ·exact .inr ⟨v,w',aw,hm _ _ yI⟩
theorem cY.grown{C:ft}{st:br}{a:Act}{w w':World}{ν:bg}(h:cY C st a w ν)(a7:w.grownBy w' none):cY C st a w' ν:=by
 have k4:lK w ν w' ν:=⟨fun b o bk=>⟨bk,FT a7 (h.good.alt b o bk)⟩,fun _ _ _ h=>h,fun _ n u _ h=>⟨n,u,h,.inl ⟨rfl,rfl⟩⟩,fun b o bk=>xx (a7.block b (h.good.alt b o bk) Ψ),fun _ _ _ _ h=>h⟩;refine h.over k4 rfl ⟨fun b o bk=>Nat.lt_of_lt_of_le (h.good.alt b o bk) a7.size,fun k cs ad=>?_,h.good.inj,fun g o ej=>?_,h.good.oinj,h.good.obx,h.good.one,h.good.otr⟩
  ⟨a7.os.trans h.fr.os,a7.tape.trans h.fr.tape,a7.output.trans h.fr.output,kB h.fr.size a7.size,fun k ad hm=>?_,fun b o bk=>?_,h.fr.fresh,h.fr.obj,h.fr.obn,h.fr.row,h.fr.obr,h.fr.trd,fun k j b ab=>⟨(h.fr.trb k j b ab).1,Nat.lt_of_lt_of_le (h.fr.trb k j b ab).2 a7.size⟩,h.fr.trn,fun b o bk=>(k4.sh b o (h.fr.keep b o bk).1).trans (h.fr.sh b o bk)⟩ h.new
 ·obtain⟨bl,us,el,g1,g2,g3,g4,g5⟩:=h.good.box k cs ad;exact⟨bl,us,el,g1,g2,g3,by rw[a7.block bl (Array.getElem?_eq_some_iff.1 g4).1 Ψ];exact g4,qG k4 g5⟩
 ·obtain⟨v,us,g1,g2,g3,g4⟩:=h.good.own g o ej;exact⟨v,us,g1,g2.kept a7 (by cases v.ownBlock<;>simp),g3,sR k4 (fun _ _ _ h=>h) g4⟩
 ·rw[a7.block k (Nat.lt_of_lt_of_le ad h.fr.size) Ψ];exact h.fr.block k ad hm
 ·obtain⟨aU,bo⟩:=h.fr.keep b o bk;exact⟨aU,(k4.A b o aU).2.trans bo⟩
theorem cT.new{P:cG}{n:Nat}{args:List ai}{st:br}{d:ba Nat}{K:br->Prop}{s:cH}{Q:ai->cH->Prop}(aJ:bH P n args s Q)(ag:dN s)(ab:∀k cs,look k s.b=some cs->look k st.b=some cs)(he:∀k o,look k s.e=some o->look k st.e=some o)
  (ad:aH (inObs s) args) (h:∀r ah,Q r ah->(∀m,inObs ah (.obj m)->inObs s (.obj m)/\Same s ah\/ .obj m∉st.o)/\K ⟨eZ d r st.t,cl s.b st.b++ah.b,cl s.e st.e++ah.e,st.n,st.o++c1 ah⟩):cT P n args st d K:=by
 refine .inl ⟨s,Q,fun k cs aw=>⟨ab k cs aw,.inl (by simp[aw]),ag.kb k cs aw⟩,fun k o ay=>⟨he k o ay,.inr (by simp[ay]),ag.ke k o ay⟩,ag.obj,ad,aJ,fun r ah bm=>?_⟩;obtain⟨J,U⟩:=h r ah bm;refine⟨⟨fun m hm=>?_,fun m hm=>?_⟩,U⟩
 ·rcases J m (.inl hm)with⟨_,au⟩|au
  ·exact .inl (by rw[au.b];exact hm)
  ·exact .inr au
 ·rcases J m (.inr hm)with⟨_,au⟩|au
  ·exact .inl (by rw[au.e];exact hm)
  ·exact .inr au
theorem cF.new{fw:List bN}{s:cH}{Q:ai->cH->Prop}{e:Exit}{st:br}(ah:cH)(vb:e= .ret\/e= .normal)(ag:dN ah)(fp:l0 ah s.b/\l0 ah s.e)(ab:∀k cs,look k ah.b=some cs->look k st.b=some cs)(dJ:∀k o,look k ah.e=some o->look k st.e=some o)
  (h:cL st fw fun r=>aD (inObs ah) r/\Q r ah):cF fw s Q e st:=by
 unfold cL at h;split at h
 ·rename_i c b0 aM;refine⟨vb,?_⟩;rw[aM];exact⟨h.1,ah,fp.1,fp.2,fun k cs dw=>⟨ab k cs dw,.inl (by simp[dw]),ag.kb k cs dw⟩,fun k o ay=>⟨dJ k o ay,.inr (by simp[ay]),ag.ke k o ay⟩,ag.obj,h.2.1,h.2.2⟩
 ·exact h.elim
@[simp]theorem asb{P:cG}{ob:List aI}{c d:C}{Q:Exit->br->Prop}{st:br}{s:Nat}:c4 P ob (.seq (.pub s c) d) Q st=xT P ob (.seq c d) Q (xo st s):=by simp only[c4];cases xo st s<;>rfl
@[simp]theorem asa{P:cG}{ob:List aI}{c d:C}{Q:Exit->br->Prop}{st:br}{s:Nat}:c4 P ob (.seq (.pubB s c) d) Q st=xT P ob (.seq c d) Q (xm st s):=by simp only[c4];cases xm st s<;>rfl
end
section
open Go Go.RowKit
def vp(t:List (Nat×ai))(ck:List Nat):List (Nat×ai):=ck.map fun k=>(k,get k t)
@[simp]theorem ath(t:List (Nat×ai)):vp t []=[]:=rfl
@[simp]theorem atg(t:List (Nat×ai))(k:Nat)(ck:List Nat):vp t (k::ck)=(k,get k t)::vp t ck:=rfl
def p7(st:br)(ck:List Nat)(cs:List (Nat×ai)):br:=⟨vp st.t ck++cs,st.b,st.e,st.n,st.o⟩
theorem aki(t:List (Nat×ai))(b:List (aI×List ai))(e:List (aI×fY))(n:Nat)(o:List aI)(ck:List Nat)(cs:List (Nat×ai)):p7 ⟨t,b,e,n,o⟩ ck cs=⟨vp t ck++cs,b,e,n,o⟩:=rfl
def zL{α:Type}(S:Nat->α->br)(n:Nat)(fk:Nat->α->Prop)(k:Nat)(st:br):Prop:= ∃i a,i<=n/\k=n-i/\fk i a/\st=S i a
section
variable {P:cG} {ob:List aI} {st:br} {Q:Exit->br->Prop} {c:C} {α:Type}
theorem gT(S:Nat->α->br)(n:Nat)(fk:Nat->α->Prop)(a0:α)(hw:iU ob st (S 0 a0))(bs:fk 0 a0)(lp:∀a,fk n a->(∀i,ec (get i (S n a).t))->c4 P ob c (bO ob (zL S n fk) 0 Q) (S n a))
  (jV:∀i a,i<n->fk i a->(∀j,ec (get j (S i a).t))->c4 P ob c (bO ob (zL S n fk) (n-i) Q) (S i a)):c4 P ob (.loop c) Q st:=by
 refine oX (zL S n fk) n _ hw ⟨0,a0,Ω,Ω,bs,rfl⟩ ?_;rintro k s ⟨i,a,hi,rfl,ae,rfl⟩ ab _;rcases Nat.lt_or_ge i n with h|h
 ·exact jV i a h ae ab
 ·obtain rfl:i=n:=Ω
  rw[Nat.sub_self];exact lp a ae ab
theorem bO.rng{S:Nat->α->br}{n:Nat}{fk:Nat->α->Prop}{i:Nat}(bq:α)(hi:i<n)(ae:fk (i+1) bq)(hw:iU ob st (S (i+1) bq)):bO ob (zL S n fk) (n-i) Q .normal st:=⟨n-(i+1),_,Ω,hw,i+1,bq,Ω,rfl,ae,rfl⟩
def Cg{α:Type}(S:α->br)(nf:α->Nat)(fk:α->Prop)(k:Nat)(st:br):Prop:= ∃a,k=nf a/\fk a/\st=S a
theorem oY(S:α->br)(nf:α->Nat)(fk:α->Prop)(a0:α)(hw:iU ob st (S a0))(bs:fk a0)
  (jV:∀a,fk a->(∀j,ec (get j (S a).t))->c4 P ob c (bO ob (Cg S nf fk) (nf a) Q) (S a)):c4 P ob (.loop c) Q st:=by
 refine oX (Cg S nf fk) (nf a0) _ hw ⟨a0,rfl,bs,rfl⟩ ?_;rintro k s ⟨a,rfl,ae,rfl⟩ ab _;exact jV a ae ab
theorem bO.whl{S:α->br}{nf:α->Nat}{fk:α->Prop}{k:Nat}(bq:α)(hm:nf bq<k)(ae:fk bq)(hw:iU ob st (S bq)):bO ob (Cg S nf fk) k Q .normal st:=⟨nf bq,_,hm,hw,bq,rfl,ae,rfl⟩
end
theorem fO{p:Prop}(h:p:=by(try simp[*]);(repeat' first|with_reducible refine aj ?_|with_reducible refine aF (by assumption) ?_|with_reducible refine aG (by assumption) ?_|simp[*]);(all_goals first|exact bO.rng () (by assumption) (by first|assumption|trivial) bL|exact bO.rng _ (by assumption) (by assumption) bL)):p:=h
end
section
open Go Go.RowKit
def mu(s:cH)(n:Nat)(k:aI):Prop:=inObs s k\/ ∃m,m<n/\k= .loc m
@[simp]theorem WU(s:cH)(n m:Nat)(hm:m<n):mu s n (.loc m):= .inr ⟨m,hm,rfl⟩
theorem Bs{s:cH}{n:Nat}{l:List ai}(h:aH (inObs s) l):aH (mu s n) l:=kd (fun _ h=>.inl h) l h
theorem y6{s ah:cH}(fp:Same s ah){n:Nat}{k:aI}(h:mu ah n k):¬fresh n (c1 s) k:=by
 rcases h with h|⟨m,hm,rfl⟩
 ·exact fun aJ=>aJ.2 (ud ((fp.inObs k).2 h))
 ·intro aJ;have:=aJ.1;simp at this;omega
theorem iU.obL{s ah:cH}(ei:dN ah)(fp:Same s ah){st:br}{dZ:List (Nat×ai)}{L:List (aI×List ai)}{n:Nat}(aN:∀x∈dZ,get x.1 st.t=x.2/\aD (mu ah n) x.2)(jQ:∀x∈L,look x.1 st.b=some x.2/\mu ah n x.1/\aH (mu ah n) x.2)
  (ab:∀k cs,look k ah.b=some cs->look k st.b=some cs) (he:∀k o,look k ah.e=some o->look k st.e=some o):iU (c1 s) st ⟨dZ,L++ah.b,ah.e,n,c1 s⟩:=by
 refine⟨fun x af=>⟨(aN x af).1,w6 (fun k ad=>y6 fp ad) _ (aN x af).2⟩,fun k cs ad=>?_,fun k o ay=>?_,fun m hm=>hm⟩
 ·simp only at ad;rw[cK]at ad;cases ar:look k L with
  |some x=>rw[ar]at ad;simp only[dQ]at ad;subst ad;obtain⟨J,U,au⟩:=jQ _ (tY ar);exact⟨J,y6 fp U,kd (fun k ad=>y6 fp ad) _ au⟩
  |none=>rw[ar]at ad;exact⟨ab k cs ad,y6 fp (.inl (.inl (by simp[ad]))),kd (fun k ad=>y6 fp (.inl ad)) _ (ei.kb k cs ad)⟩
 ·exact⟨he k o ay,y6 fp (.inl (.inr (by simp at ay;simp[ay]))),fun xs af=>kd (fun k ad=>y6 fp (.inl ad)) _ (ei.ke k o ay xs af)⟩
def gW{α:Type}(l:List α)(i j:Nat):List α:=match l[i]?,l[j]? with
 |some x,some y=>(l.set i y).set j x
 |_,_=>l
section
variable {α:Type}
@[simp]theorem ajK(l:List α)(i j:Nat):(gW l i j).length=l.length:=by unfold gW;split<;>simp
theorem Bi(l:List α)(i j k:Nat)(hi:i<l.length)(ae:j<l.length):(gW l i j)[k]? =if k=i then l[j]? else if k=j then l[i]? else l[k]?:=by
 unfold gW;rw[cc hi,cc ae];simp only[List.getElem?_set,List.length_set];by_cases J:j=k
 ·subst J;by_cases U:j=i
  ·subst U;simp[hi]
  ·simp[U,ae]
 ·by_cases U:i=k
  ·subst U;simp[J,hi]
  ·simp[J,U,ld J,ld U]
theorem Wo(l:List α)(i j:Nat):(gW l i j).Perm l:=by
 unfold gW;split
 ·rename_i x y af aO;obtain⟨hi,rfl⟩:=eP.1 af;obtain⟨ae,rfl⟩:=eP.1 aO;exact List.set_set_perm hi ae
 ·exact .refl _
inductive gB (a b:Nat):List α->List α->Prop
 |refl (l:List α):gB a b l l
 |step {l m:List α} {i j:Nat}:gB a b l m->a<=i->i<b->a<=j->j<b->i<m.length->j<m.length->gB a b l (gW m i j)
theorem gB.length{a b:Nat}{l m:List α}(h:gB a b l m):m.length=l.length:=by
 induction h with
 |refl=>rfl
 |step _ _ _ _ _ _ _ bR=>rw[ajK,bR]
theorem gB.perm{a b:Nat}{l m:List α}(h:gB a b l m):m.Perm l:=by
 induction h with
 |refl=>exact .refl _
 |step _ _ _ _ _ _ _ bR=>exact(Wo _ _ _).trans bR
theorem gB.out{a b:Nat}{l m:List α}(h:gB a b l m)(k:Nat)(ad:k<a\/b<=k):m[k]? =l[k]?:=by
 induction h with
 |refl=>rfl
 |step _ J U au a6 b3 c7 bR=>rw[Bi _ _ _ _ b3 c7,if_neg Ω,if_neg Ω];exact bR
theorem gB.all{a b:Nat}{l m:List α}(h:gB a b l m)(p:α->Prop)(bB:∀k x,a<=k->k<b->l[k]? =some x->p x):∀k x,a<=k->k<b->m[k]? =some x->p x:=by
 induction h with
 |refl=>exact bB
 |step _ J U au a6 b3 c7 bR=>
  intro k x gE lr af;rw[Bi _ _ _ _ b3 c7]at af;split at af
  ·exact bR _ _ au a6 af
  ·split at af
   ·exact bR _ _ J U af
   ·exact bR _ _ gE lr af
theorem gB.trans{a b:Nat}{l m r:List α}(h:gB a b l m)(cf:gB a b m r):gB a b l r:=by
 induction cf with
 |refl=>exact h
 |step _ J U au a6 b3 c7 bR=>exact .step bR J U au a6 b3 c7
theorem gB.mono{a b bq cb:Nat}{l m:List α}(h:gB a b l m)(bu:bq<=a)(ab:b<=cb):gB bq cb l m:=by
 induction h with
 |refl=>exact .refl _
 |step _ J U au a6 b3 c7 bR=>exact .step bR Ω Ω Ω Ω b3 c7
def fm(lt:α->α->Bool)(a b:Nat)(l:List α):Prop:= ∀i j x y,a<=i->i<j->j<b->l[i]? =some x->l[j]? =some y->lt y x=false
structure qS (lt:α->α->Bool):Prop where
 asym:∀x y,lt x y=true->lt y x=false
 ntr:∀x y z,lt y x=false->lt z y=false->lt z x=false
theorem fm.pairwise{lt:α->α->Bool}{l:List α}(h:fm lt 0 l.length l):l.Pairwise fun x y=>lt y x=false:=by rw[qg];intro i j hi ae ml;exact h i j _ _ Ω ml ae (cc hi) (cc ae)
def h7(a m b k:Nat):Nat:=if k<a then k else if k<a+(b-m)then k+(m-a)else if k<b then k-(b-m)else k
def sU(a b c k:Nat):Nat:=if a<=k/\k<a+c then b+(k-a)else if b<=k/\k<b+c then a+(k-b)else k
end
theorem Gp(i j:Nat)(h:i+j<=1099511627776):IntKind.i64.wrap (Int.fdiv (hA.wrap ((i:Int)+j)) (2 ^ (min 1 hA.bits)))=((i+j)/2:Nat):=by
 have hw:hA.wrap ((i:Int)+j)=i+j:=by simp[ta,oH,s9];omega
 have K9:hA.bits=64:=rfl;rw[hw,K9,show(2:Int) ^ (min 1 64)=2 from by decide,Int.fdiv_eq_ediv_of_nonneg _ Ω,pz]
 ·omega
 ·omega
end
section
open Go
inductive bI where
 |mk (kind n:Int) (name:List dM) (args:List bI)
def bI.kind:bI->Int| .mk k _ _ _=>k
def bI.num:bI->Int| .mk _ n _ _=>n
def bI.name:bI->List dM| .mk _ _ s _=>s
def bI.args:bI->List bI| .mk _ _ _ a=>a
mutual
def enc:bI->ai
 | .mk k n s a=>.agg [.int .i64 k,.int .i64 n,.str s,.slice 4 .no (pR a)]
def pR:List bI->List ai
 |[]=>[]
 |x::xs=>enc x::pR xs
end
theorem F2:∀l,pR l=l.map enc
 |[]=>rfl
 |x::xs=>by simp[pR,F2 xs]
theorem Af(t:bI):enc t= .agg [.int .i64 t.kind,.int .i64 t.num,.str t.name,.slice 4 .no (t.args.map enc)]:=by cases t;simp[enc,F2,bI.kind,bI.num,bI.name,bI.args]
mutual
theorem V6(S:aI->Prop):∀t:bI,aD S (enc t)
 | .mk k n s a=>by simp[enc,aD,aH,Mg S a]
theorem Mg(S:aI->Prop):∀l:List bI,aH S (pR l)
 |[]=>by simp[pR,aH]
 |x::xs=>by simp[pR,aH,V6 S x,Mg S xs]
end
mutual
theorem Y9:∀t:bI,dt (enc t)=enc t
 | .mk k n s a=>by simp[enc,dt,c2,OC a]
theorem OC:∀l:List bI,c2 (pR l)=pR l
 |[]=>by simp[pR,c2]
 |x::xs=>by simp[pR,c2,Y9 x,OC xs]
end
@[simp]theorem atG(S:aI->Prop)(t:bI):aD S (enc t)=True:=eq_true (V6 S t)
@[simp]theorem atr(S:aI->Prop)(l:List bI):aH S (l.map enc)=True:=by rw[<-F2];exact eq_true (Mg S l)
theorem ao6(l:List bI):c2 (l.map enc)=l.map enc:=by rw[<-F2];exact OC l
attribute [simp] Y9 ao6
@[simp]theorem au3(t:bI):eF (enc t)=true:=by rw[Af];rfl
@[simp]theorem arR(t:bI):cells (enc t)=[.int .i64 t.kind,.int .i64 t.num,.str t.name,.slice 4 .no (t.args.map enc)]:=by rw[Af];rfl
@[simp]theorem aru(t:bI):ai.agg [.int .i64 t.kind,.int .i64 t.num,.str t.name,.slice 4 .no (t.args.map enc)]=enc t:=(Af t).symm
@[simp]theorem ata(t:bI):Pv.isAgg 4 (enc t):=by rw[Af];exact⟨_,rfl,rfl⟩
inductive T where
 |nil
 |var (n:Int)
 |sym (s:List dM)
 |num (n:Int)
 |pair (a b:T)
 deriving DecidableEq,Inhabited
def T.tm:T->bI
 | .nil=>.mk 0 0 [] []
 | .var n=>.mk 1 n [] []
 | .sym s=>.mk 2 0 s []
 | .num n=>.mk 3 n [] []
 | .pair a b=>.mk 4 0 [] [a.tm,b.tm]
def T.e:T->ai
 | .nil=>.agg [.int .i64 0,.int .i64 0,.str [],.slice 4 .no []]
 | .var n=>.agg [.int .i64 1,.int .i64 n,.str [],.slice 4 .no []]
 | .sym s=>.agg [.int .i64 2,.int .i64 0,.str s,.slice 4 .no []]
 | .num n=>.agg [.int .i64 3,.int .i64 n,.str [],.slice 4 .no []]
 | .pair a b=>.agg [.int .i64 4,.int .i64 0,.str [],.slice 4 .no [a.e,b.e]]
theorem qm:∀t:T,enc t.tm=t.e
 | .nil| .var _| .sym _| .num _=>rfl
 | .pair a b=>by simp[T.tm,enc,pR,T.e,qm a,qm b]
def T.kind:T->Int
 | .nil=>0| .var _=>1| .sym _=>2| .num _=>3| .pair _ _=>4
def T.int:T->Int
 | .var n=>n| .num n=>n|_=>0
def T.name:T->List dM
 | .sym s=>s|_=>[]
def T.args:T->List T
 | .pair a b=>[a,b]|_=>[]
theorem T.e_eq(t:T):t.e= .agg [.int .i64 t.kind,.int .i64 t.int,.str t.name,.slice 4 .no (t.args.map T.e)]:=by cases t<;>rfl
@[simp]theorem art(t:T):ai.agg [.int .i64 t.kind,.int .i64 t.int,.str t.name,.slice 4 .no (t.args.map T.e)]=t.e:=(T.e_eq t).symm
@[simp]theorem arv:ai.agg [.int .i64 0,.int .i64 0,.str [],.slice 4 .no []]=T.nil.e:=rfl
@[simp]theorem arz(n:Int):ai.agg [.int .i64 1,.int .i64 n,.str [],.slice 4 .no []]=(T.var n).e:=rfl
@[simp]theorem ary(s:List dM):ai.agg [.int .i64 2,.int .i64 0,.str s,.slice 4 .no []]=(T.sym s).e:=rfl
@[simp]theorem arw(n:Int):ai.agg [.int .i64 3,.int .i64 n,.str [],.slice 4 .no []]=(T.num n).e:=rfl
@[simp]theorem arx(a b:T):ai.agg [.int .i64 4,.int .i64 0,.str [],.slice 4 .no [a.e,b.e]]=(T.pair a b).e:=rfl
@[simp]theorem asj(off:Nat)(gf:Bool)(sz:Nat)(t:T):q5 off gf sz (.eptr t.e)=if gf then some (off+sz<=4,.eptr (.agg (([.int .i64 t.kind,.int .i64 t.int,.str t.name,.slice 4 .no (t.args.map T.e)].drop off).take sz)))else(([.int .i64 t.kind,.int .i64 t.int,.str t.name,.slice 4 .no (t.args.map T.e)]:List ai)[off]?).map fun p=>(eF p=true/\cells p=[p],.eptr p):=by rw[T.e_eq];rfl
@[simp]theorem ajs:(T.nil).kind=0:=rfl
@[simp]theorem aiV:(T.nil).int=0:=rfl
@[simp]theorem akr:(T.nil).name=[]:=rfl
@[simp]theorem abc:(T.nil).args=[]:=rfl
@[simp]theorem ajx(n:Int):(T.var n).kind=1:=rfl
@[simp]theorem aiZ(n:Int):(T.var n).int=n:=rfl
@[simp]theorem akw(n:Int):(T.var n).name=[]:=rfl
@[simp]theorem abg(n:Int):(T.var n).args=[]:=rfl
@[simp]theorem ajw(s:List dM):(T.sym s).kind=2:=rfl
@[simp]theorem aiY(s:List dM):(T.sym s).int=0:=rfl
@[simp]theorem akv(s:List dM):(T.sym s).name=s:=rfl
@[simp]theorem abf(s:List dM):(T.sym s).args=[]:=rfl
@[simp]theorem ajt(n:Int):(T.num n).kind=3:=rfl
@[simp]theorem aiW(n:Int):(T.num n).int=n:=rfl
@[simp]theorem aks(n:Int):(T.num n).name=[]:=rfl
@[simp]theorem abd(n:Int):(T.num n).args=[]:=rfl
@[simp]theorem aju(a b:T):(T.pair a b).kind=4:=rfl
@[simp]theorem aiX(a b:T):(T.pair a b).int=0:=rfl
@[simp]theorem akt(a b:T):(T.pair a b).name=[]:=rfl
@[simp]theorem abe(a b:T):(T.pair a b).args=[a,b]:=rfl
@[simp]theorem atF(S:aI->Prop)(t:T):aD S t.e=True:=by rw[<-qm];simp
@[simp]theorem avr(t:T):dt t.e=t.e:=by rw[<-qm];simp
theorem VY(S:aI->Prop):∀l:List T,aH S (l.map T.e)
 |[]=>by simp[aH]
 |x::xs=>by simp[aH,VY S xs]
@[simp]theorem VX(S:aI->Prop)(l:List T):aH S (l.map T.e)=True:=eq_true (VY S l)
@[simp]theorem ao5:∀l:List T,c2 (l.map T.e)=l.map T.e
 |[]=>rfl
 |x::xs=>by simp[c2,ao5 xs]
@[simp]theorem au2(t:T):eF t.e=true:=by rw[T.e_eq];rfl
@[simp]theorem arQ(t:T):cells t.e=[.int .i64 t.kind,.int .i64 t.int,.str t.name,.slice 4 .no (t.args.map T.e)]:=by rw[T.e_eq];rfl
@[simp]theorem as9(t:T):Pv.isAgg 4 t.e:=by rw[T.e_eq];exact⟨_,rfl,rfl⟩
def T.size:T->Nat
 | .pair a b=>1+a.size+b.size
 |_=>1
theorem T.size_pos(t:T):1<=t.size:=by cases t<;>simp[T.size]<;>omega
def low(b:dM):Bool:=decide (97<=b.toNat/\b.toNat<=122)
def mP(b:dM):Bool:=low b||decide (48<=b.toNat/\b.toNat<=57)||b.toNat==45
def jX(s:List dM):Bool:=decide (1<=s.length/\s.length<=12)&&low (s.getD 0 0)&&(s.drop 1).all mP
def T.ok:T->Bool
 | .nil=>true
 | .var n=>decide (0<=n/\n<=100000)
 | .sym s=>jX s
 | .num n=>decide (-1000000000<=n/\n<=1000000000)
 | .pair a b=>a.ok&&b.ok
def lB(k n:Int)(s:List dM):Bool:=if k=0 then n==0&&s==[]else if k=1 then decide (0<=n/\n<=100000)&&s==[]else if k=2 then n==0&&jX s else if k=3 then decide (-1000000000<=n/\n<=1000000000)&&s==[]else false
def fF:bI->Int->Int
 | .mk k n s [a,b],room=>if room<1\/k≠4\/n≠0\/s≠[]then-1 else if fF a (room-1)<0 then-1 else if fF b (room-1-fF a (room-1))<0 then-1 else 1+fF a (room-1)+fF b (room-1-fF a (room-1))
 | .mk k n s args,room=>if room<1\/k=4\/args≠[]\/lB k n s=false then-1 else 1
theorem MW(k n:Int)(s:List dM)(args:List bI)(room:Int):fF (.mk k n s args) room=if room<1 then-1 else if k≠4 then(if args≠[]then-1 else if lB k n s then 1 else-1)else if n≠0\/s≠[]then-1 else match args with
  |[a,b]=>if fF a (room-1)<0 then-1 else if fF b (room-1-fF a (room-1))<0 then-1 else 1+fF a (room-1)+fF b (room-1-fF a (room-1))
  |_=> -1:=by
 match args with
 |[]=>simp only[fF];by_cases J:room<1<;>by_cases U:k=4<;>by_cases au:lB k n s=true<;>simp[J,U,au]
 |[a]=>simp[fF]
 |[a,b]=>simp only[fF];by_cases J:room<1<;>by_cases U:k=4<;>simp[J,U]
 |a::b::c::r=>simp[fF]
theorem HB:∀(t:T) (room:Int),fF t.tm room=if t.ok=true/\(t.size:Int)<=room then(t.size:Int)else-1
 | .nil,room=>by simp[T.tm,fF,T.ok,T.size,lB];split<;>rename_i h<;>simp_all<;>omega
 | .var n,room=>by simp[T.tm,fF,T.ok,T.size,lB];split<;>split<;>simp_all<;>omega
 | .sym s,room=>by simp[T.tm,fF,T.ok,T.size,lB];by_cases J:room<1<;>by_cases U:jX s=true<;>simp[J,U]<;>omega
 | .num n,room=>by simp[T.tm,fF,T.ok,T.size,lB];split<;>split<;>simp_all<;>omega
 | .pair a b,room=>by
  have bu:=a.size_pos;have ab:=b.size_pos;simp only[T.tm,fF,HB a,HB b,T.ok,T.size,cC];by_cases J:room<1
  ·simp[J];omega
  ·by_cases U:a.ok=true/\(a.size:Int)<=room-1
   ·rw[if_pos U];by_cases au:b.ok=true/\(b.size:Int)<=room-1-a.size
    ·rw[if_pos au];simp[J,U.1,au.1];split<;>omega
    ·rw[if_neg au];simp[J,U.1];intro lP;have:=au;simp[lP]at this;omega
   ·rw[if_neg U];simp[J];intro ln;have:=U;simp[ln]at this;omega
theorem D5:∀(t:bI) (room:Int),fF t room= -1\/1<=fF t room
 | .mk k n s [a,b],room=>by
  simp only[fF];split
  ·exact .inl rfl
  ·split
   ·exact .inl rfl
   ·split
    ·exact .inl rfl
    ·right;omega
 | .mk k n s [],room=>by simp only[fF];split<;>simp
 | .mk k n s [a],room=>by simp[fF]
 | .mk k n s (a::b::c::r),room=>by simp[fF]
theorem MY:∀(t:bI) (room:Int),0<fF t room->∃x:T,x.tm=t
 | .mk k n s [a,b],room,h=>by
  simp only[fF]at h;split at h
  ·omega
  ·rename_i J;simp only[not_or,Int.not_lt,ne_eq,avH]at J;obtain⟨J,rfl,rfl,rfl⟩:=J;split at h
   ·omega
   ·split at h
    ·omega
    ·obtain⟨x,rfl⟩:=MY a (room-1) (by rcases D5 a (room-1)with h|h<;>omega);obtain⟨y,rfl⟩:=MY b (room-1-fF x.tm (room-1)) (by rcases D5 b (room-1-fF x.tm (room-1))with h|h<;>omega);exact⟨.pair x y,rfl⟩
 | .mk k n s [],room,h=>by
  simp only[fF]at h;split at h
  ·omega
  ·rename_i J;simp only[not_or,ne_eq,not_true_eq_false,not_false_eq_true,true_and,Bool.not_eq_false]at J;obtain⟨_,_,J⟩:=J;unfold lB at J;split at J
   ·rename_i e;subst e;simp at J;obtain⟨rfl,rfl⟩:=J;exact⟨.nil,rfl⟩
   ·split at J
    ·rename_i e;subst e;simp at J;obtain⟨_,rfl⟩:=J;exact⟨.var n,rfl⟩
    ·split at J
     ·rename_i e;subst e;simp at J;obtain⟨rfl,_⟩:=J;exact⟨.sym s,rfl⟩
     ·split at J
      ·rename_i e;subst e;simp at J;obtain⟨_,rfl⟩:=J;exact⟨.num n,rfl⟩
      ·cases J
 | .mk k n s [a],room,h=>by simp[fF]at h
 | .mk k n s (a::b::c::r),room,h=>by simp[fF]at h
theorem MX:∀(t:bI) (room:Int),fF t room<=room\/fF t room= -1
 | .mk k n s [a,b],room=>by
  simp only[fF];split
  ·exact .inr rfl
  ·split
   ·exact .inr rfl
   ·split
    ·exact .inr rfl
    ·rcases MX b (room-1-fF a (room-1))with h|h<;>omega
 | .mk k n s [],room=>by simp only[fF];split<;>simp;rename_i h;omega
 | .mk k n s [a],room=>by simp[fF]
 | .mk k n s (a::b::c::r),room=>by simp[fF]
mutual
def bI.sz:bI->Nat
 | .mk _ _ _ a=>1+bI.szL a
def bI.szL:List bI->Nat
 |[]=>0
 |x::xs=>x.sz+bI.szL xs
end
theorem szL_mem:∀{l:List bI} {x:bI},x∈l->x.sz<=bI.szL l
 |y::l,x,h=>by
  rcases fA.1 h with rfl|h
  ·simp[bI.szL]
  ·have:=szL_mem h;simp[bI.szL];omega
theorem OM{t x:bI}(h:x∈t.args):x.sz<t.sz:=by cases t;simp[bI.args]at h;have:=szL_mem h;simp[bI.sz];omega
def T.fit(t:T):Bool:=t.ok&&decide (t.size<=5000)
def bI.fits(t:bI):Bool:=decide (0<fF t 5000)
theorem bI.fits_T(t:T):t.tm.fits=t.fit:=by
 unfold bI.fits T.fit;rw[HB];have:=t.size_pos;by_cases J:t.ok=true<;>by_cases U:t.size<=5000
 ·rw[if_pos ⟨J,Ω⟩];simp[J,U];omega
 ·rw[if_neg Ω];simp[U]
 ·rw[if_neg (by simp[J])];simp[J]
 ·rw[if_neg (by simp[J])];simp[J]
theorem bI.fits_ex{t:bI}(h:t.fits=true):∃x:T,x.tm=t/\x.fit=true:=by obtain⟨x,rfl⟩:=MY t 5000 (by simpa[bI.fits]using h);exact⟨x,rfl,by rw[<-bI.fits_T];exact h⟩
structure aq where
 v:Int
 t:T
 deriving DecidableEq,Inhabited
def aq.e(b:aq):ai:= .agg [.int .i64 b.v,.int .i64 b.t.kind,.int .i64 b.t.int,.str b.t.name,.slice 4 .no (b.t.args.map T.e)]
@[simp]theorem aq.eta(b:aq):aq.mk b.v b.t=b:=rfl
@[simp]theorem PL(v:Int)(t:T):ai.agg [.int .i64 v,.int .i64 t.kind,.int .i64 t.int,.str t.name,.slice 4 .no (t.args.map T.e)]=(aq.mk v t).e:=rfl
@[simp]theorem arn(v:Int):ai.agg [.int .i64 v,.int .i64 0,.int .i64 0,.str [],.slice 4 .no []]=(aq.mk v .nil).e:=rfl
@[simp]theorem ars(v n:Int):ai.agg [.int .i64 v,.int .i64 1,.int .i64 n,.str [],.slice 4 .no []]=(aq.mk v (.var n)).e:=rfl
@[simp]theorem arq(v:Int)(s:List dM):ai.agg [.int .i64 v,.int .i64 2,.int .i64 0,.str s,.slice 4 .no []]=(aq.mk v (.sym s)).e:=rfl
@[simp]theorem aro(v n:Int):ai.agg [.int .i64 v,.int .i64 3,.int .i64 n,.str [],.slice 4 .no []]=(aq.mk v (.num n)).e:=rfl
@[simp]theorem arp(v:Int)(a b:T):ai.agg [.int .i64 v,.int .i64 4,.int .i64 0,.str [],.slice 4 .no [a.e,b.e]]=(aq.mk v (.pair a b)).e:=rfl
@[simp]theorem aty(S:aI->Prop)(b:aq):aD S b.e=True:=by simp[aq.e,-PL]
@[simp]theorem avk(b:aq):dt b.e=b.e:=by simp[aq.e,-PL]
theorem VU(S:aI->Prop):∀l:List aq,aH S (l.map aq.e)
 |[]=>by simp[aH]
 |x::xs=>by simp[aH,VU S xs]
@[simp]theorem atn(S:aI->Prop)(l:List aq):aH S (l.map aq.e)=True:=eq_true (VU S l)
@[simp]theorem Y8:∀l:List aq,c2 (l.map aq.e)=l.map aq.e
 |[]=>rfl
 |x::xs=>by simp[c2,Y8 xs]
@[simp]theorem auT(b:aq):eF b.e=true:=rfl
@[simp]theorem arJ(b:aq):cells b.e=[.int .i64 b.v,.int .i64 b.t.kind,.int .i64 b.t.int,.str b.t.name,.slice 4 .no (b.t.args.map T.e)]:=rfl
@[simp]theorem as6(b:aq):Pv.isAgg 5 b.e:=⟨_,rfl,rfl⟩
@[simp]theorem asr(off:Nat)(gf:Bool)(sz:Nat)(b:aq):u3 off gf sz b.e=if gf then some (off+sz<=5,.agg (([.int .i64 b.v,.int .i64 b.t.kind,.int .i64 b.t.int,.str b.t.name,.slice 4 .no (b.t.args.map T.e)].drop off).take sz))else(([.int .i64 b.v,.int .i64 b.t.kind,.int .i64 b.t.int,.str b.t.name,.slice 4 .no (b.t.args.map T.e)]:List ai)[off]?).map fun p=>(True,p):=rfl
@[simp]theorem ash(off:Nat)(gf:Bool)(sz:Nat)(b:aq):q5 off gf sz (.eptr b.e)=if gf then some (off+sz<=5,.eptr (.agg (([.int .i64 b.v,.int .i64 b.t.kind,.int .i64 b.t.int,.str b.t.name,.slice 4 .no (b.t.args.map T.e)].drop off).take sz)))else(([.int .i64 b.v,.int .i64 b.t.kind,.int .i64 b.t.int,.str b.t.name,.slice 4 .no (b.t.args.map T.e)]:List ai)[off]?).map fun p=>(eF p=true/\cells p=[p],.eptr p):=rfl
def T.occ(v:Int):T->Bool
 | .var n=>n==v
 | .pair a b=>a.occ v||b.occ v
 |_=>false
def eE(a b:Int):Int:=if a<b then-1 else if b<a then 1 else 0
def kT(a b:List dM):Int:=if a=b then 0 else if hF a b then-1 else 1
def eC:T->T->Int
 | .pair a b,.pair c d=>if eC a c=0 then eC b d else eC a c
 |x,y=>if x.kind≠y.kind then eE x.kind y.kind else if x.int≠y.int then eE x.int y.int else kT x.name y.name
structure cX where
 v:Int
 t:bI
def cX.e(b:cX):ai:= .agg [.int .i64 b.v,.int .i64 b.t.kind,.int .i64 b.t.num,.str b.t.name,.slice 4 .no (b.t.args.map enc)]
def aq.b(b:aq):cX:=⟨b.v,b.t.tm⟩
theorem aq.b_e(b:aq):b.b.e=b.e:=by obtain⟨v,t⟩:=b;cases t<;>simp only[aq.b,cX.e,aq.e,T.tm,bI.kind,bI.num,bI.name,bI.args,qm,ajs,ajx,ajw,ajt,aju,aiV,aiZ,aiY,aiW,aiX,akr,akw,akv,aks,akt,abc,abg,abf,abd,abe,gS,nh]
@[simp]theorem cX.eta(b:cX):cX.mk b.v b.t=b:=rfl
@[simp]theorem PM(v:Int)(t:bI):ai.agg [.int .i64 v,.int .i64 t.kind,.int .i64 t.num,.str t.name,.slice 4 .no (t.args.map enc)]=(cX.mk v t).e:=rfl
@[simp]theorem atA(S:aI->Prop)(b:cX):aD S b.e=True:=by simp[cX.e,-PM]
@[simp]theorem avm(b:cX):dt b.e=b.e:=by simp[cX.e,-PM]
theorem VW(S:aI->Prop):∀l:List cX,aH S (l.map cX.e)
 |[]=>by simp[aH]
 |x::xs=>by simp[aH,VW S xs]
@[simp]theorem atp(S:aI->Prop)(l:List cX):aH S (l.map cX.e)=True:=eq_true (VW S l)
@[simp]theorem ao4:∀l:List cX,c2 (l.map cX.e)=l.map cX.e
 |[]=>rfl
 |x::xs=>by simp[c2,ao4 xs]
@[simp]theorem auW(b:cX):eF b.e=true:=rfl
@[simp]theorem arM(b:cX):cells b.e=[.int .i64 b.v,.int .i64 b.t.kind,.int .i64 b.t.num,.str b.t.name,.slice 4 .no (b.t.args.map enc)]:=rfl
@[simp]theorem as8(b:cX):Pv.isAgg 5 b.e:=⟨_,rfl,rfl⟩
@[simp]theorem ass(off:Nat)(gf:Bool)(sz:Nat)(b:cX):u3 off gf sz b.e=if gf then some (off+sz<=5,.agg (([.int .i64 b.v,.int .i64 b.t.kind,.int .i64 b.t.num,.str b.t.name,.slice 4 .no (b.t.args.map enc)].drop off).take sz))else(([.int .i64 b.v,.int .i64 b.t.kind,.int .i64 b.t.num,.str b.t.name,.slice 4 .no (b.t.args.map enc)]:List ai)[off]?).map fun p=>(True,p):=rfl
@[simp]theorem asi(off:Nat)(gf:Bool)(sz:Nat)(b:cX):q5 off gf sz (.eptr b.e)=if gf then some (off+sz<=5,.eptr (.agg (([.int .i64 b.v,.int .i64 b.t.kind,.int .i64 b.t.num,.str b.t.name,.slice 4 .no (b.t.args.map enc)].drop off).take sz)))else(([.int .i64 b.v,.int .i64 b.t.kind,.int .i64 b.t.num,.str b.t.name,.slice 4 .no (b.t.args.map enc)]:List ai)[off]?).map fun p=>(eF p=true/\cells p=[p],.eptr p):=rfl
def Bu(l:List cX)(i:Nat):Prop:= ∀b,l[i]? =some b->(0<=b.v/\b.v<=100000)/\(∀c,0<i->l[i-1]? =some c->c.v<b.v)/\b.t.fits=true
def wg(l:List cX):Prop:=l.length<=400/\∀i,i<l.length->Bu l i
theorem rs:∀a b:T,eC a b=0↔a=b
 | .pair a b,.pair c d=>by
  simp only[eC,T.pair.injEq];split
  ·rename_i h;rw[rs b d,<-rs a c];simp[h]
  ·rename_i h;simp[h,<-rs a c]
 | .nil,y=>by cases y<;>simp[eC,eE,kT]
 | .var n,y=>by cases y<;>simp[eC,eE,kT]<;>omega
 | .sym s,y=>by cases y<;>simp[eC,eE,kT];rename_i ah;by_cases h:s=ah<;>simp[h];by_cases U:hF s ah=true<;>simp[U]
 | .num n,y=>by cases y<;>simp[eC,eE,kT]<;>omega
 | .pair a b,.nil| .pair a b,.var _| .pair a b,.sym _| .pair a b,.num _=>by simp[eC,eE]
def T.sub(f:Int->ba T):T->T
 | .var n=>match f n with|some x=>x|none=>.var n
 | .pair a b=>.pair (a.sub f) (b.sub f)
 |t=>t
def lD(f:Int->Int):T->Int
 | .var n=>if 5001<f n then 5001 else f n
 | .pair a b=>if 5000<lD f a then lD f a else if 5001<1+lD f a+lD f b then 5001 else 1+lD f a+lD f b
 |_=>1
theorem Iy(f:Int->Int)(aJ:∀v,-1<=f v):∀t,-1<=lD f t/\lD f t<=5001
 | .var n=>by have:=aJ n;simp only[lD];split<;>omega
 | .pair a b=>by have:=Iy f aJ a;have:=Iy f aJ b;simp only[lD];split<;>(try split)<;>omega
 | .nil| .sym _| .num _=>by simp[lD]
def cP(l:List aq)(v:Int):ba T:=(l.find? fun b=>b.v==v).map (·.t)
end
section
open Go
structure jK {α:Type} (c:α->α->Int):Prop where
 neg:∀a b,c b a= -c a b
 tr:∀a b d,c a b<=0->c b d<=0->c a d<=0
 zero:∀a b,c a b=0↔a=b
section
variable {α:Type} {c:α->α->Int}
def hY(c:α->α->Int)(a b:α):Bool:=decide (c a b<0)
theorem jK.ltOk(h:jK c):qS (hY c):=by
 refine⟨fun x y h3=>?_,fun x y z J U=>?_⟩
 ·simp only[hY,fc,fJ]at h3⊢;rw[h.neg x y];omega
 ·simp only[hY,fJ]at J U⊢;have al:=h.neg x y;have aE:=h.neg y z;have bn:=h.neg x z;have:=h.tr x y z Ω Ω;omega
theorem jK.refl(h:jK c)(a:α):c a a=0:=(h.zero a a).2 rfl
theorem jK.ltr(h:jK c){a b d:α}(J:c a b<0)(U:c b d<=0):c a d<0:=by
 have au:=h.tr a b d Ω U;rcases(by omega:c a d<0\/c a d=0)with a6|a6
 ·exact a6
 ·obtain rfl:=(h.zero a d).1 a6;have:=h.neg a b;omega
def pg(c:α->α->Int)(l:List α):List α:=l.mergeSort fun x y=>decide (c x y<=0)
theorem zy(c:α->α->Int)(l:List α):(pg c l).Perm l:=List.mergeSort_perm l _
theorem Oy(h:jK c)(l:List α):(pg c l).Pairwise fun x y=>c x y<=0:=by have:=List.pairwise_mergeSort (le:=fun x y=>decide (c x y<=0)) (fun a b d J U=>by simp at J U⊢;exact h.tr a b d J U) (fun a b=>by simp;have:=h.neg a b;omega) l;exact this.imp Ψ
theorem Y5(h:jK c){l aZ:List α}(bB:aZ.Perm l)(ag:aZ.Pairwise fun x y=>hY c y x=false):aZ=pg c l:=by refine I3 (le:=fun x y=>c x y<=0) (fun x y _ _ J U=>(h.zero x y).1 (by have:=h.neg x y;omega)) (ag.imp fun{x y} h3=>?_) (Oy h l) (bB.trans (zy c l).symm);simp only[hY,fJ]at h3;have:=h.neg x y;omega
def cQ[DecidableEq α](p:ba α):List α->List α
 |[]=>[]
 |x::r=>if p=some x then cQ (some x) r else x::cQ (some x) r
def asc[DecidableEq α](c:α->α->Int)(l:List α):List α:=cQ none (pg c l)
def hZ(c:α->α->Int)(l:List α):Prop:=l.Pairwise fun x y=>c x y<0
variable [DecidableEq α]
theorem J8:∀(l:List α) (p:ba α) (x:α),x∈cQ p l->x∈l
 |[],_,_,h=>by simp[cQ]at h
 |y::r,p,x,h=>by
  simp only[cQ]at h;split at h
  ·exact oL _ (J8 r _ x h)
  ·rcases fA.1 h with rfl|h
   ·simp
   ·exact oL _ (J8 r _ x h)
theorem MD:∀(l:List α) (p:ba α) (x:α),x∈l->x∈cQ p l\/p=some x
 |y::r,p,x,h=>by
  simp only[cQ];rcases fA.1 h with rfl|h
  ·split
   ·rename_i U;exact .inr U
   ·simp
  ·split
   ·rename_i U;rcases MD r (some y) x h with au|au
    ·exact .inl au
    ·cases au;exact .inr U
   ·rcases MD r (some y) x h with au|au
    ·exact .inl (oL _ au)
    ·cases au;simp
theorem SQ(aw:jK c):∀(l:List α) (p:ba α),l.Pairwise (fun x y=>c x y<=0)->(∀y,p=some y->∀x∈l,c y x<=0)->hZ c (cQ p l)/\∀y,p=some y->∀x∈cQ p l,c y x<0
 |[],p,_,_=>⟨E9,fun y _ x af=>by simp[cQ]at af⟩
 |z::r,p,h,bB=>by
  obtain⟨J,U⟩:=ni.1 h;have bR:=SQ aw r (some z) U (fun y aO x af=>by cases aO;exact J x af);simp only[cQ];split
  ·rename_i au;subst au;exact bR
  ·rename_i au;refine⟨ni.2 ⟨fun x af=>bR.2 z rfl x af,bR.1⟩,fun y aO x af=>?_⟩;subst aO;have sw:c y z<0:=by
    have a6:=bB y rfl z Ψ;rcases(by omega:c y z<0\/c y z=0)with b3|b3
    ·exact b3
    ·exact absurd (e2 some ((aw.zero y z).1 b3)) au
   rcases fA.1 af with rfl|af
   ·exact sw
   ·exact aw.ltr sw (by have:=bR.2 z rfl x af;omega)
theorem Jv(aw:jK c)(l:List α):hZ c (asc c l):=(SQ aw _ none (Oy aw l) (fun y h=>by cases h)).1
theorem Wy(l:List α)(x:α):x∈asc c l↔x∈l:=by
 constructor
 ·intro h;exact(zy c l).mem_iff.1 (J8 _ _ _ h)
 ·intro h;rcases MD (pg c l) none x ((zy c l).mem_iff.2 h)with h|h
  ·exact h
  ·cases h
omit [DecidableEq α]in
theorem hZ.ext(aw:jK c){l aZ:List α}(h:hZ c l)(cf:hZ c aZ)(hm:∀x,x∈l↔x∈aZ):l=aZ:=by
 have aR:∀{l:List α},hZ c l->l.Nodup:=fun{l} h=>h.imp fun{a b} h e=>by subst e;have:=aw.refl a;omega
 refine I3 (le:=fun x y=>c x y<=0) (fun x y _ _ J U=>(aw.zero x y).1 (by have:=aw.neg x y;omega)) (h.imp fun h=>Ω) (cf.imp fun h=>Ω) ?_;exact(List.perm_ext_iff_of_nodup (aR h) (aR cf)).2 hm
omit [DecidableEq α]in
theorem hZ.nodup(aw:jK c){l:List α}(h:hZ c l):l.Nodup:=h.imp fun{a b} h e=>by subst e;have:=aw.refl a;omega
end
theorem JA:∀a b:List dM,hF a b=true->hF b a=false
 |_,[],h=>by simp[hF]at h
 |[],_::_,_=>by simp[hF]
 |x::a,y::b,h=>by
  simp only[hF,lH,fc,cC,dV]at h;simp only[hF,Bool.or_eq_false_iff,fJ,Bool.and_eq_false_iff];rcases h with h|⟨rfl,h⟩
  ·refine⟨fun U=>?_,.inl ?_⟩
   ·rw[UInt8.lt_iff_toNat_lt]at h U;omega
   ·simp;intro e;subst e;rw[UInt8.lt_iff_toNat_lt]at h;omega
  ·exact⟨fun U=>by rw[UInt8.lt_iff_toNat_lt]at U;omega,.inr (JA a b h)⟩
theorem P7:∀a b:List dM,a≠b->hF a b=false->hF b a=true
 |[],[],h,_=>absurd rfl h
 |x::a,[],_,_=>by simp[hF]
 |[],_::_,_,h=>by simp[hF]at h
 |x::a,y::b,cM,h=>by
  simp only[hF,Bool.or_eq_false_iff,fJ,Bool.and_eq_false_iff]at h;simp only[hF,lH,fc,cC,dV];by_cases e:x=y
  ·subst e;right;refine⟨rfl,P7 a b (fun e=>cM (by rw[e])) ?_⟩;rcases h.2 with U|U
   ·simp at U
   ·exact U
  ·left;have J:=h.1;rw[UInt8.lt_iff_toNat_lt]at J⊢;have:x.toNat≠y.toNat:=fun h=>e (UInt8.toNat_inj.1 h);omega
theorem P6:∀a b d:List dM,hF a b=true->hF b d=true->hF a d=true
 |_,[],_,h,_=>by simp[hF]at h
 |_,_::_,[],_,h=>by simp[hF]at h
 |[],_::_,_::_,_,_=>by simp[hF]
 |x::a,y::b,z::d,J,U=>by
  simp only[hF,lH,fc,cC,dV,UInt8.lt_iff_toNat_lt]at J U⊢;rcases J with J|⟨rfl,J⟩<;>rcases U with U|⟨rfl,U⟩
  ·left;omega
  ·left;exact J
  ·left;exact U
  ·exact .inr ⟨rfl,P6 a b d J U⟩
theorem ky:jK eE:=by
 refine⟨fun a b=>?_,fun a b d=>?_,fun a b=>?_⟩
 ·simp only[eE];repeat' split
  all_goals omega
 ·simp only[eE];repeat' split
  all_goals omega
 ·simp only[eE];repeat' split
  all_goals omega
theorem Ei:jK kT:=by
 have ax:∀a b,kT b a= -kT a b:=fun a b=>by
  simp only[kT];by_cases e:a=b
  ·subst e;simp
  ·rw[if_neg e,if_neg (ld e)];cases h:hF a b with
   |true=>simp[JA a b h]
   |false=>simp[P7 a b e h]
 refine⟨ax,fun a b d J U=>?_,fun a b=>?_⟩
 ·simp only[kT]at J U⊢;by_cases al:a=b
  ·subst al;exact U
  ·by_cases aE:b=d
   ·subst aE;exact J
   ·rw[if_neg al]at J;rw[if_neg aE]at U;have g1:hF a b=true:=by cases h:hF a b<;>simp[h]at J⊢
    have g2:hF b d=true:=by cases h:hF b d<;>simp[h]at U⊢
    rw[P6 a b d g1 g2];split<;>simp
 ·simp only[kT];by_cases e:a=b
  ·simp[e]
  ·rw[if_neg e];simp[e];split<;>omega
theorem sM{a b:T}(h:a.kind≠b.kind):eC a b=eE a.kind b.kind:=by cases a<;>cases b<;>simp at h<;>simp[eC]
theorem HK:∀a b:T,eC b a= -eC a b
 | .pair a b,.pair c d=>by
  simp only[eC];have J:=HK a c;have U:=HK b d;by_cases e:eC a c=0
  ·rw[if_pos e,if_pos Ω,U]
  ·rw[if_neg e,if_neg Ω,J]
 | .nil,y=>by
  by_cases ad:T.nil.kind=y.kind
  ·cases y<;>simp at ad;simp[eC,kT]
  ·rw[sM ad,sM (ld ad),ky.neg]
 | .var n,y=>by
  by_cases ad:(T.var n).kind=y.kind
  ·cases y<;>simp at ad;rename_i m;by_cases e:n=m
   ·subst e;simp[eC,kT]
   ·simp[eC,e,ld e,ky.neg n m]
  ·rw[sM ad,sM (ld ad),ky.neg]
 | .sym s,y=>by
  by_cases ad:(T.sym s).kind=y.kind
  ·cases y<;>simp at ad;rename_i m;simp[eC,Ei.neg s m]
  ·rw[sM ad,sM (ld ad),ky.neg]
 | .num n,y=>by
  by_cases ad:(T.num n).kind=y.kind
  ·cases y<;>simp at ad;rename_i m;by_cases e:n=m
   ·subst e;simp[eC,kT]
   ·simp[eC,e,ld e,ky.neg n m]
  ·rw[sM ad,sM (ld ad),ky.neg]
 | .pair a b,.nil| .pair a b,.var _| .pair a b,.sym _| .pair a b,.num _=>by simp[eC,eE]
theorem HJ{a b:T}(h:eC a b<=0):a.kind<=b.kind:=by
 by_cases ad:a.kind=b.kind
 ·omega
 ·rw[sM ad]at h;simp only[eE]at h;repeat' split at h
  all_goals omega
theorem Xp(n m:Int):eC (.var n) (.var m)=eE n m:=by
 simp only[eC,T.kind,T.int,T.name,kT];by_cases e:n=m
 ·subst e;simp[eE]
 ·simp[e]
theorem Xo(n m:Int):eC (.num n) (.num m)=eE n m:=by
 simp only[eC,T.kind,T.int,T.name,kT];by_cases e:n=m
 ·subst e;simp[eE]
 ·simp[e]
theorem amN(n m:List dM):eC (.sym n) (.sym m)=kT n m:=by simp[eC]
theorem HL(a b d:T)(bu:a.kind≠4)(J:eC a b<=0)(U:eC b d<=0):eC a d<=0:=by
 have aU:=HJ J;have bo:=HJ U;by_cases ad:a.kind=d.kind
 ·cases a<;>cases d<;>simp at ad bu;all_goals(cases b<;>simp at aU bo)
  ·simp[eC,kT]
  ·rw[Xp]at J U⊢;exact ky.tr _ _ _ J U
  ·rw[amN]at J U⊢;exact Ei.tr _ _ _ J U
  ·rw[Xo]at J U⊢;exact ky.tr _ _ _ J U
 ·rw[sM ad];simp only[eE];repeat' split
  all_goals omega
theorem amO:∀a b d:T,eC a b<=0->eC b d<=0->eC a d<=0:=by
 intro a;induction a with
 |pair bC a2 GV GW=>
  intro b d J U;have aU:=HJ J;have bo:=HJ U;cases b<;>simp at aU;all_goals(cases d<;>simp at bo)
  rename_i ch ca d1 d2;simp only[eC]at J U⊢;by_cases al:eC bC ch=0
  ·obtain rfl:=(rs bC ch).1 al;rw[if_pos al]at J;by_cases aE:eC bC d1=0
   ·rw[if_pos aE]at U⊢;exact GW ca d2 J U
   ·rw[if_neg aE]at U⊢;exact U
  ·rw[if_neg al]at J;by_cases aE:eC ch d1=0
   ·obtain rfl:=(rs ch d1).1 aE;rw[if_neg al];exact J
   ·rw[if_neg aE]at U;have au:=GV ch d1 J U;by_cases bn:eC bC d1=0
    ·obtain rfl:=(rs bC d1).1 bn;have:=HK bC ch;omega
    ·rw[if_neg bn];exact au
 |nil=>exact fun b d=>HL _ b d Ψ
 |var n=>exact fun b d=>HL _ b d Ψ
 |sym n=>exact fun b d=>HL _ b d Ψ
 |num n=>exact fun b d=>HL _ b d Ψ
theorem Nk:jK eC:=⟨HK,amO,rs⟩
end
section
open Go
section
variable {α:Type} {c:α->α->Int}
def kf(c:α->α->Int):List α->List α->Int
 |[],[]=>0
 |[],_::_=> -1
 |_::_,[]=>1
 |x::xs,y::ys=>if c x y=0 then kf c xs ys else c x y
theorem Wh(h:jK c):∀a b:List α,kf c b a= -kf c a b
 |[],[]=>rfl
 |[],_::_=>rfl
 |_::_,[]=>rfl
 |x::xs,y::ys=>by
  simp only[kf];have J:=h.neg x y;by_cases e:c x y=0
  ·rw[if_pos e,if_pos Ω,Wh h xs ys]
  ·rw[if_neg e,if_neg Ω,J]
theorem Wj(h:jK c):∀a b:List α,kf c a b=0↔a=b
 |[],[]=>by simp[kf]
 |[],_::_=>by simp[kf]
 |_::_,[]=>by simp[kf]
 |x::xs,y::ys=>by
  simp only[kf,oJ];by_cases e:c x y=0
  ·rw[if_pos e,Wj h xs ys];simp[(h.zero x y).1 e]
  ·rw[if_neg e];exact⟨fun cf=>absurd cf e,fun cf=>absurd ((h.zero x y).2 cf.1) e⟩
theorem Wi(h:jK c):∀a b d:List α,kf c a b<=0->kf c b d<=0->kf c a d<=0
 |[],_,[],_,_=>by simp[kf]
 |[],_,_::_,_,_=>by simp[kf]
 |_::_,[],_,J,_=>by simp[kf]at J
 |_::_,_::_,[],_,U=>by simp[kf]at U
 |x::xs,y::ys,z::cN,J,U=>by
  simp only[kf]at J U⊢;by_cases al:c x y=0
  ·have:=(h.zero x y).1 al;subst this;rw[if_pos al]at J;by_cases aE:c x z=0
   ·rw[if_pos aE]at U⊢;exact Wi h xs ys cN J U
   ·rw[if_neg aE]at U⊢;exact U
  ·rw[if_neg al]at J;have bD:c x y<0:=Ω
   by_cases aE:c y z=0
   ·have:=(h.zero y z).1 aE;subst this;rw[if_neg al];omega
   ·rw[if_neg aE]at U;have:=h.ltr bD U;rw[if_neg Ω];omega
theorem ajG(h:jK c):jK (kf c):=⟨Wh h,Wi h,Wj h⟩
end
def zf(x y:aq):Int:=if eE x.v y.v=0 then eC x.t y.t else eE x.v y.v
theorem amL:jK zf:=by
 refine⟨fun x y=>?_,fun x y z J U=>?_,fun x y=>?_⟩
 ·unfold zf;have:=ky.neg x.v y.v;have:=Nk.neg x.t y.t;by_cases e:eE x.v y.v=0
  ·rw[if_pos e,if_pos Ω];omega
  ·rw[if_neg e,if_neg Ω];omega
 ·unfold zf at J U⊢;by_cases al:eE x.v y.v=0
  ·rw[if_pos al]at J;rw[(ky.zero _ _).1 al];by_cases aE:eE y.v z.v=0
   ·rw[if_pos aE]at U⊢;exact Nk.tr _ _ _ J U
   ·rw[if_neg aE]at U⊢;exact U
  ·rw[if_neg al]at J;have bD:eE x.v y.v<0:=Ω
   by_cases aE:eE y.v z.v=0
   ·rw[<-(ky.zero _ _).1 aE,if_neg al];exact J
   ·rw[if_neg aE]at U;have:=ky.ltr bD U;rw[if_neg Ω];omega
 ·unfold zf;by_cases e:eE x.v y.v=0
  ·rw[if_pos e,Nk.zero];have:=(ky.zero _ _).1 e;cases x;cases y;simp_all
  ·rw[if_neg e];exact⟨fun h=>absurd h e,fun h=>by rw[h]at e;exact absurd (ky.refl _) e⟩
def eD:List aq->List aq->Int:=kf zf
theorem l3:jK eD:=ajG amL
end
section
open Go
def T.ap(aQ:Int->T):T->T
 | .var n=>aQ n
 | .pair a b=>.pair (a.ap aQ) (b.ap aQ)
 |t=>t
theorem Cr(f g:Int->T)(t:T):(t.ap f).ap g=t.ap fun v=>(f v).ap g:=by
 induction t with
 |pair a b ds dv=>simp[T.ap,ds,dv]
 |_=>simp[T.ap]
theorem uP{f g:Int->T}{t:T}(h:∀v,t.occ v=true->f v=g v):t.ap f=t.ap g:=by
 induction t with
 |var n=>exact h n (by simp[T.occ])
 |pair a b ds dv=>simp only[T.ap];rw[ds fun v aB=>h v (by simp[T.occ,aB]),dv fun v aB=>h v (by simp[T.occ,aB])]
 |_=>rfl
theorem aa9(t:T):t.ap .var=t:=by induction t<;>simp_all[T.ap]
theorem PU{f:Int->T}{t:T}(h:∀v,t.occ v=true->f v= .var v):t.ap f=t:=(uP h).trans (aa9 t)
theorem Zb(f:Int->ba T)(t:T):t.sub f=t.ap fun v=>(f v).getD (.var v):=by
 induction t with
 |var n=>simp only[T.sub,T.ap];cases f n<;>rfl
 |pair a b ds dv=>simp[T.sub,T.ap,ds,dv]
 |_=>rfl
theorem aa8(aQ:Int->T)(t:T):t.size<=(t.ap aQ).size:=by
 induction t with
 |var n=>exact T.size_pos _
 |pair a b ds dv=>simp only[T.ap,T.size];omega
 |_=>exact e7 _
theorem Bt(aQ:Int->T){v:Int}{t:T}(h:t.occ v=true):(aQ v).size<=(t.ap aQ).size/\(t.kind≠1->(aQ v).size<(t.ap aQ).size):=by
 induction t with
 |var n=>simp[T.occ]at h;subst h;simp[T.ap,T.kind]
 |pair a b ds dv=>
  simp only[T.occ,lH]at h;simp only[T.ap,T.size];rcases h with h|h
  ·have:=(ds h).1;exact⟨Ω,fun _=>Ω⟩
  ·have:=(dv h).1;exact⟨Ω,fun _=>Ω⟩
 |_=>simp[T.occ]at h
theorem D8{aQ:Int->T}{v:Int}{t:T}:(t.ap aQ).occ v=true↔∃w,t.occ w=true/\(aQ w).occ v=true:=by
 induction t with
 |var n=>simp[T.ap,T.occ]
 |pair a b ds dv=>
  simp only[T.ap,T.occ,lH,ds,dv];constructor
  ·rintro(⟨w,J,U⟩|⟨w,J,U⟩)
   ·exact⟨w,.inl J,U⟩
   ·exact⟨w,.inr J,U⟩
  ·rintro⟨w,J|J,U⟩
   ·exact .inl ⟨w,J,U⟩
   ·exact .inr ⟨w,J,U⟩
 |_=>simp[T.ap,T.occ]
def bX(s:List aq)(v:Int):T:=(cP s v).getD (.var v)
abbrev gk(s:List aq):Prop:=s.Pairwise fun x y=>x.v<y.v
def hg(s:List aq)(aQ:Int->T):Prop:= ∀b∈s,aQ b.v=b.t.ap aQ
structure fQ (s:List aq):Prop where
 asc:gk s
 free:∀b∈s,∀w,b.t.occ w=true->cP s w=none
 ori:∀b∈s,∀w,b.t= .var w->w<b.v
theorem uR(b:aq)(s:List aq)(v:Int):cP (b::s) v=if b.v=v then some b.t else cP s v:=by
 unfold cP;by_cases h:b.v=v
 ·simp[h]
 ·have:(b.v==v)=false:=by simp[h]
  simp[this,h,List.find?_cons]
theorem iV{v:Int}{t:T}:∀{s:List aq},cP s v=some t->(⟨v,t⟩:aq)∈s
 |[],h=>by simp[cP]at h
 |b::s,h=>by
  rw[uR]at h;split at h
  ·rename_i e;cases h;subst e;simp
  ·exact oL _ (iV h)
theorem mD{v:Int}:∀{s:List aq},cP s v=none↔∀b∈s,b.v≠v
 |[]=>by simp[cP]
 |b::s=>by
  rw[uR];by_cases h:b.v=v
  ·simp[h]
  ·simp[h,mD (s:=s)]
theorem pM{b:aq}:∀{s:List aq},gk s->b∈s->cP s b.v=some b.t
 |[],_,h=>by simp at h
 |c::s,bu,h=>by
  rw[uR];have nz:=ni.1 bu;rcases fA.1 h with rfl|h
  ·simp
  ·have:=nz.1 b h;rw[if_neg Ω];exact pM nz.2 h
theorem Fs:∀{s ah:List aq},gk s->gk ah->(∀v,cP s v=cP ah v)->s=ah
 |[],[],_,_,_=>rfl
 |[],c::ah,_,_,h=>by have:=h c.v;rw[uR]at this;simp[cP]at this
 |c::s,[],_,_,h=>by have:=h c.v;rw[uR]at this;simp[cP]at this
 |b::s,c::ah,bu,ab,h=>by
  have fW:=ni.1 ab;have nz:=ni.1 bu;have J:(⟨b.v,b.t⟩:aq)∈c::ah:=iV (by rw[<-h b.v,uR];simp);have U:(⟨c.v,c.t⟩:aq)∈b::s:=iV (by rw[h c.v,uR];simp);have Ud:b=c:=by
   rcases fA.1 J with e|e
   ·exact e
   ·rcases fA.1 U with aE|aE
    ·exact aE.symm
    ·have bc:=fW.1 _ e;have bE:=nz.1 _ aE;simp only at bc bE;omega
  subst Ud;rw[Fs nz.2 fW.2 fun v=>?_];have:=h v;rw[uR,uR]at this;by_cases e:b.v=v
  ·have la:cP s v=none:=mD.2 fun x af=>by have:=nz.1 x af;omega
   have z2:cP ah v=none:=mD.2 fun x af=>by have:=fW.1 x af;omega
   rw[la,z2]
  ·simpa[e]using this
theorem aoT{s:List aq}(bu:gk s){aQ:Int->T}:hg s aQ↔∀v,aQ v=(bX s v).ap aQ:=by
 constructor
 ·intro h v;unfold bX;cases e:cP s v with
  |none=>rfl
  |some t=>exact h _ (iV e)
 ·intro h b ab;have:=h b.v;rw[bX,pM bu ab]at this;exact this
theorem Ou{s:List aq}{aQ:Int->T}(h:hg s aQ)(t:T):t.ap aQ=(t.ap (bX s)).ap aQ:=by
 rw[Cr];refine uP fun v _=>?_;unfold bX;cases e:cP s v with
 |none=>rfl
 |some t=>exact h _ (iV e)
theorem aoA{s:List aq}(ag:fQ s){t:T}(h:∀w,t.occ w=true->cP s w=none):t.ap (bX s)=t:=PU fun v aB=>by simp[bX,h v aB]
theorem zx{s:List aq}(ag:fQ s):hg s (bX s):=fun b ab=>by rw[aoA ag (ag.free b ab),bX,pM ag.asc ab];rfl
theorem MM{s ah:List aq}(ag:fQ s)(ei:fQ ah)(h:∀aQ,hg ah aQ->hg s aQ){v:Int}(aB:cP ah v=none):cP s v=none:=by
 cases e:cP s v with
 |none=>rfl
 |some t=>
  have J:=h _ (zx ei) _ (iV e);simp only[bX,aB,nk]at J;cases t with
  |var w=>
   have U:w<v:=ag.ori _ (iV e) w rfl;simp only[T.ap,bX]at J;cases bn:cP ah w with
   |none=>rw[bn]at J;simp at J;omega
   |some u=>rw[bn]at J;simp only[jA]at J;subst J;have:=ei.ori _ (iV bn) v rfl;simp only at this;omega
  |_=>simp[T.ap]at J
theorem akk{s ah:List aq}(ei:fQ ah)(h:∀aQ,hg ah aQ->hg s aQ){v:Int}:(bX s v).size<=(bX ah v).size:=by
 have J:=h _ (zx ei);unfold bX;cases e:cP s v with
 |none=>exact T.size_pos _
 |some t=>have:=J _ (iV e);show t.size<=(bX ah v).size;simp only at this;rw[this];exact aa8 _ _
theorem aoW{s ah:List aq}(ag:fQ s)(ei:fQ ah)(h:∀aQ,hg s aQ↔hg ah aQ):s=ah:=by
 refine Fs ag.asc ei.asc fun v=>?_;have d1:∀w,cP s w=none↔cP ah w=none:=fun w=>⟨MM ei ag (fun aQ=>(h aQ).1),MM ag ei fun aQ=>(h aQ).2⟩;cases e:cP s v with
 |none=>exact((d1 v).1 e).symm
 |some t=>
  cases ff:cP ah v with
  |none=>rw[(d1 v).2 ff]at e;cases e
  |some dZ=>have J:=(h _).2 (zx ei) _ (iV e);simp only[bX,ff,jA]at J;rw[J];exact e2 some (PU fun w hw=>by have:=(d1 w).1 (ag.free _ (iV e) w hw);simp[bX,this]).symm
def gy(s:List aq):Prop:=s.length<=400/\∀b∈s,b.t.size<=5000
theorem Ju{s:List aq}(h:gk s):(s.map (·.v)).Nodup:=by rw[List.nodup_iff_pairwise_ne,td];exact h.imp fun h=>Ω
theorem Tu{s ah:List aq}(ag:fQ s)(ei:fQ ah)(h:∀aQ,hg ah aQ->hg s aQ)(aJ:gy ah):gy s:=by
 have aR:∀x∈s.map (·.v),x∈ah.map (·.v):=by
  intro x af;obtain⟨b,ab,rfl⟩:=hB.1 af;cases e:cP ah b.v with
  |none=>have:=MM ag ei h e;rw[pM ag.asc ab]at this;cases this
  |some t=>exact hB.2 ⟨_,iV e,rfl⟩
 have ar:=Pp (Ju ag.asc) aR;simp only[oK]at ar;refine⟨kB ar aJ.1,fun b ab=>?_⟩;have J:=akk (s:=s) ei h (v:=b.v);rw[bX,pM ag.asc ab]at J;obtain⟨c,aw,e⟩:=hB.1 (aR b.v (hB.2 ⟨b,ab,rfl⟩));have U:=aJ.2 c aw;rw[bX,<-e,pM ei.asc aw]at J;exact kB J U
def jN(E:List (T×T))(aQ:Int->T):Prop:= ∀e∈E,e.1.ap aQ=e.2.ap aQ
theorem EN(aQ:Int->T):jN [] aQ:=fun _ h=>by simp at h
theorem rC{e:T×T}{E:List (T×T)}{aQ:Int->T}:jN (e::E) aQ↔e.1.ap aQ=e.2.ap aQ/\jN E aQ:=by simp[jN]
theorem EM{E xP:List (T×T)}{aQ:Int->T}:jN (E++xP) aQ↔jN E aQ/\jN xP aQ:=by simp only[jN,kn];exact⟨fun h=>⟨fun e he=>h e (.inl he),fun e he=>h e (.inr he)⟩,fun h e he=>he.elim (h.1 e) (h.2 e)⟩
def iT(s:List aq)(E:List (T×T)):ba (List aq)->Prop
 |some ah=>(fQ ah/\gy ah)/\∀aQ,hg ah aQ↔hg s aQ/\jN E aQ
 |none=> ∀ah,fQ ah->(∀aQ,hg ah aQ->hg s aQ/\jN E aQ)->¬gy ah
theorem aaX{s:List aq}{E:List (T×T)}:∀{o o':ba (List aq)},iT s E o->iT s E o'->o=o'
 |none,none,_,_=>rfl
 |some s1,none,h,cf=>absurd h.1.2 (cf s1 h.1.1 fun aQ=>(h.2 aQ).1)
 |none,some s1,cf,h=>absurd h.1.2 (cf s1 h.1.1 fun aQ=>(h.2 aQ).1)
 |some s1,some s2,h,cf=>by rw[aoW h.1.1 cf.1.1 fun aQ=>(h.2 aQ).trans (cf.2 aQ).symm]
theorem Cp{s s2:List aq}{E Pr:List (T×T)}(h:∀aQ,(hg s aQ/\jN E aQ)↔(hg s2 aQ/\jN Pr aQ)):∀{o:ba (List aq)},iT s E o->iT s2 Pr o
 |none,aM=>fun ah J U=>aM ah J fun aQ hE=>(h aQ).2 (U aQ hE)
 |some s1,aM=>⟨aM.1,fun aQ=>(aM.2 aQ).trans (h aQ)⟩
theorem PF{s s1:List aq}{E xP:List (T×T)}(h:iT s E (some s1)):∀{o:ba (List aq)},iT s1 xP o->iT s (E++xP) o
 |none,aM=>fun ah J U=>aM ah J fun aQ hE=>⟨(h.2 aQ).2 ⟨(U aQ hE).1,(EM.1 (U aQ hE).2).1⟩,(EM.1 (U aQ hE).2).2⟩
 |some s2,aM=>⟨aM.1,fun aQ=>by rw[aM.2 aQ,h.2 aQ,EM,and_assoc]⟩
theorem Jl{s:List aq}{E:List (T×T)}(xP:List (T×T))(h:iT s E none):iT s (E++xP) none:=fun ah J U=>h ah J fun aQ hE=>⟨(U aQ hE).1,(EM.1 (U aQ hE).2).1⟩
theorem Fm{s:List aq}{E:List (T×T)}(h:∀aQ,hg s aQ->¬jN E aQ):iT s E none:=fun ah J U=>absurd (U _ (zx J)).2 (h _ (U _ (zx J)).1)
theorem Jm{s:List aq}(ag:fQ s)(aJ:gy s):iT s [] (some s):=⟨⟨ag,aJ⟩,fun aQ=>⟨fun h=>⟨h,EN aQ⟩,fun h=>h.1⟩⟩
def one(v:Int)(x:T)(w:Int):T:=if w=v then x else .var w
def lX(b:aq):List aq->List aq
 |[]=>[b]
 |c::s=>if b.v<c.v then b::c::s else c::lX b s
def mE(s:List aq)(v:Int)(x:T):List aq:=lX ⟨v,x⟩ (s.map fun b=>⟨b.v,b.t.ap (one v x)⟩)
theorem y3{b x:aq}:∀{s:List aq},x∈lX b s↔x=b\/x∈s
 |[]=>by simp[lX]
 |c::s=>by
  simp only[lX];split
  ·simp
  ·simp only[fA,y3 (s:=s)];constructor
   ·rintro(h|h|h)
    ·exact .inr (.inl h)
    ·exact .inl h
    ·exact .inr (.inr h)
   ·rintro(h|h|h)
    ·exact .inr (.inl h)
    ·exact .inl h
    ·exact .inr (.inr h)
theorem Wg{b:aq}:∀{s:List aq},(lX b s).length=s.length+1
 |[]=>rfl
 |c::s=>by simp only[lX];split<;>simp[Wg]
theorem zS{b:aq}:∀{s:List aq},gk s->(∀c∈s,c.v≠b.v)->gk (lX b s)
 |[],_,_=>by simp[lX]
 |c::s,bu,ax=>by
  have nz:=ni.1 bu;simp only[lX];split
  ·rename_i bD;refine ni.2 ⟨fun x af=>?_,bu⟩;rcases fA.1 af with rfl|af
   ·exact bD
   ·have:=nz.1 x af;omega
  ·rename_i vf;refine ni.2 ⟨fun x af=>?_,zS nz.2 fun c aw=>ax c (by simp[aw])⟩;rcases y3.1 af with rfl|af
   ·have:=ax c Ψ;omega
   ·exact nz.1 x af
theorem qC{s:List aq}{v:Int}{x:T}{b:aq}:b∈mE s v x↔b=⟨v,x⟩\/ ∃c∈s,b=⟨c.v,c.t.ap (one v x)⟩:=by unfold mE;rw[y3,hB];refine or_congr Iff.rfl ⟨fun⟨c,J,U⟩=>⟨c,J,U.symm⟩,fun⟨c,J,U⟩=>⟨c,J,U.symm⟩⟩
theorem Xk{v:Int}{x:T}{aQ:Int->T}(h:aQ v=x.ap aQ)(t:T):(t.ap (one v x)).ap aQ=t.ap aQ:=by
 rw[Cr];refine uP fun w _=>?_;unfold one;split
 ·rename_i e;subst e;exact h.symm
 ·rfl
theorem Ft{s:List aq}{v w:Int}{x:T}:cP (mE s v x) w=none↔w≠v/\cP s w=none:=by
 rw[mD,mD];constructor
 ·intro h;exact⟨fun e=>h ⟨v,x⟩ (qC.2 (.inl rfl)) e.symm,fun b ab=>h ⟨b.v,b.t.ap (one v x)⟩ (qC.2 (.inr ⟨b,ab,rfl⟩))⟩
 ·rintro⟨J,U⟩ b ab;rcases qC.1 ab with rfl|⟨c,aw,rfl⟩
  ·exact fun e=>J e.symm
  ·exact U c aw
theorem Oq{s:List aq}(ag:fQ s){t:T}{w:Int}(h:(t.ap (bX s)).occ w=true):cP s w=none:=by
 obtain⟨u,_,U⟩:=D8.1 h;unfold bX at U;cases e:cP s u with
 |none=>rw[e]at U;simp[T.occ]at U;subst U;exact e
 |some t=>rw[e]at U;exact ag.free _ (iV e) w U
theorem aoV{s:List aq}(ag:fQ s){v:Int}{t:T}(aB:cP s v=none)(ay:(t.ap (bX s)).occ v=false)(tK:∀w,t.ap (bX s)= .var w->w<v):fQ (mE s v (t.ap (bX s))):=by
 have af:∀w,(t.ap (bX s)).occ w=true->cP (mE s v (t.ap (bX s))) w=none:=fun w hw=>Ft.2 ⟨fun e=>(by subst e;rw[ay]at hw;cases hw),Oq ag hw⟩;refine⟨zS ?_ ?_,fun b ab w hw=>?_,fun b ab w hw=>?_⟩
 ·rw[gk,td];exact ag.asc
 ·intro c aw;obtain⟨b,ab,rfl⟩:=hB.1 aw;exact mD.1 aB b ab
 ·rcases qC.1 ab with rfl|⟨c,aw,rfl⟩
  ·exact af w hw
  ·obtain⟨u,J,U⟩:=D8.1 hw;unfold one at U;split at U
   ·exact af w U
   ·rename_i cM;simp[T.occ]at U;subst U;exact Ft.2 ⟨cM,ag.free c aw _ J⟩
 ·rcases qC.1 ab with rfl|⟨c,aw,rfl⟩
  ·exact tK w hw
  ·simp only at hw⊢;cases e:c.t with
   |var u=>
    have:=ag.ori c aw u e;rw[e]at hw;simp only[T.ap,one]at hw;split at hw
    ·rename_i aE;subst aE;have:=tK w hw;omega
    ·cases hw;exact this
   |_=>rw[e]at hw;simp[T.ap]at hw
theorem YZ{s:List aq}{v:Int}{t:T}(aQ:Int->T):hg (mE s v (t.ap (bX s))) aQ↔hg s aQ/\jN [(.var v,t)] aQ:=by
 have al:jN [(.var v,t)] aQ↔aQ v=t.ap aQ:=by simp[jN,T.ap]
 rw[al];constructor
 ·intro h;have bs:aQ v=(t.ap (bX s)).ap aQ:=h _ (qC.2 (.inl rfl));have J:hg s aQ:=fun b ab=>by have:=h _ (qC.2 (.inr ⟨b,ab,rfl⟩));simp only at this;rw[Xk bs]at this;exact this
  exact⟨J,by rw[Ou J t];exact bs⟩
 ·rintro⟨J,U⟩ b ab;have bs:aQ v=(t.ap (bX s)).ap aQ:=by rw[<-Ou J t];exact U
  rcases qC.1 ab with rfl|⟨c,aw,rfl⟩
  ·exact bs
  ·simp only;rw[Xk bs];exact J c aw
open Classical in
theorem aaU{s:List aq}(ag:fQ s){v:Int}{t:T}(aB:cP s v=none)(ay:(t.ap (bX s)).occ v=false)(tK:∀w,t.ap (bX s)= .var w->w<v):iT s [(.var v,t)] (if gy (mE s v (t.ap (bX s)))then some (mE s v (t.ap (bX s)))else none):=by
 have J:=aoV ag aB ay tK;split
 ·rename_i aJ;exact⟨⟨J,aJ⟩,YZ⟩
 ·rename_i aJ;exact fun ah U au a6=>aJ (Tu J U (fun aQ hE=>(YZ aQ).2 (au aQ hE)) a6)
def hz(s:List aq):T->T
 | .var n=>bX s n
 |t=>t
def n7(s:List aq)(v:Int)(t:T):ba (List aq):=if(t.ap (bX s)).size<=5000/\(t.ap (bX s)).occ v=false/\s.length<400/\∀b∈s,(b.t.ap (one v (t.ap (bX s)))).size<=5000 then some (mE s v (t.ap (bX s)))else none
def kl(rec:List aq->T->T->ba (ba (List aq)))(s:List aq):T->T->ba (ba (List aq))
 | .var i,.var j=>some (if i<j then n7 s j (.var i)else if i=j then some s else n7 s i (.var j))
 | .var i,y=>some (n7 s i y)
 |x,.var j=>some (n7 s j x)
 | .pair bC a2,.pair ch ca=>match rec s bC ch with
  |none=>none
  |some none=>some none
  |some (some s1)=>rec s1 a2 ca
 |x,y=>some (if x=y then some s else none)
def kU:Nat->List aq->T->T->ba (ba (List aq))
 |0,_,_,_=>none
 |n+1,s,a,b=>kl (kU n) s (hz s a) (hz s b)
theorem apy{rec N0:List aq->T->T->ba (ba (List aq))}(h:∀s a b o,rec s a b=some o->N0 s a b=some o){s:List aq}{x y:T}{o:ba (List aq)}(he:kl rec s x y=some o):kl N0 s x y=some o:=by
 cases x<;>cases y<;>simp only[kl]at he⊢ <;>try exact he
 rename_i bC a2 ch ca;cases e:rec s bC ch with
 |none=>rw[e]at he;cases he
 |some gP=>
  rw[e]at he;rw[h _ _ _ _ e];cases gP with
  |none=>exact he
  |some s1=>exact h _ _ _ _ he
theorem EU:∀{n m:Nat} {s:List aq} {a b:T} {o:ba (List aq)},n<=m->kU n s a b=some o->kU m s a b=some o
 |0,_,_,_,_,_,_,h=>by simp[kU]at h
 |n+1,0,_,_,_,_,hm,_=>Ω
 |n+1,m+1,s,a,b,o,hm,h=>by simp only[kU]at h⊢;exact apy (fun s a b o h=>EU Ω h) h
theorem KI{s:List aq}{v:Int}{x:T}:gy (mE s v x)↔(x.size<=5000/\s.length<400/\∀b∈s,(b.t.ap (one v x)).size<=5000):=by
 have ar:(mE s v x).length=s.length+1:=by simp[mE,Wg]
 unfold gy;rw[ar];constructor
 ·rintro⟨J,U⟩;exact⟨U _ (qC.2 (.inl rfl)),Ω,fun b ab=>U _ (qC.2 (.inr ⟨b,ab,rfl⟩))⟩
 ·rintro⟨J,U,au⟩;refine⟨Ω,fun b ab=>?_⟩;rcases qC.1 ab with rfl|⟨c,aw,rfl⟩
  ·exact J
  ·exact au c aw
theorem aaV{s:List aq}(ag:fQ s){v:Int}{t:T}(aB:cP s v=none)(cM:t.ap (bX s)≠ .var v)(tK:∀w,t.ap (bX s)= .var w->w<v):iT s [(.var v,t)] (n7 s v t):=by
 unfold n7;cases ay:(t.ap (bX s)).occ v with
 |true=>
  rw[if_neg Ψ];refine Fm fun aQ J U=>?_;have au:=(rC.1 U).1;simp only[T.ap]at au;rw[Ou J t]at au;have ad:(t.ap (bX s)).kind≠1:=by
   intro ad;cases e:t.ap (bX s)with
   |var w=>rw[e]at ay;simp[T.occ]at ay;subst ay;exact cM e
   |_=>rw[e]at ad;simp[T.kind]at ad
  have:=(Bt aQ ay).2 ad;rw[<-au]at this;omega
 |false=>
  have J:=aaU ag aB ay tK;by_cases aJ:gy (mE s v (t.ap (bX s)))
  ·rw[if_pos aJ]at J;rw[if_pos ⟨(KI.1 aJ).1,rfl,(KI.1 aJ).2⟩];exact J
  ·rw[if_neg aJ]at J;rw[if_neg fun h=>aJ (KI.2 ⟨h.1,h.2.2⟩)];exact J
theorem aah{s:List aq}(ag:fQ s){t:T}{i:Int}(h:hz s t= .var i):cP s i=none:=by
 cases t with
 |var n=>
  simp only[hz,bX]at h;cases e:cP s n with
  |none=>rw[e]at h;simp at h;subst h;exact e
  |some u=>rw[e]at h;simp at h;subst h;exact ag.free _ (iV e) i (by simp[T.occ])
 |_=>simp[hz]at h
theorem Pe{s:List aq}{aQ:Int->T}(h:hg s aQ)(t:T):(hz s t).ap aQ=t.ap aQ:=by
 cases t with
 |var n=>
  simp only[hz,T.ap,bX];cases e:cP s n with
  |none=>rfl
  |some u=>exact(h _ (iV e)).symm
 |_=>rfl
theorem aaj{s:List aq}(ag:fQ s)(t:T):(hz s t).ap (bX s)=t.ap (bX s):=Pe (zx ag) t
def qw(V:List Int)(t:T):Prop:= ∀w,t.occ w=true->w∈V
def yO(V:List Int)(s:List aq):Prop:= ∀b∈s,b.v∈V/\qw V b.t
def Ac(V:List Int)(s:List aq):Nat:=(V.filter fun v=>(cP s v).isNone).length
theorem Tt{α:Type}{p q:α->Bool}{v:α}:∀{V:List α},(∀x∈V,q x=true->p x=true)->v∈V->p v=true->q v=false->(V.filter q).length<(V.filter p).length
 |[],_,h,_,_=>by simp at h
 |x::V,h,aB,bB,bm=>by
  have hle:∀W:List α,(∀x∈W,q x=true->p x=true)->(W.filter q).length<=(W.filter p).length:=by
   intro W;induction W with
   |nil=>intro _;simp
   |cons y W bR=>intro tB;have:=bR fun x af=>tB x (by simp[af]);have aO:=tB y Ψ;simp only[List.filter_cons];cases e:q y<;>cases aE:p y<;>simp_all<;>omega
  simp only[List.filter_cons];rcases fA.1 aB with rfl|aB
  ·have:=hle V fun x af=>h x (by simp[af]);simp[bB,bm];omega
  ·have:=Tt (fun x af=>h x (oL _ af)) aB bB bm;have af:=h x Ψ;cases e:q x<;>cases aE:p x<;>simp_all<;>omega
theorem acp{V:List Int}{s:List aq}{v:Int}{x:T}(aB:v∈V)(ax:cP s v=none):Ac V (mE s v x)<Ac V s:=by
 unfold Ac;refine Tt (v:=v) (fun w _ h=>?_) aB (by simp[ax]) ?_
 ·rw[Option.isNone_iff_eq_none,Ft]at h;simp[h.2]
 ·cases e:cP (mE s v x) v with
  |none=>exact absurd rfl (Ft.1 e).1
  |some _=>rfl
theorem Vh{V:List Int}{s:List aq}(h:yO V s){t:T}(aN:qw V t):qw V (t.ap (bX s)):=fun w hw=>by
 obtain⟨u,J,U⟩:=D8.1 hw;unfold bX at U;cases e:cP s u with
 |none=>rw[e]at U;simp[T.occ]at U;subst U;exact aN _ J
 |some x=>rw[e]at U;exact(h _ (iV e)).2 w U
theorem aiS{V:List Int}{s:List aq}(h:yO V s){v:Int}{x:T}(aB:v∈V)(af:qw V x):yO V (mE s v x):=fun b ab=>by
 rcases qC.1 ab with rfl|⟨c,aw,rfl⟩
 ·exact⟨aB,af⟩
 ·refine⟨(h c aw).1,fun w hw=>?_⟩;obtain⟨u,J,U⟩:=D8.1 hw;unfold one at U;split at U
  ·exact af w U
  ·simp[T.occ]at U;subst U;exact(h c aw).2 _ J
theorem Vi{V:List Int}{s:List aq}(h:yO V s){t:T}(aN:qw V t):qw V (hz s t):=by
 cases t with
 |var n=>have:=Vh h aN;simpa[hz,T.ap]using this
 |_=>exact aN
def Co(V:List Int)(s:List aq)(a b:T)(o:ba (List aq)):Prop:=iT s [(a,b)] o/\∀ah,o=some ah->yO V ah/\(ah=s\/Ac V ah<Ac V s)
theorem EV{V:List Int}{s:List aq}(ag:fQ s)(kt:yO V s){v:Int}{t a b:T}(aB:v∈V)(aN:qw V t)(ax:cP s v=none)(cM:t.ap (bX s)≠ .var v)(tK:∀w,t.ap (bX s)= .var w->w<v)(aw:∀aQ,hg s aQ->(aQ v=t.ap aQ↔a.ap aQ=b.ap aQ)):Co V s a b (n7 s v t):=by
 refine⟨Cp (fun aQ=>?_) (aaV ag ax cM tK),fun ah h=>?_⟩
 ·refine and_congr_right fun h=>?_;rw[rC,rC];simp only[T.ap,aw aQ h]
 ·unfold n7 at h;split at h
  ·cases h;exact⟨aiS kt aB (Vh kt aN),.inr (acp aB ax)⟩
  ·cases h
theorem BW{s:List aq}{i:Int}(h:cP s i=none):bX s i= .var i:=by simp[bX,h]
theorem ZA(V:List Int)(k:Nat):∀(m:Nat) (s:List aq) (a b:T),fQ s->gy s->yO V s->qw V a->qw V b->Ac V s=k->(a.ap (bX s)).size+(b.ap (bX s)).size=m->
  ∃n o,kU n s a b=some o/\Co V s a b o:=by
 induction k using Nat.strongRecOn with
 |ind k LY=>
 intro m;induction m using Nat.strongRecOn with
 |ind m A5=>
 intro s a b ag aJ kt bu ab ad hm;have af:=Vi kt bu;have aO:=Vi kt ab;have OH:=aaj ag a;have OI:=aaj ag b;have uQ:=fun aQ (h:hg s aQ)=>Pe h a;have n4:=fun aQ (h:hg s aQ)=>Pe h b;have q6:=fun i=>aah ag (t:=a) (i:=i);have KM:=fun i=>aah ag (t:=b) (i:=i);have key:∀(rec:List aq->T->T->ba (ba (List aq))) (o:ba (List aq)),kl rec s (hz s a) (hz s b)=some o->(∀bC a2 ch ca,hz s a= .pair bC a2->hz s b= .pair ch ca->Co V s a b o)->Co V s a b o:=by
  intro rec o he bB;cases ex:hz s a with
  |var i=>
   have F8:=q6 i ex;have qW:=fun aQ h=>(uQ aQ h).symm.trans (by rw[ex]);cases ih:hz s b with
   |var j=>
    have ye:=KM j ih;have pL:=fun aQ h=>(n4 aQ h).symm.trans (by rw[ih]);rw[ex,ih]at he;simp only[kl]at he;have hi:i∈V:=by rw[ex]at af;exact af i (by simp[T.occ])
    have ae:j∈V:=by rw[ih]at aO;exact aO j (by simp[T.occ])
    rcases Int.lt_trichotomy i j with h|h|h
    ·rw[if_pos h]at he;cases he;refine EV ag kt ae (by rw[ex]at af;exact af) ye (by simp[T.ap,BW F8];omega) (fun w hw=>by simp[T.ap,BW F8]at hw;omega) fun aQ hE=>?_;rw[qW aQ hE,pL aQ hE];simp only[T.ap];exact⟨Eq.symm,Eq.symm⟩
    ·subst h;rw[if_neg Ω,if_pos rfl]at he;cases he;refine⟨⟨⟨ag,aJ⟩,fun aQ=>⟨fun h=>⟨h,rC.2 ⟨?_,EN aQ⟩⟩,fun h=>h.1⟩⟩,fun ah e=>by cases e;exact⟨kt,.inl rfl⟩⟩;simp only;rw[qW aQ h,pL aQ h]
    ·rw[if_neg Ω,if_neg Ω]at he;cases he;refine EV ag kt hi (by rw[ih]at aO;exact aO) F8 (by simp[T.ap,BW ye];omega) (fun w hw=>by simp[T.ap,BW ye]at hw;omega) fun aQ hE=>?_;rw[qW aQ hE,pL aQ hE];simp only[T.ap]
   |_=>have pL:=fun aQ h=>(n4 aQ h).symm.trans (by rw[ih]);rw[ex,ih]at he;simp only[kl]at he;cases he;refine EV ag kt (by rw[ex]at af;exact af i (by simp[T.occ])) (by rw[ih]at aO;exact aO) F8 (by simp[T.ap]) (fun w hw=>by simp[T.ap]at hw) fun aQ hE=>?_;rw[qW aQ hE,pL aQ hE];simp only[T.ap]
  |pair bC a2=>
   cases ih:hz s b with
   |pair ch ca=>exact bB bC a2 ch ca ex ih
   |var j=>have ye:=KM j ih;have qW:=fun aQ h=>(uQ aQ h).symm.trans (by rw[ex]);have pL:=fun aQ h=>(n4 aQ h).symm.trans (by rw[ih]);rw[ex,ih]at he;simp only[kl]at he;cases he;refine EV ag kt (by rw[ih]at aO;exact aO j (by simp[T.occ])) (by rw[ex]at af;exact af) ye (by simp[T.ap]) (fun w hw=>by simp[T.ap]at hw) fun aQ hE=>?_;rw[qW aQ hE,pL aQ hE];simp only[T.ap];exact⟨Eq.symm,Eq.symm⟩
   |_=>have qW:=fun aQ h=>(uQ aQ h).symm.trans (by rw[ex]);have pL:=fun aQ h=>(n4 aQ h).symm.trans (by rw[ih]);rw[ex,ih]at he;simp only[kl]at he;simp at he;subst he;refine⟨Fm fun aQ J U=>?_,fun ah e=>by cases e⟩;have:=(rC.1 U).1;simp only at this;rw[qW aQ J,pL aQ J]at this;simp[T.ap]at this
  |_=>
   have qW:=fun aQ h=>(uQ aQ h).symm.trans (by rw[ex]);cases ih:hz s b with
   |var j=>have ye:=KM j ih;have pL:=fun aQ h=>(n4 aQ h).symm.trans (by rw[ih]);rw[ex,ih]at he;simp only[kl]at he;cases he;refine EV ag kt (by rw[ih]at aO;exact aO j (by simp[T.occ])) (by rw[ex]at af;exact af) ye (by simp[T.ap]) (fun w hw=>by simp[T.ap]at hw) fun aQ hE=>?_;rw[qW aQ hE,pL aQ hE];simp only[T.ap];exact⟨Eq.symm,Eq.symm⟩
   |_=>
    have pL:=fun aQ h=>(n4 aQ h).symm.trans (by rw[ih]);rw[ex,ih]at he;simp only[kl,dQ]at he;split at he
    ·rename_i e;subst he;refine⟨⟨⟨ag,aJ⟩,fun aQ=>⟨fun h=>⟨h,rC.2 ⟨?_,EN aQ⟩⟩,fun h=>h.1⟩⟩,fun ah e=>by cases e;exact⟨kt,.inl rfl⟩⟩;simp only;rw[qW aQ h,pL aQ h];try rw[e]
    ·rename_i e;subst he;refine⟨Fm fun aQ J U=>?_,fun ah e=>by cases e⟩;have:=(rC.1 U).1;simp only at this;rw[qW aQ J,pL aQ J]at this;simp[T.ap]at this e;try exact e this
 by_cases GM:∃bC a2 ch ca,hz s a= .pair bC a2/\hz s b= .pair ch ca
 ·obtain⟨bC,a2,ch,ca,ex,ih⟩:=GM;have en:(bC.ap (bX s)).size+(ch.ap (bX s)).size<m/\(a2.ap (bX s)).size+(ca.ap (bX s)).size<m:=by rw[ex]at OH;rw[ih]at OI;simp only[T.ap]at OH OI;rw[<-hm,<-OH,<-OI];simp only[T.size];omega
  have ln:qw V bC:=fun w hw=>by rw[ex]at af;exact af w (by simp[T.occ,hw])
  have qq:qw V a2:=fun w hw=>by rw[ex]at af;exact af w (by simp[T.occ,hw])
  have lP:qw V ch:=fun w hw=>by rw[ih]at aO;exact aO w (by simp[T.occ,hw])
  have pW:qw V ca:=fun w hw=>by rw[ih]at aO;exact aO w (by simp[T.occ,hw])
  have Uk:∀aQ,(hg s aQ/\jN ([(bC,ch)]++[(a2,ca)]) aQ)↔(hg s aQ/\jN [(a,b)] aQ):=fun aQ=>and_congr_right fun h=>by simp only[List.singleton_append,rC,EN,and_true];rw[<-uQ aQ h,<-n4 aQ h,ex,ih];simp[T.ap]
  obtain⟨il,gP,al,cV⟩:=A5 _ en.1 s bC ch ag aJ kt ln lP ad rfl;cases gP with
  |none=>refine⟨il+1,none,?_,Cp Uk (Jl _ cV.1),fun ah e=>by cases e⟩;simp only[kU,ex,ih,kl,al]
  |some s1=>
   obtain⟨v1,v2⟩:=cV.2 s1 rfl;have Du:∃gw gF,kU gw s1 a2 ca=some gF/\Co V s1 a2 ca gF:=by
    rcases v2 with rfl|v2
    ·exact A5 _ en.2 _ a2 ca ag aJ kt qq pW ad rfl
    ·exact LY _ Ω _ s1 a2 ca cV.1.1.1 cV.1.1.2 v1 qq pW rfl rfl
   obtain⟨gw,gF,aE,dC⟩:=Du;refine⟨max il gw+1,gF,?_,Cp Uk (PF cV.1 dC.1),fun ah e=>?_⟩
   ·simp only[kU,ex,ih,kl,EU (Nat.le_max_left il gw) al];exact EU (Nat.le_max_right il gw) aE
   ·obtain⟨dU,dk⟩:=dC.2 ah e;refine⟨dU,?_⟩;rcases v2 with rfl|v2
    ·exact dk
    ·rcases dk with rfl|dk
     ·exact .inr v2
     ·exact .inr Ω
 ·have UN:∀bC a2 ch ca,hz s a= .pair bC a2->hz s b= .pair ch ca->e1:=fun bC a2 ch ca J U=>GM ⟨bC,a2,ch,ca,J,U⟩;have:∃o,kl (kU 0) s (hz s a) (hz s b)=some o:=by cases ex:hz s a<;>cases ih:hz s b<;>simp only[kl]<;>first|exact⟨_,rfl⟩|exact(UN _ _ _ _ ex ih).elim
  obtain⟨o,ay⟩:=this;exact⟨1,o,ay,key _ o ay fun bC a2 ch ca J U=>(UN bC a2 ch ca J U).elim⟩
def c3{α:Type}(k:Int):List (Int×α)->ba α
 |[]=>none
 |(i,v)::r=>if k=i then some v else c3 k r
def eK{α:Type}(k:Int)(v:α):List (Int×α)->List (Int×α)
 |[]=>[(k,v)]
 |(i,w)::r=>if k=i then(i,v)::r else(i,w)::eK k v r
def cx{α:Type}(m:List (Int×α)):List Int:=m.map (·.1)
theorem nU{α:Type}(k:Int)(v:α)(j:Int):∀m:List (Int×α),c3 j (eK k v m)=if j=k then some v else c3 j m
 |[]=>by simp only[eK,c3]
 |(i,w)::r=>by
  simp only[eK];by_cases h:k=i
  ·subst h;by_cases U:j=k<;>simp[c3,U]
  ·by_cases U:j=i
   ·subst U;have:¬j=k:=fun e=>h e.symm;simp[c3,h,this]
   ·simp[c3,h,U,nU k v j r]
theorem IH{α:Type}{k:Int}:∀{m:List (Int×α)},(c3 k m).isSome=true↔k∈cx m
 |[]=>by simp[c3,cx]
 |(i,w)::r=>by
  simp only[c3,cx,gS,fA];by_cases h:k=i
  ·simp[h]
  ·simp only[h,if_false,false_or];exact IH
theorem apq{α:Type}{k:Int}{m:List (Int×α)}:c3 k m=none↔k∉cx m:=by rw[<-IH];cases c3 k m<;>simp
theorem DO{α:Type}{k:Int}{v:α}:∀{m:List (Int×α)},k∈cx m->cx (eK k v m)=cx m
 |[],h=>by simp[cx]at h
 |(i,w)::r,h=>by
  simp only[eK];by_cases e:k=i
  ·simp[e,cx]
  ·rw[if_neg e];have cf:k∈cx r:=by simpa[cx,e]using h
   have:=DO (v:=v) cf;simp only[cx]at this⊢;simp[this]
theorem VP{α:Type}{k:Int}{v:α}:∀{m:List (Int×α)},k∉cx m->cx (eK k v m)=cx m++[k]
 |[],h=>by simp[cx,eK]
 |(i,w)::r,h=>by have e:¬k=i:=fun e=>h (by simp[cx,e]);have cf:k∉cx r:=fun ad=>h (by simp[cx]at ad⊢;exact .inr ad);have:=VP (v:=v) cf;simp only[eK,if_neg e];simp only[cx]at this⊢;simp[this]
structure bA where
 up:List (Int×Int)
 shape:List (Int×T)
 shaped:List (Int×Bool)
 color:List (Int×Int)
 size:List (Int×Int)
 full:List (Int×T)
def bA.shd(c:bA)(x:Int):Bool:=(c3 x c.shaped).getD false
def bA.shp(c:bA)(x:Int):T:=(c3 x c.shape).getD .nil
def bA.col(c:bA)(x:Int):Int:=(c3 x c.color).getD 0
def bA.sz(c:bA)(x:Int):Int:=(c3 x c.size).getD 0
def h9(m:List (Int×Int))(v:Int):Int:=(c3 v m).getD 0
def xv:Nat->List (Int×Int)->Int->ba (Int×List (Int×Int))
 |0,_,_=>none
 |n+1,m,v=>if h9 m v=v then some (v,m)else xv n (eK v (h9 m (h9 m v)) m) (h9 (eK v (h9 m (h9 m v)) m) v)
def zP(v:Int)(m:List (Int×Int)):List (Int×Int):=if(c3 v m).isSome then m else eK v v m
def rt(c:bA)(v:Int):ba (Int×bA):=(xv (v.toNat+1) (zP v c.up) v).map fun p=>(p.1,{c with up:=p.2})
def T.foldO{α:Type}(f:Int->α->ba α):T->α->ba α
 | .var n,a=>f n a
 | .pair x y,a=>(x.foldO f a).bind (y.foldO f)
 |_,a=>some a
def T.mapO{α:Type}(f:Int->α->ba (T×α)):T->α->ba (T×α)
 | .var n,a=>f n a
 | .pair x y,a=>(x.mapO f a).bind fun p=>(y.mapO f p.2).map fun q=>(.pair p.1 q.1,q.2)
 |t,a=>some (t,a)
def T.sizeO{α:Type}(f:Int->α->ba (Int×α)):T->α->ba (Int×α)
 | .var n,a=>(f n a).map fun p=>(if 5001<p.1 then 5001 else p.1,p.2)
 | .pair x y,a=>(x.sizeO f a).bind fun p=>if 5000<p.1 then some p else(y.sizeO f p.2).map fun q=>(if 5001<1+p.1+q.1 then 5001 else 1+p.1+q.1,q.2)
 |_,a=>some (1,a)
def Bj(t:T)(c:bA):ba bA:=t.foldO (fun v c=>(rt c v).map (·.2)) c
structure uH where
 c:bA
 seen:List (Int×Bool)
 found:Bool
def xu(rec:T->bA->List (Int×Bool)->ba uH)(x:Int)(v:Int)(a:uH):ba uH:=
 (rt a.c v).bind fun p=>if a.found=true\/p.1=x then some ⟨p.2,a.seen,true⟩
  else if(c3 p.1 a.seen).getD false=false/\p.2.shd p.1=true then rec (p.2.shp p.1) p.2 (eK p.1 true a.seen)
  else some ⟨p.2,a.seen,a.found⟩
def qa:Nat->Int->T->bA->List (Int×Bool)->ba uH
 |0,_,_,_,_=>none
 |n+1,x,t,c,seen=>t.foldO (xu (qa n x) x) ⟨c,seen,false⟩
def bA.know(c:bA)(x:Int)(t:T):bA:={c with shape:=eK x t c.shape,shaped:=eK x true c.shaped}
def vt(n:Nat)(x:Int)(t:T)(c:bA):ba (Bool×bA):=(qa n x t (c.know x t) []).map fun a=>(!a.found,a.c)
def bA.join(c:bA)(x y:Int):bA:={c with up:=eK y x c.up}
def r2(rec:T->T->bA->ba (Bool×bA))(n:Nat)(x y:Int)(c:bA):ba (Bool×bA):=
 if c.shd y=false then
  (if c.shd x=false then some (true,c)else(qa n x (c.shp x) c []).map fun a=>(!a.found,a.c))
 else if c.shd x=false then vt n x (c.shp y) c
 else(qa n x (c.shp y) c []).bind fun a=>if a.found=true then some (false,a.c)else
  (qa n x (a.c.shp x) a.c []).bind fun b=>if b.found=true then some (false,b.c)else rec (b.c.shp x) (c.shp y) b.c
def gL:Nat->T->T->bA->ba (Bool×bA)
 |0,_,_,_=>none
 |n+1,.var i,.var j,c=>(rt c i).bind fun p=>(rt p.2 j).bind fun q=>if p.1=q.1 then some (true,q.2)else if q.1<p.1 then r2 (gL n) n q.1 p.1 (q.2.join q.1 p.1)else r2 (gL n) n p.1 q.1 (q.2.join p.1 q.1)
 |n+1,.var i,b,c=>(rt c i).bind fun p=>if p.2.shd p.1=false then vt n p.1 b p.2 else gL n (p.2.shp p.1) b p.2
 |n+1,a,.var j,c=>gL n (.var j) a c
 |n+1,.pair bC a2,.pair ch ca,c=>(gL n bC ch c).bind fun p=>if p.1=true then gL n a2 ca p.2 else some (false,p.2)
 |_+1,a,b,c=>some (decide (a=b),c)
structure jM (m:List (Int×Int)) (ρ:Int->Int):Prop where
 up:∀v u,c3 v m=some u->(0<=u/\u<=v/\u∈cx m)/\ρ u=ρ v/\(ρ v=v↔u=v)
 no:∀v,v∉cx m->ρ v=v
theorem jM.get{m:List (Int×Int)}{ρ:Int->Int}(h:jM m ρ){v:Int}(aB:v∈cx m):∃u,c3 v m=some u/\h9 m v=u:=by have:=IH.2 aB;obtain⟨u,hu⟩:=fU.1 this;exact⟨u,hu,by simp[h9,hu]⟩
theorem jM.root{m:List (Int×Int)}{ρ:Int->Int}(h:jM m ρ):∀(n:Nat) (v:Int),v.toNat<=n->(ρ v<=v/\ρ (ρ v)=ρ v/\(v∈cx m->ρ v∈cx m/\0<=ρ v)):=by
 intro n;induction n using Nat.strongRecOn with
 |ind n bR=>
 intro v ax;by_cases aB:v∈cx m
 ·obtain⟨u,J,_⟩:=h.get aB;obtain⟨⟨bC,a2,a3⟩,a4,a5⟩:=h.up v u J;by_cases e:u=v
  ·have:=a5.2 e;subst e;rw[this];exact⟨Ω,this,fun _=>⟨a3,bC⟩⟩
  ·obtain⟨ch,ca,fB⟩:=bR (u.toNat) Ω u Ω;rw[<-a4];exact⟨Ω,ca,fun _=>fB a3⟩
 ·have:=h.no v aB;rw[this];exact⟨Ω,this,fun h=>absurd h aB⟩
theorem jM.le{m:List (Int×Int)}{ρ:Int->Int}(h:jM m ρ)(v:Int):ρ v<=v:=(h.root v.toNat v (e7 _)).1
theorem jM.idem{m:List (Int×Int)}{ρ:Int->Int}(h:jM m ρ)(v:Int):ρ (ρ v)=ρ v:=(h.root v.toNat v (e7 _)).2.1
theorem jM.mem{m:List (Int×Int)}{ρ:Int->Int}(h:jM m ρ){v:Int}(aB:v∈cx m):ρ v∈cx m/\0<=ρ v:=(h.root v.toNat v (e7 _)).2.2 aB
theorem YP{ρ:Int->Int}:∀(n:Nat) (m:List (Int×Int)) (v:Int),jM m ρ->v∈cx m->v.toNat<n->∃ht,xv n m v=some (ρ v,ht)/\jM ht ρ/\cx ht=cx m
 |0,_,_,_,_,ax=>Ω
 |n+1,m,v,h,aB,ax=>by
  obtain⟨u,J,U⟩:=h.get aB;obtain⟨⟨bC,a2,a3⟩,a4,a5⟩:=h.up v u J;simp only[xv,U];by_cases e:u=v
  ·rw[if_pos e];have:=a5.2 e;exact⟨m,by rw[this],h,rfl⟩
  ·rw[if_neg e];obtain⟨x,g1,g2⟩:=h.get a3;obtain⟨⟨ch,ca,fB⟩,oT,P0⟩:=h.up u x g1;rw[g2];have ad:=DO (v:=x) aB;have mn:jM (eK v x m) ρ:=by
    refine⟨fun w y hw=>?_,fun w hw=>h.no w (by rw[ad]at hw;exact hw)⟩;rw[nU]at hw;rw[ad];by_cases ew:w=v
    ·subst ew;rw[if_pos rfl]at hw;cases hw;refine⟨⟨ch,Ω,fB⟩,by rw[oT,a4],⟨fun aM=>absurd (a5.1 aM) e,fun af=>?_⟩⟩;have:u=w:=Ω
     exact absurd this e
    ·rw[if_neg ew]at hw;exact h.up w y hw
   have aiy:h9 (eK v x m) v=x:=by simp[h9,nU]
   rw[aiy];obtain⟨ht,bK,cq,da⟩:=YP n (eK v x m) x mn (by rw[ad];exact fB) Ω;exact⟨ht,by rw[bK,oT,a4],cq,by rw[da,ad]⟩
structure iS (ρ:Int->Int) (c cw:bA):Prop where
 ru:jM cw.up ρ
 keys:cx cw.up=cx c.up
 eq:cw={c with up:=cw.up}
theorem iS.refl{ρ:Int->Int}{c:bA}(h:jM c.up ρ):iS ρ c c:=⟨h,rfl,rfl⟩
theorem iS.trans{ρ:Int->Int}{a b c:bA}(h:iS ρ a b)(k:iS ρ b c):iS ρ a c:=⟨k.ru,k.keys.trans h.keys,by rw[k.eq,h.eq]⟩
theorem iS.shd{ρ:Int->Int}{c cw:bA}(h:iS ρ c cw)(x:Int):cw.shd x=c.shd x:=by rw[h.eq];rfl
theorem iS.shp{ρ:Int->Int}{c cw:bA}(h:iS ρ c cw)(x:Int):cw.shp x=c.shp x:=by rw[h.eq];rfl
theorem uj{ρ:Int->Int}{c:bA}{v:Int}(h:jM c.up ρ)(aB:v∈cx c.up):∃cw,rt c v=some (ρ v,cw)/\iS ρ c cw:=by
 have bu:zP v c.up=c.up:=by simp[zP,IH.2 aB]
 obtain⟨ht,J,U,au⟩:=YP (v.toNat+1) c.up v h aB Ω;exact⟨{c with up:=ht},by simp[rt,bu,J],⟨U,au,rfl⟩⟩
theorem aon{ρ:Int->Int}{c:bA}{v:Int}(h:jM c.up ρ)(bs:0<=v)(aB:v∉cx c.up):rt c v=some (v,{c with up:=eK v v c.up})/\jM (eK v v c.up) ρ/\cx (eK v v c.up)=cx c.up++[v]:=by
 have ax:=apq.2 aB;have ad:=VP (v:=v) aB;refine⟨?_,⟨fun w u hw=>?_,fun w hw=>h.no w fun hm=>hw (by rw[ad];simp[hm])⟩,ad⟩
 ·simp[rt,zP,ax,xv,h9,nU]
 ·rw[nU]at hw;rw[ad];by_cases e:w=v
  ·subst e;rw[if_pos rfl]at hw;cases hw;exact⟨⟨bs,Ω,Ψ⟩,rfl,⟨fun _=>rfl,fun _=>h.no _ aB⟩⟩
  ·rw[if_neg e]at hw;obtain⟨⟨bC,a2,a3⟩,a4⟩:=h.up w u hw;exact⟨⟨bC,a2,by simp[a3]⟩,a4⟩
def bA.ph(c:bA)(x:Int):ba T:=if c.shd x then some (c.shp x)else none
theorem iS.ph{ρ:Int->Int}{c cw:bA}(h:iS ρ c cw):cw.ph=c.ph:=by funext x;simp only[bA.ph,h.shd,h.shp]
def kp(ph:Int->ba T)(ρ:Int->Int)(aQ:Int->T):Prop:=(∀v,aQ v=aQ (ρ v))/\∀x t,ρ x=x->ph x=some t->aQ x=t.ap aQ
def jl(ph:Int->ba T)(ρ:Int->Int)(z u:Int):Prop:=ρ z=z/\∃t w,ph z=some t/\t.occ w=true/\ρ w=u
inductive nm (E:Int->Int->Prop):Int->Int->Prop
 |refl (a:Int):nm E a a
 |step {a b c:Int}:E a b->nm E b c->nm E a c
def oS(V:List Int)(ph:Int->ba T):Prop:= ∀x t,ph x=some t->t.kind≠1/\(∀w,t.occ w=true->w∈V)/\x∈V
def IP(V:List Int)(ph:Int->ba T)(seen:List (Int×Bool)):Nat:=(V.filter fun v=>(ph v).isSome&& !((c3 v seen).getD false)).length
def mQ(seen:List (Int×Bool))(z:Int):Prop:=(c3 z seen).getD false=true
structure aaM (V:List Int) (ph:Int->ba T) (ρ:Int->Int) (x:Int) (occ:Int->Prop) (a bq:uH):Prop where
 sm:iS ρ a.c bq.c
 sub:∀z,mQ a.seen z->mQ bq.seen z
 yes:bq.found=true->a.found=true\/ ∃w,occ w/\nm (jl ph ρ) (ρ w) x
 kept:a.found=true->bq.found=true
 no:bq.found=false->(∀w,occ w->ρ w≠x/\((ph (ρ w)).isSome=true->mQ bq.seen (ρ w)))/\∀r,mQ bq.seen r->¬mQ a.seen r->∀u,jl ph ρ r u->u≠x/\((ph u).isSome=true->mQ bq.seen u)
theorem F9{α:Type}{p q:α->Bool}:∀{V:List α},(∀x∈V,q x=true->p x=true)->(V.filter q).length<=(V.filter p).length
 |[],_=>by simp
 |y::V,h=>by have:=F9 (p:=p) (q:=q) (V:=V) fun x af=>h x (by simp[af]);have aO:=h y Ψ;simp only[List.filter_cons];cases e:q y<;>cases aE:p y<;>simp_all<;>omega
theorem Ga{α:Type}{p q:α->Bool}{v:α}:∀{V:List α},(∀x∈V,q x=true->p x=true)->v∈V->p v=true->q v=false->(V.filter q).length<(V.filter p).length
 |[],_,h,_,_=>by simp at h
 |x::V,h,aB,bB,bm=>by
  have hle:=F9 (p:=p) (q:=q) (V:=V) fun x af=>h x (oL _ af);simp only[List.filter_cons];rcases fA.1 aB with rfl|aB
  ·simp[bB,bm];omega
  ·have:=Ga (fun x af=>h x (oL _ af)) aB bB bm;have af:=h x Ψ;cases e:q x<;>cases aE:p x<;>simp_all<;>omega
theorem apA{V:List Int}{ph:Int->ba T}{s ah:List (Int×Bool)}(h:∀z,mQ s z->mQ ah z):IP V ph ah<=IP V ph s:=
 F9 fun x _ af=>by
  simp only[cC,Bool.not_eq_true']at af⊢;refine⟨af.1,?_⟩;cases e:(c3 x s).getD false with
  |false=>rfl
  |true=>have:=h x e;unfold mQ at this;rw[af.2]at this;cases this
theorem LZ{s:List (Int×Bool)}{r z:Int}:mQ (eK r true s) z↔z=r\/mQ s z:=by unfold mQ;rw[nU];by_cases h:z=r<;>simp[h]
theorem aog{V:List Int}{ph:Int->ba T}{ρ:Int->Int}{x:Int}(gU:oS V ph)(k:Nat):∀(t:T) (a:uH),jM a.c.up ρ->cx a.c.up=V->a.c.ph=ph->(∀w,t.occ w=true->w∈V)->IP V ph a.seen<=k->
  ∃N bq,(∀n,N<=n->t.foldO (xu (qa n x) x) a=some bq)/\aaM V ph ρ x (fun w=>t.occ w=true) a bq:=by
 induction k using Nat.strongRecOn with
 |ind k LY=>
 intro t;induction t with
 |var v=>
  intro a mn ad jF aN DA;obtain⟨bK,J,U⟩:=uj mn (by rw[ad];exact aN v (by simp[T.occ]));have j9:bK.shd (ρ v)=(ph (ρ v)).isSome:=by rw[U.shd,<-jF];simp only[bA.ph];split<;>simp_all
  by_cases aJ:a.found=true\/ρ v=x
  ·refine⟨0,⟨bK,a.seen,true⟩,fun n _=>by simp[T.foldO,xu,J,aJ],U,fun z bp=>bp,fun _=>?_,fun _=>rfl,fun h=>by cases h⟩;rcases aJ with aJ|aJ
   ·exact .inl aJ
   ·exact .inr ⟨v,by simp[T.occ],by rw[aJ];exact .refl _⟩
  ·by_cases ag:(c3 (ρ v) a.seen).getD false=false/\bK.shd (ρ v)=true
   ·have GL:ph (ρ v)=some (bK.shp (ρ v)):=by rw[<-jF];simp only[bA.ph,U.shp];rw[if_pos (by rw[<-U.shd];exact ag.2)]
    obtain⟨g1,g2,g3⟩:=gU _ _ GL;have bD:IP V ph (eK (ρ v) true a.seen)<k:=by
     refine Nat.lt_of_lt_of_le (Ga (v:=ρ v) (fun z _ bp=>?_) g3 ?_ ?_) DA
     ·simp only[cC,Bool.not_eq_true']at bp⊢;refine⟨bp.1,?_⟩;rw[nU]at bp;by_cases e:z=ρ v
      ·subst e;exact ag.1
      ·rw[if_neg e]at bp;exact bp.2
     ·simp[GL,ag.1]
     ·simp[nU]
    obtain⟨N,bq,al,cV⟩:=LY _ bD (bK.shp (ρ v)) ⟨bK,eK (ρ v) true a.seen,false⟩ U.ru (by rw[U.keys];exact ad) (by rw[U.ph];exact jF) g2 (e7 _);refine⟨N+1,bq,fun n ax=>?_,U.trans cV.sm,fun z bp=>cV.sub z (LZ.2 (.inr bp)),fun aO=>?_,fun h=>absurd (.inl h) aJ,fun cI=>?_⟩
    ·obtain⟨n',rfl⟩:∃n',n=n'+1:=⟨n-1,Ω⟩;simp only[T.foldO,xu,J,lf,if_neg aJ,if_pos ag,qa];exact al n' Ω
    ·rcases cV.yes aO with h|⟨w,bc,bE⟩
     ·cases h
     ·exact .inr ⟨v,by simp[T.occ],.step ⟨by rw[jM.idem mn],_,w,GL,bc,rfl⟩ bE⟩
    ·obtain⟨bc,bE⟩:=cV.no cI;have jE:mQ bq.seen (ρ v):=cV.sub _ (LZ.2 (.inl rfl));refine⟨fun w hw=>?_,fun r aM dS u hu=>?_⟩
     ·simp[T.occ]at hw;subst hw;exact⟨fun e=>aJ (.inr e),fun _=>jE⟩
     ·by_cases q3:r=ρ v
      ·subst q3;obtain⟨_,dZ,w,la,z2,rfl⟩:=hu;rw[GL]at la;cases la;exact bc w z2
      ·exact bE r aM (fun h=>(LZ.1 h).elim q3 dS) u hu
   ·have C8:a.found=false:=by cases e:a.found with
     |false=>rfl
     |true=>exact absurd (.inl e) aJ
    refine⟨0,⟨bK,a.seen,a.found⟩,fun n _=>by simp only[T.foldO,xu,J,lf,if_neg aJ,if_neg ag],U,fun z bp=>bp,fun h=>.inl h,fun h=>h,fun _=>⟨fun w hw=>?_,fun r J U=>absurd J U⟩⟩;simp[T.occ]at hw;subst hw;refine⟨fun e=>aJ (.inr e),fun bB=>?_⟩;unfold mQ;cases e:(c3 (ρ v) a.seen).getD false with
    |true=>rfl
    |false=>exact absurd ⟨e,by rw[j9];exact bB⟩ ag
 |pair p q aiQ aiR=>
  intro a mn ad jF aN DA;obtain⟨hS,bC,al,cV⟩:=aiQ a mn ad jF (fun w hw=>aN w (by simp[T.occ,hw])) DA;obtain⟨jn,a2,aE,dC⟩:=aiR bC cV.sm.ru (by rw[cV.sm.keys];exact ad) (by rw[cV.sm.ph];exact jF) (fun w hw=>aN w (by simp[T.occ,hw])) (kB (apA cV.sub) DA);refine⟨max hS jn,a2,fun n ax=>by simp only[T.foldO];rw[al n Ω];exact aE n Ω,cV.sm.trans dC.sm,fun z bp=>dC.sub z (cV.sub z bp),fun aO=>?_,fun h=>dC.kept (cV.kept h),fun cI=>?_⟩
  ·rcases dC.yes aO with h|⟨w,bc,bE⟩
   ·rcases cV.yes h with h|⟨w,bc,bE⟩
    ·exact .inl h
    ·exact .inr ⟨w,by simp[T.occ,bc],bE⟩
   ·exact .inr ⟨w,by simp[T.occ,bc],bE⟩
  ·have agY:bC.found=false:=by cases e:bC.found with
    |false=>rfl
    |true=>have:=dC.kept e;rw[cI]at this;cases this
   obtain⟨dy,fb⟩:=cV.no agY;obtain⟨s1,s2⟩:=dC.no cI;refine⟨fun w hw=>?_,fun r aM dS u hu=>?_⟩
   ·simp only[T.occ,lH]at hw;rcases hw with hw|hw
    ·exact⟨(dy w hw).1,fun h=>dC.sub _ ((dy w hw).2 h)⟩
    ·exact s1 w hw
   ·by_cases h:mQ bC.seen r
    ·exact⟨(fb r h dS u hu).1,fun cz=>dC.sub _ ((fb r h dS u hu).2 cz)⟩
    ·exact s2 r aM h u hu
 |_=>intro a mn ad jF aN DA;exact⟨0,a,fun n _=>rfl,iS.refl mn,fun z bp=>bp,fun h=>.inl h,fun h=>h,fun _=>⟨fun w hw=>by simp[T.occ]at hw,fun r J U=>absurd J U⟩⟩
theorem Ib{ρ:Int->Int}{x:Int}{c:bA}{t:T}(mn:jM c.up ρ)(gU:oS (cx c.up) c.ph)(aN:∀w,t.occ w=true->w∈cx c.up):
  ∃N a,(∀n,N<=n->qa n x t c []=some a)/\iS ρ c a.c/\(a.found=true↔∃w,t.occ w=true/\nm (jl c.ph ρ) (ρ w) x):=by
 obtain⟨N,a,J,U⟩:=aog (x:=x) gU _ t ⟨c,[],false⟩ mn rfl rfl aN (e7 _);refine⟨N+1,a,fun n ax=>?_,U.sm,fun h=>?_,fun⟨w,hw,aM⟩=>?_⟩
 ·obtain⟨n',rfl⟩:∃n',n=n'+1:=⟨n-1,Ω⟩;exact J n' Ω
 ·rcases U.yes h with h|h
  ·cases h
  ·exact h
 ·cases e:a.found with
  |true=>rfl
  |false=>
   obtain⟨bc,bE⟩:=U.no e;have key:∀z,nm (jl c.ph ρ) z x->z≠x->((c.ph z).isSome=true->mQ a.seen z)->e1:=by
    have:∀z y,nm (jl c.ph ρ) z y->y=x->z≠x->((c.ph z).isSome=true->mQ a.seen z)->e1:=by
     intro z y aO;induction aO with
     |refl z=>intro h cf;exact absurd h cf
     | @step z b cw he _ bR=>intro af cM jE;obtain⟨_,dZ,w',la,_,_⟩:=id he;have ag:=jE (by simp[la]);obtain⟨g1,g2⟩:=bE z ag (by simp[mQ,c3]) b he;exact bR af g1 g2
    exact fun z bp=>this z x bp rfl
   exact(key _ aM (bc w hw).1 (bc w hw).2).elim
end
section
open Go
theorem aaZ{E:Int->Int->Prop}{x:Int}{r:Int->Nat}{M:Nat}(h:∀z u,z≠x->E z u->r u<r z)(eb:∀u,E x u->r u<M)(ax:∀u,E x u->¬nm E u x):∃eT:Int->Nat,∀z u,E z u->eT u<eT z:=by
 classical
 refine⟨fun z=>if nm E z x then r z+M else r z,fun z u he=>?_⟩;show(if nm E u x then r u+M else r u)<(if nm E z x then r z+M else r z);by_cases bp:z=x
 ·subst bp;have J:=ax u he;have U:=eb u he;rw[if_neg J,if_pos (nm.refl z)];omega
 ·have J:=h z u bp he;by_cases hu:nm E u x
  ·rw[if_pos hu,if_pos (nm.step he hu)];omega
  ·rw[if_neg hu];split<;>omega
def nt(ph:Int->ba T)(ρ:Int->Int):Nat->Int->T
 |0,v=>.var (ρ v)
 |n+1,v=>match ph (ρ v)with
  |none=>.var (ρ v)
  |some t=>t.ap (nt ph ρ n)
section
variable {ph:Int->ba T} {ρ:Int->Int} {r:Int->Nat}
theorem adA(e5:∀v,ρ (ρ v)=ρ v):∀(n:Nat) (v:Int),nt ph ρ n v=nt ph ρ n (ρ v)
 |0,v=>by simp[nt,e5]
 |n+1,v=>by simp[nt,e5]
theorem S8(e5:∀v,ρ (ρ v)=ρ v)(aM:∀z u,jl ph ρ z u->r u<r z):∀(n:Nat) (v:Int),r (ρ v)<n->nt ph ρ n v=nt ph ρ (n+1) v
 |0,_,h=>Ω
 |n+1,v,h=>by
  show(match ph (ρ v)with|none=>T.var (ρ v)|some t=>t.ap (nt ph ρ n))=(match ph (ρ v)with|none=>T.var (ρ v)|some t=>t.ap (nt ph ρ (n+1)));cases e:ph (ρ v)with
  |none=>rfl
  |some t=>refine uP fun w hw=>S8 e5 aM n w ?_;have:=aM (ρ v) (ρ w) ⟨e5 v,t,w,e,hw,rfl⟩;omega
theorem S7(e5:∀v,ρ (ρ v)=ρ v)(aM:∀z u,jl ph ρ z u->r u<r z){n:Nat}{v:Int}(h:r (ρ v)<n):∀k,nt ph ρ (n+k) v=nt ph ρ n v
 |0=>rfl
 |k+1=>by rw[<-S7 e5 aM h k];exact(S8 e5 aM (n+k) v Ω).symm
def hh(ph:Int->ba T)(ρ:Int->Int)(r:Int->Nat)(v:Int):T:=nt ph ρ (r (ρ v)+1) v
theorem Ar(e5:∀v,ρ (ρ v)=ρ v)(v:Int):hh ph ρ r v=hh ph ρ r (ρ v):=by unfold hh;rw[adA e5,e5]
theorem CV{v:Int}(h:ph (ρ v)=none):hh ph ρ r v= .var (ρ v):=by simp[hh,nt,h]
theorem Au(e5:∀v,ρ (ρ v)=ρ v)(aM:∀z u,jl ph ρ z u->r u<r z){v:Int}{t:T}(h:ph (ρ v)=some t):hh ph ρ r v=t.ap (hh ph ρ r):=by show nt ph ρ (r (ρ v)+1) v=_;simp only[nt,h];refine uP fun w hw=>?_;have J:=aM (ρ v) (ρ w) ⟨e5 v,t,w,h,hw,rfl⟩;have:=S7 e5 aM (n:=r (ρ w)+1) (v:=w) Ω (r (ρ v)-(r (ρ w)+1));rw[show r (ρ w)+1+(r (ρ v)-(r (ρ w)+1))=r (ρ v)from by omega]at this;exact this
theorem agW(e5:∀v,ρ (ρ v)=ρ v)(aM:∀z u,jl ph ρ z u->r u<r z):kp ph ρ (hh ph ρ r):=⟨Ar e5,fun x t af h=>Au e5 aM (by rw[af];exact h)⟩
theorem IA{V:List Int}(gU:oS V ph){aQ:Int->T}(h:kp ph ρ aQ){z u:Int}(he:jl ph ρ z u):(aQ u).size<(aQ z).size:=by obtain⟨J,t,w,U,au,rfl⟩:=he;rw[h.2 z t J U,<-h.1 w];exact(Bt aQ au).2 (gU z t U).1
theorem IB{V:List Int}(gU:oS V ph){aQ:Int->T}(h:kp ph ρ aQ){z u:Int}(he:nm (jl ph ρ) z u):(aQ u).size<=(aQ z).size:=by
 induction he with
 |refl=>exact e7 _
 |step J _ bR=>have:=IA gU h J;omega
end
theorem abx(r:Int->Nat)(t:T):∃M,∀w,t.occ w=true->r w<M:=by
 induction t with
 |var n=>exact⟨r n+1,fun w hw=>by simp[T.occ]at hw;subst hw;omega⟩
 |pair a b ds dv=>
  obtain⟨aaI,J⟩:=ds;obtain⟨aaJ,U⟩:=dv;refine⟨aaI+aaJ,fun w hw=>?_⟩;simp only[T.occ,lH]at hw;rcases hw with hw|hw
  ·have:=J w hw;omega
  ·have:=U w hw;omega
 |_=>exact⟨0,fun w hw=>by simp[T.occ]at hw⟩
theorem EG{ph:Int->ba T}{ρ:Int->Int}(e5:∀v,ρ (ρ v)=ρ v){x:Int}{r:Int->Nat}(h:∀z u,z≠x->jl ph ρ z u->r u<r z)(ax:∀u,jl ph ρ x u->¬nm (jl ph ρ) u x):∃aQ,kp ph ρ aQ:=by
 have eb:∃M,∀u,jl ph ρ x u->r u<M:=by
  cases e:ph x with
  |none=>exact⟨0,fun u ⟨_,t,w,J,_⟩=>by rw[e]at J;cases J⟩
  |some t=>obtain⟨M,eb⟩:=abx (fun w=>r (ρ w)) t;refine⟨M,fun u ⟨_,dZ,w,J,U,au⟩=>?_⟩;rw[e]at J;cases J;subst au;exact eb w U
 obtain⟨M,eb⟩:=eb;obtain⟨eT,dS⟩:=aaZ h eb ax;exact⟨_,agW e5 dS⟩
structure me (c:bA) (ρ:Int->Int):Prop where
 ru:jM c.up ρ
 sh:oS (cx c.up) c.ph
 sat:∃aQ,kp c.ph ρ aQ
theorem me.sm{c cw:bA}{ρ:Int->Int}(h:me c ρ)(k:iS ρ c cw):me cw ρ:=⟨k.ru,by rw[k.keys,k.ph];exact h.sh,by rw[k.ph];exact h.sat⟩
def iF(c:bA)(ρ:Int->Int):Nat:=((cx c.up).filter fun v=>decide (ρ v=v)).length+((cx c.up).filter fun v=>decide (ρ v=v)&& !(c.ph v).isSome).length
theorem xQ{c cw:bA}{ρ:Int->Int}(k:iS ρ c cw):iF cw ρ=iF c ρ:=by unfold iF;rw[k.keys,k.ph]
structure jm (c:bA) (ρ:Int->Int) (p:(Int->T)->Prop) (o:Bool×bA):Prop where
 keys:cx o.2.up=cx c.up
 rest:o.2.color=c.color/\o.2.size=c.size/\o.2.full=c.full
 yes:o.1=true->∃ρ',me o.2 ρ'/\(∀aQ,kp o.2.ph ρ' aQ↔kp c.ph ρ aQ/\p aQ)/\((ρ'=ρ/\o.2.ph=c.ph)\/iF o.2 ρ'<iF c ρ)
 no:o.1=false->∀aQ,kp c.ph ρ aQ->¬p aQ
theorem iS.rest{ρ:Int->Int}{c cw:bA}(h:iS ρ c cw):cw.color=c.color/\cw.size=c.size/\cw.full=c.full:=by rw[h.eq];exact⟨rfl,rfl,rfl⟩
theorem jm.sm{c cw:bA}{ρ:Int->Int}{p:(Int->T)->Prop}{o:Bool×bA}(k:iS ρ c cw)(h:jm cw ρ p o):jm c ρ p o:=⟨h.keys.trans k.keys,by rw[h.rest.1,h.rest.2.1,h.rest.2.2];exact k.rest,fun e=>by rw[<-xQ k,<-k.ph];exact h.yes e,by rw[<-k.ph];exact h.no⟩
theorem jm.congr{c:bA}{ρ:Int->Int}{p q:(Int->T)->Prop}{o:Bool×bA}(kL:∀aQ,kp c.ph ρ aQ->(p aQ↔q aQ))(h:jm c ρ p o):jm c ρ q o:=⟨h.keys,h.rest,fun e=>by obtain⟨ρ',J,U,au⟩:=h.yes e;exact⟨ρ',J,fun aQ=>(U aQ).trans (and_congr_right fun ag=>kL aQ ag),au⟩,fun e aQ ag bm=>h.no e aQ ag ((kL aQ ag).2 bm)⟩
theorem xl(c:bA)(x:Int)(t:T)(z:Int):(c.know x t).ph z=if z=x then some t else c.ph z:=by
 simp only[bA.ph,bA.know,bA.shd,bA.shp,nU];by_cases h:z=x
 ·simp[h]
 ·simp only[if_neg h];exact ite_congr rfl (fun _=>rfl) fun _=>rfl
theorem V8{c:bA}{ρ:Int->Int}(hi:me c ρ){x:Int}(af:ρ x=x)(ad:x∈cx c.up)(jF:c.ph x=none){t:T}(aN:t.kind≠1)(aB:∀w,t.occ w=true->w∈cx c.up):
  ∃N o,(∀n,N<=n->vt n x t c=some o)/\jm c ρ (fun aQ=>aQ x=t.ap aQ) o:=by
 have gU:oS (cx (c.know x t).up) (c.know x t).ph:=by
  intro z u bp;rw[xl]at bp;split at bp
  ·rename_i e;cases bp;subst e;exact⟨aN,aB,ad⟩
  ·exact hi.sh z u bp
 have lv:∀aQ,kp (c.know x t).ph ρ aQ↔kp c.ph ρ aQ/\aQ x=t.ap aQ:=by
  intro aQ;constructor
  ·rintro⟨J,U⟩;refine⟨⟨J,fun z u bp hu=>U z u bp ?_⟩,U x t af (by rw[xl];simp)⟩;rw[xl];split
   ·rename_i e;subst e;rw[jF]at hu;cases hu
   ·exact hu
  ·rintro⟨⟨J,U⟩,au⟩;refine⟨J,fun z u bp hu=>?_⟩;rw[xl]at hu;split at hu
   ·rename_i e;subst e;cases hu;exact au
   ·exact U z u bp hu
 obtain⟨N,a,J,U,au⟩:=Ib (x:=x) (c:=c.know x t) (t:=t) hi.ru gU aB;refine⟨N,(!a.found,a.c),fun n ax=>by simp[vt,J n ax],U.keys,U.rest,fun aJ=>?_,fun aJ aQ ag he=>?_⟩
 ·simp only[Bool.not_eq_true']at aJ;have aib:∀u,jl (c.know x t).ph ρ x u->¬nm (jl (c.know x t).ph ρ) u x:=by rintro u ⟨_,dZ,w,bc,bE,rfl⟩ aM;rw[xl,if_pos rfl]at bc;cases bc;have:=au.2 ⟨w,bE,aM⟩;rw[aJ]at this;cases this
  obtain⟨lb,vn⟩:=hi.sat
  have air:=EG (ph:=(c.know x t).ph) (ρ:=ρ) hi.ru.idem (x:=x) (r:=fun z=>(lb z).size) (fun z u bp he=>by refine IA hi.sh vn ?_;obtain⟨al,dZ,w,aE,bn⟩:=he;rw[xl,if_neg bp]at aE;exact⟨al,dZ,w,aE,bn⟩) aib
  refine⟨ρ,⟨U.ru,?_,?_⟩,fun aQ=>?_,.inr ?_⟩
  ·simp only[U.keys,U.ph];exact gU
  ·simp only[U.ph];exact air
  ·simp only[U.ph];exact lv aQ
  ·simp only[xQ U];unfold iF;have al:cx (c.know x t).up=cx c.up:=rfl;rw[al];have:=Ga (V:=cx c.up) (v:=x) (p:=fun v=>decide (ρ v=v)&& !(c.ph v).isSome) (q:=fun v=>decide (ρ v=v)&& !((c.know x t).ph v).isSome) (fun z _ bp=>by
    rw[xl]at bp;split at bp
    ·simp at bp
    ·exact bp) ad (by simp[af,jF]) (by simp[xl])
   omega
 ·simp only[Bool.not_eq_false']at aJ;obtain⟨w,bc,bE⟩:=au.1 aJ;have ei:=(lv aQ).2 ⟨ag,he⟩;have:=IB gU ei bE;have a6:=(Bt aQ bc).2 aN;rw[<-he]at a6;rw[<-ag.1 w]at this;omega
def jt(ρ:Int->Int)(x y:Int)(v:Int):Int:=if ρ v=y then x else ρ v
section
variable {c:bA} {ρ:Int->Int} {x y:Int}
theorem qz(af:ρ x=x)(aO:ρ y=y)(h3:x≠y){z:Int}:jt ρ x y z=z↔ρ z=z/\z≠y:=by
 unfold jt;split
 ·rename_i e;constructor
  ·intro h;subst h;rw[af]at e;exact absurd e h3
  ·rintro⟨J,U⟩;rw[J]at e;exact absurd e U
 ·rename_i e;constructor
  ·intro h;exact⟨h,fun aE=>e (by rw[aE,aO])⟩
  ·exact fun h=>h.1
theorem jM.join(h:jM c.up ρ)(af:ρ x=x)(aO:ρ y=y)(h3:x<y)(yX:x∈cx c.up)(sC:y∈cx c.up):jM (c.join x y).up (jt ρ x y):=by
 have ad:cx (c.join x y).up=cx c.up:=DO sC;refine⟨fun v u aB=>?_,fun v aB=>?_⟩
 ·rw[ad];have mo:c3 v (eK y x c.up)=some u:=aB;rw[nU]at mo;by_cases e:v=y
  ·subst e;rw[if_pos rfl]at mo;cases mo;have bs:=(h.mem yX).2;rw[af]at bs;refine⟨⟨bs,Ω,yX⟩,?_,⟨fun e=>?_,fun e=>Ω⟩⟩
   ·unfold jt;rw[af,aO,if_pos rfl,if_neg Ω]
   ·have:=((qz af aO Ω).1 e).2;exact absurd rfl this
  ·rw[if_neg e]at mo;obtain⟨bC,a2,a3⟩:=h.up v u mo;refine⟨bC,by unfold jt;rw[a2],?_⟩;rw[qz af aO Ω,a3];exact⟨fun h=>h.1,fun h=>⟨h,e⟩⟩
 ·rw[ad]at aB;have:=h.no v aB;unfold jt;rw[this,if_neg fun e=>aB (by rw[e];exact sC)]
theorem aoR{ph:Int->ba T}(af:ρ x=x)(aO:ρ y=y)(h3:x≠y)(aQ:Int->T):(kp ph (jt ρ x y) aQ/\∀t,ph y=some t->aQ x=t.ap aQ)↔(kp ph ρ aQ/\aQ x=aQ y):=by
 constructor
 ·rintro⟨⟨J,U⟩,au⟩;have LW:aQ y=aQ x:=by have:=J y;simpa[jt,aO]using this
  refine⟨⟨fun v=>?_,fun z t bp aN=>?_⟩,LW.symm⟩
  ·have:=J v;unfold jt at this;split at this
   ·rename_i e;rw[e,this,LW]
   ·exact this
  ·by_cases e:z=y
   ·subst e;rw[LW];exact au t aN
   ·exact U z t ((qz af aO h3).2 ⟨bp,e⟩) aN
 ·rintro⟨⟨J,U⟩,au⟩;refine⟨⟨fun v=>?_,fun z t bp aN=>U z t ((qz af aO h3).1 bp).1 aN⟩,fun t aN=>by rw[au];exact U y t aO aN⟩;unfold jt;split
  ·rename_i e;rw[J v,e,au]
  ·exact J v
theorem aof{V:List Int}{ph:Int->ba T}(gU:oS V ph)(af:ρ x=x)(aO:ρ y=y)(h3:x≠y){aQ:Int->T}(h:kp ph ρ aQ){z u:Int}(bp:z≠x)(he:jl ph (jt ρ x y) z u):(if u=x then 0 else(aQ u).size)<(if z=x then 0 else(aQ z).size):=by
 obtain⟨J,t,w,U,au,rfl⟩:=he;have aM:=(qz af aO h3).1 J;rw[if_neg bp];split
 ·exact T.size_pos _
 ·rename_i cM;have:jt ρ x y w=ρ w:=by
   unfold jt at cM⊢;split
   ·rename_i e;rw[if_pos e]at cM;exact absurd rfl cM
   ·rfl
  rw[this];exact IA gU h ⟨aM.1,t,w,U,au,rfl⟩
theorem aaF(af:ρ x=x)(aO:ρ y=y)(h3:x≠y)(sC:y∈cx c.up):iF (c.join x y) (jt ρ x y)<iF c ρ:=by have ad:cx (c.join x y).up=cx c.up:=DO sC;have bB:(c.join x y).ph=c.ph:=rfl;unfold iF;rw[ad,bB];have J:=Ga (V:=cx c.up) (v:=y) (p:=fun v=>decide (ρ v=v)) (q:=fun v=>decide (jt ρ x y v=v)) (fun z _ bp=>by simp only[fc]at bp⊢;exact((qz af aO h3).1 bp).1) sC (by simp[aO]) (by simp only[fJ];exact fun h=>((qz af aO h3).1 h).2 rfl);have U:=F9 (V:=cx c.up) (p:=fun v=>decide (ρ v=v)&& !(c.ph v).isSome) (q:=fun v=>decide (jt ρ x y v=v)&& !(c.ph v).isSome) (fun z _ bp=>by simp only[cC,fc]at bp⊢;exact⟨((qz af aO h3).1 bp.1).1,bp.2⟩);omega
end
theorem BD{c:bA}{x:Int}(h:c.shd x=false):c.ph x=none:=by simp[bA.ph,h]
theorem BE{c:bA}{x:Int}(h:¬c.shd x=false):c.ph x=some (c.shp x):=by simp[bA.ph];simpa using h
theorem S1{c:bA}{ρ:Int->Int}(hi:me c ρ){x y:Int}(af:ρ x=x)(aO:ρ y=y)(h3:x<y)(yX:x∈cx c.up)(sC:y∈cx c.up)
  (rec:∀(bK:bA) (lG:Int->Int),me bK lG->cx bK.up=cx c.up->iF bK lG<iF c ρ->∀a b:T,(∀w,a.occ w=true->w∈cx c.up)->(∀w,b.occ w=true->w∈cx c.up)->∃N o,(∀n,N<=n->gL n a b bK=some o)/\jm bK lG (fun aQ=>a.ap aQ=b.ap aQ) o):
  ∃N o,(∀n,N<=n->r2 (gL n) n x y (c.join x y)=some o)/\jm c ρ (fun aQ=>aQ x=aQ y) o:=by
 have cM:x≠y:=Ω
 have ad:cx (c.join x y).up=cx c.up:=DO sC;have bB:(c.join x y).ph=c.ph:=rfl;have mn:=hi.ru.join af aO h3 yX sC;have c8:=aaF (c:=c) af aO cM sC;have gU:oS (cx (c.join x y).up) (c.join x y).ph:=by rw[ad,bB];exact hi.sh
 obtain⟨lb,vn⟩:=hi.sat
 have GO:∀z u,z≠x->jl c.ph (jt ρ x y) z u->(fun z=>if z=x then 0 else(lb z).size) u<(fun z=>if z=x then 0 else(lb z).size) z:=fun z u bp he=>aof hi.sh af aO cM vn bp he;have lv:=fun aQ=>aoR (ph:=c.ph) af aO cM aQ;have U2:∀{cw:bA},iS (jt ρ x y) (c.join x y) cw->(∃aQ,kp c.ph (jt ρ x y) aQ)->c.ph y=none->jm c ρ (fun aQ=>aQ x=aQ y) (true,cw):=by intro cw k ag ax;refine⟨k.keys.trans ad,k.rest,fun _=>⟨jt ρ x y,⟨k.ru,by simp only[k.keys,k.ph];exact gU,by simp only[k.ph];exact ag⟩,fun aQ=>?_,.inr (by simp only[xQ k];exact c8)⟩,fun e=>by cases e⟩;simp only[k.ph,bB];rw[<-lv aQ];exact⟨fun h=>⟨h,fun t aN=>by rw[ax]at aN;cases aN⟩,fun h=>h.1⟩
 by_cases J:(c.join x y).shd y=false
 ·have UP:c.ph y=none:=BD J;by_cases U:(c.join x y).shd x=false
  ·have oj:c.ph x=none:=BD U;refine⟨0,(true,c.join x y),fun n _=>by simp only[r2,if_pos J,if_pos U],U2 (iS.refl mn) ?_ UP⟩;exact EG mn.idem (x:=x) GO fun u ⟨_,t,w,q,_⟩=>by rw[oj]at q;cases q
  ·have oq:c.ph x=some ((c.join x y).shp x):=BE U;obtain⟨N,a,al,aE,bn⟩:=Ib (x:=x) (c:=c.join x y) (t:=(c.join x y).shp x) mn gU (by rw[ad];exact(hi.sh _ _ oq).2.1);refine⟨N,(!a.found,a.c),fun n ax=>by simp only[r2,if_pos J,if_neg U,al n ax,nl],?_⟩;cases aJ:a.found with
   |false=>refine U2 aE (EG mn.idem (x:=x) GO fun u ⟨_,t,w,bc,bE,b1⟩ aM=>?_) UP;rw[oq]at bc;cases bc;subst b1;have:=bn.2 ⟨w,bE,aM⟩;rw[aJ]at this;cases this
   |true=>refine⟨aE.keys.trans ad,aE.rest,(fun e=>by cases e),fun _ aQ ag he=>?_⟩;obtain⟨w,bc,bE⟩:=bn.1 aJ;have ei:=((lv aQ).2 ⟨ag,he⟩).1;have au:=IB hi.sh ei bE;have a6:=(Bt aQ bc).2 (hi.sh _ _ oq).1;rw[<-ei.2 x _ ((qz af aO cM).2 ⟨af,cM⟩) oq]at a6;rw[<-ei.1 w]at au;omega
 ·have ri:c.ph y=some ((c.join x y).shp y):=BE J;by_cases U:(c.join x y).shd x=false
  ·have oj:c.ph x=none:=BD U;have k2:me (c.join x y) (jt ρ x y):=⟨mn,gU,EG mn.idem (x:=x) GO fun u ⟨_,t,w,q,_⟩=>by rw[bB,oj]at q;cases q⟩;obtain⟨N,o,al,aE⟩:=V8 k2 (x:=x) ((qz af aO cM).2 ⟨af,cM⟩) (by rw[ad];exact yX) oj (t:=(c.join x y).shp y) (hi.sh _ _ ri).1 (by rw[ad];exact(hi.sh _ _ ri).2.1);refine⟨N,o,fun n ax=>by simp only[r2,if_neg J,if_pos U,al n ax],aE.keys.trans ad,aE.rest,fun aJ=>?_,fun aJ aQ ag he=>?_⟩
   ·obtain⟨ρ',g1,g2,g3⟩:=aE.yes aJ;refine⟨ρ',g1,fun aQ=>?_,.inr ?_⟩
    ·rw[g2 aQ,<-lv aQ];refine and_congr_right fun _=>⟨fun h t aN=>by rw[ri]at aN;cases aN;exact h,fun h=>h _ ri⟩
    ·rcases g3 with⟨rfl,g3⟩|g3
     ·have:iF o.2 (jt ρ x y)=iF (c.join x y) (jt ρ x y):=by unfold iF;rw[aE.keys,g3]
      omega
     ·omega
   ·obtain⟨s1,s2⟩:=(lv aQ).2 ⟨ag,he⟩;exact aE.no aJ aQ s1 (s2 _ ri)
  ·have oq:c.ph x=some ((c.join x y).shp x):=BE U;obtain⟨hS,a,al,aE,bn⟩:=Ib (x:=x) (c:=c.join x y) (t:=(c.join x y).shp y) mn gU (by rw[ad];exact(hi.sh _ _ ri).2.1);cases aJ:a.found with
   |true=>refine⟨hS,(false,a.c),fun n ax=>by simp only[r2,if_neg J,if_neg U,al n ax,lf,aJ,if_true],aE.keys.trans ad,aE.rest,(fun e=>by cases e),fun _ aQ ag he=>?_⟩;obtain⟨w,bc,bE⟩:=bn.1 aJ;obtain⟨ei,p1⟩:=(lv aQ).2 ⟨ag,he⟩;have au:=IB hi.sh ei bE;have a6:=(Bt aQ bc).2 (hi.sh _ _ ri).1;rw[<-p1 _ ri]at a6;rw[<-ei.1 w]at au;omega
   |false=>
    have U5:a.c.shp x=(c.join x y).shp x:=aE.shp x;obtain⟨jn,b,f1,f2,f3⟩:=Ib (x:=x) (c:=a.c) (t:=(c.join x y).shp x) aE.ru (by rw[aE.keys,aE.ph];exact gU) (by rw[aE.keys,ad];exact(hi.sh _ _ oq).2.1);have dG:=aE.trans f2;cases a7:b.found with
    |true=>refine⟨max hS jn,(false,b.c),fun n ax=>by simp only[r2,if_neg J,if_neg U,al n Ω,lf,aJ,U5,f1 n Ω,a7,if_true,hl,if_false],dG.keys.trans ad,dG.rest,(fun e=>by cases e),fun _ aQ ag he=>?_⟩;obtain⟨w,bc,bE⟩:=f3.1 a7;obtain⟨ei,_⟩:=(lv aQ).2 ⟨ag,he⟩;rw[aE.ph]at bE;have au:=IB hi.sh ei bE;have a6:=(Bt aQ bc).2 (hi.sh _ _ oq).1;rw[<-ei.2 x _ ((qz af aO cM).2 ⟨af,cM⟩) oq]at a6;rw[<-ei.1 w]at au;omega
    |false=>
     have AM:me b.c (jt ρ x y):=by refine⟨dG.ru,by rw[dG.keys,dG.ph];exact gU,?_⟩;rw[dG.ph];refine EG mn.idem (x:=x) GO fun u ⟨_,t,w,bc,bE,b1⟩ aM=>?_;rw[bB,oq]at bc;cases bc;subst b1;have:=f3.2 ⟨w,bE,by rw[aE.ph];exact aM⟩;rw[a7]at this;cases this
     obtain⟨zM,o,g1,g2⟩:=rec b.c (jt ρ x y) AM (dG.keys.trans ad) (by rw[xQ dG];exact c8) ((c.join x y).shp x) ((c.join x y).shp y) (hi.sh _ _ oq).2.1 (hi.sh _ _ ri).2.1;refine⟨max (max hS jn) zM,o,fun n ax=>?_,g2.keys.trans (dG.keys.trans ad),?_,fun cz=>?_,fun cz aQ ag he=>?_⟩
     ·simp only[r2,if_neg J,if_neg U,al n Ω,lf,aJ,U5,f1 n Ω,a7,hl,if_false,dG.shp];exact g1 n Ω
     ·rw[g2.rest.1,g2.rest.2.1,g2.rest.2.2];exact dG.rest
     ·obtain⟨ρ',bc,bE,b1⟩:=g2.yes cz;refine⟨ρ',bc,fun aQ=>?_,.inr ?_⟩
      ·rw[bE aQ,dG.ph,bB,<-lv aQ];refine and_congr_right fun h=>?_;have:=h.2 x _ ((qz af aO cM).2 ⟨af,cM⟩) oq;rw[<-this];exact⟨fun h t aN=>by rw[ri]at aN;cases aN;exact h,fun h=>h _ ri⟩
      ·have:iF b.c (jt ρ x y)<iF c ρ:=by rw[xQ dG];exact c8
       rcases b1 with⟨rfl,b1⟩|b1
       ·have:iF o.2 (jt ρ x y)=iF b.c (jt ρ x y):=by unfold iF;rw[g2.keys,b1]
        omega
       ·omega
     ·obtain⟨s1,s2⟩:=(lv aQ).2 ⟨ag,he⟩;refine g2.no cz aQ (by rw[dG.ph];exact s1) ?_;have:=s1.2 x _ ((qz af aO cM).2 ⟨af,cM⟩) oq;rw[<-this];exact s2 _ ri
def uW:T->T->Nat
 | .var _,_=>1
 |_,.var _=>2
 |_,_=>0
theorem acE(K:Nat):∀(m:Nat) (c:bA) (ρ:Int->Int) (a b:T) (lb:Int->T),me c ρ->kp c.ph ρ lb->(∀w,a.occ w=true->w∈cx c.up)->(∀w,b.occ w=true->w∈cx c.up)->iF c ρ=K->((a.ap lb).size+(b.ap lb).size)*3+uW a b=m->
  ∃N o,(∀n,N<=n->gL n a b c=some o)/\jm c ρ (fun aQ=>a.ap aQ=b.ap aQ) o:=by
 induction K using Nat.strongRecOn with
 |ind K aiP=>
 have Vf:∀(bK:bA) (lG:Int->Int),me bK lG->iF bK lG<K->∀a b:T,(∀w,a.occ w=true->w∈cx bK.up)->(∀w,b.occ w=true->w∈cx bK.up)->∃N o,(∀n,N<=n->gL n a b bK=some o)/\jm bK lG (fun aQ=>a.ap aQ=b.ap aQ) o:=by
  intro bK lG J U a b bu ab;obtain⟨aQ,hE⟩:=J.sat
  exact aiP _ U _ bK lG a b aQ J hE bu ab rfl rfl
 intro m;induction m using Nat.strongRecOn with
 |ind m A5=>
 intro c ρ a b lb hi vn bu ab c8 hm;have ahT:∀{a b:T},(∀n,gL (n+1) a b c=some (decide (a=b),c))->(∀aQ,a.ap aQ=a)->(∀aQ,b.ap aQ=b)->∃N o,(∀n,N<=n->gL n a b c=some o)/\jm c ρ (fun aQ=>a.ap aQ=b.ap aQ) o:=by
  intro a b J U au;refine⟨1,(decide (a=b),c),fun n ax=>?_,rfl,⟨rfl,rfl,rfl⟩,fun h=>?_,fun h aQ _ he=>?_⟩
  ·obtain⟨n',rfl⟩:∃n',n=n'+1:=⟨n-1,Ω⟩;exact J n'
  ·simp only[fc]at h;subst h;exact⟨ρ,hi,fun aQ=>⟨fun h=>⟨h,rfl⟩,fun h=>h.1⟩,.inl ⟨rfl,rfl⟩⟩
  ·simp only[fJ]at h;rw[U,au]at he;exact h he
 have Ui:∀{a b:T},(∀n,gL (n+1) a b c=some (decide (a=b),c))->(∀aQ,a.ap aQ≠b.ap aQ)->a≠b->∃N o,(∀n,N<=n->gL n a b c=some o)/\jm c ρ (fun aQ=>a.ap aQ=b.ap aQ) o:=by intro a b J U au;refine⟨1,(false,c),fun n ax=>?_,rfl,⟨rfl,rfl,rfl⟩,(fun h=>by cases h),fun _ aQ _ he=>U aQ he⟩;obtain⟨n',rfl⟩:∃n',n=n'+1:=⟨n-1,Ω⟩;rw[J n',hG au]
 have wV:∀(i:Int) (b:T),b.kind≠1->(∀n,gL (n+1) (.var i) b c=(rt c i).bind fun p=>if p.2.shd p.1=false then vt n p.1 b p.2 else gL n (p.2.shp p.1) b p.2)->i∈cx c.up->(∀w,b.occ w=true->w∈cx c.up)->((lb i).size+(b.ap lb).size)*3<m->∃N o,(∀n,N<=n->gL n (.var i) b c=some o)/\jm c ρ (fun aQ=>aQ i=b.ap aQ) o:=by
  intro i b o2 Ul w5 ab bD;obtain⟨bK,al,aU⟩:=uj hi.ru w5;have k2:=hi.sm aU;by_cases ag:bK.shd (ρ i)=false
  ·obtain⟨N,o,aE,dC⟩:=V8 k2 (x:=ρ i) (hi.ru.idem i) (by rw[aU.keys];exact(hi.ru.mem w5).1) (BD ag) o2 (by rw[aU.keys];exact ab);refine⟨N+1,o,fun n ax=>?_,jm.sm aU (jm.congr (fun aQ h=>?_) dC)⟩
   ·obtain⟨n',rfl⟩:∃n',n=n'+1:=⟨n-1,Ω⟩;rw[Ul,al];simp only[lf,if_pos ag];exact aE n' Ω
   ·rw[<-h.1 i]
  ·have oq:bK.ph (ρ i)=some (bK.shp (ρ i)):=BE ag;have lv:∀aQ,kp bK.ph ρ aQ->aQ i=(bK.shp (ρ i)).ap aQ:=fun aQ h=>by rw[h.1 i];exact h.2 _ _ (hi.ru.idem i) oq
   have hD:=(k2.sh _ _ oq).1;have ahy:uW (bK.shp (ρ i)) b=0:=by cases e:bK.shp (ρ i)<;>cases b<;>simp_all[uW,T.kind]
   have Vc:kp bK.ph ρ lb:=by rw[aU.ph];exact vn
   obtain⟨N,o,aE,dC⟩:=A5 (((bK.shp (ρ i)).ap lb).size*3+(b.ap lb).size*3) (by rw[<-lv lb Vc];omega) bK ρ (bK.shp (ρ i)) b lb k2 Vc (k2.sh _ _ oq).2.1 (by rw[aU.keys];exact ab) (by rw[xQ aU];exact c8) (by rw[ahy];omega);refine⟨N+1,o,fun n ax=>?_,jm.sm aU (jm.congr (fun aQ h=>?_) dC)⟩
   ·obtain⟨n',rfl⟩:∃n',n=n'+1:=⟨n-1,Ω⟩;rw[Ul,al];simp only[lf,if_neg ag];exact aE n' Ω
   ·rw[lv aQ h]
 have DC:∀(i j:Int),i∈cx c.up->j∈cx c.up->∃N o,(∀n,N<=n->gL n (.var i) (.var j) c=some o)/\jm c ρ (fun aQ=>aQ i=aQ j) o:=by
  intro i j w5 Hg;obtain⟨bK,al,aU⟩:=uj hi.ru w5;obtain⟨cq,aE,bo⟩:=uj aU.ru (by rw[aU.keys];exact Hg:j∈cx bK.up);have tS:=aU.trans bo;have fM:=hi.sm tS;have wH:ρ i∈cx cq.up:=by rw[tS.keys];exact(hi.ru.mem w5).1
  have Uy:ρ j∈cx cq.up:=by rw[tS.keys];exact(hi.ru.mem Hg).1
  have wO:∀(bK:bA) (lG:Int->Int),me bK lG->cx bK.up=cx cq.up->iF bK lG<iF cq ρ->∀a b:T,(∀w,a.occ w=true->w∈cx cq.up)->(∀w,b.occ w=true->w∈cx cq.up)->∃N o,(∀n,N<=n->gL n a b bK=some o)/\jm bK lG (fun aQ=>a.ap aQ=b.ap aQ) o:=fun da ρ3 J U au a b bu ab=>Vf da ρ3 J (by rw[xQ tS,c8]at au;exact au) a b (by rw[U];exact bu) (by rw[U];exact ab);rcases Int.lt_trichotomy (ρ i) (ρ j)with h|h|h
  ·obtain⟨N,o,bn,jg⟩:=S1 fM (hi.ru.idem i) (hi.ru.idem j) h wH Uy wO;refine⟨N+1,o,fun n ax=>?_,jm.sm tS (jm.congr (fun aQ h=>?_) jg)⟩
   ·obtain⟨n',rfl⟩:∃n',n=n'+1:=⟨n-1,Ω⟩;simp only[gL,al,aE,lf];rw[if_neg Ω,if_neg Ω];exact bn n' Ω
   ·rw[h.1 i,h.1 j]
  ·refine⟨1,(true,cq),fun n ax=>?_,tS.keys,tS.rest,fun _=>⟨ρ,fM,fun aQ=>?_,.inl ⟨rfl,tS.ph⟩⟩,fun e=>by cases e⟩
   ·obtain⟨n',rfl⟩:∃n',n=n'+1:=⟨n-1,Ω⟩;simp only[gL,al,aE,lf,if_pos h]
   ·simp only[tS.ph];exact⟨fun ag=>⟨ag,by rw[ag.1 i,ag.1 j,h]⟩,fun ag=>ag.1⟩
  ·obtain⟨N,o,bn,jg⟩:=S1 fM (hi.ru.idem j) (hi.ru.idem i) h Uy wH wO;refine⟨N+1,o,fun n ax=>?_,jm.sm tS (jm.congr (fun aQ h=>?_) jg)⟩
   ·obtain⟨n',rfl⟩:∃n',n=n'+1:=⟨n-1,Ω⟩;simp only[gL,al,aE,lf];rw[if_neg Ω,if_pos h];exact bn n' Ω
   ·rw[h.1 i,h.1 j];exact⟨Eq.symm,Eq.symm⟩
 have AZ:∀(a:T) (j:Int),a.kind≠1->(∀n,gL (n+1) a (.var j) c=gL n (.var j) a c)->(∀n,gL (n+1) (.var j) a c=(rt c j).bind fun p=>if p.2.shd p.1=false then vt n p.1 a p.2 else gL n (p.2.shp p.1) a p.2)->j∈cx c.up->(∀w,a.occ w=true->w∈cx c.up)->((lb j).size+(a.ap lb).size)*3<m->∃N o,(∀n,N<=n->gL n a (.var j) c=some o)/\jm c ρ (fun aQ=>a.ap aQ=aQ j) o:=by intro a j J U au Hg bu bD;obtain⟨N,o,al,cV⟩:=wV j a J au Hg bu bD;refine⟨N+1,o,fun n ax=>?_,jm.congr (fun aQ _=>⟨Eq.symm,Eq.symm⟩) cV⟩;obtain⟨n',rfl⟩:∃n',n=n'+1:=⟨n-1,Ω⟩;rw[U];exact al n' Ω
 cases a with
 |var i=>
  have w5:i∈cx c.up:=bu i (by simp[T.occ]);cases b with
  |var j=>exact DC i j w5 (ab j (by simp[T.occ]))
  |_=>exact wV i _ (by simp[T.kind]) (fun n=>rfl) w5 ab (by simp only[T.ap,uW]at hm⊢;omega)
 |pair bC a2=>
  cases b with
  |var j=>exact AZ _ j (by simp[T.kind]) (fun n=>rfl) (fun n=>rfl) (ab j (by simp[T.occ])) bu (by simp only[T.ap,uW]at hm⊢;omega)
  |pair ch ca=>
   have tF:∀p q:T,uW p q<=2:=fun p q=>by cases p<;>cases q<;>simp[uW]
   have ln:∀w,bC.occ w=true->w∈cx c.up:=fun w hw=>bu w (by simp[T.occ,hw]);have qq:∀w,a2.occ w=true->w∈cx c.up:=fun w hw=>bu w (by simp[T.occ,hw]);have lP:∀w,ch.occ w=true->w∈cx c.up:=fun w hw=>ab w (by simp[T.occ,hw]);have pW:∀w,ca.occ w=true->w∈cx c.up:=fun w hw=>ab w (by simp[T.occ,hw]);simp only[T.ap,T.size,uW]at hm;have f1:=tF bC ch;have f2:=tF a2 ca;obtain⟨hS,gP,al,cV⟩:=A5 _ (by rw[<-hm];omega) c ρ bC ch lb hi vn ln lP c8 rfl;obtain⟨akB,bK⟩:=gP;cases akB with
   |false=>refine⟨hS+1,(false,bK),fun n ax=>?_,cV.keys,cV.rest,(fun e=>by cases e),fun _ aQ ag he=>cV.no rfl aQ ag (by simp only[T.ap,T.pair.injEq]at he;exact he.1)⟩;obtain⟨n',rfl⟩:∃n',n=n'+1:=⟨n-1,Ω⟩;simp only[gL,al n' Ω,lf,hl,if_false]
   |true=>
    obtain⟨lG,bc,bE,b1⟩:=cV.yes rfl;simp only at bc bE b1;have yy:cx bK.up=cx c.up:=cV.keys;have Du:∃jn gF,(∀n,jn<=n->gL n a2 ca bK=some gF)/\jm bK lG (fun aQ=>a2.ap aQ=ca.ap aQ) gF:=by
     rcases b1 with⟨rfl,b1⟩|b1
     ·exact A5 _ (by rw[<-hm];omega) bK lG a2 ca lb bc (by rw[b1];exact vn) (by rw[yy];exact qq) (by rw[yy];exact pW) (by unfold iF;rw[yy,b1];exact c8) rfl
     ·exact Vf bK lG bc Ω a2 ca (by rw[yy];exact qq) (by rw[yy];exact pW)
    obtain⟨jn,gF,aE,dC⟩:=Du;refine⟨max hS jn+1,gF,fun n ax=>?_,dC.keys.trans yy,?_,fun aJ=>?_,fun aJ aQ ag he=>?_⟩
    ·obtain⟨n',rfl⟩:∃n',n=n'+1:=⟨n-1,Ω⟩;simp only[gL,al n' Ω,lf,if_true];exact aE n' Ω
    ·rw[dC.rest.1,dC.rest.2.1,dC.rest.2.2];exact cV.rest
    ·obtain⟨ρ2,s1,s2,s3⟩:=dC.yes aJ;refine⟨ρ2,s1,fun aQ=>?_,?_⟩
     ·rw[s2 aQ,bE aQ];simp only[T.ap,T.pair.injEq,and_assoc]
     ·rcases b1 with⟨rfl,b1⟩|b1
      ·rcases s3 with⟨rfl,s3⟩|s3
       ·exact .inl ⟨rfl,s3.trans b1⟩
       ·have:iF bK lG=iF c lG:=by unfold iF;rw[yy,b1]
        exact .inr Ω
      ·rcases s3 with⟨rfl,s3⟩|s3
       ·have:iF gF.2 ρ2=iF bK ρ2:=by unfold iF;rw[dC.keys,s3]
        exact .inr Ω
       ·exact .inr Ω
    ·simp only[T.ap,T.pair.injEq]at he;exact dC.no aJ aQ ((bE aQ).2 ⟨ag,he.1⟩) he.2
  |_=>exact Ui (fun n=>rfl) (fun aQ=>by simp[T.ap]) Ψ
 |_=>
  cases b with
  |var j=>exact AZ _ j (by simp[T.kind]) (fun n=>rfl) (fun n=>rfl) (ab j (by simp[T.occ])) bu (by simp only[T.ap,uW]at hm⊢;omega)
  |_=>first|exact ahT (fun n=>rfl) (fun aQ=>rfl) (fun aQ=>rfl)|exact Ui (fun n=>rfl) (fun aQ=>by simp[T.ap]) Ψ
end
section
open Go
def zF(rec:Int->bA->ba (Bool×bA))(v:Int)(a:bA×Bool):ba (bA×Bool):=if a.2=true then(rt a.1 v).bind fun p=>(rec p.1 p.2).map fun q=>(q.2,q.1)else some a
def zv(v:Int)(c:bA):ba (Int×bA):=(rt c v).map fun p=>(p.2.sz p.1,p.2)
def bA.grey(c:bA)(x:Int):bA:={c with color:=eK x 1 c.color,size:=eK x 1 c.size}
def bA.black(c:bA)(x:Int):bA:={c with color:=eK x 2 c.color}
def qM:Nat->Int->bA->ba (Bool×bA)
 |0,_,_=>none
 |n+1,x,c=>if c.col x=2 then some (true,c)else if c.col x=1 then some (false,c)else
   if(c.grey x).shd x=false then some (true,(c.grey x).black x)else
   (((c.grey x).shp x).foldO (zF (qM n)) (c.grey x,true)).bind fun a=>if a.2=false then some (false,a.1)else
   (((a.1.shp x).sizeO zv a.1).map fun p=>(true,{p.2 with size:=eK x p.1 p.2.size}.black x))
def Ca(rec:Int->bA->ba (T×bA))(v:Int)(c:bA):ba (T×bA):=(rt c v).bind fun p=>rec p.1 p.2
def qL:Nat->Int->bA->ba (T×bA)
 |0,_,_=>none
 |n+1,x,c=>match c3 x c.full with
  |some t=>some (t,c)
  |none=>if c.shd x=false then some (.var x,{c with full:=eK x (.var x) c.full})else
   ((c.shp x).mapO (Ca (qL n)) c).map fun p=>(p.1,{p.2 with full:=eK x p.1 p.2.full})
def sS(n:Nat):List Int->bA->List Int->ba (ba (List Int)×bA)
 |[],c,out=>some (some out,c)
 |v::bf,c,out=>(rt c v).bind fun p=>(qM n p.1 p.2).bind fun q=>if q.1=false then some (none,q.2)else
   if p.1=v/\q.2.shd p.1=false then sS n bf q.2 out else
   if 5000<q.2.sz p.1\/400<out.length+1 then some (none,q.2)else sS n bf q.2 (out++[v])
def zw(n:Nat):List Int->bA->ba (List aq×bA)
 |[],c=>some ([],c)
 |v::bf,c=>(rt c v).bind fun p=>(qL n p.1 p.2).bind fun q=>(zw n bf q.2).map fun r=>(⟨v,q.1⟩::r.1,r.2)
def EL(n:Nat)(bf:List Int)(c:bA):ba (ba (List aq)):=(sS n bf c []).bind fun a=>match a.1 with
 |none=>some none
 |some out=>(zw n out a.2).map fun r=>some r.1
def qn(n:Nat):List (T×T)->bA->ba (Bool×bA)
 |[],c=>some (true,c)
 |e::es,c=>(Bj e.1 c).bind fun bK=>(Bj e.2 bK).bind fun cq=>(gL n e.1 e.2 cq).bind fun p=>if p.1=true then qn n es p.2 else some (false,p.2)
theorem me.rank{c:bA}{ρ:Int->Int}(h:me c ρ):∃r:Int->Nat,∀z u,jl c.ph ρ z u->r u<r z:=by
 obtain⟨aQ,hE⟩:=h.sat
 exact⟨fun z=>(aQ z).size,fun z u he=>IA h.sh hE he⟩
structure uF (V:List Int) (ph:Int->ba T) (ρ:Int->Int) (c:bA):Prop where
 ru:jM c.up ρ
 keys:cx c.up=V
 ph:c.ph=ph
theorem uF.sm{V:List Int}{ph:Int->ba T}{ρ:Int->Int}{c cw:bA}(h:uF V ph ρ c)(k:iS ρ c cw):uF V ph ρ cw:=⟨k.ru,k.keys.trans h.keys,k.ph.trans h.ph⟩
def cut(n:Nat):Int:=if 5001<(n:Int)then 5001 else n
section
variable {V:List Int} {ph:Int->ba T} {ρ:Int->Int} {r:Int->Nat}
theorem aoH(E8:Int->T):∀(t:T) (c:bA),uF V ph ρ c->(∀w,t.occ w=true->w∈V/\c.sz (ρ w)=cut (E8 w).size)->∃cw,t.sizeO zv c=some (cut (t.ap E8).size,cw)/\iS ρ c cw:=by
 intro t;induction t with
 |var v=>
  intro c h aN;obtain⟨aB,bp⟩:=aN v (by simp[T.occ]);obtain⟨bK,J,U⟩:=uj h.ru (by rw[h.keys];exact aB:v∈cx c.up);refine⟨bK,?_,U⟩;have:bK.sz (ρ v)=cut (E8 v).size:=by rw[<-bp,U.eq];rfl
  simp only[T.sizeO,zv,J,nl,this,T.ap,dQ,jB,and_true];unfold cut;split<;>omega
 |pair a b ds dv=>
  intro c h aN;obtain⟨bK,J,aU⟩:=ds c h fun w hw=>aN w (by simp[T.occ,hw]);obtain⟨cq,U,bo⟩:=dv bK (h.sm aU) fun w hw=>⟨(aN w (by simp[T.occ,hw])).1,by rw[<-(aN w (by simp[T.occ,hw])).2,aU.eq];rfl⟩;have ab:=T.size_pos (b.ap E8);simp only[T.sizeO,J,lf,T.ap,T.size];by_cases aw:5000<cut (a.ap E8).size
  ·rw[if_pos aw];refine⟨bK,?_,aU⟩;simp only[dQ,jB,and_true];unfold cut at aw⊢;split at aw<;>split<;>(try split)<;>omega
  ·rw[if_neg aw,U];refine⟨cq,?_,aU.trans bo⟩;simp only[nl,dQ,jB,and_true];unfold cut at aw⊢;split at aw<;>(repeat' split)<;>omega
 |_=>intro c h aN;exact⟨c,by simp[T.sizeO,T.ap,T.size,cut],iS.refl h.ru⟩
structure qU (V:List Int) (ph:Int->ba T) (ρ:Int->Int) (r:Int->Nat) (d:Nat) (c:bA):Prop where
 fin:uF V ph ρ c
 col:∀z,r z<d->c.col z=0\/(c.col z=2/\c.sz z=cut (hh ph ρ r z).size)
structure nq (ph:Int->ba T) (ρ:Int->Int) (r:Int->Nat) (d:Nat) (c cw:bA):Prop where
 full:cw.full=c.full
 hi:∀z,d<=r z->cw.col z=c.col z/\cw.sz z=c.sz z
 lo:∀z,c.col z=2->cw.col z=2/\cw.sz z=c.sz z
theorem nq.refl{c:bA}{d:Nat}:nq ph ρ r d c c:=⟨rfl,fun _ _=>⟨rfl,rfl⟩,fun _ h=>⟨h,rfl⟩⟩
theorem nq.trans{a b c:bA}{d:Nat}(h:nq ph ρ r d a b)(k:nq ph ρ r d b c):nq ph ρ r d a c:=⟨k.full.trans h.full,fun z bp=>⟨(k.hi z bp).1.trans (h.hi z bp).1,(k.hi z bp).2.trans (h.hi z bp).2⟩,fun z bp=>⟨(k.lo z (h.lo z bp).1).1,(k.lo z (h.lo z bp).1).2.trans (h.lo z bp).2⟩⟩
theorem nq.mono{a b:bA}{d cj:Nat}(aR:d<=cj)(h:nq ph ρ r d a b):nq ph ρ r cj a b:=⟨h.full,fun z bp=>h.hi z Ω,h.lo⟩
theorem nq.sm{c cw:bA}{d:Nat}(k:iS ρ c cw):nq ph ρ r d c cw:=by
 have al:∀z,cw.col z=c.col z:=fun z=>by rw[k.eq];rfl
 have aE:∀z,cw.sz z=c.sz z:=fun z=>by rw[k.eq];rfl
 exact⟨k.rest.2.2,fun z _=>⟨al z,aE z⟩,fun z h=>⟨by rw[al];exact h,aE z⟩⟩
theorem qU.sm{c cw:bA}{d:Nat}(h:qU V ph ρ r d c)(k:iS ρ c cw):qU V ph ρ r d cw:=by
 have al:∀z,cw.col z=c.col z:=fun z=>by rw[k.eq];rfl
 have aE:∀z,cw.sz z=c.sz z:=fun z=>by rw[k.eq];rfl
 exact⟨h.fin.sm k,fun z bp=>by rw[al,aE];exact h.col z bp⟩
theorem aq7(gU:oS V ph)(e5:∀v,ρ (ρ v)=ρ v)(aM:∀z u,jl ph ρ z u->r u<r z)(d:Nat):∀(x:Int) (c:bA),r x<d->ρ x=x->x∈V->qU V ph ρ r d c->
  ∃N cw,(∀n,N<=n->qM n x c=some (true,cw))/\qU V ph ρ r d cw/\nq ph ρ r (r x+1) c cw/\cw.col x=2/\cw.sz x=cut (hh ph ρ r x).size:=by
 induction d using Nat.strongRecOn with
 |ind d bR=>
 intro x c aR af kt hw;rcases hw.col x aR with bs|⟨U,au⟩;rotate_left
 ·refine⟨1,c,fun n ax=>?_,hw,nq.refl,U,au⟩;obtain⟨n',rfl⟩:∃n',n=n'+1:=⟨n-1,Ω⟩;simp only[qM,if_pos U]
 have yi:∀z,(c.grey x).col z=if z=x then 1 else c.col z:=fun z=>by simp only[bA.grey,bA.col,nU];split<;>rfl
 have CW:∀z,(c.grey x).sz z=if z=x then 1 else c.sz z:=fun z=>by simp only[bA.grey,bA.sz,nU];split<;>rfl
 have Aq:uF V ph ρ (c.grey x):=⟨hw.fin.ru,hw.fin.keys,hw.fin.ph⟩;have aiH:qU V ph ρ r (r x) (c.grey x):=⟨Aq,fun z bp=>by
  have cM:z≠x:=fun e=>by subst e;omega
  rw[yi,CW,if_neg cM,if_neg cM];exact hw.col z Ω⟩
 have rh:¬c.col x=2:=Ω
 have pZ:¬c.col x=1:=Ω
 have e4:∀(e:bA) (z:Int),(e.black x).col z=(if z=x then 2 else e.col z):=fun e z=>by simp only[bA.black,bA.col,nU];split<;>rfl
 by_cases ag:(c.grey x).shd x=false
 ·have jF:ph x=none:=by rw[<-Aq.ph];exact BD ag
  have a7:hh ph ρ r x= .var x:=by rw[CV (by rw[af];exact jF),af]
  have en:∀z,((c.grey x).black x).sz z=if z=x then 1 else c.sz z:=CW
  refine⟨1,(c.grey x).black x,fun n ax=>?_,⟨⟨Aq.ru,Aq.keys,Aq.ph⟩,fun z bp=>?_⟩,⟨rfl,fun z bp=>?_,fun z bp=>?_⟩,?_,?_⟩
  ·obtain⟨n',rfl⟩:∃n',n=n'+1:=⟨n-1,Ω⟩;simp only[qM,if_neg rh,if_neg pZ,if_pos ag]
  ·rw[e4,en,yi];by_cases e:z=x
   ·subst e;simp only[if_true,a7];exact .inr ⟨trivial,by simp[T.size,cut]⟩
   ·simp only[if_neg e];exact hw.col z bp
  ·have e:z≠x:=fun e=>by subst e;omega
   rw[e4,en,yi];simp only[if_neg e];exact⟨trivial,trivial⟩
  ·have e:z≠x:=fun e=>by subst e;omega
   rw[e4,en,yi];simp only[if_neg e];exact⟨bp,trivial⟩
  ·rw[e4,if_pos rfl]
  ·rw[en,if_pos rfl,a7];simp[T.size,cut]
 ·have jF:ph x=some ((c.grey x).shp x):=by rw[<-Aq.ph];exact BE ag
  obtain⟨g1,g2,g3⟩:=gU _ _ jF;have ahA:∀(t:T) (e:bA),(∀w,t.occ w=true->((c.grey x).shp x).occ w=true)->qU V ph ρ r (r x) e->∃N ff,(∀n,N<=n->t.foldO (zF (qM n)) (e,true)=some (ff,true))/\qU V ph ρ r (r x) ff/\nq ph ρ r (r x) e ff/\∀w,t.occ w=true->ff.col (ρ w)=2/\ff.sz (ρ w)=cut (hh ph ρ r w).size:=by
   intro t;induction t with
   |var v=>intro e nH he;have aB:=g2 v (nH v (by simp[T.occ]));have wP:r (ρ v)<r x:=aM x (ρ v) ⟨af,_,v,jF,nH v (by simp[T.occ]),rfl⟩;obtain⟨al,bc,aU⟩:=uj he.fin.ru (by rw[he.fin.keys];exact aB:v∈cx e.up);obtain⟨N,aE,bE,dk,dC,cq,s2⟩:=bR (r x) aR (ρ v) al wP (e5 v) (by rw[<-he.fin.keys];exact(he.fin.ru.mem (by rw[he.fin.keys];exact aB)).1) (he.sm aU);refine⟨N,aE,fun n ax=>by simp[T.foldO,zF,bc,bE n ax],dk,(nq.sm aU).trans (dC.mono Ω),fun w hw=>?_⟩;simp[T.occ]at hw;subst hw;exact⟨cq,by rw[s2,<-Ar e5]⟩
   |pair a b ds dv=>
    intro e nH he;obtain⟨hS,al,bc,dU,cV,s1⟩:=ds e (fun w hw=>nH w (by simp[T.occ,hw])) he;obtain⟨jn,aE,bE,dk,dC,s2⟩:=dv al (fun w hw=>nH w (by simp[T.occ,hw])) dU;refine⟨max hS jn,aE,fun n ax=>by simp only[T.foldO];rw[bc n Ω];exact bE n Ω,dk,cV.trans dC,fun w hw=>?_⟩;simp only[T.occ,lH]at hw;rcases hw with hw|hw
    ·obtain⟨la,z2⟩:=s1 w hw;exact⟨(dC.lo _ la).1,by rw[(dC.lo _ la).2];exact z2⟩
    ·exact s2 w hw
   |_=>intro e _ he;exact⟨0,e,fun n _=>rfl,he,nq.refl,fun w hw=>by simp[T.occ]at hw⟩
  obtain⟨N,e,bc,dU,cV,s1⟩:=ahA ((c.grey x).shp x) (c.grey x) (fun w h=>h) aiH;have ais:e.shp x=(c.grey x).shp x:=by
   have J:e.ph x=some ((c.grey x).shp x):=by rw[dU.fin.ph];exact jF
   unfold bA.ph at J;split at J
   ·exact eQ J
   ·cases J
  obtain⟨aE,bE,bo⟩:=aoH (V:=V) (ph:=ph) (ρ:=ρ) (hh ph ρ r) ((c.grey x).shp x) e dU.fin (fun w hw=>⟨g2 w hw,(s1 w hw).2⟩);have mN:hh ph ρ r x=((c.grey x).shp x).ap (hh ph ρ r):=Au e5 aM (by rw[af];exact jF);have GJ:=cV.trans (nq.sm (ph:=ph) (r:=r) (d:=r x) bo);have dk:=dU.sm bo;let bn:bA:={aE with size:=eK x (cut (hh ph ρ r x).size) aE.size}.black x
  have da:∀z,bn.col z=if z=x then 2 else aE.col z:=fun z=>e4 _ z
  have s3:∀z,bn.sz z=if z=x then cut (hh ph ρ r x).size else aE.sz z:=fun z=>by show(c3 z (eK x _ aE.size)).getD 0=_;rw[nU];split<;>rfl
  refine⟨N+1,bn,fun n ax=>?_,⟨⟨dk.fin.ru,dk.fin.keys,dk.fin.ph⟩,fun z bp=>?_⟩,⟨GJ.full,fun z bp=>?_,fun z bp=>?_⟩,by rw[da,if_pos rfl],by rw[s3,if_pos rfl]⟩
  ·obtain⟨n',rfl⟩:∃n',n=n'+1:=⟨n-1,Ω⟩;simp only[qM,if_neg rh,if_neg pZ,if_neg ag,bc n' Ω,lf,Bool.true_eq_false,if_false,ais,bE,nl,mN,bn]
  ·rw[da,s3];by_cases oa:z=x
   ·subst oa;simp only[if_true];exact .inr ⟨trivial,trivial⟩
   ·simp only[if_neg oa];by_cases bD:r z<r x
    ·exact dk.col z bD
    ·obtain⟨bC,a2⟩:=GJ.hi z Ω;rw[bC,a2,yi,CW,if_neg oa,if_neg oa];exact hw.col z bp
  ·have oa:z≠x:=fun e=>by subst e;omega
   obtain⟨bC,a2⟩:=GJ.hi z Ω;rw[da,s3,if_neg oa,if_neg oa,bC,a2,yi,CW,if_neg oa,if_neg oa];exact⟨rfl,rfl⟩
  ·have oa:z≠x:=fun e=>by subst e;omega
   obtain⟨bC,a2⟩:=GJ.lo z (by rw[yi,if_neg oa];exact bp);rw[da,s3,if_neg oa,if_neg oa,bC,a2,CW,if_neg oa];exact⟨rfl,rfl⟩
structure rV (V:List Int) (ph:Int->ba T) (ρ:Int->Int) (r:Int->Nat) (c:bA):Prop where
 fin:uF V ph ρ c
 full:∀x t,c3 x c.full=some t->t=hh ph ρ r x
theorem rV.sm{c cw:bA}(h:rV V ph ρ r c)(k:iS ρ c cw):rV V ph ρ r cw:=⟨h.fin.sm k,by rw[k.rest.2.2];exact h.full⟩
theorem aq5(gU:oS V ph)(e5:∀v,ρ (ρ v)=ρ v)(aM:∀z u,jl ph ρ z u->r u<r z)(d:Nat):∀(x:Int) (c:bA),r x<d->ρ x=x->x∈V->rV V ph ρ r c->
  ∃N cw,(∀n,N<=n->qL n x c=some (hh ph ρ r x,cw))/\rV V ph ρ r cw:=by
 induction d with
 |zero=>intro x c h;omega
 |succ d bR=>
 intro x c aR af kt aB;cases aJ:c3 x c.full with
 |some t=>refine⟨1,c,fun n ax=>?_,aB⟩;obtain⟨n',rfl⟩:∃n',n=n'+1:=⟨n-1,Ω⟩;simp only[qL,aJ,aB.full x t aJ]
 |none=>
  have UW:∀(e:bA),rV V ph ρ r e->rV V ph ρ r {e with full:=eK x (hh ph ρ r x) e.full}:=fun e he=>⟨⟨he.fin.ru,he.fin.keys,he.fin.ph⟩,fun z t bp=>by
   have sx:c3 z (eK x (hh ph ρ r x) e.full)=some t:=bp;rw[nU]at sx;split at sx
   ·rename_i e;subst e;cases sx;rfl
   ·exact he.full z t sx⟩
  by_cases ag:c.shd x=false
  ·have jF:ph x=none:=by rw[<-aB.fin.ph];exact BD ag
   have a7:hh ph ρ r x= .var x:=by rw[CV (by rw[af];exact jF),af]
   refine⟨1,_,fun n ax=>?_,UW c aB⟩;obtain⟨n',rfl⟩:∃n',n=n'+1:=⟨n-1,Ω⟩;simp only[qL,aJ,if_pos ag,a7]
  ·have jF:ph x=some (c.shp x):=by rw[<-aB.fin.ph];exact BE ag
   obtain⟨g1,g2,g3⟩:=gU _ _ jF;have ahZ:∀(t:T) (e:bA),(∀w,t.occ w=true->(c.shp x).occ w=true)->rV V ph ρ r e->∃N ff,(∀n,N<=n->t.mapO (Ca (qL n)) e=some (t.ap (hh ph ρ r),ff))/\rV V ph ρ r ff:=by
    intro t;induction t with
    |var v=>intro e nH he;have wU:=g2 v (nH v (by simp[T.occ]));have wP:r (ρ v)<r x:=aM x (ρ v) ⟨af,_,v,jF,nH v (by simp[T.occ]),rfl⟩;obtain⟨al,bc,aU⟩:=uj he.fin.ru (by rw[he.fin.keys];exact wU:v∈cx e.up);obtain⟨N,aE,bE,dk⟩:=bR (ρ v) al Ω (e5 v) (by rw[<-he.fin.keys];exact(he.fin.ru.mem (by rw[he.fin.keys];exact wU)).1) (he.sm aU);exact⟨N,aE,fun n ax=>by simp only[T.mapO,Ca,bc,lf,bE n ax,T.ap];rw[<-Ar e5],dk⟩
    |pair a b ds dv=>intro e nH he;obtain⟨hS,al,bc,dU⟩:=ds e (fun w hw=>nH w (by simp[T.occ,hw])) he;obtain⟨jn,aE,bE,dk⟩:=dv al (fun w hw=>nH w (by simp[T.occ,hw])) dU;exact⟨max hS jn,aE,fun n ax=>by simp only[T.mapO,bc n Ω,lf,bE n Ω,nl,T.ap],dk⟩
    |_=>intro e _ he;exact⟨0,e,fun n _=>rfl,he⟩
   obtain⟨N,e,bc,dU⟩:=ahZ (c.shp x) c (fun w h=>h) aB;have mN:hh ph ρ r x=(c.shp x).ap (hh ph ρ r):=Au e5 aM (by rw[af];exact jF);refine⟨N+1,_,fun n ax=>?_,UW e dU⟩;obtain⟨n',rfl⟩:∃n',n=n'+1:=⟨n-1,Ω⟩;simp only[qL,aJ,if_neg ag,bc n' Ω,nl,mN]
def n9(ph:Int->ba T)(ρ:Int->Int)(v:Int):Bool:= !(decide (ρ v=v)&&(ph v).isNone)
theorem aoK(gU:oS V ph)(e5:∀v,ρ (ρ v)=ρ v)(aM:∀z u,jl ph ρ z u->r u<r z)(iL:∀v∈V,ρ v∈V):∀(bf:List Int) (c:bA) (out:List Int),(∀v∈bf,v∈V)->(∀d,qU V ph ρ r d c)->out.length<=400->(∀v∈out,(hh ph ρ r v).size<=5000)->
  ∃N cw o,(∀n,N<=n->sS n bf c out=some (o,cw))/\uF V ph ρ cw/\cw.full=c.full/\(∀l,o=some l->l=out++bf.filter (n9 ph ρ)/\l.length<=400/\∀v∈l,(hh ph ρ r v).size<=5000)/\(o=none->¬((out++bf.filter (n9 ph ρ)).length<=400/\∀v∈out++bf.filter (n9 ph ρ),(hh ph ρ r v).size<=5000)):=by
 intro bf;induction bf with
 |nil=>intro c out _ hw J U;exact⟨0,c,some out,fun n _=>rfl,(hw 0).fin,rfl,fun l e=>by cases e;simp;exact⟨J,U⟩,fun e=>by cases e⟩
 |cons v bf bR=>
  intro c out aB hw J U;have wU:=aB v Ψ;obtain⟨bK,bc,aU⟩:=uj (hw 0).fin.ru (by rw[(hw 0).fin.keys];exact wU:v∈cx c.up);have GS:∀d,qU V ph ρ r d bK:=fun d=>(hw d).sm aU;obtain⟨hS,cq,bE,dk,dC,aE,s2⟩:=aq7 gU e5 aM (r (ρ v)+1) (ρ v) bK Ω (e5 v) (iL v wU) (GS _);have o9:∀d,qU V ph ρ r d cq:=fun d=>⟨dk.fin,fun z bp=>by
   by_cases bD:r z<r (ρ v)+1
   ·exact dk.col z bD
   ·obtain⟨bC,a2⟩:=dC.hi z Ω;rw[bC,a2];exact(GS d).col z bp⟩
  have Ll:cq.full=c.full:=dC.full.trans aU.rest.2.2;have U3:(cq.shd (ρ v)=false)=((ph (ρ v)).isNone=true):=by rw[<-dk.fin.ph];unfold bA.ph;cases cq.shd (ρ v)<;>simp
  have jV:∀n,hS<=n->sS n (v::bf) c out=(if ρ v=v/\cq.shd (ρ v)=false then sS n bf cq out else if 5000<cq.sz (ρ v)\/400<out.length+1 then some (none,cq)else sS n bf cq (out++[v])):=fun n ax=>by simp only[sS,bc,lf,bE n ax,Bool.true_eq_false,if_false]
  have Uu:hh ph ρ r (ρ v)=hh ph ρ r v:=(Ar e5 v).symm;by_cases aw:ρ v=v/\cq.shd (ρ v)=false
  ·have ab:n9 ph ρ v=false:=by have au:=aw.2;rw[U3]at au;rw[aw.1]at au;simp[n9,aw.1,au]
   obtain⟨jn,da,o,b1,f3,qJ,I1,jv⟩:=bR cq out (fun w hw=>aB w (by simp[hw])) o9 J U;refine⟨max hS jn,da,o,fun n ax=>by rw[jV n Ω,if_pos aw];exact b1 n Ω,f3,qJ.trans Ll,?_,?_⟩
   ·simp only[List.filter_cons,ab,hl,if_false];exact I1
   ·simp only[List.filter_cons,ab,hl,if_false];exact jv
  ·have ab:n9 ph ρ v=true:=by
    cases e:n9 ph ρ v with
    |true=>rfl
    |false=>simp only[n9,Bool.not_eq_false',cC,fc]at e;exact absurd ⟨e.1,by rw[U3,e.1];exact e.2⟩ aw
   by_cases ar:5000<cq.sz (ρ v)\/400<out.length+1
   ·refine⟨hS,cq,none,fun n ax=>by rw[jV n ax,if_neg aw,if_pos ar],dk.fin,Ll,(fun l e=>by cases e),fun _=>?_⟩;simp only[List.filter_cons,ab,if_true];rintro⟨bC,a2⟩;rcases ar with ar|ar
    ·rw[s2,Uu]at ar;have:=a2 v Ψ;unfold cut at ar;split at ar<;>omega
    ·simp at bC;omega
   ·have bp:(hh ph ρ r v).size<=5000:=by have:¬5000<cq.sz (ρ v):=fun h=>ar (.inl h);rw[s2,Uu]at this;unfold cut at this;split at this<;>omega
    obtain⟨jn,da,o,b1,f3,qJ,I1,jv⟩:=bR cq (out++[v]) (fun w hw=>aB w (by simp[hw])) o9 (by simp;omega) (fun w hw=>by
     rcases kn.1 hw with hw|hw
     ·exact U w hw
     ·simp at hw;subst hw;exact bp)
    refine⟨max hS jn,da,o,fun n ax=>by rw[jV n Ω,if_neg aw,if_neg ar];exact b1 n Ω,f3,qJ.trans Ll,?_,?_⟩
    ·simp only[List.filter_cons,ab,if_true];simpa using I1
    ·simp only[List.filter_cons,ab,if_true];simpa using jv
theorem aoL(gU:oS V ph)(e5:∀v,ρ (ρ v)=ρ v)(aM:∀z u,jl ph ρ z u->r u<r z)(iL:∀v∈V,ρ v∈V):∀(bf:List Int) (c:bA),(∀v∈bf,v∈V)->rV V ph ρ r c->∃N cw,∀n,N<=n->zw n bf c=some (bf.map fun v=>⟨v,hh ph ρ r v⟩,cw):=by
 intro bf;induction bf with
 |nil=>intro c _ _;exact⟨0,c,fun n _=>rfl⟩
 |cons v bf bR=>intro c aB hw;have wU:=aB v Ψ;obtain⟨bK,bc,aU⟩:=uj hw.fin.ru (by rw[hw.fin.keys];exact wU:v∈cx c.up);obtain⟨hS,cq,bE,dk⟩:=aq5 gU e5 aM (r (ρ v)+1) (ρ v) bK Ω (e5 v) (iL v wU) (hw.sm aU);obtain⟨jn,da,b1⟩:=bR cq (fun w hw=>aB w (by simp[hw])) dk;refine⟨max hS jn,da,fun n ax=>?_⟩;simp only[zw,bc,lf,bE n Ω,b1 n Ω,nl,gS];rw[<-Ar e5]
end
end
section
open Go
def bA.new:bA:=⟨[],[],[],[],[],[]⟩
def rF(l:List Int):List Int:=l.mergeSort fun x y=>decide (x<=y)
def B0(n:Nat)(E:List (T×T)):ba (ba (List aq)):=(qn n E bA.new).bind fun p=>if p.1=false then some none else EL n (rF (cx p.2.up)) p.2
theorem EO(l:List Int):(rF l).Perm l:=List.mergeSort_perm l _
theorem ao0{l:List Int}(h:l.Nodup):(rF l).Pairwise (· < ·):=by have J:(rF l).Pairwise fun x y=>decide (x<=y)=true:=List.pairwise_mergeSort (fun a b c=>by simp;omega) (fun a b=>by simp;omega) l;have U:(rF l).Pairwise (· ≠ ·):=List.nodup_iff_pairwise_ne.1 ((EO l).nodup_iff.2 h);exact(J.and U).imp fun h=>by simp at h;omega
structure aaK (c:bA) (ρ:Int->Int) (cw:bA) (WX:Int->Prop):Prop where
 inv:me cw ρ
 ph:cw.ph=c.ph
 nd:(cx cw.up).Nodup
 sub:∀v∈cx c.up,v∈cx cw.up
 occ:∀v,WX v->v∈cx cw.up
 rest:cw.color=c.color/\cw.size=c.size/\cw.full=c.full
 new:∀v∈cx cw.up,v∈cx c.up\/WX v
theorem Wx{ρ:Int->Int}(t:T):∀(c:bA),me c ρ->(cx c.up).Nodup->(∀v,t.occ v=true->0<=v)->∃cw,Bj t c=some cw/\aaK c ρ cw fun v=>t.occ v=true:=by
 unfold Bj;induction t with
 |var v=>
  intro c hi ax bs;by_cases aB:v∈cx c.up
  ·obtain⟨bK,bc,aU⟩:=uj hi.ru aB;refine⟨bK,by simp[T.foldO,bc],hi.sm aU,aU.ph,by rw[aU.keys];exact ax,fun w hw=>by rw[aU.keys];exact hw,fun w hw=>?_,aU.rest,fun w hw=>.inl (by rw[aU.keys]at hw;exact hw)⟩;simp[T.occ]at hw;subst hw;rw[aU.keys];exact aB
  ·obtain⟨bc,bE,b1⟩:=aon hi.ru (bs v (by simp[T.occ])) aB;refine⟨{c with up:=eK v v c.up},by simp only[T.foldO,bc,nl],⟨bE,?_,hi.sat⟩,rfl,?_,fun w hw=>by rw[b1];simp[hw],fun w hw=>?_,⟨rfl,rfl,rfl⟩,fun w hw=>?_⟩
   ·intro x u af;obtain⟨bC,a2,a3⟩:=hi.sh x u af;refine⟨bC,fun w hw=>?_,?_⟩
    ·show w∈cx (eK v v c.up);rw[b1];simp[a2 w hw]
    ·show x∈cx (eK v v c.up);rw[b1];simp[a3]
   ·rw[b1];rw[List.nodup_append];exact⟨ax,Ψ,fun a bu b ab e=>by simp at ab;subst ab;subst e;exact aB bu⟩
   ·simp[T.occ]at hw;subst hw;rw[b1];simp
   ·rw[b1]at hw;simp at hw;rcases hw with hw|rfl;exact .inl hw;exact .inr (by simp[T.occ])
 |pair a b ds dv=>
  intro c hi ax bs;obtain⟨bK,bc,m1⟩:=ds c hi ax fun v aB=>bs v (by simp[T.occ,aB]);obtain⟨cq,bE,m2⟩:=dv bK m1.inv m1.nd fun v aB=>bs v (by simp[T.occ,aB]);refine⟨cq,by simp only[T.foldO,bc,lf,bE],m2.inv,m2.ph.trans m1.ph,m2.nd,fun v aB=>m2.sub v (m1.sub v aB),fun v aB=>?_,?_,fun v aB=>?_⟩
  ·simp only[T.occ,lH]at aB;rcases aB with aB|aB
   ·exact m2.sub v (m1.occ v aB)
   ·exact m2.occ v aB
  ·rw[m2.rest.1,m2.rest.2.1,m2.rest.2.2];exact m1.rest
  ·rcases m2.new v aB with h|h
   ·rcases m1.new v h with h|h
    ·exact .inl h
    ·exact .inr (by simp[T.occ,h])
   ·exact .inr (by simp[T.occ,h])
 |_=>intro c hi ax bs;exact⟨c,rfl,hi,rfl,ax,fun v aB=>aB,fun v aB=>by simp[T.occ]at aB,⟨rfl,rfl,rfl⟩,fun v aB=>.inl aB⟩
def MZ(E:List (T×T)):Prop:= ∀e∈E,∀v,(e.1.occ v=true\/e.2.occ v=true)->0<=v
theorem CF:∀(E:List (T×T)) (c:bA) (ρ:Int->Int),me c ρ->(cx c.up).Nodup->MZ E->∃N o,(∀n,N<=n->qn n E c=some o)/\((o.2.color=c.color/\o.2.size=c.size/\o.2.full=c.full)/\∀v∈cx o.2.up,v∈cx c.up\/ ∃e∈E,e.1.occ v=true\/e.2.occ v=true)/\(o.1=true->∃ρ',me o.2 ρ'/\(cx o.2.up).Nodup/\∀aQ,kp o.2.ph ρ' aQ↔kp c.ph ρ aQ/\jN E aQ)/\(o.1=false->∀aQ,kp c.ph ρ aQ->¬jN E aQ):=by
 intro E;induction E with
 |nil=>intro c ρ hi ax _;exact⟨0,(true,c),fun n _=>rfl,⟨⟨rfl,rfl,rfl⟩,fun v aB=>.inl aB⟩,fun _=>⟨ρ,hi,ax,fun aQ=>⟨fun h=>⟨h,EN aQ⟩,fun h=>h.1⟩⟩,fun e=>by cases e⟩
 |cons e E bR=>
  intro c ρ hi ax bs;obtain⟨bK,bc,m1⟩:=Wx e.1 c hi ax fun v aB=>bs e Ψ v (.inl aB);obtain⟨cq,bE,m2⟩:=Wx e.2 bK m1.inv m1.nd fun v aB=>bs e Ψ v (.inr aB);obtain⟨lb,vn⟩:=m2.inv.sat
  obtain⟨hS,gP,b1,jg⟩:=acE _ _ cq ρ e.1 e.2 lb m2.inv vn (fun w hw=>m2.sub w (m1.occ w hw)) (fun w hw=>m2.occ w hw) rfl rfl;have jF:cq.ph=c.ph:=m2.ph.trans m1.ph;have mL:gP.2.color=c.color/\gP.2.size=c.size/\gP.2.full=c.full:=by rw[jg.rest.1,jg.rest.2.1,jg.rest.2.2,m2.rest.1,m2.rest.2.1,m2.rest.2.2];exact m1.rest
  have GB:∀v∈cx gP.2.up,v∈cx c.up\/e.1.occ v=true\/e.2.occ v=true:=fun v aB=>by
   rw[jg.keys]at aB;rcases m2.new v aB with h|h
   ·rcases m1.new v h with h|h
    ·exact .inl h
    ·exact .inr (.inl h)
   ·exact .inr (.inr h)
  obtain⟨f,da⟩:=gP;cases f with
  |false=>refine⟨hS,(false,da),fun n ax=>?_,⟨mL,fun v aB=>(GB v aB).imp id fun h=>⟨e,Ψ,h⟩⟩,(fun e=>by cases e),fun _ aQ ag he=>jg.no rfl aQ (by rw[jF];exact ag) (rC.1 he).1⟩;simp only[qn,bc,bE,lf,b1 n ax,hl,if_false]
  |true=>
   obtain⟨lG,bC,a2,_⟩:=jg.yes rfl;simp only at bC a2;obtain⟨jn,gF,ch,ca,fB,oT⟩:=bR da lG bC (by have:=jg.keys;simp only at this;rw[this];exact m2.nd) fun ff he=>bs ff (by simp[he]);refine⟨max hS jn,gF,fun n ax=>?_,?_,fun aJ=>?_,fun aJ aQ ag he=>?_⟩
   ·simp only[qn,bc,bE,lf,b1 n Ω,if_true];exact ch n Ω
   ·refine⟨by rw[ca.1.1,ca.1.2.1,ca.1.2.2];exact mL,fun v aB=>?_⟩;rcases ca.2 v aB with h|⟨ff,J,U⟩
    ·exact(GB v h).imp id fun h=>⟨e,Ψ,h⟩
    ·exact .inr ⟨ff,by simp[J],U⟩
   ·obtain⟨ρ2,d1,d2,d3⟩:=fB aJ;exact⟨ρ2,d1,d2,fun aQ=>by rw[d3 aQ,a2 aQ,jF,rC,and_assoc]⟩
   ·exact oT aJ aQ ((a2 aQ).2 ⟨by rw[jF];exact ag,(rC.1 he).1⟩) (rC.1 he).2
theorem Fu{ph:Int->ba T}{ρ:Int->Int}{v:Int}:n9 ph ρ v=false↔ρ v=v/\ph v=none:=by simp[n9]
theorem T3{ph:Int->ba T}{ρ:Int->Int}{r:Int->Nat}(e5:∀v,ρ (ρ v)=ρ v):∀(n:Nat) (v w:Int),(nt ph ρ n v).occ w=true->(∀z u,jl ph ρ z u->r u<r z)->r (ρ v)<n->ρ w=w/\ph w=none
 |0,v,w,_,_,h=>Ω
 |n+1,v,w,h,aM,ax=>by
  simp only[nt]at h;cases e:ph (ρ v)with
  |none=>rw[e]at h;simp[T.occ]at h;subst h;exact⟨e5 v,e⟩
  |some t=>rw[e]at h;obtain⟨u,J,U⟩:=D8.1 h;have:=aM (ρ v) (ρ u) ⟨e5 v,t,u,e,J,rfl⟩;exact T3 e5 n u w U aM Ω
section
variable {V:List Int} {ph:Int->ba T} {ρ:Int->Int} {r:Int->Nat}
def uk(ph:Int->ba T)(ρ:Int->Int)(r:Int->Nat)(V:List Int):List aq:=((rF V).filter (n9 ph ρ)).map fun v=>⟨v,hh ph ρ r v⟩
theorem Ot(ax:V.Nodup):gk (uk ph ρ r V):=by unfold uk;rw[gk,td];exact((ao0 ax).filter _)
theorem YX(ax:V.Nodup)(gU:oS V ph)(cI:∀v,v∉V->ρ v=v)(v:Int):cP (uk ph ρ r V) v=if n9 ph ρ v then some (hh ph ρ r v)else none:=by
 by_cases ab:n9 ph ρ v=true
 ·rw[if_pos ab];have aB:v∈V:=by
   refine Classical.byContradiction fun h=>?_;have J:=cI v h;have U:ph v=none:=by cases e:ph v with
    |none=>rfl
    |some t=>exact absurd (gU v t e).2.2 h
   rw[Fu.2 ⟨J,U⟩]at ab;cases ab
  have:(⟨v,hh ph ρ r v⟩:aq)∈uk ph ρ r V:=hB.2 ⟨v,nZ.2 ⟨(EO V).mem_iff.2 aB,ab⟩,rfl⟩;exact pM (Ot ax) this
 ·rw[if_neg ab];refine mD.2 fun b fW e=>?_;obtain⟨u,J,rfl⟩:=hB.1 fW;simp only at e;subst e;exact ab (nZ.1 J).2
theorem aoN(ax:V.Nodup)(gU:oS V ph)(cI:∀v,v∉V->ρ v=v)(e5:∀v,ρ (ρ v)=ρ v)(hle:∀v,ρ v<=v)(aM:∀z u,jl ph ρ z u->r u<r z):fQ (uk ph ρ r V):=by
 refine⟨Ot ax,fun b ab w hw=>?_,fun b ab w hw=>?_⟩
 ·obtain⟨u,J,rfl⟩:=hB.1 ab;rw[YX ax gU cI];have:=T3 e5 _ u w hw aM Ω;rw[Fu.2 this];rfl
 ·obtain⟨u,J,rfl⟩:=hB.1 ab;have pW:=(nZ.1 J).2;simp only at hw⊢;cases e:ph (ρ u)with
  |none=>
   rw[CV e]at hw;cases hw;have U:=hle u;have au:ρ u≠u:=fun h=>by rw[Fu.2 ⟨h,by rw[h]at e;exact e⟩]at pW;cases pW
   omega
  |some t=>rw[Au e5 aM e]at hw;have:=(gU _ _ e).1;cases t<;>simp[T.ap,T.kind]at hw this
theorem agV(e5:∀v,ρ (ρ v)=ρ v)(aM:∀z u,jl ph ρ z u->r u<r z)(aQ:Int->T):kp ph ρ aQ↔∀v,aQ v=(hh ph ρ r v).ap aQ:=by
 constructor
 ·intro h;have:∀(n:Nat) (v:Int),r (ρ v)<n->aQ v=(hh ph ρ r v).ap aQ:=by
   intro n;induction n with
   |zero=>intro v h;omega
   |succ n bR=>
    intro v aB;cases e:ph (ρ v)with
    |none=>rw[CV e];exact h.1 v
    |some t=>rw[Au e5 aM e,Cr,h.1 v,h.2 _ t (e5 v) e];refine uP fun w hw=>bR w ?_;have:=aM (ρ v) (ρ w) ⟨e5 v,t,w,e,hw,rfl⟩;omega
  exact fun v=>this _ v (Nat.lt_succ_self _)
 ·intro h;refine⟨fun v=>by rw[h v,h (ρ v),<-Ar e5],fun x t af aN=>?_⟩;rw[h x,Au e5 aM (by rw[af];exact aN),Cr];exact uP fun w _=>(h w).symm
theorem aoM(ax:V.Nodup)(gU:oS V ph)(cI:∀v,v∉V->ρ v=v)(e5:∀v,ρ (ρ v)=ρ v)(aM:∀z u,jl ph ρ z u->r u<r z)(aQ:Int->T):hg (uk ph ρ r V) aQ↔kp ph ρ aQ:=by
 rw[agV e5 aM,aoT (Ot ax)];refine forall_congr' fun v=>?_;rw[bX,YX ax gU cI];cases e:n9 ph ρ v with
 |true=>simp
 |false=>obtain⟨J,U⟩:=Fu.1 e;rw[CV (by rw[J];exact U),J];simp
end
theorem aoU(E:List (T×T))(bs:MZ E):∃n o,B0 n E=some o/\iT [] E o/\∀c,qn n E bA.new=some (true,c)->(cx c.up).Nodup/\(∀v∈cx c.up,∃e∈E,e.1.occ v=true\/e.2.occ v=true)/\c.size=[]:=by
 have hi:me bA.new id:=⟨⟨fun v u h=>by simp[bA.new,c3]at h,fun v _=>rfl⟩,fun x t h=>by simp[bA.new,bA.ph,bA.shd,c3]at h,⟨.var,fun v=>rfl,fun x t _ h=>by simp[bA.new,bA.ph,bA.shd,c3]at h⟩⟩;have va:∀aQ,kp bA.new.ph id aQ:=fun aQ=>⟨fun v=>rfl,fun x t _ h=>by simp[bA.new,bA.ph,bA.shd,c3]at h⟩;obtain⟨hS,gP,bc,cV,dC,jg⟩:=CF E bA.new id hi (by simp[bA.new,cx]) bs;obtain⟨cV,Xw⟩:=cV;obtain⟨f,c⟩:=gP;cases f with
 |false=>refine⟨hS,none,by simp[B0,bc hS (e7 _)],Fm fun aQ _ he=>jg rfl aQ (va aQ) he,fun c h=>?_⟩;rw[bc hS (e7 _)]at h;cases h
 |true=>
  obtain⟨ρ,bC,a2,a3⟩:=dC rfl;simp only at bC a2 a3 cV Xw;have Uq:∀n,hS<=n->∀cw,qn n E bA.new=some (true,cw)->(cx cw.up).Nodup/\(∀v∈cx cw.up,∃e∈E,e.1.occ v=true\/e.2.occ v=true)/\cw.size=[]:=fun n ax cw h=>by rw[bc n ax]at h;cases h;exact⟨a2,fun v aB=>(Xw v aB).resolve_left (by simp[bA.new,cx]),cV.2.1⟩
  obtain⟨r,aM⟩:=bC.rank;have e5:=bC.ru.idem;have iL:∀v∈cx c.up,ρ v∈cx c.up:=fun v aB=>(bC.ru.mem aB).1;have dR:uF (cx c.up) c.ph ρ c:=⟨bC.ru,rfl,rfl⟩;have hw:∀d,qU (cx c.up) c.ph ρ r d c:=fun d=>⟨dR,fun z _=>.inl (by simp[bA.col,cV.1,bA.new,c3])⟩;obtain⟨jn,cq,o,ch,ca,fB,oT,P0⟩:=aoK bC.sh e5 aM iL (rF (cx c.up)) c [] (fun v aB=>(EO _).mem_iff.1 aB) hw Ψ (fun v aB=>by simp at aB);have dr:=aoN (r:=r) a2 bC.sh bC.ru.no e5 bC.ru.le aM;have lv:∀aQ,hg (uk c.ph ρ r (cx c.up)) aQ↔hg [] aQ/\jN E aQ:=fun aQ=>by rw[aoM a2 bC.sh bC.ru.no e5 aM,a3 aQ];exact⟨fun h=>⟨fun b ab=>by simp at ab,h.2⟩,fun h=>⟨va aQ,h.2⟩⟩
  have Us:gy (uk c.ph ρ r (cx c.up))↔(([]++(rF (cx c.up)).filter (n9 c.ph ρ)).length<=400/\∀v∈[]++(rF (cx c.up)).filter (n9 c.ph ρ),(hh c.ph ρ r v).size<=5000):=by unfold gy uk;simp only[oK,b6,hB,forall_exists_index,and_imp,forall_apply_eq_imp_iff₂]
  cases o with
  |none=>refine⟨max hS jn,none,by simp[B0,bc (max hS jn) Ω,EL,ch (max hS jn) Ω],?_,Uq _ Ω⟩;exact fun ah J U au=>P0 rfl (Us.1 (Tu dr J (fun aQ hE=>(lv aQ).2 (U aQ hE)) au))
  |some l=>
   obtain⟨al,aE,bn⟩:=oT l rfl;have aiE:rV (cx c.up) c.ph ρ r cq:=⟨ca,fun x t h=>by rw[fB,cV.2.2]at h;simp[bA.new,c3]at h⟩;simp only[b6]at al;obtain⟨zM,da,d1⟩:=aoL bC.sh e5 aM iL l cq (fun v aB=>by rw[al]at aB;exact(EO _).mem_iff.1 (nZ.1 aB).1) aiE;refine⟨max (max hS jn) zM,some (uk c.ph ρ r (cx c.up)),?_,⟨⟨dr,Us.2 ?_⟩,lv⟩,Uq _ Ω⟩
   ·simp only[B0,bc (max (max hS jn) zM) Ω,lf,Bool.true_eq_false,if_false,EL,ch (max (max hS jn) zM) Ω,d1 (max (max hS jn) zM) Ω,nl];rw[al];rfl
   ·rw[b6,<-al];exact⟨aE,bn⟩
def hU(s:List aq):List (T×T):=s.map fun b=>(.var b.v,b.t)
theorem aoS{s:List aq}{aQ:Int->T}:jN (hU s) aQ↔hg s aQ:=by simp[jN,hU,hg,T.ap]
theorem aaW{s:List aq}{E:List (T×T)}{o:ba (List aq)}:iT [] (hU s++E) o↔iT s E o:=by
 have h:∀aQ,(hg [] aQ/\jN (hU s++E) aQ)↔(hg s aQ/\jN E aQ):=fun aQ=>by rw[EM,aoS];exact⟨fun h=>h.2,fun h=>⟨fun b ab=>by simp at ab,h⟩⟩
 exact⟨Cp h,Cp fun aQ=>(h aQ).symm⟩
end
section
open Go
open Classical in
noncomputable def mgu(s:List aq)(E:List (T×T)):ba (List aq):=if h:∃o,iT s E o then h.choose else none
theorem sI{s:List aq}{E:List (T×T)}{o:ba (List aq)}(h:iT s E o):mgu s E=o:=by have af:∃o,iT s E o:=⟨o,h⟩;unfold mgu;rw[dif_pos af];exact aaX af.choose_spec h
def kS(s:List aq):Prop:= ∀b∈s,(0<=b.v/\b.v<=100000)/\b.t.ok=true
theorem PV{aQ:Int->T}{t:T}(aN:t.ok=true)(h:∀v,t.occ v=true->(aQ v).ok=true):(t.ap aQ).ok=true:=by
 induction t with
 |var n=>exact h n (by simp[T.occ])
 |pair a b ds dv=>simp only[T.ok,cC]at aN;simp only[T.ap,T.ok,cC];exact⟨ds aN.1 fun v aB=>h v (by simp[T.occ,aB]),dv aN.2 fun v aB=>h v (by simp[T.occ,aB])⟩
 |_=>exact aN
theorem xL{t:T}(aN:t.ok=true){v:Int}(h:t.occ v=true):0<=v/\v<=100000:=by
 induction t with
 |var n=>simp[T.occ]at h;subst h;simpa[T.ok]using aN
 |pair a b ds dv=>
  simp only[T.ok,cC]at aN;simp only[T.occ,lH]at h;rcases h with h|h
  ·exact ds aN.1 h
  ·exact dv aN.2 h
 |_=>simp[T.occ]at h
theorem Iv{s:List aq}(ag:kS s){t:T}(aN:t.ok=true):(t.ap (bX s)).ok=true:=PV aN fun v aB=>by
 unfold bX;cases e:cP s v with
 |none=>have:=xL aN aB;simpa[T.ok]using this
 |some x=>exact(ag _ (iV e)).2
theorem Cv{s:List aq}(ag:kS s){v:Int}{t:T}(aB:0<=v/\v<=100000)(aN:t.ok=true){ah:List aq}(h:n7 s v t=some ah):kS ah:=by
 unfold n7 at h;split at h
 ·cases h;intro b ab;rcases qC.1 ab with rfl|⟨c,aw,rfl⟩
  ·exact⟨aB,Iv ag aN⟩
  ·refine⟨(ag c aw).1,PV (ag c aw).2 fun w hw=>?_⟩;unfold one;split
   ·exact Iv ag aN
   ·have:=xL (ag c aw).2 hw;simpa[T.ok]using this
 ·cases h
theorem aai{s:List aq}(ag:kS s){t:T}(aN:t.ok=true):(hz s t).ok=true:=by
 cases t with
 |var n=>have:=Iv ag aN;simpa[hz,T.ap]using this
 |_=>exact aN
theorem OW:∀(n:Nat) (s:List aq) (a b:T) (ah:List aq),kS s->a.ok=true->b.ok=true->kU n s a b=some (some ah)->kS ah
 |0,_,_,_,_,_,_,_,h=>by simp[kU]at h
 |n+1,s,a,b,ah,ag,bu,ab,h=>by
  have af:=aai ag bu;have aO:=aai ag ab;simp only[kU]at h;generalize hz s a=x at h af;generalize hz s b=y at h aO;have wV:∀{i:Int},(T.var i).ok=true->0<=i/\i<=100000:=fun h=>xL h (by simp[T.occ]);cases x with
  |var i=>
   cases y with
   |var j=>
    simp only[kl,dQ]at h;split at h
    ·exact Cv ag (wV aO) af h
    ·split at h
     ·cases h;exact ag
     ·exact Cv ag (wV af) aO h
   |_=>simp only[kl,dQ]at h;exact Cv ag (wV af) aO h
  |pair bC a2=>
   cases y with
   |var j=>simp only[kl,dQ]at h;exact Cv ag (wV aO) af h
   |pair ch ca=>
    simp only[T.ok,cC]at af aO;simp only[kl]at h;split at h
    ·cases h
    ·cases h
    ·rename_i s1 al;exact OW n s1 a2 ca ah (OW n s bC ch s1 ag af.1 aO.1 al) af.2 aO.2 h
   |_=>simp[kl]at h
  |_=>
   cases y with
   |var j=>simp only[kl,dQ]at h;exact Cv ag (wV aO) af h
   |_=>
    simp only[kl,dQ]at h;split at h
    ·cases h;exact ag
    ·cases h
def nX:T->List Int
 | .var n=>[n]
 | .pair a b=>nX a++nX b
 |_=>[]
theorem y4{t:T}{v:Int}(h:t.occ v=true):v∈nX t:=by
 induction t with
 |var n=>simp[T.occ]at h;subst h;simp[nX]
 |pair a b ds dv=>simp only[T.occ,lH]at h;simp only[nX,kn];exact h.imp ds dv
 |_=>simp[T.occ]at h
theorem IN{s:List aq}(ag:fQ s)(aJ:gy s)(a b:T):∃n o,kU n s a b=some o/\iT s [(a,b)] o:=by obtain⟨n,o,J,U⟩:=ZA (s.flatMap (fun b=>b.v::nX b.t)++nX a++nX b) _ _ s a b ag aJ (fun c aw=>⟨by simp only[kn,List.mem_flatMap];exact .inl (.inl ⟨c,aw,Ψ⟩),fun w hw=>by simp only[kn,List.mem_flatMap];exact .inl (.inl ⟨c,aw,by simp[y4 hw]⟩)⟩) (fun w hw=>by simp[y4 hw]) (fun w hw=>by simp[y4 hw]) rfl rfl;exact⟨n,o,J,U.1⟩
theorem PG{s:List aq}{e:T×T}{E:List (T×T)}{s1:List aq}(h:iT s [e] (some s1)){o:ba (List aq)}(U:iT s1 E o):iT s (e::E) o:=PF (E:=[e]) h U
theorem Hw{s:List aq}(ag:fQ s)(aJ:gy s)(E:List (T×T)):iT s E (mgu s E):=by
 induction E generalizing s with
 |nil=>rw[sI (Jm ag aJ)];exact Jm ag aJ
 |cons e E bR=>
  obtain⟨n,o,_,U⟩:=IN ag aJ e.1 e.2;cases o with
  |none=>have au:iT s (e::E) none:=Jl E U;rw[sI au];exact au
  |some s1=>have au:=PG U (bR U.1.1 U.1.2);rw[sI au];exact au
theorem MK{s:List aq}(ag:fQ s)(aJ:gy s):mgu s []=some s:=sI (Jm ag aJ)
theorem MJ{s:List aq}(ag:fQ s)(aJ:gy s)(e:T×T)(E:List (T×T)):mgu s (e::E)=match mgu s [e]with|some s1=>mgu s1 E|none=>none:=by
 have J:=Hw ag aJ [e];cases h:mgu s [e]with
 |none=>rw[h]at J;have au:iT s (e::E) none:=Jl E J;exact sI au
 |some s1=>rw[h]at J;exact sI (PG J (Hw J.1.1 J.1.2 E))
theorem Bk{s:List aq}(ag:fQ s)(aJ:gy s){E:List (T×T)}{ah:List aq}(h:mgu s E=some ah):fQ ah/\gy ah:=by have J:=Hw ag aJ E;rw[h]at J;exact J.1
theorem aj8{s:List aq}(ag:fQ s)(aJ:gy s)(ay:kS s){E:List (T×T)}(dJ:∀e∈E,e.1.ok=true/\e.2.ok=true){ah:List aq}(h:mgu s E=some ah):kS ah:=by
 induction E generalizing s with
 |nil=>rw[MK ag aJ]at h;cases h;exact ay
 |cons e E bR=>
  rw[MJ ag aJ]at h;split at h
  ·rename_i s1 J;obtain⟨n,o,U,au⟩:=IN ag aJ e.1 e.2;have a6:=sI au;rw[J]at a6;subst a6;exact bR au.1.1 au.1.2 (OW n s e.1 e.2 s1 ay (dJ e Ψ).1 (dJ e Ψ).2 U) (fun ff he=>dJ ff (by simp[he])) h
  ·cases h
theorem Mf{l:List Int}(ax:l.Nodup)(h:∀v∈l,0<=v/\v<=100000):l.length<=100001:=by
 have J:(l.map Int.toNat).Nodup:=by rw[List.nodup_iff_pairwise_ne,td];exact arl (fun{a b} bu ab cM e=>cM (by have:=h a bu;have:=h b ab;omega)) ax
 have:=Pp J (l₂:=List.range 100001) (fun x af=>by obtain⟨v,aB,rfl⟩:=hB.1 af;have:=h v aB;simp;omega)
 simpa using this
end
end Go.Pv
