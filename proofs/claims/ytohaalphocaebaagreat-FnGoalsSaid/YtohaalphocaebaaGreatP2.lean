/- Classes of variables, as the program keeps them: what its functions compute, and what it means. -/
import Derived.Deep.LoopGhost
import Derived.Test.YtohaalphocaebaaGreatProg
import Derived.Test.YtohaalphocaebaaGreatP1
set_option linter.all false
set_option maxHeartbeats 4000000
set_option maxRecDepth 4000
open Array renaming getElem?_toList->tN
open BitVec renaming ofInt->lS
open Bool renaming and_eq_true->ct,false_eq_true->gF,not_eq_true'->qo,or_eq_true->ls
open Decidable renaming not_not->arB
open Go renaming Program->cG,TypeId->gG
open Go.IntKind renaming bits->nD,i64->mj,signed->rf,u64->hl,wrap->sy
open Go.IntWalk renaming i64_in->ml
open Go.Op renaming bytesLess->ht
open Go.Proofs.Tryz renaming prog->ay
open Go.Region renaming wanted->oU
open Go.Result renaming andThen_ok->fO
open Go.Sem renaming run_bind->fH,run_pure->gq
open Go.Value renaming cells->oV
open List renaming all_eq_true->gH,cons_append->bV,drop_eq_getElem_cons->k4,getElem?_eq_getElem->cr,getElem?_eq_none->qp,getElem?_eq_some_iff->fp,length_append->oW,length_cons->oe,map_cons->eO,map_nil->hn,mem_append->h9,mem_cons->fI,mem_cons_of_mem->og,mem_filter->iA,mem_map->ia,mem_of_getElem?->eZ,nil_append->b3,pairwise_cons->mS,pairwise_iff_getElem->oX
open List.Nodup renaming length_le_of_subset->Ef
open List.cons renaming injEq->yO
open Nat renaming le_refl->eC,le_trans->gZ,strongRecOn->pO
open Ne renaming symm->k5
open Option renaming bind_some->hU,getD_none->jq,getD_some->hV,isSome_iff_exists->fP,isSome_none->iL,map_eq_some_iff->gr,map_some->nE
open Option.some renaming inj->gu,injEq->dy
open Prod.mk renaming injEq->jE
open _root_ renaming False->eN,UInt8->c4,beq_iff_eq->dM,congrArg->e4,decide_eq_false_iff_not->hx,decide_eq_true_eq->eF
namespace Go.Pv
section
open Go Go.RowKit
def ahJ(A:df)(s ah:cM)(rm:Option aL):Prop:=(∀k,(look k ah.b).isSome->(look k s.b).isSome\/rm=some k)/\(∀k,(look k ah.e).isSome->(look k s.e).isSome\/rm=some k)/\(∀k,(look k s.b).isSome->(look k ah.b).isSome)/\(∀k,(look k s.e).isSome->(look k ah.e).isSome)/\
 (∀k,rm=some k->(∃j,k= .obj j)/\A.F k/\A.b k=none/\A.e k=none/\((look k ah.b).isSome\/(look k ah.e).isSome))
def X7(P:cG)(n:Nat)(args:List ai)(A:df)(d:Option Nat)(x:kN):Prop:=
 ∃s ah r rm,(∀k cs,look k s.b=some cs->A.b k=some cs/\aP (inObs s) cs)/\(∀k o,look k s.e=some o->A.e k=some o/\et (inObs s) o)/\iX s/\iX ah/\ahJ A s ah rm/\aP (inObs s) args/\
  bJ P n args s (fun eG dK=>eG=r/\dK=ah)/\x=⟨d,r,ah.b,ah.e,rm⟩
def X8(P:cG)(n0 n:Nat)(args:List ai)(A:df)(d:Option Nat)(x:kN):Prop:=
 ∃cK r,d=some cK/\(A.F (.loc (n0+cK))/\A.b (.loc (n0+cK))=none/\A.e (.loc (n0+cK))=none)/\aP (fun _=>eN) args/\
  HW P n (n0+cK) args ⟨[],[]⟩ (fun eG dK=>eG=r/\dK=⟨[],[]⟩)/\x=⟨d,r,[],[],some (.loc (n0+cK))⟩
def xT:ai->Bool
 | .ptr (.loc _) _=>true
 | .eptr _=>true
 |_=>false
def fU.isB:fU->Bool
 | .loadB _ _ _=>true
 | .mgetB _ _ _ _ _=>true
 |_=>false
def fU.ptrOf(t:Nat->ai):fU->ai
 | .load _ _ x=>dw t x
 | .loadB _ _ x=>dw t x
 |_=>.junk
def en(P:cG)(q:Bool)(n0:Nat):ed->df->kN->Prop
 | .s (.v d i),A,x=> ∃c p,pL A.t A.b A.e i=some (c,p)/\c/\(i.isLoad=true->i.isB=true\/q=true\/xT (i.ptrOf A.t)=true)/\x=⟨some d,p,[],[],none⟩
 | .s (.box d none v),A,x=>(A.F (.loc (n0+d))/\A.b (.loc (n0+d))=none/\A.e (.loc (n0+d))=none)/\eH (dw A.t v)=true/\x=⟨some d,.ptr (.loc (n0+d)) 0,[(.loc (n0+d),cells (dw A.t v))],[],some (.loc (n0+d))⟩
 | .s (.alloc d none z),A,x=>(A.F (.loc (n0+d))/\A.b (.loc (n0+d))=none/\A.e (.loc (n0+d))=none)/\x=⟨some d,.ptr (.loc (n0+d)) 0,[(.loc (n0+d),cells z)],[],some (.loc (n0+d))⟩
 | .s (.store sz u v),A,x=> ∃k off cs,dw A.t u= .ptr k off/\A.b k=some cs/\(hS cs=true/\eH (dw A.t v)=true/\(cells (dw A.t v)).length=sz/\off+sz<=cs.length)/\x=⟨none,.junk,[(k,n3 cs off (cells (dw A.t v)))],[],none⟩
 | .s (.bsl d sz el xs),A,x=>(A.F (.loc (n0+d))/\A.b (.loc (n0+d))=none/\A.e (.loc (n0+d))=none)/\sI sz (xs.map (dw A.t))/\x=⟨some d,.slice sz (.own (.loc (n0+d))) (xs.map (dw A.t)),[],[(.loc (n0+d),⟨xs.length,el,sz,none⟩)],some (.loc (n0+d))⟩
 | .s (.app d sz el u v),A,x=> ∃tag xs kX ys,dw A.t u= .slice sz tag xs/\dw A.t v= .slice sz kX ys/\
   ((∃k o,tag= .own k/\A.e k=some o/\(o.xs=none/\o.n=xs.length/\o.el=el/\o.sz=sz/\xs.length+ys.length<=lim)/\x=⟨some d,.slice sz (.own k) (xs++ys),[],[(k,⟨xs.length+ys.length,el,sz,none⟩)],none⟩)\/
    (tag= .nil/\ys.length<=lim/\(A.F (.loc (n0+d))/\A.b (.loc (n0+d))=none/\A.e (.loc (n0+d))=none)/\x=⟨some d,.slice sz (.own (.loc (n0+d))) ys,[],[(.loc (n0+d),⟨ys.length,el,sz,none⟩)],some (.loc (n0+d))⟩))
 | .s (.appm d _ sz el u v),A,x=> ∃k n xs kX ys,dw A.t u= .row sz k n/\dw A.t v= .slice sz kX ys/\A.e k=some ⟨n,el,sz,some xs⟩/\xs.length+ys.length<=lim/\x=⟨some d,.row sz k (xs.length+ys.length),[],[(k,⟨xs.length+ys.length,el,sz,some (xs++ys)⟩)],none⟩
 | .s (.storeE sz u v),A,x=> ∃k n i f el dH xs q,dw A.t u= .rptr dH k n i f/\A.e k=some ⟨n,el,dH,some xs⟩/\xs[i]? =some q/\(eH q=true/\eH (dw A.t v)=true/\(cells (dw A.t v)).length=sz/\f+sz<=(cells q).length/\0<sz)/\x=⟨none,.junk,[],[(k,⟨n,el,dH,some (xs.set i (pK q f (cells (dw A.t v))))⟩)],none⟩
 | .s (.mkmap d (some m)),A,x=>(A.F (.obj m)/\A.b (.obj m)=none/\A.e (.obj m)=none)/\x=⟨some d,.gmap (.obj m),[(.obj m,[.hdm 0 []])],[],some (.obj m)⟩
 | .s (.mput cc u k v),A,x=> ∃m cs cs',dw A.t u= .gmap m/\A.b m=some cs/\oN cc (dw A.t k) (dw A.t v) cs=some cs'/\x=⟨none,.junk,[(m,cs')],[],none⟩
 | .call d f xs,A,x=> ∃n dk,dw A.t f= .func n dk/\((X7 P n (dr (xs.map (dw A.t)++dk)) A d x/\(q=true->x.bw=[]/\x.ew=[]))\/X8 P n0 n (dr (xs.map (dw A.t)++dk)) A d x)
 |_,_,_=>eN
inductive Bg where
 |v|l|n|s|w|a|c|m|r|k
 deriving DecidableEq
def ed.mode:ed->Bg
 | .s (.v _ (.loadB _ _ _))=>.m
 | .s (.v _ (.mgetB _ _ _ _ _))=>.m
 | .s (.v _ i)=>if i.isLoad then .l else .v
 | .s (.storeE _ _ _)=>.r
 | .s (.box _ _ _)=>.n
 | .s (.alloc _ _ _)=>.n
 | .s (.store _ _ _)=>.w
 | .s (.bsl _ _ _ _)=>.s
 | .s (.app _ _ _ _ _)=>.a
 | .s (.bslm _ _ _ _ _)=>.w
 | .s (.mks _ _ _ _ _ _)=>.w
 | .s (.appm _ _ _ _ _ _)=>.r
 | .s (.mkmap _ _)=>.k
 | .s (.mput _ _ _ _)=>.w
 | .s (.range _ _ _)=>.w
 | .call _ _ _=>.c
 | .next _ _=>.w
structure H8 (q:Bool) (n0:Nat) (m:Bg) (dst:Option Nat) (A:df) (x:kN):Prop where
 d:x.d=dst
 b:∀k,(look k x.bw).isSome->(m= .n/\∃d,dst=some d/\k= .loc (n0+d)/\A.b k=none/\A.e k=none)\/m= .w\/(m= .c/\(∃j,k= .obj j)/\q=false)\/(m= .k/\(∃j,k= .obj j)/\A.b k=none/\A.e k=none)
 e:∀k,(look k x.ew).isSome->(m= .s/\∃d,dst=some d/\k= .loc (n0+d)/\A.b k=none/\A.e k=none)\/(m= .a/\(A.e k≠none\/ ∃d,dst=some d/\k= .loc (n0+d)/\A.b k=none/\A.e k=none))\/(m= .c/\(∃j,k= .obj j)/\q=false)\/(m= .r/\∃o,A.e k=some o/\o.xs≠none)
 r:∀k,x.rm=some k->(∃d,dst=some d/\k= .loc (n0+d))\/((m= .c\/m= .k)/\(∃j,k= .obj j)/\((look k x.bw).isSome\/(look k x.ew).isSome))
 ex:m= .a->∀k o,(look k x.ew).isSome->A.e k=some o->o.xs=none
 xn:m= .a\/m= .s->∀k o,look k x.ew=some o->o.xs=none
theorem tt{α:Type}{k bN:aL}{x:α}(h:(look k [(bN,x)]).isSome):k=bN:=by
 simp only[look]at h;split at h
 ·rename_i e;exact e.symm
 ·cases h
theorem Lb{k bN:aL}{n el sz:Nat}{o:fQ}(h:look k [(bN,(⟨n,el,sz,none⟩:fQ))]=some o):o.xs=none:=by
 simp only[look]at h;split at h
 ·cases h;rfl
 ·cases h
theorem Xc{P:cG}{q:Bool}{n0:Nat}{i:ed}{A:df}{x:kN}(h:en P q n0 i A x):H8 q n0 i.mode i.dst A x:=by
 cases i with
 |s i=>
  cases i with
  |v d i=>simp only[en]at h;obtain⟨c,p,_,_,_,rfl⟩:=h;exact⟨rfl,fun k ad=>by simp[look]at ad,fun k ad=>by simp[look]at ad,fun k ad=>by simp at ad,fun _ k o ad=>by simp[look]at ad,fun _ k o ad=>by simp[look]at ad⟩
  |box d key v=>
   cases key with
   |some m=>simp only[en]at h
   |none=>simp only[en]at h;obtain⟨⟨_,U,al⟩,_,rfl⟩:=h;exact⟨rfl,fun k ad=>by obtain rfl:=tt ad;exact .inl ⟨rfl,d,rfl,rfl,U,al⟩,fun k ad=>by simp[look]at ad,fun k ad=>by simp at ad;exact .inl ⟨d,rfl,ad.symm⟩,fun _ k o ad=>by simp[look]at ad,fun _ k o ad=>by simp[look]at ad⟩
  |alloc d key z=>
   cases key with
   |some m=>simp only[en]at h
   |none=>simp only[en]at h;obtain⟨⟨_,U,al⟩,rfl⟩:=h;exact⟨rfl,fun k ad=>by obtain rfl:=tt ad;exact .inl ⟨rfl,d,rfl,rfl,U,al⟩,fun k ad=>by simp[look]at ad,fun k ad=>by simp at ad;exact .inl ⟨d,rfl,ad.symm⟩,fun _ k o ad=>by simp[look]at ad,fun _ k o ad=>by simp[look]at ad⟩
  |store sz u v=>simp only[en]at h;obtain⟨k,off,cs,_,_,_,rfl⟩:=h;exact⟨rfl,fun k ad=>.inr (.inl rfl),fun k ad=>by simp[look]at ad,fun k ad=>by simp at ad,fun _ k o ad=>by simp[look]at ad,fun _ k o ad=>by simp[look]at ad⟩
  |bsl d sz el xs=>simp only[en]at h;obtain⟨⟨_,U,al⟩,_,rfl⟩:=h;exact⟨rfl,fun k ad=>by simp[look]at ad,fun k ad=>by obtain rfl:=tt ad;exact .inl ⟨rfl,d,rfl,rfl,U,al⟩,fun k ad=>by simp at ad;exact .inl ⟨d,rfl,ad.symm⟩,fun e=>by simp[ed.mode]at e,fun _ k o ad=>Lb ad⟩
  |app d sz el u v=>
   simp only[en]at h;obtain⟨tag,xs,kX,ys,_,_,h⟩:=h;rcases h with⟨k,o,_,J,⟨hb,_⟩,rfl⟩|⟨_,_,⟨_,U,al⟩,rfl⟩
   ·exact⟨rfl,fun k ad=>by simp[look]at ad,fun k ad=>by obtain rfl:=tt ad;exact .inr (.inl ⟨rfl,.inl (by rw[J];simp)⟩),fun k ad=>by simp at ad,fun _ bN o' ad aw=>by obtain rfl:=tt ad;rw[J]at aw;cases aw;exact hb,fun _ k o ad=>Lb ad⟩
   ·exact⟨rfl,fun k ad=>by simp[look]at ad,fun k ad=>by obtain rfl:=tt ad;exact .inr (.inl ⟨rfl,.inr ⟨d,rfl,rfl,U,al⟩⟩),fun k ad=>by simp at ad;exact .inl ⟨d,rfl,ad.symm⟩,fun _ bN o' ad aw=>(by obtain rfl:=tt ad;rw[al]at aw;cases aw),fun _ k o ad=>Lb ad⟩
  |bslm d key sz el xs=>simp only[en]at h
  |mks d key sz el z x=>simp only[en]at h
  |appm d key sz el u v=>simp only[en]at h;obtain⟨k,n,xs,kX,ys,_,_,J,_,rfl⟩:=h;exact⟨rfl,fun k ad=>by simp[look]at ad,fun k ad=>by obtain rfl:=tt ad;exact .inr (.inr (.inr ⟨rfl,_,J,Ψ⟩)),fun k ad=>by simp at ad,fun e=>by simp[ed.mode]at e,fun e=>by simp[ed.mode]at e⟩
  |storeE sz u v=>simp only[en]at h;obtain⟨k,n,i,f,el,dH,xs,q,_,J,_,_,rfl⟩:=h;exact⟨rfl,fun k ad=>by simp[look]at ad,fun k ad=>by obtain rfl:=tt ad;exact .inr (.inr (.inr ⟨rfl,_,J,Ψ⟩)),fun k ad=>by simp at ad,fun e=>by simp[ed.mode]at e,fun e=>by simp[ed.mode]at e⟩
  |mkmap d key=>
   cases key with
   |none=>simp only[en]at h
   |some m=>simp only[en]at h;obtain⟨⟨_,U,al⟩,rfl⟩:=h;exact⟨rfl,fun k ad=>by obtain rfl:=tt ad;exact .inr (.inr (.inr ⟨rfl,⟨m,rfl⟩,U,al⟩)),fun k ad=>by simp[look]at ad,fun k ad=>by simp at ad;subst ad;exact .inr ⟨.inr rfl,⟨m,rfl⟩,.inl (by simp[look])⟩,fun e=>by simp[ed.mode]at e,fun e=>by simp[ed.mode]at e⟩
  |mput cc x k v=>simp only[en]at h;obtain⟨m,cs,cs',_,_,_,rfl⟩:=h;exact⟨rfl,fun k ad=>.inr (.inl rfl),fun k ad=>by simp[look]at ad,fun k ad=>by simp at ad,fun e=>by simp[ed.mode]at e,fun e=>by simp[ed.mode]at e⟩
  |range d key x=>simp only[en]at h
 |next d x=>simp only[en]at h
 |call d f xs=>
  simp only[en]at h;obtain⟨n,dk,_,h⟩:=h;rcases h with⟨⟨s,ah,r,rm,_,_,_,aw,SO,_,_,rfl⟩,bI⟩|⟨cK,r,rfl,_,_,_,rfl⟩;rotate_left
  ·exact⟨rfl,fun k ad=>by simp[look]at ad,fun k ad=>by simp[look]at ad,fun k ad=>by simp at ad;exact .inl ⟨cK,rfl,ad.symm⟩,fun _ k o ad=>by simp[look]at ad,fun _ k o ad=>by simp[look]at ad⟩
  refine⟨rfl,fun k ad=>.inr (.inr (.inl ⟨rfl,?_,?_⟩)),fun k ad=>.inr (.inr (.inl ⟨rfl,?_,?_⟩)),fun k ad=>.inr ⟨.inl rfl,(SO.2.2.2.2 k ad).1,(SO.2.2.2.2 k ad).2.2.2.2⟩,fun e=>by simp[ed.mode]at e,fun e=>by simp[ed.mode]at e⟩
  ·cases k with
   |loc m=>rw[aw.1 m]at ad;cases ad
   |obj m=>exact⟨m,rfl⟩
  ·cases q with
   |false=>rfl
   |true=>rw[(bI rfl).1]at ad;simp[look]at ad
  ·cases k with
   |loc m=>rw[aw.2 m]at ad;cases ad
   |obj m=>exact⟨m,rfl⟩
  ·cases q with
   |false=>rfl
   |true=>rw[(bI rfl).2]at ad;simp[look]at ad
theorem NO{P:cG}{q:Bool}{n0:Nat}{i:ed}{A gg:df}{x:kN}(h:en P q n0 i A x)(aI:qz i.looks A.t gg.t)
  (au:i.mode= .l->∀k,(q=true\/ ∃m,k= .loc m)->A.b k≠none->gg.b k=A.b k) (SE:i.mode= .m->∀k,A.b k≠none->gg.b k=A.b k)
  (pq:i.mode= .l->q=true->∀k o,A.e k=some o->o.xs≠none->gg.e k=some o)
  (az:∀d,i.dst=some d->(i.mode= .n\/i.mode= .s\/i.mode= .a\/i.mode= .c)->(A.F (.loc (n0+d))/\A.b (.loc (n0+d))=none/\A.e (.loc (n0+d))=none)->(gg.F (.loc (n0+d))/\gg.b (.loc (n0+d))=none/\gg.e (.loc (n0+d))=none))
  (a7:i.mode= .a->∀k o,A.e k=some o->gg.e k=some o) (hw:i.mode= .w->∀k,gg.b k=A.b k) (afY:i.mode= .k->∀m,(A.F (.obj m)/\A.b (.obj m)=none/\A.e (.obj m)=none)->(gg.F (.obj m)/\gg.b (.obj m)=none/\gg.e (.obj m)=none)) (CB:i.mode= .r->∀k o,A.e k=some o->o.xs≠none->gg.e k=some o)
  (aq:i.mode= .c->∀m,gg.b (.obj m)=A.b (.obj m)/\gg.e (.obj m)=A.e (.obj m)/\(A.F (.obj m)->gg.F (.obj m))):en P q n0 i gg x:=by
 cases i with
 |s i=>
  cases i with
  |v d i=>
   simp only[en]at h⊢;obtain⟨c,p,J,U,al,a1⟩:=h;by_cases kj:∃agg sz y,i= .loadB agg sz y
   ·obtain⟨agg,sz,y,rfl⟩:=kj;simp only[ed.looks,ei.looks,fU.looks]at aI;have uu:=gm aI;refine⟨c,p,?_,U,fun _=>.inl rfl,a1⟩;rw[<-J];simp only[pL,<-uu];have hm:=SE (by simp[ed.mode]);simp only[pL]at J;cases bL:dw A.t y<;>simp only[r6];rename_i key off;rw[bL]at J;simp only[r6]at J;cases ab:A.b key with
    |none=>simp[ab]at J
    |some cs=>have:gg.b key=A.b key:=hm key (by rw[ab];simp);rw[this,ab]
   by_cases Fp:∃cc zero ok y z,i= .mgetB cc zero ok y z
   ·obtain⟨cc,zero,ok,y,z,rfl⟩:=Fp;simp only[ed.looks,ei.looks,fU.looks]at aI;obtain⟨t1,t2⟩:=kr aI;refine⟨c,p,?_,U,fun _=>.inl rfl,a1⟩;simp only[pL]at J⊢;rw[<-gm t1,<-gm t2];exact Uw (SE (by simp[ed.mode])) J
   replace al:i.isLoad=true->q=true\/xT (i.ptrOf A.t)=true:=fun nT=>(al nT).resolve_left (fun ab=>by cases i<;>simp[fU.isB]at ab;exact kj ⟨_,_,_,rfl⟩;exact Fp ⟨_,_,_,_,_,rfl⟩);have aff:i.isLoad=true->(ed.s (.v d i)).mode= .l:=by intro nT;cases i<;>simp only[fU.isLoad]at nT<;>first|(cases nT;done)|(simp[ed.mode,fU.isLoad];done)|exact absurd ⟨_,_,_,rfl⟩ kj|exact absurd ⟨_,_,_,_,_,rfl⟩ Fp
   by_cases nT:i.isLoad=true
   ·have bI:∀(bL:xT (i.ptrOf A.t)=false),∀k,A.b k≠none->gg.b k=A.b k:=fun bL k ad=>au (aff nT) k (.inl ((al nT).resolve_right (by rw[bL];simp))) ad;cases i<;>simp only[fU.isLoad]at nT<;>try(cases nT;done)
    case mget cc zero ok y z=>simp only[ed.looks,ei.looks,fU.looks]at aI;obtain⟨t1,t2⟩:=kr aI;refine⟨c,p,?_,U,fun _=>.inr (al rfl),a1⟩;simp only[pL]at J⊢;rw[<-gm t1,<-gm t2];exact Uw (bI rfl) J
    case ment y=>simp only[ed.looks,ei.looks,fU.looks]at aI;refine⟨c,p,?_,U,fun _=>.inr (al rfl),a1⟩;simp only[pL]at J⊢;rw[<-gm aI];exact ahe (bI rfl) J
    case mlen y=>simp only[ed.looks,ei.looks,fU.looks]at aI;refine⟨c,p,?_,U,fun _=>.inr (al rfl),a1⟩;simp only[pL]at J⊢;rw[<-gm aI];exact ahy (bI rfl) J
    case loadB agg sz y=>exact absurd ⟨_,_,_,rfl⟩ kj
    case mgetB=>exact absurd ⟨_,_,_,_,_,rfl⟩ Fp
    rename_i agg sz y;simp only[ed.looks,ei.looks,fU.looks]at aI;have uu:=gm aI;refine⟨c,p,?_,U,fun _=>.inr (by have:=al rfl;simpa only[fU.ptrOf,<-uu]using this),a1⟩;rw[<-J];simp only[pL,<-uu];have hm:=au (by simp[ed.mode,fU.isLoad]);simp only[pL]at J;have sV:=al rfl;simp only[fU.ptrOf]at sV;cases bL:dw A.t y<;>simp only[r6]
    ·rename_i key off;rw[bL]at J sV;simp only[r6]at J;cases ab:A.b key with
     |none=>simp[ab]at J
     |some cs=>have:gg.b key=A.b key:=hm key (by rcases sV with h|h;exact .inl h;cases key;exact .inr ⟨_,rfl⟩;simp[xT]at h) (by rw[ab];simp);rw[this,ab]
    ·rename_i dH key n i f;rw[bL]at J sV;simp only[r6]at J;have afy:q=true:=sV.resolve_right (by simp[xT]);unfold yx at J;split at J
     ·rename_i n' el jo xs he;rw[he,pq (by simp[ed.mode,fU.isLoad]) afy key _ he Ψ]
     ·cases J
   ·have nT:i.isLoad=false:=by simpa using nT
    refine⟨c,p,?_,U,(fun e=>by rw[nT]at e;cases e),a1⟩;rw[<-J];exact(al8 (by simpa only[ed.looks,ei.looks]using aI) nT).symm
  |box d key v=>
   cases key with
   |some m=>simp only[en]at h
   |none=>simp only[en,ed.looks,ei.looks]at h aI⊢;obtain⟨J,U,al⟩:=h;rw[<-gm aI];exact⟨az d rfl (.inl rfl) J,U,al⟩
  |alloc d key z=>
   cases key with
   |some m=>simp only[en]at h
   |none=>simp only[en]at h⊢;exact⟨az d rfl (.inl rfl) h.1,h.2⟩
  |store sz u v=>simp only[en,ed.looks,ei.looks]at h aI⊢;obtain⟨J,U⟩:=kr aI;rw[<-gm J,<-gm U];obtain⟨k,off,cs,g1,g2,g3,g4⟩:=h;exact⟨k,off,cs,g1,by rw[hw rfl];exact g2,g3,g4⟩
  |bsl d sz el xs=>simp only[en,ed.looks,ei.looks]at h aI⊢;rw[<-Gt aI];exact⟨az d rfl (.inr (.inl rfl)) h.1,h.2⟩
  |app d sz el u v=>
   simp only[en,ed.looks,ei.looks]at h aI⊢;obtain⟨J,U⟩:=kr aI;rw[<-gm J,<-gm U];obtain⟨tag,xs,kX,ys,g1,g2,h⟩:=h;refine⟨tag,xs,kX,ys,g1,g2,?_⟩;rcases h with⟨k,o,ao,aF,bM⟩|⟨ao,aF,bM,dt⟩
   ·exact .inl ⟨k,o,ao,a7 rfl k o aF,bM⟩
   ·exact .inr ⟨ao,aF,az d rfl (.inr (.inr (.inl rfl))) bM,dt⟩
  |bslm d key sz el xs=>simp only[en]at h
  |mks d key sz el z x=>simp only[en]at h
  |appm d key sz el u v=>simp only[en,ed.looks,ei.looks]at h aI⊢;obtain⟨J,U⟩:=kr aI;rw[<-gm J,<-gm U];obtain⟨k,n,xs,kX,ys,g1,g2,g3,g4,g5⟩:=h;exact⟨k,n,xs,kX,ys,g1,g2,CB rfl k _ g3 Ψ,g4,g5⟩
  |storeE sz u v=>simp only[en,ed.looks,ei.looks]at h aI⊢;obtain⟨J,U⟩:=kr aI;rw[<-gm J,<-gm U];obtain⟨k,n,i,f,el,dH,xs,q,g1,g2,g3⟩:=h;exact⟨k,n,i,f,el,dH,xs,q,g1,CB rfl k _ g2 Ψ,g3⟩
  |mkmap d key=>
   cases key with
   |none=>simp only[en]at h
   |some m=>simp only[en]at h⊢;exact⟨afY rfl m h.1,h.2⟩
  |mput cc u k v=>simp only[en,ed.looks,ei.looks]at h aI⊢;obtain⟨t1,t3⟩:=kr aI;obtain⟨t1,t2⟩:=kr t1;obtain⟨m,cs,cs',g1,g2,g3,g4⟩:=h;rw[<-gm t1,<-gm t2,<-gm t3];exact⟨m,cs,cs',g1,by rw[hw rfl];exact g2,g3,g4⟩
  |range d key x=>simp only[en]at h
 |next d x=>simp only[en]at h
 |call d f xs=>
  simp only[en,ed.looks]at h aI⊢;obtain⟨J,U⟩:=kr aI;rw[<-gm J,<-Gt U];obtain⟨n,dk,g1,h⟩:=h;rcases h with⟨⟨s,ah,r,rm,bT,cv,dj,ks,lV,o8⟩,g3⟩|⟨cK,r,rfl,bT,cv⟩;rotate_left
  ·exact⟨n,dk,g1,.inr ⟨cK,r,rfl,az cK rfl (.inr (.inr (.inr rfl))) bT,cv⟩⟩
  refine⟨n,dk,g1,.inl ⟨⟨s,ah,r,rm,fun k cs ad=>?_,fun k o ad=>?_,dj,ks,⟨lV.1,lV.2.1,lV.2.2.1,lV.2.2.2.1,fun k ad=>?_⟩,o8⟩,g3⟩⟩
  ·cases k with
   |loc m=>rw[dj.1 m]at ad;cases ad
   |obj m=>rw[(aq rfl m).1];exact bT _ _ ad
  ·cases k with
   |loc m=>rw[dj.2 m]at ad;cases ad
   |obj m=>rw[(aq rfl m).2.1];exact cv _ _ ad
  ·obtain⟨⟨j,rfl⟩,d2,d3,d4,d5⟩:=lV.2.2.2.2 k ad;exact⟨⟨j,rfl⟩,(aq rfl j).2.2 d2,by rw[(aq rfl j).1];exact d3,by rw[(aq rfl j).2.1];exact d4,d5⟩
def ll(d:Option Nat):kN:=⟨d,.tuple [],[],[],none⟩
def kO(P:cG)(q:Bool)(n0:Nat)(g:c5)(A:df)(x:kN):Prop:=
 match g.g with
 |none=>en P q n0 g.i A x
 |some (s,w)=>match A.t s with
  | .bool b=>(b=w/\en P q n0 g.i A x)\/(b= !w/\x=ll g.i.dst)
  | .tuple []=>x=ll g.i.dst
  |_=>eN
def e2:Bg->Bg->Bool
 | .v,_=>true
 |_,.v=>true
 | .l,.l| .l,.n| .l,.s| .l,.a| .l,.c=>true
 | .n,.n| .n,.s| .n,.a| .n,.c=>true
 | .s,.l| .s,.n| .s,.s| .s,.c=>true
 | .a,.l| .a,.n| .a,.s=>true
 | .c,.l| .c,.n| .c,.s=>true
 | .l,.m| .m,.l| .m,.m| .m,.n| .m,.s| .m,.a| .s,.m| .a,.m=>true
 | .l,.k| .m,.k| .n,.k| .s,.k=>true
 | .m,.r| .r,.m| .r,.n| .r,.s| .n,.r| .s,.r| .r,.w| .w,.r=>true
 |_,_=>false
def zj(g h:c5):Bool:=(match g.i.dst with|some d=> !(h.looks.contains d)&&h.i.dst !=some d|none=>true)&&(match h.i.dst with|some d=> !(g.looks.contains d)|none=>true)&&e2 g.i.mode h.i.mode
theorem Xd(q:Bool)(n0:Nat)(m:Bg)(d:Option Nat)(A:df):H8 q n0 m d A (ll d):=⟨rfl,fun k ad=>by simp[ll,look]at ad,fun k ad=>by simp[ll,look]at ad,fun k ad=>by simp[ll]at ad,fun _ k o ad=>by simp[ll,look]at ad,fun _ k o ad=>by simp[ll,look]at ad⟩
theorem Nc{P:cG}{q:Bool}{n0:Nat}{g:c5}{A:df}{x:kN}(h:kO P q n0 g A x):H8 q n0 g.i.mode g.i.dst A x:=by
 unfold kO at h;split at h
 ·exact Xc h
 ·split at h
  ·rcases h with⟨_,h⟩|⟨_,rfl⟩
   ·exact Xc h
   ·exact Xd _ _ _ _ _
  ·subst h;exact Xd _ _ _ _ _
  ·exact h.elim
theorem sP{A:df}{x:kN}{k:aL}(h:look k x.bw=none):(A.do x).b k=A.b k:=by simp[df.do,iF,h]
theorem sQ{A:df}{x:kN}{k:aL}(h:look k x.ew=none):(A.do x).e k=A.e k:=by simp[df.do,iF,h]
theorem IU{A:df}{x:kN}{k:aL}(h:(A.do x).b k=none):A.b k=none:=by
 simp only[df.do,iF]at h;split at h
 ·cases h
 ·exact h
theorem IW{A:df}{x:kN}{k:aL}(h:(A.do x).e k=none):A.e k=none:=by
 simp only[df.do,iF]at h;split at h
 ·cases h
 ·exact h
theorem lM{α:Type}{o:Option α}(h:¬o.isSome):o=none:=by cases o<;>simp at h⊢
theorem NQ{P:cG}{q:Bool}{n0:Nat}{g:c5}{A gg:df}{x:kN}(h:kO P q n0 g A x)(aI:qz g.looks A.t gg.t)(hm:en P q n0 g.i A x->en P q n0 g.i gg x):kO P q n0 g gg x:=by
 unfold kO at h⊢;cases aW:g.g with
 |none=>simp only[aW]at h⊢;exact hm h
 |some yG=>
  obtain⟨s,w⟩:=yG;have:A.t s=gg.t s:=aI s (by simp[c5.looks,aW]);simp only[aW,this]at h⊢;split at h
  ·rcases h with⟨J,U⟩|h
   ·exact .inl ⟨J,hm U⟩
   ·exact .inr h
  ·exact h
  ·exact h
theorem swap{P:cG}{q:Bool}{n0:Nat}{g h:c5}(Sv:zj g h=true){A:df}{x y:kN}(ae:kO P q n0 g A x)(aM:kO P q n0 h (A.do x) y):
  kO P q n0 h A y/\kO P q n0 g (A.do y) x/\x.apart y:=by
 simp only[zj,ct]at Sv;obtain⟨⟨ff,eK⟩,hm⟩:=Sv;have yH:=Nc ae;have cF:∀d cp,g.i.dst=some d->h.i.dst=some cp->d≠cp:=by intro d cp ao aF e;simp only[ao,ct,bne_iff_ne]at ff;exact ff.2 (by rw[aF,e])
 have qL:qz h.looks (A.do x).t A.t:=by intro i hi;simp only[df.do];rw[if_neg];intro e;rw[yH.d]at e;simp only[e,ct,qo,List.contains_eq_mem,hx]at ff;exact ff.1 hi
 have qO:∀k,(look k x.bw).isSome->_:=yH.b;have hle:∀k,(look k x.ew).isSome->_:=yH.e;have TO:kO P q n0 h A y:=by
  refine NQ aM qL fun lb=>NO lb (fun i hi=>qL i (by simp[c5.looks,hi])) (fun e k ad ab=>?_) (fun e k ab=>?_) (fun e bI k o aw hb=>?_) (fun d aG Cp lC=>?_) (fun e k o aw=>?_) (fun e k=>?_) (fun e m lC=>⟨lC.1.1,IU lC.2.1,IW lC.2.2⟩) (fun e k o aw hb=>?_) (fun e m=>?_)
  ·rw[sP (lM fun af=>?_)];rcases qO k af with⟨ao,_⟩|ao|⟨ao,⟨j,aF⟩,bM⟩|⟨ao,_⟩;rotate_left 3
   ·rw[e,ao]at hm;simp[e2]at hm
   ·rw[e,ao]at hm;simp[e2]at hm
   ·rw[e,ao]at hm;simp[e2]at hm
   ·rcases ad with ad|⟨m,ad⟩
    ·rw[ad]at bM;cases bM
    ·rw[ad]at aF;cases aF
  ·rw[sP (lM fun af=>?_)];rcases qO k af with⟨ao,_⟩|ao|⟨ao,_⟩|⟨ao,_⟩<;>(rw[e,ao]at hm;simp[e2]at hm)
  ·rw[e]at hm;cases h3:look k x.ew with
   |none=>rw[sQ h3]at aw;exact aw
   |some o'=>
    exfalso;have Ke:(A.do x).e k=some o':=by simp[df.do,iF,h3]
    rw[Ke]at aw;cases aw;rcases hle k (by simp[h3])with⟨ao,_⟩|⟨ao,_⟩|⟨ao,_,bM⟩|⟨ao,_⟩
    ·exact hb (yH.xn (.inr ao) k _ h3)
    ·exact hb (yH.xn (.inl ao) k _ h3)
    ·rw[bI]at bM;cases bM
    ·rw[ao]at hm;simp[e2]at hm
  ·exact⟨lC.1.1,IU lC.2.1,IW lC.2.2⟩
  ·rw[sQ (lM fun af=>?_)]at aw
   ·exact aw
   ·rw[e]at hm;rcases hle k af with⟨ao,_⟩|⟨ao,_⟩|⟨ao,_⟩|⟨ao,_⟩<;>(rw[ao]at hm;simp[e2]at hm)
  ·rw[sP (lM fun af=>?_)];rw[e]at hm;rcases qO k af with⟨ao,_⟩|ao|⟨ao,_⟩|⟨ao,_⟩<;>(rw[ao]at hm;simp[e2]at hm)
  ·rw[e]at hm;cases h3:look k x.ew with
   |none=>rw[sQ h3]at aw;exact aw
   |some o'=>
    exfalso;have Ke:(A.do x).e k=some o':=by simp[df.do,iF,h3]
    rw[Ke]at aw;cases aw;rcases hle k (by simp[h3])with⟨ao,_⟩|⟨ao,_⟩|⟨ao,_⟩|⟨ao,_⟩
    ·exact hb (yH.xn (.inr ao) k _ h3)
    ·rw[ao]at hm;simp[e2]at hm
    ·rw[ao]at hm;simp[e2]at hm
    ·rw[ao]at hm;simp[e2]at hm
  ·rw[e]at hm;refine⟨?_,?_,fun gw=>gw.1⟩
   ·rw[sP (lM fun af=>?_)];rcases qO _ af with⟨ao,d,_,aF,_⟩|ao|⟨ao,_⟩|⟨ao,_⟩;rotate_left 3
    ·rw[ao]at hm;simp[e2]at hm
    ·cases aF
    ·rw[ao]at hm;simp[e2]at hm
    ·rw[ao]at hm;simp[e2]at hm
   ·rw[sQ (lM fun af=>?_)];rcases hle _ af with⟨ao,d,_,aF,_⟩|⟨ao,_⟩|⟨ao,_⟩|⟨ao,_⟩
    ·cases aF
    ·rw[ao]at hm;simp[e2]at hm
    ·rw[ao]at hm;simp[e2]at hm
    ·rw[ao]at hm;simp[e2]at hm
 have ty:=Nc TO;have Sd:qz g.looks A.t (A.do y).t:=by intro i hi;simp only[df.do];rw[if_neg];intro e;rw[ty.d]at e;simp only[e,qo,List.contains_eq_mem,hx]at eK;exact eK hi
 refine⟨TO,?_,?_⟩
 ·refine NQ ae Sd fun lb=>NO lb (fun i hi=>Sd i (by simp[c5.looks,hi])) (fun e k ad ab=>?_) (fun e k ab=>?_) (fun e bI k o aw hb=>?_) (fun d aG Cp lC=>?_) (fun e k o aw=>?_) (fun e k=>?_) (fun e m lC=>?_) (fun e k o aw hb=>?_) (fun e m=>?_)
  ·refine sP (lM fun af=>?_);rcases ty.b k af with⟨ao,d,_,_,aF,_⟩|ao|⟨ao,⟨j,aF⟩,bM⟩|⟨_,_,aF,_⟩;rotate_left 3
   ·exact ab aF
   ·exact ab aF
   ·rw[e,ao]at hm;simp[e2]at hm
   ·rcases ad with ad|⟨m,ad⟩
    ·rw[ad]at bM;cases bM
    ·rw[ad]at aF;cases aF
  ·refine sP (lM fun af=>?_);rcases ty.b k af with⟨ao,d,_,_,aF,_⟩|ao|⟨ao,_⟩|⟨_,_,aF,_⟩;rotate_left 3
   ·exact ab aF
   ·exact ab aF
   ·rw[e,ao]at hm;simp[e2]at hm
   ·rw[e,ao]at hm;simp[e2]at hm
  ·rw[sQ (lM fun af=>?_)]
   ·exact aw
   ·rcases ty.e k af with⟨ao,d,_,_,_,aF⟩|⟨ao,aF⟩|⟨ao,_,bM⟩|⟨ao,_⟩
    ·rw[aF]at aw;cases aw
    ·exact hb (ty.ex ao k o af aw)
    ·rw[bI]at bM;cases bM
    ·rw[e,ao]at hm;simp[e2]at hm
  ·refine⟨⟨lC.1,fun qI=>?_⟩,?_,?_⟩
   ·rcases ty.r _ qI with⟨cp,ao,aF⟩|⟨_,⟨j,aF⟩,_⟩
    ·simp only[aL.loc.injEq]at aF;exact cF d cp aG ao Ω
    ·cases aF
   ·rw[sP (lM fun af=>?_)]
    ·exact lC.2.1
    ·rcases ty.b _ af with⟨ao,cp,aF,bM,_⟩|ao|⟨ao,⟨j,aF⟩,_⟩|⟨ao,⟨j,aF⟩,_⟩;rotate_left 3
     ·cases aF
     ·simp only[aL.loc.injEq]at bM;exact cF d cp aG aF Ω
     ·rcases Cp with aF|aF|aF|aF<;>(rw[ao,aF]at hm;simp[e2]at hm)
     ·cases aF
   ·rw[sQ (lM fun af=>?_)]
    ·exact lC.2.2
    ·rcases ty.e _ af with⟨ao,cp,aF,bM,_⟩|⟨ao,aF⟩|⟨ao,⟨j,aF⟩,_⟩|⟨ao,o,aF,_⟩
     ·simp only[aL.loc.injEq]at bM;exact cF d cp aG aF Ω
     ·rcases aF with aF|⟨cp,aF,bM,_⟩
      ·exact aF lC.2.2
      ·simp only[aL.loc.injEq]at bM;exact cF d cp aG aF Ω
     ·cases aF
     ·rw[lC.2.2]at aF;cases aF
  ·rw[sQ (lM fun af=>?_)]
   ·exact aw
   ·rw[e]at hm;rcases ty.e k af with⟨ao,d,_,_,_,aF⟩|⟨ao,_⟩|⟨ao,_⟩|⟨ao,_⟩
    ·rw[aF]at aw;cases aw
    ·rw[ao]at hm;simp[e2]at hm
    ·rw[ao]at hm;simp[e2]at hm
    ·rw[ao]at hm;simp[e2]at hm
  ·refine sP (lM fun af=>?_);rw[e]at hm;rcases ty.b k af with⟨ao,_⟩|ao|⟨ao,_⟩|⟨ao,_⟩<;>(rw[ao]at hm;simp[e2]at hm)
  ·rw[e]at hm;refine⟨⟨lC.1,fun qI=>?_⟩,?_,?_⟩
   ·rcases ty.r _ qI with⟨cp,ao,aF⟩|⟨ao|ao,_⟩
    ·cases aF
    ·rw[ao]at hm;simp[e2]at hm
    ·rw[ao]at hm;simp[e2]at hm
   ·rw[sP (lM fun af=>?_)]
    ·exact lC.2.1
    ·rcases ty.b _ af with⟨ao,_⟩|ao|⟨ao,_⟩|⟨ao,_⟩<;>(rw[ao]at hm;simp[e2]at hm)
   ·rw[sQ (lM fun af=>?_)]
    ·exact lC.2.2
    ·rcases ty.e _ af with⟨ao,_⟩|⟨ao,_⟩|⟨ao,_⟩|⟨ao,o,aF,_⟩
     ·rw[ao]at hm;simp[e2]at hm
     ·rw[ao]at hm;simp[e2]at hm
     ·rw[ao]at hm;simp[e2]at hm
     ·rw[lC.2.2]at aF;cases aF
  ·rw[sQ (lM fun af=>?_)]
   ·exact aw
   ·rw[e]at hm;rcases ty.e k af with⟨ao,d,_,_,_,aF⟩|⟨ao,_⟩|⟨ao,_⟩|⟨ao,_⟩
    ·rw[aF]at aw;cases aw
    ·rw[ao]at hm;simp[e2]at hm
    ·rw[ao]at hm;simp[e2]at hm
    ·rw[ao]at hm;simp[e2]at hm
  ·rw[e]at hm;refine⟨?_,?_,fun gw=>⟨gw,fun qI=>?_⟩⟩;rotate_left 2
   ·rcases ty.r _ qI with⟨cp,_,aF⟩|⟨aF|aF,_⟩
    ·cases aF
    ·rw[aF]at hm;simp[e2]at hm
    ·rw[aF]at hm;simp[e2]at hm
   ·refine sP (lM fun af=>?_);rcases ty.b _ af with⟨ao,d,_,aF,_⟩|ao|⟨ao,_⟩|⟨ao,_⟩;rotate_left 3
    ·rw[ao]at hm;simp[e2]at hm
    ·cases aF
    ·rw[ao]at hm;simp[e2]at hm
    ·rw[ao]at hm;simp[e2]at hm
   ·refine sQ (lM fun af=>?_);rcases ty.e _ af with⟨ao,d,_,aF,_⟩|⟨ao,_⟩|⟨ao,_⟩|⟨ao,_⟩
    ·cases aF
    ·rw[ao]at hm;simp[e2]at hm
    ·rw[ao]at hm;simp[e2]at hm
    ·rw[ao]at hm;simp[e2]at hm
 ·refine⟨fun i hi e=>?_,fun k ad=>lM fun af=>?_,fun k ad=>lM fun af=>?_⟩
  ·rw[yH.d]at hi;rw[ty.d]at e;exact cF i i hi e rfl
  ·rcases qO k ad with⟨bz,d,a2,a3,_⟩|bz|⟨bz,⟨j,a2⟩,_⟩|⟨bz,_⟩<;>rcases ty.b k af with⟨cf,cp,b9,gb,_⟩|cf|⟨cf,⟨dD,b9⟩,_⟩|⟨cf,⟨dD,b9⟩,_⟩;all_goals first|(rw[bz,cf]at hm;simp[e2]at hm;done)|skip
   ·rw[a3]at gb;simp only[aL.loc.injEq]at gb;exact cF d cp a2 b9 Ω
   ·rw[a3]at b9;cases b9
   ·rw[a3]at b9;cases b9
   ·rw[a2]at gb;cases gb
  ·rcases hle k ad with⟨bz,d,a2,a3,_,a4⟩|⟨bz,a2⟩|⟨bz,⟨j,a2⟩,_⟩|⟨bz,gU,a2,_⟩<;>rcases ty.e k af with⟨cf,cp,b9,gb,_,tY⟩|⟨cf,b9⟩|⟨cf,⟨dD,b9⟩,_⟩|⟨cf,gJ,b9,_⟩
   ·rw[a3]at gb;simp only[aL.loc.injEq]at gb;exact cF d cp a2 b9 Ω
   ·rw[bz,cf]at hm;simp[e2]at hm
   ·rw[a3]at b9;cases b9
   ·rw[a4]at b9;cases b9
   ·rcases a2 with a2|⟨d,a2,a3,_⟩
    ·exact a2 tY
    ·rw[a3]at gb;simp only[aL.loc.injEq]at gb;exact cF d cp a2 b9 Ω
   ·rw[bz,cf]at hm;simp[e2]at hm
   ·rw[bz,cf]at hm;simp[e2]at hm
   ·rw[bz,cf]at hm;simp[e2]at hm
   ·rw[a2]at gb;cases gb
   ·rw[bz,cf]at hm;simp[e2]at hm
   ·rw[bz,cf]at hm;simp[e2]at hm
   ·rw[bz,cf]at hm;simp[e2]at hm
   ·rw[tY]at a2;cases a2
   ·rw[bz,cf]at hm;simp[e2]at hm
   ·rw[bz,cf]at hm;simp[e2]at hm
   ·rw[bz,cf]at hm;simp[e2]at hm
def w9(C:fa)(A:df)(a:Act)(w:World):Prop:= ∃st Z,lu st A/\(∀k,A.F k->fresh st.n st.o k)/\cS C st a w Z
theorem K8{st:bo}{A:df}(h:lu st A)(d:Nat)(p:ai):lu {st with t:=put d p st.t} (A.do ⟨some d,p,[],[],none⟩):=by
 refine⟨fun i=>?_,fun k=>?_,fun k=>?_⟩
 ·simp only[df.do,pg,dy,h.t]
 ·simpa[df.do,iF,look]using h.b k
 ·simpa[df.do,iF,look]using h.e k
theorem Uf{st:bo}{A:df}(h:lu st A)(d:Nat)(p:ai)(o':List aL)(rm:Option aL):lu {st with t:=put d p st.t,o:=o'} (A.do ⟨some d,p,[],[],rm⟩):=by have:=K8 h d p;exact⟨this.t,this.b,this.e⟩
theorem XT{α:Type}{β:Type}:∀l:List (aL×α),bX ([]:List (aL×β)) l=l
 |[]=>rfl
 |(k,x)::r=>by simp[bX,look,XT r]
theorem z6{st:bo}{A:df}(h:lu st A)(d:Nat)(p:ai)(κ:aL)(cs:List ai)(n':Nat)(o':List aL)(rm:Option aL):lu ⟨put d p st.t,cy κ cs st.b,st.e,n',o'⟩ (A.do ⟨some d,p,[(κ,cs)],[],rm⟩):=by
 refine⟨fun i=>?_,fun k=>?_,fun k=>?_⟩
 ·simp only[df.do,pg,dy,h.t]
 ·simp only[df.do,iF,look,iW,h.b];by_cases e:κ=k<;>simp[e]
 ·simpa[df.do,iF,look]using h.e k
theorem Gn{st:bo}{A:df}(h:lu st A)(κ:aL)(cs:List ai)(p:ai):lu {st with b:=cy κ cs st.b} (A.do ⟨none,p,[(κ,cs)],[],none⟩):=by
 refine⟨fun i=>?_,fun k=>?_,fun k=>?_⟩
 ·simpa[df.do]using h.t i
 ·simp only[df.do,iF,look,iW,h.b];by_cases e:κ=k<;>simp[e]
 ·simpa[df.do,iF,look]using h.e k
theorem wi{st:bo}{A:df}(h:lu st A)(d:Nat)(p:ai)(κ:aL)(o:fQ)(n':Nat)(o':List aL)(rm:Option aL):lu ⟨put d p st.t,st.b,cy κ o st.e,n',o'⟩ (A.do ⟨some d,p,[],[(κ,o)],rm⟩):=by
 refine⟨fun i=>?_,fun k=>?_,fun k=>?_⟩
 ·simp only[df.do,pg,dy,h.t]
 ·simpa[df.do,iF,look]using h.b k
 ·simp only[df.do,iF,look,iW,h.e];by_cases e:κ=k<;>simp[e]
theorem Ue{st:bo}{A:df}(h:lu st A)(κ:aL)(o:fQ)(p:ai):lu {st with e:=cy κ o st.e} (A.do ⟨none,p,[],[(κ,o)],none⟩):=by
 refine⟨fun i=>?_,fun k=>?_,fun k=>?_⟩
 ·simpa[df.do]using h.t i
 ·simpa[df.do,iF,look]using h.b k
 ·simp only[df.do,iF,look,iW];by_cases e:κ=k<;>simp[e,h.e]
theorem Lp{α:Type}{k:aL}:∀{l:List (aL×α)},k∈l.map (·.1)->(look k l).isSome
 |[],h=>by simp at h
 |(i,x)::r,h=>by
  simp only[look];split
  ·rfl
  ·rename_i e;simp only[eO,fI]at h;rcases h with h|h
   ·exact absurd h.symm e
   ·exact Lp h
theorem vv{n:Nat}{o:List aL}{κ:aL}:∀j,fresh n (κ::o) j->fresh n o j/\j≠κ:=by intro j ag;simp only[fresh,fI,not_or]at ag⊢;exact⟨⟨ag.1,ag.2.2⟩,ag.2.1⟩
theorem ac7{n:Nat}{o:List aL}{κ j:aL}(h:fresh n o j)(ag:some κ≠some j):fresh n (κ::o) j:=by simp only[fresh,fI,not_or]at h⊢;exact⟨h.1,fun e=>ag (by rw[e]),h.2⟩
theorem NP{P:cG}{bB:List (Nat×dA)}(aI:fN P bB=true){C:fa}{q:Bool}{n0:Nat}{i:ed}{o:Oper}(aw:uY C.N bB i o=true){A:df}{x:kN}(ae:en P q n0 i A x){a:Act}{w:World}(aK:w9 C A a w)
  {K:Act->World->Prop} {Q:Exit->Act->World->Prop} (c2:∀bp w',w9 C (A.do x) bp w'->K bp w'):o.wp P a w K Q:=by
 obtain⟨st,Z,au,gw,aK⟩:=aK;have xv:∀(t:List (Nat×ai)) (b:List (aL×List ai)) (e:List (aL×fQ)) (d:Option Nat) (p:ai) (bw:List (aL×List ai)) (ew:List (aL×fQ)),∀k,(A.do ⟨d,p,bw,ew,none⟩).F k->fresh st.n st.o k:=fun t b e d p bw ew k ad=>gw k ad.1;have nf:∀(d:Option Nat) (p:ai) (bw:List (aL×List ai)) (ew:List (aL×fQ)) (κ:aL),∀k,(A.do ⟨d,p,bw,ew,some κ⟩).F k->fresh st.n (κ::st.o) k:=fun d p bw ew κ k ad=>ac7 (gw k ad.1) ad.2;cases i with
 |s i=>
  have hQ:DI C.N bB i o=true:=by simpa only[uY]using aw
  cases i with
  |v d i=>simp only[en]at ae;obtain⟨c,p,J,U,_,rfl⟩:=ae;rw[<-Xk au]at J;refine jQ (κ:= .loc 0) (n':=0) (o₁:=[]) aI aK hQ (fun h=>by simp[ei.makes]at h) (fun h=>by simp[ei.makes]at h) (st':={st with t:=put d p st.t}) (by simp only[eA,J]) U fun bp w' bq ck=>c2 _ _ ⟨_,bq,K8 au d p,fun k ad=>gw k ad.1,ck⟩
  |box d key v=>
   cases key with
   |some m=>simp only[en]at ae
   |none=>simp only[en]at ae;obtain⟨⟨J,_⟩,U,rfl⟩:=ae;rw[<-iR au]at U;refine jQ (κ:= .loc (n0+d)) (n':=st.n) (o₁:= .loc (n0+d)::st.o) aI aK hQ (fun _=>gw _ J) (fun _=>vv) (st':=⟨put d (.ptr (.loc (n0+d)) 0) st.t,cy (.loc (n0+d)) (cells (cm st.t v)) st.b,st.e,st.n,.loc (n0+d)::st.o⟩) (by simp only[eA]) U fun bp w' bq ck=>c2 _ _ ⟨_,bq,?_,nf _ _ _ _ _,ck⟩;rw[iR au];exact z6 au d _ _ _ _ _ _
  |alloc d key z=>
   cases key with
   |some m=>simp only[en]at ae
   |none=>simp only[en]at ae;obtain⟨⟨J,_⟩,rfl⟩:=ae;refine jQ (κ:= .loc (n0+d)) (n':=st.n) (o₁:= .loc (n0+d)::st.o) aI aK hQ (fun _=>gw _ J) (fun _=>vv) (st':=⟨put d (.ptr (.loc (n0+d)) 0) st.t,cy (.loc (n0+d)) (cells z) st.b,st.e,st.n,.loc (n0+d)::st.o⟩) (by simp only[eA]) trivial fun bp w' bq ck=>c2 _ _ ⟨_,bq,z6 au d _ _ _ _ _ _,nf _ _ _ _ _,ck⟩
  |store sz u v=>simp only[en]at ae;obtain⟨k,off,cs,J,U,al,rfl⟩:=ae;rw[<-iR au]at J al;rw[<-au.b]at U;refine jQ (κ:= .loc 0) (n':=0) (o₁:=[]) aI aK hQ (fun h=>by simp[ei.makes]at h) (fun h=>by simp[ei.makes]at h) (st':={st with b:=cy k (n3 cs off (cells (cm st.t v))) st.b}) (by simp only[eA,J,U]) al fun bp w' bq ck=>c2 _ _ ⟨{st with b:=cy k (n3 cs off (cells (cm st.t v))) st.b},bq,by rw[iR au];exact Gn au k _ _,fun k ad=>gw k ad.1,ck⟩
  |bsl d sz el xs=>simp only[en]at ae;obtain⟨⟨J,_⟩,U,rfl⟩:=ae;rw[<-ug au]at U;refine jQ (κ:= .loc (n0+d)) (n':=st.n) (o₁:= .loc (n0+d)::st.o) aI aK hQ (fun _=>gw _ J) (fun _=>vv) (st':=⟨put d (.slice sz (.own (.loc (n0+d))) (xs.map (cm st.t))) st.t,st.b,cy (.loc (n0+d)) ⟨xs.length,el,sz,none⟩ st.e,st.n,.loc (n0+d)::st.o⟩) (by simp only[eA]) U fun bp w' bq ck=>c2 _ _ ⟨_,bq,?_,nf _ _ _ _ _,ck⟩;rw[ug au];exact wi au d _ _ _ _ _ _
  |app d sz el u v=>
   simp only[en]at ae;obtain⟨tag,xs,kX,ys,J,U,ae⟩:=ae;rw[<-iR au]at J U;rcases ae with⟨k,ow,rfl,al,a1,rfl⟩|⟨rfl,al,⟨a1,_⟩,rfl⟩
   ·rw[<-au.e]at al;refine jQ (κ:= .loc 0) (n':=0) (o₁:=[]) aI aK hQ (fun h=>by simp[ei.makes,J]at h) (fun h=>by simp[ei.makes,J]at h) (st':=⟨put d (.slice sz (.own k) (xs++ys)) st.t,st.b,cy k ⟨xs.length+ys.length,el,sz,none⟩ st.e,st.n,st.o⟩) (by simp only[eA,J,U,al,and_self,if_true]) a1.2 fun bp w' bq ck=>c2 _ _ ⟨_,bq,wi au d _ _ _ _ _ _,fun k ad=>gw k ad.1,ck⟩
   ·refine jQ (κ:= .loc (n0+d)) (n':=st.n) (o₁:= .loc (n0+d)::st.o) aI aK hQ (fun _=>gw _ a1) (fun _=>vv) (st':=⟨put d (.slice sz (.own (.loc (n0+d))) ys) st.t,st.b,cy (.loc (n0+d)) ⟨ys.length,el,sz,none⟩ st.e,st.n,.loc (n0+d)::st.o⟩) (by simp only[eA,J,U,and_self,if_true]) al fun bp w' bq ck=>c2 _ _ ⟨_,bq,wi au d _ _ _ _ _ _,nf _ _ _ _ _,ck⟩
  |bslm d key sz el xs=>simp only[en]at ae
  |mks d key sz el z x=>simp only[en]at ae
  |appm d key sz el u v=>simp only[en]at ae;obtain⟨k,n,xs,kX,ys,J,U,al,a1,rfl⟩:=ae;rw[<-iR au]at J U;rw[<-au.e]at al;refine jQ (κ:= .loc 0) (n':=0) (o₁:=[]) aI aK hQ (fun h=>by simp[ei.makes,J]at h) (fun h=>by simp[ei.makes,J]at h) (st':=⟨put d (.row sz k (xs.length+ys.length)) st.t,st.b,cy k ⟨xs.length+ys.length,el,sz,some (xs++ys)⟩ st.e,st.n,st.o⟩) (by simp only[eA,sJ,J,U,al,and_self,if_true]) a1 fun bp w' bq ck=>c2 _ _ ⟨_,bq,wi au d _ _ _ _ _ _,fun k ad=>gw k ad.1,ck⟩
  |storeE sz u v=>simp only[en]at ae;obtain⟨k,n,i,f,el,dH,xs,q,J,U,al,a1,rfl⟩:=ae;rw[<-iR au]at J a1;rw[<-au.e]at U;refine jQ (κ:= .loc 0) (n':=0) (o₁:=[]) aI aK hQ (fun h=>by simp[ei.makes]at h) (fun h=>by simp[ei.makes]at h) (st':={st with e:=cy k ⟨n,el,dH,some (xs.set i (pK q f (cells (cm st.t v))))⟩ st.e}) (by simp only[eA,q9,J,U,al,and_self,if_true]) a1 fun bp w' bq ck=>c2 _ _ ⟨{st with e:=cy k ⟨n,el,dH,some (xs.set i (pK q f (cells (cm st.t v))))⟩ st.e},bq,by rw[iR au];exact Ue au k _ _,fun k ad=>gw k ad.1,ck⟩
  |mkmap d key=>
   cases key with
   |none=>simp only[en]at ae
   |some m=>simp only[en]at ae;obtain⟨⟨J,_⟩,rfl⟩:=ae;exact jQ (κ:= .obj m) (n':=st.n) (o₁:= .obj m::st.o) aI aK hQ (fun _=>gw _ J) (fun _=>vv) (st':=⟨put d (.gmap (.obj m)) st.t,cy (.obj m) [.hdm 0 []] st.b,st.e,st.n,.obj m::st.o⟩) (by simp only[eA]) trivial fun bp w' bq ck=>c2 _ _ ⟨_,bq,z6 au d _ _ _ _ _ _,nf _ _ _ _ _,ck⟩
  |mput cc u k v=>simp only[en]at ae;obtain⟨m,cs,cs',J,U,al,rfl⟩:=ae;rw[<-iR au]at J;rw[<-iR au,<-iR au]at al;rw[<-au.b]at U;exact jQ (κ:= .loc 0) (n':=0) (o₁:=[]) aI aK hQ (fun h=>by simp[ei.makes]at h) (fun h=>by simp[ei.makes]at h) (st':={st with b:=cy m cs' st.b}) (by simp only[eA,J,U,al]) trivial fun bp w' bq ck=>c2 _ _ ⟨{st with b:=cy m cs' st.b},bq,Gn au m _ _,fun k ad=>gw k ad.1,ck⟩
  |range d key x=>simp only[en]at ae
 |next d x=>simp only[en]at ae
 |call d f xs=>
  simp only[en]at ae;obtain⟨n,dk,J,ae⟩:=ae;rw[<-iR au]at J;rcases ae with⟨⟨s,ah,r,rm,bT,cv,dj,ks,lV,o8,Bw,rfl⟩,_⟩|⟨cK,r,rfl,bT,cv,dj,rfl⟩;rotate_left
  ·rw[<-ug au]at cv dj;simp only[uY]at aw;split at aw
   ·rename_i rz args ea nj;simp only[ct,dM]at aw;obtain⟨⟨⟨ao,aF⟩,bM⟩,dt⟩:=aw;have l2:=eh aK bM;rw[J]at l2;refine Qx aK nj ao aF l2 (DD aK dt) (K:=fun st'=>st'={st with t:=put cK r st.t,o:= .loc (n0+cK)::st.o}) ⟨⟨[],[]⟩,_,some (n0+cK),st.n,fun _=>.loc (n0+cK)::st.o,fun k cs ad=>by simp[look]at ad,fun k cs ad=>by simp[look]at ad,⟨fun _=>rfl,fun _=>rfl⟩,j2 (fun _ h=>h.elim) _ cv,dj,fun m hm=>?_,fun k eG ah bI ad=>?_,?_⟩ ?_
    ·cases hm;exact gw _ bT.1
    ·obtain⟨_,rfl⟩:=bI;have:=vv k ad;exact⟨by simpa[cX]using this.1,fun m hm=>by cases hm;exact this.2⟩
    ·rintro eG oQ ⟨rfl,rfl⟩;refine⟨⟨fun m hm=>by simp[look]at hm,fun m hm=>by simp[look]at hm⟩,?_⟩;simp[after,XT,eM]
    ·rintro st' bp w' bq rfl ck;exact c2 _ _ ⟨_,bq,Uf au cK r _ _,nf _ _ _ _ _,ck⟩
   ·cases aw
  rw[<-ug au]at o8 Bw;simp only[uY]at aw;split at aw
  ·rename_i rz args ea nj;simp only[ct,dM]at aw;obtain⟨⟨⟨ao,aF⟩,bM⟩,dt⟩:=aw;have l2:=eh aK bM;rw[J]at l2;obtain⟨aX,bg,b6,cT,de⟩:=lV;refine Qw aK nj ao aF l2 (DD aK dt) (K:=fun st'=>st'=after st s ah d r) (.inl ⟨s,_,fun k cs ad=>⟨by rw[au.b];exact(bT k cs ad).1,.inl (by simp[ad]),(bT k cs ad).2⟩,fun k o' ad=>⟨by rw[au.e];exact(cv k o' ad).1,.inr (by simp[ad]),(cv k o' ad).2⟩,dj,o8,Bw,?_⟩) ?_
   ·rintro eG oQ ⟨rfl,rfl⟩;refine⟨⟨fun m hm=>?_,fun m hm=>?_⟩,rfl⟩
    ·rcases aX _ hm with h|h
     ·exact .inl h
     ·exact .inr (gw _ (de _ h).2.1).2
    ·rcases bg _ hm with h|h
     ·exact .inl h
     ·exact .inr (gw _ (de _ h).2.1).2
   ·rintro st' bp w' bq rfl ck;refine c2 _ _ ⟨_,bq,⟨fun i=>?_,fun k=>?_,fun k=>?_⟩,fun k ad=>?_,ck⟩
    ·simp only[after,df.do];cases d with
     |none=>simpa[eM]using au.t i
     |some d=>simp only[eM,pg,dy,au.t]
    ·simp only[after,df.do,iF,x2,uP];by_cases af:(look k s.b).isSome
     ·have:=b6 k af;obtain⟨y,aM⟩:=fP.1 this;simp[af,aM]
     ·cases az:look k ah.b with
      |none=>simp only[af,au.b];cases A.b k<;>simp
      |some y=>
       rcases aX k (by simp[az])with h|h
       ·exact absurd h af
       ·have:=de k h;simp[af,au.b,this]
    ·simp only[after,df.do,iF,x2,uP];by_cases af:(look k s.e).isSome
     ·have:=cT k af;obtain⟨y,aM⟩:=fP.1 this;simp[af,aM]
     ·cases az:look k ah.e with
      |none=>simp only[af,au.e];cases A.e k<;>simp
      |some y=>
       rcases bg k (by simp[az])with h|h
       ·exact absurd h af
       ·have:=de k h;simp[af,au.e,this]
    ·have JX:=gw k ad.1;have oF:=aK.lookNone JX;simp only[after];refine⟨JX.1,fun jI=>?_⟩;rcases h9.1 jI with jI|jI
     ·exact JX.2 jI
     ·rcases h9.1 jI with jI|jI
      ·rcases aX k (Lp jI)with h|h
       ·obtain⟨y,aM⟩:=fP.1 h;have:=(bT k y aM).1;rw[<-au.b,oF.1]at this;cases this
       ·exact ad.2 h
      ·rcases bg k (Lp jI)with h|h
       ·obtain⟨y,aM⟩:=fP.1 h;have:=(cv k y aM).1;rw[<-au.e,oF.2]at this;cases this
       ·exact ad.2 h
  ·cases aw
theorem Ya{P:cG}{bB:List (Nat×dA)}(aI:fN P bB=true){C:fa}{q:Bool}{n0:Nat}{ops:Array Oper}{g:c5}{o:Oper}{j:Nat}(ag:ops[j]? =some o)(aw:BS C.N bB ops.toList g o=true){A:df}{x:kN}(ae:kO P q n0 g A x){a:Act}{w:World}(aK:w9 C A a w)
  {K:Act->World->Prop} {Q:Exit->Act->World->Prop} (c2:∀bp w',w9 C (A.do x) bp w'->K bp w'):wpOp P ops Q j K a w:=by
 unfold wpOp;rw[ag];simp only;simp only[BS,ct]at aw;obtain⟨qN,rN⟩:=aw;unfold kO at ae;cases Ch:g.g with
 |none=>
  cases er:o.guard with
  |some x=>simp[er,Ch]at qN
  |none=>
   have hw:oU o (yielded ops a.tmps)=true:=by simp[oU,er]
   rw[if_pos hw];simp only[Ch]at ae;exact .inl (NP aI rN ae aK c2)
 |some yG=>
  obtain⟨s,want⟩:=yG;cases er:o.guard with
  |none=>simp[er,Ch]at qN
  |some ana=>
   obtain⟨apv,b0⟩:=ana;simp only[er,Ch,ct,dM,eF]at qN;obtain⟨⟨⟨⟨rfl,U⟩,al⟩,a1⟩,bW⟩:=qN;obtain⟨st,Z,au,gw,dG⟩:=id aK;obtain⟨kK,oT⟩:=XZ dG U al;simp only[Ch]at ae;have S9:∀(h:x=ll g.i.dst),K (a.put o.dst undef) w:=by
    rintro rfl;rw[a1];refine c2 _ _ ⟨_,Z,?_,fun k ad=>?_,dG.put bW (p:= .tuple []) (by simp[bd,cR,undef])⟩
    ·refine⟨fun i=>?_,fun k=>?_,fun k=>?_⟩
     ·simp only[df.do,ll];cases g.i.dst with
      |none=>simpa[eM]using au.t i
      |some d=>simp only[eM,pg,dy,au.t]
     ·simpa[df.do,iF,look,ll]using au.b k
     ·simpa[df.do,iF,look,ll]using au.e k
    ·exact gw k ad.1
   split at ae
   ·rename_i b ab;have aM:=kK b (by rw[au.t];exact ab);rcases ae with⟨rfl,ae⟩|⟨rfl,ae⟩
    ·have hw:oU o (yielded ops a.tmps)=true:=by simp[oU,er,aM]
     rw[if_pos hw];exact .inl (NP aI rN ae aK c2)
    ·have hw:¬(oU o (yielded ops a.tmps)=true):=by simp[oU,er,aM]
     rw[if_neg hw];exact S9 ae
   ·rename_i ab;have aM:=oT (by rw[au.t];exact ab);have hw:¬(oU o (yielded ops a.tmps)=true):=by simp[oU,er,aM]
    rw[if_neg hw];exact S9 ae
   ·exact ae.elim
def vq(P:cG)(q:Bool)(n0:Nat)(K:df->Prop):List (Nat×c5)->df->Prop
 |[],A=>K A
 |(_,g)::r,A=> ∃x,kO P q n0 g A x/\vq P q n0 K r (A.do x)
theorem Ot{P:cG}{q:Bool}{n0:Nat}{K:df->Prop}{i:Nat}{g:c5}:∀(oh o3:List (Nat×c5)) (A:df),(∀x∈oh,zj x.2 g=true)->vq P q n0 K (oh++(i,g)::o3) A->∃x,kO P q n0 g A x/\vq P q n0 K (oh++o3) (A.do x)
 |[],o3,A,_,h=>h
 |(j,RT)::oh,o3,A,aq,h=>by simp only[bV,vq]at h;obtain⟨y,aM,h⟩:=h;obtain⟨x,ae,h⟩:=Ot oh o3 (A.do y) (fun z bk=>aq z (og _ bk)) h;obtain⟨s1,s2,s3⟩:=swap (aq _ (List.mem_cons_self ..)) aM ae;refine⟨x,s1,y,s2,?_⟩;rw[<-df.do_comm A s3];exact h
def rem(hF:Array Bool):Nat->List c5->List (Nat×c5)
 |_,[]=>[]
 |k,g::r=>if hF.getD k false then rem hF (k+1) r else(k,g)::rem hF (k+1) r
theorem Ws{l a6:Array Bool}:∀(gs:List c5) (k:Nat),(∀j,k<=j->l.getD j false=a6.getD j false)->rem l k gs=rem a6 k gs
 |[],_,_=>rfl
 |g::r,k,h=>by simp only[rem,h k (eC _),Ws r (k+1) fun j ag=>h j Ω]
theorem Fi{l:Array Bool}{i j:Nat}(h:i<l.size):(l.setIfInBounds i true).getD j false=if i=j then true else l.getD j false:=by
 simp only[Array.getD_eq_getD_getElem?];by_cases e:i=j
 ·subst e;simp[h]
 ·simp[e]
theorem Mw{l:Array Bool}{i:Nat}(hi:i<l.size)(az:l.getD i false=false):∀(gs:List c5) (k:Nat),k<=i->i<k+gs.length->∃oh o3 g,gs[i-k]? =some g/\rem l k gs=oh++(i,g)::o3/\rem (l.setIfInBounds i true) k gs=oh++o3/\
  ∀x∈oh,gs[x.1-k]? =some x.2/\k<=x.1/\x.1<i/\l.getD x.1 false=false
 |[],k,J,U=>by simp at U;omega
 |g::r,k,J,U=>by
  by_cases e:k=i
  ·subst e;refine⟨[],rem l (k+1) r,g,Ψ,by simp[rem,az],?_,fun x ae=>by simp at ae⟩;simp only[rem,Fi hi,if_true,b3];exact Ws r (k+1) fun j ag=>by rw[Fi hi,if_neg Ω]
  ·obtain⟨oh,o3,fc,ao,aF,bM,dt⟩:=Mw hi az r (k+1) Ω (by simp at U;omega);have vF:i-k=(i-(k+1))+1:=Ω
   have hJ:(l.setIfInBounds i true).getD k false=l.getD k false:=by rw[Fi hi,if_neg Ω]
   by_cases ad:l.getD k false=true
   ·refine⟨oh,o3,fc,by rw[vF];simpa using ao,by simp only[rem,ad,if_true,aF],by simp only[rem,hJ,ad,if_true,bM],fun x ae=>?_⟩;obtain⟨f1,f2,f3,f4⟩:=dt x ae;refine⟨?_,Ω,f3,f4⟩;have:x.1-k=(x.1-(k+1))+1:=Ω
    rw[this];simpa using f1
   ·have ad:l.getD k false=false:=by simpa using ad
    refine⟨(k,g)::oh,o3,fc,by rw[vF];simpa using ao,by simp[rem,ad,aF],by simp[rem,hJ,ad,bM],fun x ae=>?_⟩;rcases fI.1 ae with rfl|ae
    ·exact⟨Ψ,eC _,by simp;omega,ad⟩
    ·obtain⟨f1,f2,f3,f4⟩:=dt x ae;refine⟨?_,Ω,f3,f4⟩;have:x.1-k=(x.1-(k+1))+1:=Ω
     rw[this];simpa using f1
def uQ(acc:List Nat):List Edge->Nat
 |[]=>0
 |e::r=>if Region.binds .any e then(2 ^ e.on)|||(acc.getD e.on 0)|||uQ acc r else uQ acc r
def r8(acc:List Nat):List Oper->List Nat
 |[]=>acc
 |o::os=>r8 (acc++[uQ acc o.after.toList]) os
def DF(m:Nat)(h:c5):Nat->List c5->Bool
 |_,[]=>true
 |i,g::r=>(m.testBit i||zj g h)&&DF m h (i+1) r
def Dq:List c5->List c5->List Nat->Bool
 |_,[],_=>true
 |pre,h::r,m::ms=>DF m h 0 pre&&Dq (pre++[h]) r ms
 |_,_,[]=>false
def BD:Nat->List Oper->Bool
 |_,[]=>true
 |k,o::os=>o.after.toList.all (fun e=> !Region.binds .any e||decide (e.on<k))&&BD (k+1) os
def Bq(gs:List c5)(ops:List Oper):Bool:=BD 0 ops&&Dq [] gs (r8 [] ops)
theorem Lh{acc:List Nat}{j:Nat}:∀{es:List Edge},(uQ acc es).testBit j=true->∃e∈es,Region.binds .any e=true/\(j=e.on\/(acc.getD e.on 0).testBit j=true)
 |[],h=>by simp[uQ]at h
 |e::r,h=>by
  simp only[uQ]at h;split at h
  ·rename_i ab;simp only[Nat.testBit_or,ls]at h;rcases h with(h|h)|h
   ·refine⟨e,Ψ,ab,.inl ?_⟩;rw[Nat.testBit_two_pow]at h;have ck:e.on=j:=by simpa using h
    exact ck.symm
   ·exact⟨e,Ψ,ab,.inr h⟩
   ·obtain⟨fL,J,U⟩:=Lh h;exact⟨fL,by simp[J],U⟩
  ·obtain⟨fL,J,U⟩:=Lh h;exact⟨fL,by simp[J],U⟩
theorem Li:∀(os:List Oper) (acc:List Nat) (k:Nat),k<acc.length->(r8 acc os)[k]? =acc[k]?
 |[],acc,k,_=>rfl
 |o::os,acc,k,h=>by simp only[r8];rw[Li os _ k d8,List.getElem?_append_left h]
theorem Uo:∀(os:List Oper) (acc:List Nat) (k:Nat) (o:Oper),os[k]? =some o->∃tW,(r8 acc os)[acc.length+k]? =some (uQ tW o.after.toList)/\tW.length=acc.length+k/\∀i,i<tW.length->tW[i]? =(r8 acc os)[i]?
 |[],acc,k,o,h=>by simp at h
 |o'::os,acc,0,o,h=>by
  simp only[List.getElem?_cons_zero,dy]at h;subst h;refine⟨acc,?_,Ψ,fun i hi=>?_⟩
  ·simp only[r8,Nat.add_zero];rw[Li os _ _ Ψ];simp
  ·simp only[r8];rw[Li os _ i d8,List.getElem?_append_left hi]
 |o'::os,acc,k+1,o,h=>by simp only[List.getElem?_cons_succ]at h;obtain⟨tW,J,U,al⟩:=Uo os (acc++[uQ acc o'.after.toList]) k o h;refine⟨tW,?_,by rw[U];simp;omega,fun i hi=>by rw[al i hi];rfl⟩;simp only[r8];rw[show acc.length+(k+1)=(acc++[uQ acc o'.after.toList]).length+k from by simp;omega];exact J
def NM(ops:Array Oper)(hF:Array Bool):Prop:= ∀k o,ops[k]? =some o->hF.getD k false=true->∀e∈o.after.toList,Region.binds .any e=true->hF.getD e.on false=true
theorem ag9{ops:Array Oper}{hF:Array Bool}(aG:NM ops hF):∀(k:Nat) (o:Oper),ops[k]? =some o->(∀e∈o.after.toList,Region.binds .any e=true->hF.getD e.on false=true)->∀j,((r8 [] ops.toList).getD k 0).testBit j=true->hF.getD j false=true:=by
 intro k;induction k using pO with
 |_ k bO=>
  intro o aw au j ag;obtain⟨tW,J,U,al⟩:=Uo ops.toList [] k o (by simpa using aw);simp only[List.length_nil,Nat.zero_add]at J U;rw[List.getD_eq_getElem?_getD,J]at ag;obtain⟨e,he,ab,cw⟩:=Lh ag;rcases cw with rfl|cw
  ·exact au e he ab
  ·by_cases bt:e.on<tW.length
   ·have hm:tW.getD e.on 0=(r8 [] ops.toList).getD e.on 0:=by rw[List.getD_eq_getElem?_getD,al _ bt,List.getD_eq_getElem?_getD]
    have ad:k<ops.size:=(Array.getElem?_eq_some_iff.1 aw).1;have hQ:ops[e.on]? =some ops[e.on]:=Array.getElem?_eq_getElem Ω;rw[hm]at cw;exact bO e.on Ω _ hQ (fun fL vC fX=>aG e.on _ hQ (au e he ab) fL vC fX) j cw
   ·rw[List.getD_eq_getElem?_getD,qp Ω]at cw;simp at cw
theorem WJ{m:Nat}{h:c5}:∀{gs:List c5} {i0:Nat},DF m h i0 gs=true->∀i g,gs[i]? =some g->m.testBit (i0+i)=true\/zj g h=true
 |[],i0,_,i,g,aW=>by simp at aW
 |fc::r,i0,aK,0,g,aW=>by simp only[DF,ct,ls]at aK;simp only[List.getElem?_cons_zero,dy]at aW;subst aW;simpa using aK.1
 |fc::r,i0,aK,i+1,g,aW=>by simp only[DF,ct]at aK;have:=WJ aK.2 i g (by simpa using aW);rwa[show i0+1+i=i0+(i+1)from by omega]at this
theorem Vf:∀{gs pre:List c5} {ms:List Nat},Dq pre gs ms=true->∀j h,gs[j]? =some h->∀i g,i<pre.length+j->(pre++gs)[i]? =some g->(ms.getD j 0).testBit i=true\/zj g h=true
 |[],pre,ms,_,j,h,ag,_,_,_,_=>by simp at ag
 |ck::r,pre,[],bL,j,h,ag,_,_,_,_=>by simp[Dq]at bL
 |ck::r,pre,m::ms,bL,j,h,ag,i,g,hi,aW=>by
  simp only[Dq,ct]at bL;cases j with
  |zero=>simp only[List.getElem?_cons_zero,dy]at ag;subst ag;rw[List.getElem?_append_left Ω]at aW;simpa using WJ bL.1 i g aW
  |succ j=>have:=Vf bL.2 j h (by simpa using ag) i g d8 (by simpa using aW);simpa using this
theorem QT:∀{os:List Oper} {k:Nat},BD k os=true->∀i o,os[i]? =some o->∀e∈o.after.toList,Region.binds .any e=true->e.on<k+i
 |[],k,_,i,o,aw,_,_,_=>by simp at aw
 |o'::os,k,h,0,o,aw,e,he,ab=>by simp only[BD,ct,gH]at h;simp only[List.getElem?_cons_zero,dy]at aw;subst aw;have:=h.1 e he;simpa[ab]using this
 |o'::os,k,h,i+1,o,aw,e,he,ab=>by simp only[BD,ct]at h;have:=QT h.2 i o (by simpa using aw) e he ab;omega
theorem RX{N:Nat}{bB:List (Nat×dA)}{ops:List Oper}:∀{gs:List c5} {os:List Oper},kx N bB ops gs os=true->∀(i:Nat) (g:c5),gs[i]? =some g->∃o,os[i]? =some o/\BS N bB ops g o=true
 |[],[],_,i,g,h=>by simp at h
 |[],_::_,h,_,_,_=>by simp[kx]at h
 |_::_,[],h,_,_,_=>by simp[kx]at h
 |fc::gs,o::os,h,0,g,aW=>by simp only[kx,ct]at h;simp only[List.getElem?_cons_zero,dy]at aW;subst aW;exact⟨o,Ψ,h.1⟩
 |fc::gs,o::os,h,i+1,g,aW=>by simp only[kx,ct]at h;obtain⟨o',J,U⟩:=RX h.2 i g (by simpa using aW);exact⟨o',by simpa using J,U⟩
theorem JG{N:Nat}{bB:List (Nat×dA)}{ops:List Oper}:∀{gs:List c5} {os:List Oper},kx N bB ops gs os=true->gs.length=os.length
 |[],[],_=>rfl
 |[],_::_,h=>by simp[kx]at h
 |_::_,[],h=>by simp[kx]at h
 |g::gs,o::os,h=>by simp only[kx,ct]at h;simp[JG h.2]
theorem Wt{l:Array Bool}:∀(gs:List c5) (k:Nat),rem l k gs=[]\/ ∃i g,i<gs.length/\gs[i]? =some g/\l.getD (k+i) false=false/\∀j,j<i->l.getD (k+j) false=true
 |[],_=>.inl rfl
 |g::r,k=>by
  by_cases h:l.getD k false=true
  ·rcases Wt (l:=l) r (k+1)with J|⟨i,fc,J,U,al,a1⟩
   ·left;simp only[rem,h,if_true,J]
   ·refine .inr ⟨i+1,fc,by simp;omega,by simpa using U,by rw[show k+(i+1)=k+1+i from by omega];exact al,fun j ag=>?_⟩;cases j with
    |zero=>simpa using h
    |succ j=>rw[show k+(j+1)=k+1+j from by omega];exact a1 j Ω
  ·exact .inr ⟨0,g,Ψ,Ψ,by simpa using h,fun j ag=>Ω⟩
theorem YB{P:cG}{bB:List (Nat×dA)}(aI:fN P bB=true){C:fa}{q:Bool}{n0:Nat}{ops:Array Oper}{gs:List c5}(kB:kx C.N bB ops.toList gs ops.toList=true)(Ft:Bq gs ops.toList=true){K:df->Prop}{Q:Exit->Act->World->Prop}
  (h2:∀A a w,K A->w9 C A a w->Q .normal a w):∀(fuel:Nat) (hF:Array Bool) (A:df) (a:Act) (w:World),hF.size=ops.size->NM ops hF->(rem hF 0 gs).length<=fuel->vq P q n0 K (rem hF 0 gs) A->w9 C A a w->wpAny P .any ops Q fuel hF a w:=by
 simp only[Bq,ct]at Ft;obtain⟨JP,afv⟩:=Ft;have hlen:gs.length=ops.size:=by simpa using JG kB
 have Sn:∀(hF:Array Bool) (A:df) (a:Act) (w:World),hF.size=ops.size->vq P q n0 K (rem hF 0 gs) A->w9 C A a w->Region.ready .any ops hF=[]->Q .normal a w:=by
  intro hF A a w ee sY aK FV;rcases Wt (l:=hF) gs 0 with h|⟨i,g,J,U,al,a1⟩
  ·rw[h]at sY;exact h2 A a w sY aK
  ·exfalso;have hi:i<ops.size:=Ω
   have jI:i∈Region.ready .any ops hF:=by
    unfold Region.ready;simp only[iA,List.mem_range,ct,qo];refine⟨hi,?_,?_⟩
    ·rw[Nat.zero_add]at al;simp only[Array.getD_eq_getD_getElem?]at al⊢;rw[Array.getElem?_eq_getElem Ω]at al⊢;simpa using al
    ·rw[Array.getElem?_eq_getElem hi];simp only[nE,hV];rw[<-Array.all_toList,gH];intro e he;by_cases ab:Region.binds .any e=true
     ·have bt:=QT JP i ops[i] (by simp[hi]) e he ab;have:=a1 e.on Ω;rw[Nat.zero_add]at this;simp[this]
     ·simp[ab]
   rw[FV]at jI;simp at jI
 intro fuel;induction fuel with
 |zero=>
  intro hF A a w ee aG aO sY aK;have afo:rem hF 0 gs=[]:=List.eq_nil_of_length_eq_zero Ω;have FV:Region.ready .any ops hF=[]:=by
   rw[List.eq_nil_iff_forall_not_mem];intro i hi;unfold Region.ready at hi;simp only[iA,List.mem_range,ct,qo]at hi;obtain⟨J,U,_⟩:=hi;have az:hF.getD i false=false:=by simp only[Array.getD_eq_getD_getElem?]at U⊢;rw[Array.getElem?_eq_getElem Ω]at U⊢;simpa using U
   obtain⟨oh,o3,g,_,aF,_⟩:=Mw Ω az gs 0 Ω Ω;rw[afo]at aF;simp at aF
  exact⟨FV,Sn hF A a w ee sY aK FV⟩
 |succ fuel bO=>
  intro hF A a w ee aG aO sY aK;refine⟨Sn hF A a w ee sY aK,fun i hi=>?_⟩;unfold Region.ready at hi;simp only[iA,List.mem_range,ct,qo]at hi;obtain⟨J,U,al⟩:=hi;have az:hF.getD i false=false:=by simp only[Array.getD_eq_getD_getElem?]at U⊢;rw[Array.getElem?_eq_getElem Ω]at U⊢;simpa using U
  have aw:ops[i]? =some ops[i]:=Array.getElem?_eq_getElem J;have Sq:∀e∈ops[i].after.toList,Region.binds .any e=true->hF.getD e.on false=true:=by rw[aw]at al;simp only[nE,hV]at al;rw[<-Array.all_toList,gH]at al;intro e he ab;simpa[ab]using al e he
  obtain⟨oh,o3,g,ao,aF,bM,dt⟩:=Mw Ω az gs 0 Ω Ω;simp only[Nat.sub_zero]at ao dt;rw[aF]at sY;obtain⟨x,ae,aeC⟩:=Ot oh o3 A (fun y aM=>by
   obtain⟨f1,f2,f3,f4⟩:=dt y aM;rcases Vf afv i g ao y.1 y.2 (by simpa using f3) (by simpa using f1)with h|h
   ·have:=ag9 aG i ops[i] aw Sq y.1 h;rw[f4]at this;cases this
   ·exact h) sY
  obtain⟨o',g1,g2⟩:=RX kB i g ao;have:o'=ops[i]:=by rw[tN,aw]at g1;exact(gu g1).symm
  subst this;refine Ya aI aw g2 ae aK fun bp w' dG=>?_;refine bO (hF.setIfInBounds i true) (A.do x) bp w' (by simpa using ee) ?_ ?_ (by rw[bM];exact aeC) dG
  ·intro k o ad au e he ab;rw[Fi Ω]at au⊢;split
   ·rfl
   ·by_cases vF:i=k
    ·subst vF;rw[aw]at ad;cases ad;exact Sq e he ab
    ·rw[if_neg vF]at au;exact aG k o ad au e he ab
  ·rw[bM];rw[aF]at aO;simp at aO⊢;omega
def xr(n0 d:Nat)(st:bo):Prop:= .loc (n0+d)∉st.o/\look (.loc (n0+d)) st.b=none/\look (.loc (n0+d)) st.e=none
def fU.loadO(q:Bool)(t:List (Nat×ai)):fU->Prop
 | .load _ _ x=>q=true\/xT (cm t x)=true
 | .loadB _ _ _=>True
 | .mgetB _ _ _ _ _=>True
 | .mget _ _ _ _ _=>q=true
 | .ment _=>q=true
 | .mlen _=>q=true
 |_=>True
def lX(q:Bool)(nw:List Nat)(n0:Nat)(st:bo):ei->Prop
 | .v _ i=>i.loadO q st.t
 | .box d none _=>xr n0 d st
 | .alloc d none _=>xr n0 d st
 | .box _ (some _) _=>eN
 | .alloc _ (some _) _=>eN
 | .store _ x _=>match cm st.t x with| .ptr _ _=>True|_=>eN
 | .bslm _ _ _ _ _=>eN
 | .mks _ _ _ _ _ _=>eN
 | .appm _ _ _ _ x _=>match cm st.t x with| .row _ _ _=>True|_=>eN
 | .storeE _ _ _=>True
 | .mkmap _ none=>eN
 | .mkmap _ (some m)=>m∈nw/\look (.obj m) st.b=none/\look (.obj m) st.e=none
 | .mput _ _ _ _=>True
 | .range _ _ _=>eN
 | .bsl d _ _ _=>xr n0 d st
 | .app d _ _ x _=>match cm st.t x with
  | .slice _ .nil _=>xr n0 d st
  | .slice _ (.own k) _=>(look k st.e).bind (·.xs)=none
  |_=>True
def pa(n0:Nat):ei->aL
 | .mkmap _ (some m)=>.obj m
 | .v d _| .box d _ _| .alloc d _ _| .bsl d _ _ _| .app d _ _ _ _| .bslm d _ _ _ _| .appm d _ _ _ _ _| .mkmap d _| .range d _ _| .mks d _ _ _ _ _=>.loc (n0+d)
 | .store _ _ _| .mput _ _ _ _| .storeE _ _ _=>.loc n0
def agJ(nw:List Nat)(st:bo)(s ah:cM)(rm:Option aL):Prop:=(∀k,(look k ah.b).isSome->(look k s.b).isSome\/rm=some k)/\(∀k,(look k ah.e).isSome->(look k s.e).isSome\/rm=some k)/\(∀k,(look k s.b).isSome->(look k ah.b).isSome)/\(∀k,(look k s.e).isSome->(look k ah.e).isSome)/\
 (∀k,rm=some k->(∃j,j∈nw/\k= .obj j)/\look k st.b=none/\look k st.e=none/\((look k ah.b).isSome\/(look k ah.e).isSome))
def hW(P:cG)(q:Bool)(nw:List Nat)(n:Nat)(args:List ai)(st:bo)(d:Option Nat)(K:bo->Prop):Prop:=
 (∃cK r,d=some cK/\xr st.n cK st/\aP (fun _=>eN) args/\HW P n (st.n+cK) args ⟨[],[]⟩ (fun eG dK=>eG=r/\dK=⟨[],[]⟩)/\K {st with t:=put cK r st.t,o:= .loc (st.n+cK)::st.o})\/
 ∃s ah r rm,gV (inObs s) s.b st.b/\nz (inObs s) s.e st.e/\iX s/\iX ah/\agJ nw st s ah rm/\aP (inObs s) args/\bJ P n args s (fun eG dK=>eG=r/\dK=ah)/\(q=true->ah.b=[]/\ah.e=[])/\K {after st s ah d r with o:=st.o}
def ku(P:cG)(q:Bool)(nw:List Nat)(n0:Nat)(st:bo)(K:bo->Prop):ed->Prop
 | .s i=>match eA (pa n0 i) st.n (pa n0 i::st.o) st i with
  |some (c,st')=>lX q nw n0 st i/\c/\K st'
  |none=>eN
 | .call d f xs=>match cm st.t f with
  | .func n dk=>hW P q nw n (dr (xs.map (cm st.t)++dk)) st d K
  |_=>eN
 | .next _ _=>eN
def hP(P:cG)(q:Bool)(nw:List Nat)(n0:Nat):List c5->bo->(bo->Prop)->Prop
 |[],st,K=>K st
 |⟨none,i⟩::r,st,K=>ku P q nw n0 st (fun st'=>hP P q nw n0 r st' K) i
 |⟨some (s,want),i⟩::r,st,K=>match get s st.t with
  | .bool b=>(b=want->ku P q nw n0 {st with t:=put s (.bool want) st.t} (fun st'=>hP P q nw n0 r st' K) i)/\(b= !want->hP P q nw n0 r {st with t:=eM i.dst (.tuple []) (put s (.bool !want) st.t)} K)
  | .tuple []=>hP P q nw n0 r {st with t:=eM i.dst (.tuple []) st.t} K
  |_=>eN
structure sC (nw:List Nat) (n0 N:Nat) (pF:List aL) (st:bo) (A:df):Prop where
 like:lu st A
 n:st.n=n0
 F:∀k,fresh n0 st.o k->(∀j∈nw,k≠ .obj j)->A.F k
 o:∀k∈st.o,k∈pF\/(∃d,d<N/\k= .loc (n0+d))\/ ∃j∈nw,k= .obj j
def Bh(nw:List Nat)(A:df):Prop:= ∀j∈nw,A.b (.obj j)=none->A.e (.obj j)=none->A.F (.obj j)
theorem Bh.do{P:cG}{q:Bool}{n0:Nat}{nw:List Nat}{A:df}(h:Bh nw A){g:c5}{x:kN}(ae:kO P q n0 g A x):Bh nw (A.do x):=by
 intro j ag ab he;refine⟨h j ag (IU ab) (IW he),fun qI=>?_⟩;rcases(Nc ae).r _ qI with⟨d,_,e⟩|⟨_,_,af⟩
 ·cases e
 ·rcases af with af|af
  ·obtain⟨y,aM⟩:=fP.1 af;simp[df.do,iF,aM]at ab
  ·obtain⟨y,aM⟩:=fP.1 af;simp[df.do,iF,aM]at he
theorem Q1{P:cG}{q:Bool}{nw:List Nat}{n0 N:Nat}{pF:List aL}{i:ed}(aG:∀d,i.dst=some d->d<N){st:bo}{A:df}(h:sC nw n0 N pF st A)(kQ:Bh nw A){K:bo->Prop}(he:ku P q nw n0 st K i):∃x st',en P q n0 i A x/\K st'/\sC nw n0 N pF st' (A.do x):=by
 have au:=h.like;have xD:∀d,xr n0 d st->(A.F (.loc (n0+d))/\A.b (.loc (n0+d))=none/\A.e (.loc (n0+d))=none):=fun d aO=>⟨h.F _ ⟨Ψ,aO.1⟩ (fun _ _ e=>by cases e),by rw[<-au.b];exact aO.2.1,by rw[<-au.e];exact aO.2.2⟩;have nf:∀(d:Option Nat) (p:ai) (bw:List (aL×List ai)) (ew:List (aL×fQ)) (κ:aL),∀k,fresh n0 (κ::st.o) k->(∀j∈nw,k≠ .obj j)->(A.do ⟨d,p,bw,ew,some κ⟩).F k:=fun d p bw ew κ k ad ag=>⟨h.F k (vv k ad).1 ag,fun e=>(vv k ad).2 (gu e).symm⟩;have xv:∀(d:Option Nat) (p:ai) (bw:List (aL×List ai)) (ew:List (aL×fQ)),∀k,fresh n0 st.o k->(∀j∈nw,k≠ .obj j)->(A.do ⟨d,p,bw,ew,none⟩).F k:=fun d p bw ew k ad ag=>⟨h.F k ad ag,Ψ⟩;have lE:∀d,d<N->∀k∈aL.loc (n0+d)::st.o,k∈pF\/(∃d,d<N/\k= .loc (n0+d))\/ ∃j∈nw,k= .obj j:=fun d aG k ad=>by
  rcases fI.1 ad with rfl|ad
  ·exact .inr (.inl ⟨d,aG,rfl⟩)
  ·exact h.o k ad
 cases i with
 |s i=>
  cases i with
  |v d i=>
   simp only[ku,eA]at he;cases av:hj st i with
   |none=>simp[av]at he
   |some IQ=>
    obtain⟨c,p⟩:=IQ;simp only[av]at he;obtain⟨J,U,al⟩:=he;refine⟨⟨some d,p,[],[],none⟩,_,⟨c,p,by rw[<-Xk au];exact av,U,fun nT=>?_,rfl⟩,al,K8 au d p,h.n,xv _ _ _ _,h.o⟩;cases i<;>simp only[fU.isLoad]at nT<;>try(cases nT;done)
    case mget=>exact .inr (.inl J)
    case ment=>exact .inr (.inl J)
    case mlen=>exact .inr (.inl J)
    case loadB=>exact .inl rfl
    case mgetB=>exact .inl rfl
    simp only[lX,fU.loadO,iR au]at J;exact .inr (by simpa only[fU.ptrOf]using J)
  |box d key v=>
   cases key with
   |some m=>simp only[ku,eA,lX,false_and]at he
   |none=>simp only[ku,eA,lX,pa]at he;obtain⟨J,U,al⟩:=he;rw[iR au]at U;refine⟨_,_,⟨xD d J,U,rfl⟩,al,?_,h.n,nf _ _ _ _ _,lE d (aG d rfl)⟩;rw[iR au];exact z6 au d _ _ _ _ _ _
  |alloc d key z=>
   cases key with
   |some m=>simp only[ku,eA,lX,false_and]at he
   |none=>simp only[ku,eA,lX,pa]at he;obtain⟨J,U,al⟩:=he;exact⟨_,_,⟨xD d J,rfl⟩,al,z6 au d _ _ _ _ _ _,h.n,nf _ _ _ _ _,lE d (aG d rfl)⟩
  |store sz u v=>
   simp only[ku,eA]at he;cases hu:cm st.t u with
   |ptr k off=>
    cases ab:look k st.b with
    |none=>simp[hu,ab]at he
    |some cs=>simp only[hu,ab]at he;obtain⟨J,U,al⟩:=he;rw[iR au]at U hu;refine⟨⟨none,.junk,[(k,n3 cs off (cells (dw A.t v)))],[],none⟩,_,⟨k,off,cs,hu,by rw[<-au.b];exact ab,U,rfl⟩,al,?_,h.n,xv _ _ _ _,h.o⟩;rw[iR au];exact Gn au k _ _
   |_=>
    exfalso;simp only[hu]at he;split at he
    ·have:=he.1;simp[lX,hu]at this
    ·exact he
  |bsl d sz el xs=>simp only[ku,eA,lX,pa]at he;obtain⟨J,U,al⟩:=he;rw[ug au]at U;refine⟨_,_,⟨xD d J,U,rfl⟩,al,?_,h.n,nf _ _ _ _ _,lE d (aG d rfl)⟩;rw[ug au];exact wi au d _ _ _ _ _ _
  |app d sz el u v=>
   simp only[ku,eA]at he;cases hu:cm st.t u with
   |slice dH tag xs=>
    cases av:cm st.t v with
    |slice jo kX ys=>
     simp only[hu,av]at he;by_cases e8:dH=sz/\jo=sz
     ·obtain⟨rfl,rfl⟩:=e8;rw[iR au]at hu av;cases tag with
      |no=>simp at he
      |tr k j=>simp at he
      |lo k=>simp at he
      |nil=>simp only[and_self,if_true,lX,iR au,hu,pa]at he;obtain⟨J,U,al⟩:=he;exact⟨_,_,⟨.nil,xs,kX,ys,hu,av,.inr ⟨rfl,U,xD d J,rfl⟩⟩,al,wi au d _ _ _ _ _ _,h.n,nf _ _ _ _ _,lE d (aG d rfl)⟩
      |own k=>
       cases ad:look k st.e with
       |none=>simp[ad]at he
       |some o=>simp only[and_self,if_true,ad]at he;obtain⟨J,U,al⟩:=he;exact⟨_,_,⟨.own k,xs,kX,ys,hu,av,.inl ⟨k,o,rfl,by rw[<-au.e];exact ad,⟨by simpa[lX,iR au,hu,ad]using J,U⟩,rfl⟩⟩,al,wi au d _ _ _ _ _ _,h.n,xv _ _ _ _,h.o⟩
     ·simp[e8]at he
    |_=>simp[hu,av]at he
   |_=>simp[hu]at he
  |bslm d key sz el xs=>simp only[ku,eA,lX,false_and]at he
  |mks d key sz el z x=>simp only[ku,eA,lX,false_and]at he;split at he<;>simp at he
  |appm d key sz el u v=>
   simp only[ku,eA]at he;cases hu:cm st.t u with
   |row dH k n=>
    cases av:cm st.t v with
    |slice jo kX ys=>
     simp only[hu,av,sJ]at he;by_cases e8:dH=sz/\jo=sz
     ·obtain⟨rfl,rfl⟩:=e8;rw[iR au]at hu av;simp only[and_self,if_true]at he;cases ad:look k st.e with
      |none=>simp[ad]at he
      |some o=>
       obtain⟨n',fW,wT,LV⟩:=o;cases LV with
       |none=>simp[ad]at he
       |some xs=>
        simp only[ad]at he;by_cases oD:n'=n/\fW=el/\wT=jo
        ·obtain⟨rfl,rfl,rfl⟩:=oD;simp only[and_self,if_true]at he;obtain⟨J,U,al⟩:=he;exact⟨_,_,⟨k,n',xs,kX,ys,hu,av,by rw[<-au.e];exact ad,U,rfl⟩,al,wi au d _ _ _ _ _ _,h.n,xv _ _ _ _,h.o⟩
        ·simp[oD]at he
     ·simp[e8]at he
    |_=>simp[hu,av,sJ]at he
   |slice dH tag xs=>
    exfalso;simp only[hu]at he;split at he
    ·have:=he.1;simp[lX,hu]at this
    ·exact he
   |_=>simp[hu,sJ]at he
  |storeE sz u v=>
   simp only[ku,eA]at he;cases hu:cm st.t u with
   |rptr dH k n i f=>
    cases ad:look k st.e with
    |none=>simp[hu,q9,ad]at he
    |some o=>
     obtain⟨n',el,wT,LV⟩:=o;cases LV with
     |none=>simp[hu,q9,ad]at he
     |some xs=>
      simp only[hu,q9,ad]at he;by_cases oD:n'=n/\wT=dH
      ·obtain⟨rfl,rfl⟩:=oD;simp only[and_self,if_true]at he;cases bI:xs[i]? with
       |none=>simp[bI]at he
       |some q=>simp only[bI]at he;obtain⟨J,U,al⟩:=he;rw[iR au]at U hu;refine⟨⟨none,.junk,[],[(k,⟨n',el,wT,some (xs.set i (pK q f (cells (dw A.t v))))⟩)],none⟩,_,⟨k,n',i,f,el,wT,xs,q,hu,by rw[<-au.e];exact ad,bI,U,rfl⟩,al,?_,h.n,xv _ _ _ _,h.o⟩;rw[iR au];exact Ue au k _ _
      ·simp[oD]at he
   |_=>simp[hu,q9]at he
  |mkmap d key=>
   cases key with
   |none=>simp only[ku,eA,lX,false_and]at he
   |some m=>
    simp only[ku,eA,lX,pa]at he;obtain⟨⟨bA,J,U⟩,_,al⟩:=he;rw[au.b]at J;rw[au.e]at U;refine⟨_,_,⟨⟨kQ m bA J U,J,U⟩,rfl⟩,al,z6 au d _ _ _ _ _ _,h.n,nf _ _ _ _ _,fun k ad=>?_⟩;rcases fI.1 ad with rfl|ad
    ·exact .inr (.inr ⟨m,bA,rfl⟩)
    ·exact h.o k ad
  |mput cc u k v=>
   simp only[ku,eA,lX]at he;cases hu:cm st.t u with
   |gmap m=>
    cases ab:look m st.b with
    |none=>simp[hu,ab]at he
    |some cs=>
     cases hm:oN cc (cm st.t k) (cm st.t v) cs with
     |none=>simp[hu,ab,hm]at he
     |some cs'=>simp only[hu,ab,hm]at he;rw[iR au]at hu;rw[iR au,iR au]at hm;exact⟨⟨none,.junk,[(m,cs')],[],none⟩,_,⟨m,cs,cs',hu,by rw[<-au.b];exact ab,hm,rfl⟩,he.2.2,Gn au m _ _,h.n,xv _ _ _ _,h.o⟩
   |_=>simp[hu]at he
  |range d key x=>simp only[ku,lX,false_and]at he;split at he<;>exact he.elim
 |next d x=>simp only[ku]at he
 |call d f xs=>
  simp only[ku]at he;cases aO:cm st.t f with
  |func n dk=>
   simp only[aO]at he;rw[iR au]at aO;rcases he with⟨cK,r,rfl,bT,cv,dj,ks⟩|⟨s,ah,r,rm,bT,cv,dj,ks,lV,o8,Bw,YZ,Y0⟩
   ·rw[ug au]at cv dj;have az:=h.n;subst az;refine⟨⟨some cK,r,[],[],some (.loc (st.n+cK))⟩,_,⟨n,dk,aO,.inr ⟨cK,r,rfl,xD cK bT,cv,dj,rfl⟩⟩,ks,Uf au cK r _ _,rfl,nf _ _ _ _ _,lE cK (aG cK rfl)⟩
   rw[ug au]at o8 Bw;obtain⟨aX,bg,b6,cT,de⟩:=lV;refine⟨⟨d,r,ah.b,ah.e,rm⟩,_,⟨n,dk,aO,.inl ⟨⟨s,ah,r,rm,fun k cs ad=>⟨by rw[<-au.b];exact(bT k cs ad).1,(bT k cs ad).2.2⟩,fun k o ad=>⟨by rw[<-au.e];exact(cv k o ad).1,(cv k o ad).2.2⟩,dj,ks,⟨aX,bg,b6,cT,fun k ad=>?_⟩,o8,Bw,rfl⟩,YZ⟩⟩,Y0,⟨fun i=>?_,fun k=>?_,fun k=>?_⟩,h.n,fun k ad ag=>⟨h.F k ad ag,fun qI=>?_⟩,h.o⟩
   ·obtain⟨⟨j,ag,rfl⟩,aF,bM,dt⟩:=de k ad;rw[au.b]at aF;rw[au.e]at bM;exact⟨⟨j,rfl⟩,kQ j ag aF bM,aF,bM,dt⟩
   ·simp only[after,df.do];cases d with
    |none=>simpa[eM]using au.t i
    |some d=>simp only[eM,pg,dy,au.t]
   ·simp only[after,df.do,iF,x2,uP];by_cases af:(look k s.b).isSome
    ·have:=b6 k af;obtain⟨y,aM⟩:=fP.1 this;simp[af,aM]
    ·cases az:look k ah.b with
     |none=>simp only[af,au.b];cases A.b k<;>simp
     |some y=>
      rcases aX k (by simp[az])with h|h
      ·exact absurd h af
      ·have:=de k h;simp[af,this]
   ·simp only[after,df.do,iF,x2,uP];by_cases af:(look k s.e).isSome
    ·have:=cT k af;obtain⟨y,aM⟩:=fP.1 this;simp[af,aM]
    ·cases az:look k ah.e with
     |none=>simp only[af,au.e];cases A.e k<;>simp
     |some y=>
      rcases bg k (by simp[az])with h|h
      ·exact absurd h af
      ·have:=de k h;simp[af,this]
   ·obtain⟨⟨j,jx,rfl⟩,_⟩:=de k qI;exact ag j jx rfl
  |_=>simp[aO]at he
def za(N:Nat):List c5->Bool
 |[]=>true
 |g::r=>jt N g.i.dst&&za N r
def yN:Nat->List c5->List (Nat×c5)
 |_,[]=>[]
 |k,g::r=>(k,g)::yN (k+1) r
theorem N3{nw:List Nat}{n0 N:Nat}{pF:List aL}{st:bo}{A:df}(h:sC nw n0 N pF st A){s:Nat}{p:ai}(af:get s st.t=p):sC nw n0 N pF {st with t:=put s p st.t} A:=by
 refine⟨⟨fun i=>?_,h.like.b,h.like.e⟩,h.n,h.F,h.o⟩;simp only[pg];split
 ·rename_i e;subst e;rw[<-af];exact h.like.t _
 ·exact h.like.t i
theorem N4{nw:List Nat}{n0 N:Nat}{pF:List aL}{st:bo}{A:df}(h:sC nw n0 N pF st A)(d:Option Nat):sC nw n0 N pF {st with t:=eM d (.tuple []) st.t} (A.do (ll d)):=by
 refine⟨⟨fun i=>?_,fun k=>?_,fun k=>?_⟩,h.n,fun k ad ag=>⟨h.F k ad ag,by simp[ll]⟩,h.o⟩
 ·simp only[df.do,ll];cases d with
  |none=>simpa[eM]using h.like.t i
  |some d=>simp only[eM,pg,dy,h.like.t]
 ·simpa[df.do,iF,look,ll]using h.like.b k
 ·simpa[df.do,iF,look,ll]using h.like.e k
theorem BH{P:cG}{q:Bool}{nw:List Nat}{n0 N:Nat}{pF:List aL}{K:bo->Prop}:∀(gs:List c5) (k:Nat),za N gs=true->∀(st:bo) (A:df),sC nw n0 N pF st A->Bh nw A->hP P q nw n0 gs st K->vq P q n0 (fun gg=> ∃st',K st'/\sC nw n0 N pF st' gg) (yN k gs) A
 |[],k,_,st,A,h,_,he=>⟨st,he,h⟩
 |⟨nc,i⟩::r,k,aG,st,A,h,kQ,he=>by
  simp only[za,ct]at aG;have sZ:∀d,i.dst=some d->d<N:=fun d e=>by have:=aG.1;rw[e]at this;simpa[jt]using this
  simp only[yN,vq];cases nc with
  |none=>simp only[hP]at he;obtain⟨x,st',J,U,al⟩:=Q1 sZ h kQ he;have aW:kO P q n0 ⟨none,i⟩ A x:=J;exact⟨x,aW,BH r (k+1) aG.2 st' _ al (kQ.do aW) U⟩
  |some yG=>
   obtain⟨s,want⟩:=yG;simp only[hP]at he;split at he
   ·rename_i b ab;by_cases e:b=want
    ·subst e;obtain⟨x,st',J,U,al⟩:=Q1 sZ (N3 h ab) kQ (he.1 rfl);have aW:kO P q n0 ⟨some (s,b),i⟩ A x:=by unfold kO;simp only[<-h.like.t,ab];exact .inl ⟨trivial,J⟩
     exact⟨x,aW,BH r (k+1) aG.2 st' _ al (kQ.do aW) U⟩
    ·have fX:b= !want:=by cases b<;>cases want<;>simp at e⊢
     subst fX;have aW:kO P q n0 ⟨some (s,want),i⟩ A (ll i.dst):=by unfold kO;simp only[<-h.like.t,ab];exact .inr ⟨trivial,trivial⟩
     exact⟨ll i.dst,aW,BH r (k+1) aG.2 _ _ (N4 (N3 h ab) i.dst) (kQ.do aW) (he.2 rfl)⟩
   ·rename_i ab;have aW:kO P q n0 ⟨some (s,want),i⟩ A (ll i.dst):=by unfold kO;simp only[<-h.like.t,ab]
    exact⟨ll i.dst,aW,BH r (k+1) aG.2 _ _ (N4 h i.dst) (kQ.do aW) he⟩
   ·exact he.elim
theorem Mv:∀(gs:List c5) (l:Array Bool) (k:Nat),(∀j,l.getD j false=false)->rem l k gs=yN k gs
 |[],_,_,_=>rfl
 |g::r,l,k,h=>by simp only[rem,h k,yN,Mv r l (k+1) h];simp
def tP(n:Nat)(o:List aL)(K:bo->Prop)(st:bo):Prop:=K {st with n:=n,o:=o}
theorem Good.like{pr:Nat->Prop}{w:World}{Z:bc}{b b0:List (aL×List ai)}{e fL:List (aL×fQ)}(h:Good pr w Z b e)(ab:∀k,look k b0=look k b)(he:∀k,look k fL=look k e):Good pr w Z b0 fL:=
 ⟨h.alt,fun k cs ad=>h.box k cs (by rw[<-ab];exact ad),fun k bN bl J U=>h.inj k bN bl (by rw[<-ab];exact J) (by rw[<-ab];exact U),fun g o aW=>h.own g o (by rw[<-he];exact aW),
  fun g fc n n' v v' bl J U=>h.oinj g fc n n' v v' bl (by rw[<-he];exact J) (by rw[<-he];exact U),fun g k n v bl J U=>h.obx g k n v bl (by rw[<-he];exact J) (by rw[<-ab];exact U),h.one,
  fun bl aI=>h.otr bl (aI.imp (fun⟨k,bz,a2⟩=>⟨k,by rw[<-ab];exact bz,a2⟩) (fun⟨g,n,v,bz,a2⟩=>⟨g,n,v,by rw[<-he];exact bz,a2⟩))⟩
theorem Q3{P:cG}(hm:P.follows .mixedOrders=true){bB:List (Nat×dA)}(aI:fN P bB=true){C:fa}{q:Bool}{nw:List Nat}{id:Nat}{ops:Array Oper}{gs:List c5}(kB:kx C.N bB ops.toList gs ops.toList=true)(Ft:Bq gs ops.toList=true)(iS:za C.N gs=true)
  {K:bo->Prop} {Q:Exit->Act->World->Prop} (h2:∀st' bp w' bq,K st'->cS C st' bp w' bq->Q .normal bp w') {st:bo} {a:Act} {w:World} {Z:bc} (afs:∀j∈nw,.obj j∉st.o) (he:hP P q nw st.n gs st (tP (st.n+C.N) (nw.map aL.obj++st.o) K)) (aK:cS C st a w Z):(Code.region id ops true).wp P Q a w:=by
 refine wp_region_any hm ?_;have dG:cS C st a {w with drawn:=w.drawn+1} Z:=aK.drawn _;let A:df:=⟨fun i=>get i st.t,fun k=>look k st.b,fun k=>look k st.e,fresh st.n st.o⟩
 have pZ:sC nw st.n C.N st.o st A:=⟨⟨fun _=>rfl,fun _=>rfl,fun _=>rfl⟩,rfl,fun k ad _=>ad,fun k ad=>.inl ad⟩;have sY:=BH gs 0 iS st A pZ (fun j ag _ _=>⟨trivial,afs j ag⟩) he;have oF:∀j,(Array.replicate ops.size false).getD j false=false:=fun j=>by simp[Array.getD_eq_getD_getElem?,Array.getElem?_replicate];split<;>rfl
 refine YB aI kB Ft (q:=q) (n0:=st.n) (K:=fun gg=> ∃st',tP (st.n+C.N) (nw.map aL.obj++st.o) K st'/\sC nw st.n C.N st.o st' gg) ?_ ops.size _ A a _ Ψ ?_ ?_ (by rw[Mv gs _ 0 oF];exact sY) ⟨st,Z,pZ.like,fun k ad=>ad,dG⟩
 ·rintro gg bp w' ⟨st',ad,a7⟩ ⟨ark,bq,nS,B3,mF⟩;refine h2 _ bp w' bq ad ⟨mF.good.like (fun k=>by rw[nS.b,<-a7.like.b]) (fun k=>by rw[nS.e,<-a7.like.e]),mF.fr,mF.defers,mF.size,fun i=>?_,fun k zC=>?_⟩
  ·have:=mF.slot i;rw[nS.t,<-a7.like.t]at this;exact this
  ·refine mF.new k (B3 k (a7.F k ?_ fun j ag e=>zC.2 (by subst e;exact List.mem_append_left _ (List.mem_map_of_mem ag))));simp only at zC;refine⟨(Jr (Nat.le_add_right st.n C.N) (fun _ h=>h) zC).1,fun jI=>?_⟩;rcases a7.o k jI with h|⟨d,aG,rfl⟩|⟨j,ag,rfl⟩;rotate_left 2
   ·exact zC.2 (List.mem_append_left _ (List.mem_map_of_mem ag))
   ·exact zC.2 (List.mem_append_right _ h)
   ·have:=zC.1;simp at this;omega
 ·intro k o ad au;rw[oF]at au;cases au
 ·rw[Mv gs _ 0 oF];have:∀(gs:List c5) k,(yN k gs).length=gs.length:=by
   intro gs;induction gs with
   |nil=>intro k;rfl
   |cons g r bO=>intro k;simp[yN,bO]
  rw[this];have:=JG kB;simp at this;omega
def hN:List ai->Prop
 |[]=>True
 |p::cz=>(match p with| .slice _ _ xs=>xs.length<=lim| .str s=>s.length<=lim|_=>True)/\hN cz
def ho:ai->Prop
 | .slice _ _ xs=>xs.length<=lim
 | .str s=>s.length<=lim
 | .agg cs=>hN cs
 |_=>True
def ij:List ai->Prop
 |[]=>True
 |p::r=>ho p/\ij r
theorem My{w:World}{Z:bc}:∀{cs:List ai} {us:List Value},dn w Z cs us->hN cs
 |[],_,_=>trivial
 |c::cs,us,h=>by
  simp only[dn]at h;obtain⟨u,ch,_,J,U⟩:=h;refine⟨?_,My U⟩;cases c<;>simp only<;>have al:=J.1<;>simp only[bd]at al
  ·exact al.2
  ·obtain⟨⟨a,cap,_,_,a1,_⟩,_⟩:=al;exact a1.2
theorem Wu{w:World}{Z:bc}{cs:List ai}{us:List Value}(h:jn w Z cs us):hS cs=true->hN cs:=fun bL=>by rw[uV bL]at h;exact My h
theorem WH{w:World}{Z:bc}{p:ai}{v:Value}(h:bd w Z p v):ho p:=by
 cases p<;>simp only[ho]<;>simp only[bd]at h
 ·exact h.2
 ·obtain⟨⟨a,cap,_,_,a1,_⟩,_⟩:=h;exact a1.2
 ·obtain⟨us,_,U⟩:=h;exact My U
theorem WE{w:World}{Z:bc}:∀{cs:List ai} {us:List Value},cR w Z cs us->ij cs
 |[],_,_=>trivial
 |c::cs,us,h=>by simp only[cR]at h;obtain⟨u,ch,_,J,U⟩:=h;exact⟨WH J,WE U⟩
inductive C where
 |skip
 |region (gs:List c5)
 |drawn (q:Bool) (N:Nat) (gs:List c5)
 |drawnW (nw:List Nat) (N:Nat) (gs:List c5)
 |seq (a b:C)
 |cond (x:dp) (t e:C)
 |block (id:Nat) (c:C)
 |loop (c:C)
 |exit (id:Nat)
 |ret
 |pub (s:Nat) (c:C)
 |pubB (s:Nat) (c:C)
 |fg (pA:Bool) (s:Nat) (c:C)
 |fz (agg:Bool) (s:Nat) (c:C)
 |no
def Du(st:bo):ai->Option (ai×List (aL×fQ))
 | .row sz k n=>match look k st.e with
  |some ⟨n',el,dH,some xs⟩=>if n'=n/\dH=sz then some (.slice sz (.own k) xs,cy k ⟨n,el,sz,none⟩ st.e)else none
  |_=>none
 |_=>none
def wF(st:bo)(s:Nat):Option bo:=
 match Du st (get s st.t)with
 |some (p,e)=>some {st with t:=put s p st.t,e:=e}
 |none=>none
def wE(st:bo)(s:Nat):Option bo:=
 match get (s%1000) st.t with
 | .ptr k off=>match look k st.b with
  |some cs=>match cs[off+s/1000]? with
   |some p=>match Du st p with
    |some (Av,e)=>if hS cs then some {st with b:=cy k (cs.set (off+s/1000) Av) st.b,e:=e}else none
    |none=>none
   |none=>none
  |none=>none
 |_=>none
theorem Mu{C:fa}{st:bo}{a:Act}{w:World}{Z:bc}(h:cS C st a w Z){s:Nat}{p:ai}(af:bd w Z p (a.tmps.getD s undef)):cS C {st with t:=put s p st.t} a w Z:=by
 refine⟨h.good,h.fr,h.defers,h.size,fun i=>?_,h.new⟩;have:=h.slot i;simp only[pg];split
 ·rename_i e;subst e;exact af
 ·exact this
theorem Vl{C:fa}{st:bo}{a:Act}{w:World}{Z:bc}(h:cS C st a w Z){p Av:ai}{e:List (aL×fQ)}{v:Value}(bL:bd w Z p v)(he:Du st p=some (Av,e)):
  ∃bq,cS C {st with e:=e} a w bq/\bd w bq Av v/\lx w Z w bq:=by
 unfold Du at he;split at he
 ·rename_i sz k n;split at he
  ·rename_i n' el dH xs ad;split at he
   ·rename_i aq;obtain⟨rfl,rfl⟩:=aq;cases he;simp only[bd]at bL;obtain⟨_,au,n0,u,J,U,al⟩:=bL;obtain⟨v0,fw,aZ,bm,bP,cP⟩:=h.good.own k _ ad;rw[J]at aZ;simp only[dy,jE]at aZ;obtain⟨rfl,rfl⟩:=aZ;have av:v=u:=al rfl;subst av;obtain⟨cZ,_,_⟩:=cP xs rfl;simp only at cZ;obtain⟨g1,g2⟩:=h.publish ad rfl J (by rw[cZ];exact au);refine⟨_,g1,g2,⟨fun b o bj=>⟨.inl bj,rfl⟩,fun j b _ ag=>ag,fun g n u _ iT=>⟨n,u,?_,.inl ⟨rfl,rfl⟩⟩,fun _ _ _=>rfl,fun _ _ _ _ h=>h⟩⟩;simp only[bc.withRowOf];split
    ·rename_i e;subst e;rw[J]at iT;exact iT
    ·exact iT
   ·cases he
  ·cases he
 ·cases he
def zh(pA:Bool):ai->ai
 | .slice sz tag xs=>.slice sz (if pA then tag else .no) (dr xs)
 |p=>ev p
theorem acV{w:World}{Z:bc}{pA:Bool}{p:ai}{v:Value}(h:bd w Z p v):bd w Z (zh pA p) v:=by
 have J:=yw p v h;cases p with
 |slice sz tag xs=>
  simp only[zh];cases pA with
  |false=>simpa only[gF,if_false,ev]using J
  |true=>
   simp only[if_true];simp only[bd,ev]at h J⊢;refine⟨J.1,fun e=>h.2.1 e,fun g e=>?_,fun k j e=>?_,fun k e=>?_⟩
   ·obtain⟨n,u,ao,aF,bM⟩:=h.2.2.1 g e;exact⟨n,u,ao,by rw[vb];exact aF,by rw[vb];exact bM⟩
   ·exact Rx _ _ (h.2.2.2.1 k j e)
   ·exact Rx _ _ (h.2.2.2.2 k e)
 |_=>exact J
theorem aj2{C:fa}{st st':bo}{a:Act}{w:World}{Z:bc}(h:cS C st a w Z){s:Nat}(he:wF st s=some st'):∃bq,cS C st' a w bq:=by
 unfold wF at he;split at he
 ·rename_i p e bL;cases he;obtain⟨bq,J,U,_⟩:=Vl h (h.slot s) bL;exact⟨_,Mu J U⟩
 ·cases he
theorem WB{w:World}{Z:bc}:∀{cs:List ai} {us:List Value} {i:Nat} {p q:ai} {v:Value},dn w Z cs us->cs[i]? =some p->us[i]? =some v->bd w Z q v->dn w Z (cs.set i q) us
 |[],_,_,_,_,_,_,h,_,_=>by simp at h
 |c::cs,us,0,p,q,v,h,_,av,bI=>by simp only[dn]at h;obtain⟨u,ch,rfl,J,U⟩:=h;simp only[List.getElem?_cons_zero,dy]at av;subst av;simp only[List.set_cons_zero,dn];exact⟨_,_,rfl,⟨bI,J.2⟩,U⟩
 |c::cs,us,i+1,p,q,v,h,bL,av,bI=>by simp only[dn]at h;obtain⟨u,ch,rfl,J,U⟩:=h;simp only[List.set_cons_succ,dn];exact⟨_,_,rfl,J,WB U (by simpa using bL) (by simpa using av) bI⟩
theorem aj1{C:fa}{st st':bo}{a:Act}{w:World}{Z:bc}(h:cS C st a w Z){s:Nat}(he:wE st s=some st'):∃bq,cS C st' a w bq:=by
 unfold wE at he;split at he
 ·rename_i k ahO ad;generalize ahO+s/1000=off at he;split at he
  ·rename_i cs dg;split at he
   ·rename_i p bL;split at he
    ·rename_i Av e FQ;split at he
     ·rename_i tf;cases he;obtain⟨bl,us,el,g1,g2,g3,g4,g5⟩:=h.good.box k cs dg;rw[uV tf]at g5;have bt:off<us.toList.length:=by rw[pJ g5];exact(fp.1 bL).1
      obtain⟨v,av⟩:∃v,us.toList[off]? =some v:=⟨_,cr bt⟩;have zJ:bd w Z p v:=by have:=AL off g5;rw[k4 (fp.1 bL).1,k4 bt]at this;simp only[dn]at this;obtain⟨u,ch,ao,aF,_⟩:=this;rw[(fp.1 bL).2]at aF;rw[(fp.1 av).2]at ao;cases ao;exact aF.1
      obtain⟨bq,J,U,al⟩:=Vl h zJ FQ;have vR:dn w bq (cs.set off Av) us.toList:=WB (WA al g5) bL av U;have SY:=AN vR;refine⟨bq,⟨J.good.alt,fun j eJ ag=>?_,fun j dD b ag jx=>J.good.inj j dD b ?_ ?_,J.good.own,J.good.oinj,fun g j n v b aW ag=>J.good.obx g j n v b aW ?_,J.good.one,fun bl ab=>J.good.otr bl (ab.imp (fun⟨bN,bz,a2⟩=>⟨bN,by rw[iW]at bz;split at bz;(rename_i e;subst e;simp[dg]);exact bz,a2⟩) id)⟩,J.fr,J.defers,J.size,J.slot,J.new⟩
      ·simp only at ag;rw[iW]at ag;split at ag
       ·rename_i e;subst e;cases ag;obtain⟨iD,ch,fW,f1,f2,f3,f4,f5⟩:=J.good.box k cs dg;have:iD=bl:=by have:=al.bx k bl trivial g1;rw[this]at f1;cases f1;rfl
        subst this;rw[uU tf]at g4 f4;rw[g4]at f4;injection f4 with f4;injection f4 with f4 f6 f7;refine⟨iD,us,el,f1,f2,f3,by rw[uU SY];exact g4,by rw[uV SY];exact vR⟩
       ·exact J.good.box j eJ ag
      ·simp only at ag;rw[iW]at ag;split at ag
       ·rename_i e;subst e;simp[dg]
       ·exact ag
      ·simp only at jx;rw[iW]at jx;split at jx
       ·rename_i e;subst e;simp[dg]
       ·exact jx
      ·simp only at ag;rw[iW]at ag;split at ag
       ·rename_i e;subst e;simp[dg]
       ·exact ag
     ·cases he
    ·cases he
   ·cases he
  ·cases he
 ·cases he
def sO{α:Type}(k:aL)(l:List (aL×α)):List (aL×α):=match l with
 |[]=>[]
 |(i,x)::r=>if i=k then sO k r else(i,x)::sO k r
theorem K9{α:Type}(k j:aL):∀l:List (aL×α),look j (sO k l)=if j=k then none else look j l
 |[]=>by simp[sO,look]
 |(i,x)::r=>by
  simp only[sO];by_cases h:i=k
  ·subst h;rw[if_pos rfl,K9 i j r];by_cases U:j=i
   ·simp[U]
   ·have:¬i=j:=fun e=>U e.symm;simp[look,U,this]
  ·rw[if_neg h];simp only[look];by_cases U:i=j
   ·subst U;simp[h]
   ·simp only[U,if_false];exact K9 k j r
def Ju(agg:Bool):List ai->Option ai
 |[p]=>if agg then some (.agg [p])else some p
 |cs=>if agg then some (.agg cs)else none
def vw(st:bo)(agg:Bool)(s:Nat):Option bo:=
 match get s st.t with
 | .ptr k 0=>match look k st.b with
  |some cs=>if hS cs then match Ju agg cs with
    |some x=>some {st with t:=put s (.eptr x) st.t,b:=sO k st.b}
    |none=>none
   else none
  |none=>none
 |_=>none
theorem ajK{u:Value}(h:u.oneCell'=true):u.cells.toList=[u]:=by cases u<;>first|rfl|(simp[Value.oneCell']at h)
theorem T6{w:World}{A:Nat->Nat->Prop}{b:Nat}{us:Array Value}{el:gG}(ab:w.heap[b]? =some (.cells us el))(bj:∀o,o<us.size->A b o):∀(ba:List Value) (off:Nat),us.toList.drop off=ba->lK w A b off ba
 |[],_,_=>trivial
 |v::ba,off,h=>by
  have bt:off<us.toList.length:=by
   rcases Nat.lt_or_ge off us.toList.length with J|J
   ·exact J
   ·rw[List.drop_eq_nil_of_le J]at h;cases h
  have U:=k4 bt;rw[h]at U;injection U with U al;refine⟨⟨bj off (by simpa using bt),?_⟩,T6 ab bj ba (off+1) al.symm⟩;have vM:off<us.size:=by simpa using bt
  simp only[World.cell?,ab,iL,gF,if_false];rw[U];simp[vM]
theorem adb{C:fa}{st st':bo}{a:Act}{w:World}{Z:bc}(h:cS C st a w Z){agg:Bool}{s:Nat}(he:vw st agg s=some st'):∃bq,cS C st' a w bq:=by
 unfold vw at he;split at he
 ·rename_i k ad;split at he
  ·rename_i cs dg;split at he
   ·rename_i tf;split at he
    ·rename_i x ae;cases he;obtain⟨bl,us,el,g1,g2,g3,g4,g5⟩:=h.good.box k cs dg;rw[uV tf]at g5;rw[uU tf]at g4;have bt:bl<w.heap.size:=by
      rcases Nat.lt_or_ge bl w.heap.size with J|J
      ·exact J
      ·rw[Array.getElem?_eq_none J]at g4;cases g4
     let bq:bc:={Z with A:=fun b o=>Z.A b o\/(b=bl/\o<us.size)}
     have aw:lx w Z w bq:=⟨fun b o bj=>⟨.inl bj,rfl⟩,fun j b _ ag=>ag,fun g n u _ iT=>⟨n,u,iT,.inl ⟨rfl,rfl⟩⟩,fun _ _ _=>rfl,fun _ _ _ _ h=>h⟩;have h3:∀j eJ,look j (sO k st.b)=some eJ->j≠k/\look j st.b=some eJ:=fun j eJ ag=>by
      rw[K9]at ag;split at ag
      ·cases ag
      ·rename_i e;exact⟨e,ag⟩
     have FH:∀j,(look j (sO k st.b)).isSome->(look j st.b).isSome:=fun j ag=>by obtain⟨eJ,iS⟩:=fP.1 ag;simp[(h3 j eJ iS).2]
     have p0:∀(g:aL) (n:Nat) (v:Value),(look g st.e).isSome->Z.ow g=some (n,v)->v.ownBlock=some bl->eN:=fun g n v J U al=>h.good.obx g k n v bl J (by simp[dg]) U al g1;have nl:bd w bq (.eptr x) (a.tmps.getD s undef):=by
      have af:=h.slot s;rw[ad]at af;simp only[bd]at af⊢;obtain⟨b0,aZ,bm⟩:=af;rw[g1]at aZ;cases aZ;have au:lK w bq.A bl 0 us.toList:=T6 g4 (fun o aw=>.inr ⟨rfl,aw⟩) _ 0 rfl;have g6:dn w bq cs us.toList:=WA aw g5;unfold Ju at ae;split at ae
      ·rename_i p;simp only[dn]at g6;obtain⟨u,ch,ao,aF,bM⟩:=g6;subst bM;split at ae
       ·cases ae;exact⟨bl,0,.agg us,bm,by simp only[bd];exact⟨us,rfl,by rw[ao];simp only[dn];exact⟨u,[],rfl,aF,rfl⟩⟩,by simpa[oV]using au⟩
       ·cases ae;refine⟨bl,0,u,bm,aF.1,?_⟩;rw[ajK aF.2,<-ao];exact au
      ·split at ae
       ·cases ae;exact⟨bl,0,.agg us,bm,by simp only[bd];exact⟨us,rfl,g6⟩,by simpa[oV]using au⟩
       ·cases ae
     refine⟨bq,Mu (Z:=bq) (st:={st with b:=sO k st.b}) ⟨⟨fun b o bj=>?_,fun j eJ ag=>?_,fun j dD b J U=>h.good.inj j dD b (FH j J) (FH dD U),fun g o aW=>?_,h.good.oinj,fun g j n v b J U=>h.good.obx g j n v b J (FH j U),h.good.one,fun b aI=>h.good.otr b (aI.imp (fun⟨j,bz,a2⟩=>⟨j,FH j bz,a2⟩) id)⟩,⟨h.fr.os,h.fr.tape,h.fr.output,h.fr.size,h.fr.block,fun b o bj=>⟨.inl (h.fr.keep b o bj).1,(h.fr.keep b o bj).2⟩,fun b o bj=>?_,h.fr.obj,h.fr.obn,h.fr.row,h.fr.obr,h.fr.trd,h.fr.trb,h.fr.trn,h.fr.sh⟩,h.defers,h.size,fun i=>yv aw (h.slot i),h.new⟩ nl⟩
     ·rcases bj with bj|⟨rfl,_⟩
      ·exact h.good.alt b o bj
      ·exact bt
     ·obtain⟨cF,jx⟩:=h3 j eJ ag;obtain⟨iD,ch,fW,f1,f2,f3,f4,f5⟩:=h.good.box j eJ jx;refine⟨iD,ch,fW,f1,f2,fun o bj=>?_,f4,qj aw f5⟩;rcases bj with bj|⟨rfl,_⟩
      ·exact f3 o bj
      ·exact cF (h.good.inj j k _ (by simp[jx]) (by simp[dg]) f1 g1)
     ·obtain⟨v0,fw,ao,aF,bM,dt⟩:=h.good.own g o aW;have vA:∀b,v0.ownBlock=some b->∀j,bq.A b j->Z.A b j:=fun b ab j bj=>by
       rcases bj with bj|⟨rfl,_⟩
       ·exact bj
       ·exact(p0 g _ v0 (by simp[aW]) ao ab).elim
      exact⟨v0,fw,ao,aF,fun b ab=>⟨(bM b ab).1,fun j bj=>(bM b ab).2 j (vA b ab j bj)⟩,si aw vA dt⟩
     ·rcases bj with bj|⟨rfl,_⟩
      ·exact h.fr.fresh b o bj
      ·exact .inr g2
    ·cases he
   ·cases he
  ·cases he
 ·cases he
def sg(st:bo)(x:dp)(b:Bool):bo:=match x with
 | .t i=>{st with t:=put i (.bool b) st.t}
 | .c _=>st
def cY(P:cG)(ob:List aL):C->(Exit->bo->Prop)->bo->Prop
 | .skip,Q,st=>Q .normal st
 | .region gs,Q,st=>h0 P gs st (Q .normal)
 | .drawn q N gs,Q,st=>hP P q [] st.n gs st (tP (st.n+N) st.o (Q .normal))
 | .drawnW nw N gs,Q,st=>(∀j∈nw,.obj j∉st.o)/\hP P false nw st.n gs st (tP (st.n+N) (nw.map aL.obj++st.o) (Q .normal))
 | .seq a b,Q,st=>cY P ob a (fun e st'=>match e with| .normal=>cY P ob b Q st'|e=>Q e st') st
 | .cond x t e,Q,st=>match cm st.t x with
  | .bool b=>(b=true->cY P ob t Q (sg st x true))/\(b=false->cY P ob e Q (sg st x false))
  |_=>eN
 | .block id c,Q,st=>cY P ob c (fun e st'=>match e with| .exit j=>if j=id then Q .normal st' else Q (.exit j) st'|e=>Q e st') st
 | .loop c,Q,st=> ∃(ha:Nat->bo->Prop) (m:Nat) (wR:bo),iP ob st wR/\ha m wR/\
   ∀k s,ha k s->(∀i,ho (get i s.t))->(∀j cs,look j s.b=some cs->hS cs=true->hN cs)->cY P ob c (fun e ah=>match e with| .normal=> ∃bN oQ,bN<k/\iP ob ah oQ/\ha bN oQ|e=>Q e ah) s
 | .exit id,Q,st=>Q (.exit id) st
 | .ret,Q,st=>Q .ret st
 | .pub s c,Q,st=>match wF st s with
  |some st'=>cY P ob c Q st'
  |none=>eN
 | .pubB s c,Q,st=>match wE st s with
  |some st'=>cY P ob c Q st'
  |none=>eN
 | .fg pA s c,Q,st=>cY P ob c Q {st with t:=put s (zh pA (get s st.t)) st.t}
 | .fz fV s c,Q,st=>match vw st fV s with
  |some st'=>cY P ob c Q st'
  |none=>eN
 | .no,_,_=>eN
def hy(N:Nat)(bB:List (Nat×dA)):C->Code->Bool
 | .skip,.skip=>true
 | .region gs,.region _ ops false=>kx N bB ops.toList gs ops.toList
 | .drawn _ N' gs,.region _ ops true=>N'==N&&kx N bB ops.toList gs ops.toList&&Bq gs ops.toList&&za N gs
 | .drawnW _ N' gs,.region _ ops true=>N'==N&&kx N bB ops.toList gs ops.toList&&Bq gs ops.toList&&za N gs
 | .seq a b,.seq x y=>hy N bB a x&&hy N bB b y
 | .cond x t e,.cond o dK fL=>eg x o&&hy N bB t dK&&hy N bB e fL
 | .block id c,.block CI cl=>id==CI&&hy N bB c cl
 | .loop c,.loop cl=>hy N bB c cl
 | .exit id,.exit CI=>id==CI
 | .ret,.ret=>true
 | .pub _ c,cl=>hy N bB c cl
 | .pubB _ c,cl=>hy N bB c cl
 | .fg _ _ c,cl=>hy N bB c cl
 | .fz _ _ c,cl=>hy N bB c cl
 | .no,_=>true
 |_,_=>false
theorem RY{N:Nat}{bB:List (Nat×dA)}{ops:List Oper}:∀{gs:List c5} {os:List Oper},kx N bB ops gs os=true->gs.length=os.length
 |[],[],_=>rfl
 |[],_::_,h=>by simp[kx]at h
 |_::_,[],h=>by simp[kx]at h
 |g::gs,o::os,h=>by simp only[kx,ct]at h;simp[RY h.2]
def X9(P:cG)(C:fa)(c:Code)(Q:Exit->bo->Prop)(st:bo):Prop:= ∀a w Z,cS C st a w Z->c.wp P (fun e bp w'=> ∃st' bq,Q e st'/\cS C st' bp w' bq) a w
theorem ry{P:cG}(hm:P.follows .mixedOrders=true){bB:List (Nat×dA)}(aI:fN P bB=true){X:fa}:∀(c:C) (code:Code) (Q:Exit->bo->Prop) (st:bo),hy X.N bB c code=true->cY P X.ob c Q st->X9 P X code Q st
 | .skip,code,Q,st,aw,he=>by
  cases code<;>simp only[hy]at aw<;>try cases aw
  intro a w Z aK;exact wp_skip ⟨st,Z,he,aK⟩
 | .region gs,code,Q,st,aw,he=>by
  cases code<;>try(simp[hy]at aw;done)
  rename_i id ops draw;cases draw<;>simp only[hy]at aw
  ·intro a w Z aK;refine wp_region ?_;have au:gs.length=ops.size:=by simpa using RY aw
   rw[List.range_eq_range',<-au];exact Q4 aI (K:=Q .normal) (fun st' bp w' bq J U=>⟨st',bq,J,U⟩) gs ops.toList 0 Ψ aw st a w Z he aK
  ·cases aw
 | .drawn q N gs,code,Q,st,aw,he=>by
  cases code<;>try(simp[hy]at aw;done)
  rename_i id ops draw;cases draw<;>simp only[hy]at aw
  ·cases aw
  ·simp only[ct,dM]at aw;obtain⟨⟨⟨rfl,J⟩,U⟩,al⟩:=aw;intro a w Z aK;exact Q3 hm aI J U al (nw:=[]) (K:=Q .normal) (fun st' bp w' bq J U=>⟨st',bq,J,U⟩) Ψ he aK
 | .drawnW nw N gs,code,Q,st,aw,he=>by
  cases code<;>try(simp[hy]at aw;done)
  rename_i id ops draw;cases draw<;>simp only[hy]at aw
  ·cases aw
  ·simp only[ct,dM]at aw;obtain⟨⟨⟨rfl,J⟩,U⟩,al⟩:=aw;intro a w Z aK;exact Q3 hm aI J U al (nw:=nw) (K:=Q .normal) (fun st' bp w' bq J U=>⟨st',bq,J,U⟩) he.1 he.2 aK
 | .seq x y,code,Q,st,aw,he=>by
  cases code<;>try(simp[hy]at aw;done)
  rename_i o9 lz;simp only[hy,ct]at aw;intro a w Z aK;refine wp_seq ?_;have J:=ry hm aI x o9 _ st aw.1 he a w Z aK;refine wp_mono J fun e bp w' cw=>?_;obtain⟨st',bq,bI,dG⟩:=cw;cases e with
  |normal=>exact ry hm aI y lz Q st' aw.2 bI bp w' bq dG
  |_=>exact⟨st',bq,bI,dG⟩
 | .cond x t e,code,Q,st,aw,he=>by
  cases code<;>try(simp[hy]at aw;done)
  rename_i o ZG ce;simp only[hy,ct]at aw;intro a w Z aK;simp only[cY]at he;have ae:=eh aK aw.1.1;split at he
  ·rename_i b ab;rw[ab]at ae;simp only[bd]at ae;have CB:cS X (sg st x b) a w Z:=by
    unfold sg;split
    ·exact Mt aK (by simpa[cm]using ab)
    ·exact aK
   refine wp_cond ae ?_;cases b
   ·exact ry hm aI e ce Q _ aw.2 (he.2 rfl) a w Z CB
   ·exact ry hm aI t ZG Q _ aw.1.2 (he.1 rfl) a w Z CB
  ·exact he.elim
 | .block id c,code,Q,st,aw,he=>by
  cases code<;>try(simp[hy]at aw;done)
  rename_i CI cl;simp only[hy,ct,dM]at aw;obtain⟨rfl,aw⟩:=aw;intro a w Z aK;refine wp_block ?_;refine wp_mono (ry hm aI c cl _ st aw he a w Z aK) fun e bp w' cw=>?_;obtain⟨st',bq,bI,dG⟩:=cw;cases e with
  |exit j=>
   simp only[Exit.inBlock]at bI⊢;by_cases ag:j=id
   ·rw[if_pos ag]at bI⊢;exact⟨st',bq,bI,dG⟩
   ·rw[if_neg ag]at bI⊢;exact⟨st',bq,bI,dG⟩
  |_=>exact⟨st',bq,bI,dG⟩
 | .loop c,code,Q,st,aw,he=>by
  cases code<;>try(simp[hy]at aw;done)
  rename_i cl;simp only[hy]at aw;intro a w Z aK;simp only[cY]at he;obtain⟨ha,m,wR,hw,hi,jK⟩:=he;refine wp_loop_ghost (fun k a w=> ∃s Z,ha k s/\cS X s a w Z) m ⟨wR,_,hi,aK.weaker hw⟩ ?_;intro k a w aeo;obtain⟨s,Z,af,CC⟩:=aeo;have J:=jK k s af (fun i=>WH (CC.slot i)) (fun j cs ag=>by obtain⟨bl,us,el,_,_,_,_,g5⟩:=CC.good.box j cs ag;exact Wu g5);refine wp_mono (ry hm aI c cl _ s aw J a w Z CC) fun e bp w' cw=>?_;obtain⟨st',bq,bI,dG⟩:=cw;cases e with
  |normal=>obtain⟨bN,oQ,ao,aF,bM⟩:=bI;exact⟨bN,ao,oQ,_,bM,dG.weaker aF⟩
  |_=>exact⟨st',bq,bI,dG⟩
 | .exit id,code,Q,st,aw,he=>by
  cases code<;>try(simp[hy]at aw;done)
  rename_i CI;simp only[hy,dM]at aw;subst aw;intro a w Z aK;exact wp_exit ⟨st,Z,he,aK⟩
 | .ret,code,Q,st,aw,he=>by
  cases code<;>try(simp[hy]at aw;done)
  intro a w Z aK;exact wp_ret ⟨st,Z,he,aK⟩
 | .pub s c,code,Q,st,aw,he=>by
  simp only[hy]at aw;simp only[cY]at he;split at he
  ·rename_i st' af;intro a w Z aK;obtain⟨bq,J⟩:=aj2 aK af;exact ry hm aI c code Q st' aw he a w bq J
  ·exact he.elim
 | .pubB s c,code,Q,st,aw,he=>by
  simp only[hy]at aw;simp only[cY]at he;split at he
  ·rename_i st' af;intro a w Z aK;obtain⟨bq,J⟩:=aj1 aK af;exact ry hm aI c code Q st' aw he a w bq J
  ·exact he.elim
 | .fg pA s c,code,Q,st,aw,he=>by simp only[hy]at aw;simp only[cY]at he;intro a w Z aK;exact ry hm aI c code Q _ aw he a w Z (Mu aK (acV (aK.slot s)))
 | .fz fV s c,code,Q,st,aw,he=>by
  simp only[hy]at aw;simp only[cY]at he;intro a w Z aK;split at he
  ·rename_i st' dh;obtain⟨bq,J⟩:=adb aK dh;exact ry hm aI c code Q st' aw he a w bq J
  ·exact he.elim
 | .no,code,Q,st,aw,he=>by simp only[cY]at he
inductive bY where
 |tmp (i:Nat)
 |cell (i:Nat) (agg:Bool) (sz:Nat)
def aU(st:bo):bY->Option (Prop×ai)
 | .tmp i=>some (True,get i st.t)
 | .cell i agg sz=>mN st.b st.e agg sz (get i st.t)
def aT(st:bo):List bY->Option (Prop×List ai)
 |[]=>some (True,[])
 |r::fi=>match aU st r,aT st fi with
  |some (c,p),some (cl,cz)=>some (c/\cl,p::cz)
  |_,_=>none
def q2(bB:List (Nat×dA)):List bY->List ResultVar->Bool
 |[],[]=>true
 | .tmp i::fi,.tmp j::os=>i==j&&q2 bB fi os
 | .cell i agg sz::fi,.cell j t::os=>i==j&&(match dZ bB t with|some f=>f.size==sz&&f.kind.isAgg==agg|none=>false)&&q2 bB fi os
 |_,_=>false
def aS:List ai->ai
 |[p]=>p
 |cz=>.tuple cz
def Hs(tmps:Array Value):ResultVar->Sem Value
 | .tmp t=>pure (tmps.getD t undef)
 | .cell x t=>do loadVar t (<-asAddr (tmps.getD x undef))
theorem akM(fn:Func)(tmps:Array Value):results fn tmps=(do let ba<-fn.results.mapM (Hs tmps);pure (if h:ba.size=1 then ba[0]else .tuple ba)):=by unfold results;congr 2
theorem MC{P:cG}{bB:List (Nat×dA)}(aI:fN P bB=true){X:fa}{st:bo}{a:Act}{w:World}{Z:bc}(aK:cS X st a w Z):
  ∀(fi:List bY) (os:List ResultVar) (c:Prop) (cz:List ai),q2 bB fi os=true->aT st fi=some (c,cz)->c->
  ∃ba,(os.mapM (Hs a.tmps)).run P w= .ok ba w/\cR w Z cz ba
 |[],[],c,cz,_,he,_=>by simp only[aT]at he;cases he;exact⟨[],Ψ,by simp[cR]⟩
 |[],_::_,_,_,aw,_,_=>by simp[q2]at aw
 | .tmp _::_,[],_,_,aw,_,_=>by simp[q2]at aw
 | .cell _ _ _::_,[],_,_,aw,_,_=>by simp[q2]at aw
 |r::fi,o::os,c,cz,aw,he,aq=>by
  simp only[aT]at he;split at he
  ·rename_i bT p cv Vk J U;cases he;cases r with
   |tmp i=>
    cases o with
    |cell _ _=>simp[q2]at aw
    |tmp j=>simp only[q2,ct,dM]at aw;obtain⟨rfl,aw⟩:=aw;simp only[aU]at J;cases J;obtain⟨ba,g1,g2⟩:=MC aI aK fi os cv Vk aw U aq.2;refine⟨a.tmps.getD i undef::ba,?_,by simp only[cR];exact⟨_,_,rfl,aK.slot i,g2⟩⟩;simp only[List.mapM_cons,fH,Hs,gq,fO,g1]
   |cell i agg sz=>
    cases o with
    |tmp _=>simp[q2]at aw
    |cell j t=>
     simp only[q2,ct,dM]at aw;obtain⟨⟨rfl,al⟩,aw⟩:=aw;split at al
     ·rename_i f aO;simp only[ct,dM]at al;obtain⟨rfl,rfl⟩:=al;simp only[aU]at J;obtain⟨ba,g1,g2⟩:=MC aI aK fi os cv Vk aw U aq.2;obtain⟨v,f1,f2⟩:=Gp aI aK.good aO (aK.slot i) J aq.1;have Cy:∃sH,a.tmps.getD i undef= .pointer (some sH):=by
       have af:=aK.slot i;unfold mN at J;split at J
       ·rename_i dH k n vY rz ad;rw[ad]at af;simp only[bd]at af;obtain⟨⟨b,o,e⟩,_⟩:=af;exact⟨_,e⟩
       ·rename_i k off ad;rw[ad]at af;simp only[bd]at af;obtain⟨b,_,e⟩:=af;exact⟨_,e⟩
       ·rename_i q ad;rw[ad]at af;simp only[bd]at af;obtain⟨b,off,u,e,_⟩:=af;exact⟨_,e⟩
       ·cases J
      obtain⟨sH,Sc⟩:=Cy;rw[Sc]at f1;simp only[Instr.loadAt,Instr.sureAddr,fH,gq,fO]at f1;refine⟨v::ba,?_,by simp only[cR];exact⟨_,_,rfl,f2,g2⟩⟩;have aet:(asAddr (.pointer (some sH)):Sem Addr).run P w= .ok sH w:=rfl;simp only[List.mapM_cons,fH,Hs,gq,fO,g1,Sc,aet,f1]
     ·cases al
  ·cases he
theorem DE{w:World}{Z:bc}:∀{cz:List ai} {ba:List Value},cR w Z cz ba->ba.length=cz.length
 |[],ba,h=>by simp only[cR]at h;subst h;rfl
 |p::cz,ba,h=>by simp only[cR]at h;obtain⟨u,ch,rfl,_,U⟩:=h;simp[DE U]
def kq:Nat->List ai->List (Nat×ai)
 |_,[]=>[]
 |i,p::cz=>(i,p)::kq (i+1) cz
theorem JD:∀(cz:List ai) (i j:Nat),get j (kq i cz)=if i<=j/\j<i+cz.length then cz.getD (j-i) .junk else .junk
 |[],i,j=>by simp[kq,get]
 |p::cz,i,j=>by
  simp only[kq,get];by_cases h:i=j
  ·subst h;simp
  ·rw[if_neg h,JD cz (i+1) j];by_cases U:i<=j/\j<i+(p::cz).length
   ·rw[if_pos U,if_pos (by simp at U⊢;omega)];have:j-i=(j-(i+1))+1:=Ω
    rw[this];simp
   ·rw[if_neg U,if_neg (by simp at U⊢;omega)]
def j0{α:Type}(ah:cM):List (aL×α)->Prop
 |[]=>True
 |(k,_)::r=>inObs ah k/\j0 ah r
theorem zV{α:Type}{ah:cM}:∀{l:List (aL×α)},j0 ah l->∀k,(look k l).isSome->inObs ah k
 |[],_,k,h=>by simp[look]at h
 |(i,x)::r,ad,k,h=>by
  simp only[j0]at ad;simp only[look]at h;split at h
  ·rename_i e;subst e;exact ad.1
  ·exact zV ad.2 k h
def cI(fi:List bY)(s:cM)(Q:ai->cM->Prop)(e:Exit)(st:bo):Prop:=
 (e= .ret\/e= .normal)/\match aT st fi with
  |some (c,cz)=>c/\∃ah,j0 ah s.b/\j0 ah s.e/\gV (inObs ah) ah.b st.b/\nz (inObs ah) ah.e st.e/\iX ah/\aJ (inObs ah) (ev (aS cz))/\Q (ev (aS cz)) ah
  |none=>eN
theorem bJ.of{P:cG}(hm:P.follows .mixedOrders=true){bB:List (Nat×dA)}(aI:fN P bB=true){f:FuncId}{fn:Func}(aO:P.funcs[f]? =some fn){code:Code}(ab:fn.body=some code)(Ct:(fn.name== "runtime.NumGoroutine")=false){c:C}(aq:hy fn.ntmps bB c code=true){fi:List bY}(CC:q2 bB fi fn.results.toList=true)
  {args:List ai} (au:args.length<=fn.ntmps) {s:cM} (pt:iX s) {Q:ai->cM->Prop} (he:ij args->(∀j cs,look j s.b=some cs->hS cs=true->hN cs)->cY P (cX s) c (cI fi s Q) ⟨kq 0 args,s.b,s.e,0,cX s⟩):bJ P f args s Q:=by
 intro w Z ba aW ae aK;refine .inl ⟨⟨fn,aO,by simp[ab],Ct⟩,?_⟩;have kE:=DE aK;have kU:ba.size=args.length:=by simpa using kE
 let X:fa:=⟨w,Z,fx Z s,fn.ntmps,cX s⟩
 have oF:∀k,fresh 0 (cX s) k->Z.bx k=none/\Z.ow k=none/\∀j b,¬Z.tr k j b:=by
  intro k ad;cases k with
  |loc m=>exact⟨(ae _).1 (pt.1 m),(ae _).2.1 (pt.2 m),(ae _).2.2⟩
  |obj m=>
   simp only[fresh,true_and]at ad;refine⟨?_,?_,(ae _).2.2⟩
   ·refine(ae _).1 ?_;cases h:look (.obj m) s.b with
    |none=>rfl
    |some x=>exact absurd (tz (.inl (by simp[h]))) ad
   ·refine(ae _).2.1 ?_;cases h:look (.obj m) s.e with
    |none=>rfl
    |some x=>exact absurd (tz (.inr (by simp[h]))) ad
 have jw:∀m,(Z.bx (.obj m)≠none\/Z.ow (.obj m)≠none)-> .obj m∈cX s:=by
  intro m hm;refine Classical.byContradiction fun aq=>?_;obtain⟨J,U,_⟩:=oF (.obj m) ⟨trivial,aq⟩;rcases hm with hm|hm
  ·exact hm J
  ·exact hm U
 have p4:cS X ⟨kq 0 args,s.b,s.e,0,cX s⟩ {tmps:=ba++Array.replicate (fn.ntmps-ba.size) undef,defers:=[]} w Z:=by
  refine⟨⟨aW.alt,fun k cs ad=>?_,aW.inj,fun g o er=>?_,aW.oinj,aW.obx,aW.one,aW.otr⟩,⟨rfl,rfl,rfl,eC _,fun _ _ _=>rfl,fun b o h=>⟨h,rfl⟩,fun b o h=>.inl h,fun n b h=>h,fun n b h=>jw n (.inl (by rw[h];simp)),fun m n u h=>⟨n,u,h,.inl ⟨rfl,rfl⟩⟩,fun m n u h=>jw m (.inr (by rw[h];simp)),fun k j _ _ b h=>absurd h ((ae k).2.2 j b),fun k j b h=>absurd h ((ae k).2.2 j b),fun k j b h=>absurd h ((ae k).2.2 j b),fun _ _ _=>rfl⟩,rfl,?_,fun i=>?_,oF⟩
  ·obtain⟨bl,us,el,g1,g2,g3⟩:=aW.box k cs ad;exact⟨bl,us,el,g1,.inl g2,g3⟩
  ·obtain⟨v,us,g1,g2,g3,g4⟩:=aW.own g o er;exact⟨v,us,g1,g2,fun bl fk=>⟨.inl (g3 bl fk).1,(g3 bl fk).2⟩,g4⟩
  ·show(ba++Array.replicate (fn.ntmps-ba.size) undef).size=fn.ntmps;simp;omega
  ·rw[JD];by_cases hi:i<args.length
   ·rw[if_pos Ω];have ux:args[i]? =some args[i]:=cr hi;obtain⟨v,ao,aF⟩:=Hk i aK ux;have av:(ba++Array.replicate (fn.ntmps-ba.size) undef).getD i undef=v:=by
     have IY:ba[i]? =some v:=by simpa using ao
     rw[Array.getD_eq_getD_getElem?,Array.getElem?_append_left Ω,IY];rfl
    show bd w Z _ ((ba++Array.replicate (fn.ntmps-ba.size) undef).getD i undef);rw[av];simpa[List.getD,ux]using aF
   ·rw[if_neg Ω];simp[bd]
 have uu:=he (WE aK) (fun j cs ag=>by obtain⟨bl,us,el,_,_,_,_,g5⟩:=aW.box j cs ag;exact Wu g5);have afZ:=ry hm aI (X:=X) c code (cI fi s Q) _ aq uu _ w Z p4;refine calls_of_wp aO ab (wp_mono afZ fun e bp w' cw=>?_);obtain⟨st',bq,⟨ur,bI⟩,dG⟩:=cw;cases xM:aT st' fi with
 |none=>simp[xM]at bI
 |some x=>
  obtain⟨cl,cz⟩:=x;simp only[xM]at bI;obtain⟨hA,ah,kb,ke,aZ,bm,bP,cP,cZ⟩:=bI;obtain⟨wL,g1,g2⟩:=MC aI dG fi fn.results.toList cl cz CC xM hA;have afD:=DE g2;have dF:bp.defers=[]/\∃v,(results fn bp.tmps).run P w'= .ok v w'/\(fun(e:Ending) w'=> ∃v r ah bq,e= .returned v/\Q r ah/\bd w' bq r v/\Good (fun bl=>fx Z s bl\/w.heap.size<=bl) w' bq ah.b ah.e/\pe bq ah/\iX ah/\qt ⟨w,Z,fx Z s,0,cX s⟩ w' bq) (.returned v) w':=by
   refine⟨dG.defers,?_⟩;have iV:(results fn bp.tmps).run P w'= .ok (if h:wL.toArray.size=1 then wL.toArray[0]else .tuple wL.toArray) w':=by rw[akM];simp only[fH,Array.mapM_eq_mapM_toList,Sem.run_map,g1,fO,gq]
   refine⟨_,iV,_,ev (aS cz),ah,bq.cut (inObs ah),rfl,cZ,?_,dG.good.cut aZ bm (fun bl h _=>h),?_,bP,?_⟩
   ·have mG:bd w' bq (aS cz) (if h:wL.toArray.size=1 then wL.toArray[0]else .tuple wL.toArray):=by
     match cz,wL,g2,afD with
     |[p],[v],g2,_=>simp only[cR]at g2;obtain⟨u,ch,ao,aF,_⟩:=g2;cases ao;simpa[aS]using aF
     |[],[],g2,_=>simp[aS,bd,cR]
     |p::dq::cz,v::v2::wL,g2,_=>rw[dif_neg Ψ];simp only[aS,bd];exact⟨_,rfl,by simpa using g2⟩
     |[_],[],_,h=>simp at h
     |[],_::_,_,h=>simp at h
     |[_],_::_::_,_,h=>simp at h
     |_::_::_,[],_,h=>simp at h
     |_::_::_,[_],_,h=>simp at h
    exact u3 (oi.cut _ w' bq) _ _ cP (yw _ _ mG)
   ·intro k;refine⟨?_,?_,?_⟩;rotate_left 2
    ·rintro j b ⟨af,ab⟩;obtain⟨t1,t2⟩:=dG.fr.trn k j b ab;rcases af with af|af<;>obtain⟨x,iq⟩:=fP.1 af
     ·obtain⟨bl,ch,el,ao,_⟩:=dG.good.box k x (aZ k x iq).1;rw[t1]at ao;cases ao
     ·obtain⟨v',ch,ao,_⟩:=dG.good.own k x (bm k x iq).1;rw[t2]at ao;cases ao
    ·intro ad;by_cases af:inObs ah k
     ·rw[bc.cut_bx af];rcases af with af|af
      ·rw[ad]at af;cases af
      ·obtain⟨x,iq⟩:=fP.1 af;obtain⟨v',ch,ao,_⟩:=dG.good.own k x (bm k x iq).1;rcases dG.good.one k with J|J
       ·exact J
       ·rw[J]at ao;cases ao
     ·exact(bc.cut_no af).1
    ·intro ad;by_cases af:inObs ah k
     ·rw[bc.cut_ow af];rcases af with af|af
      ·obtain⟨x,iq⟩:=fP.1 af;obtain⟨bl,ch,el,ao,_⟩:=dG.good.box k x (aZ k x iq).1;rcases dG.good.one k with J|J
       ·rw[J]at ao;cases ao
       ·exact J
      ·rw[ad]at af;cases af
     ·exact(bc.cut_no af).2.1
   ·refine⟨dG.fr.os,dG.fr.tape,dG.fr.output,dG.fr.size,dG.fr.block,dG.fr.keep,dG.fr.fresh,fun n b h=>?_,fun n b h=>jw n (.inl (by rw[h];simp)),fun m n u h=>?_,fun m n u h=>jw m (.inr (by rw[h];simp)),fun k j bN dD b J U=>dG.fr.trd k j bN dD b J.2 U.2,fun k j b ab=>dG.fr.trb k j b ab.2,fun k j b ab=>(by rw[bc.cut_bx ab.1,bc.cut_ow ab.1];exact dG.fr.trn k j b ab.2),dG.fr.sh⟩
    ·have af:inObs ah (.obj n):=by
      cases au:look (.obj n) s.b with
      |none=>rw[(ae _).1 au]at h;cases h
      |some x=>exact zV kb _ (by simp[au])
     rw[bc.cut_bx af];exact dG.fr.obj n b h
    ·have af:inObs ah (.obj m):=by
      cases au:look (.obj m) s.e with
      |none=>rw[(ae _).2.1 au]at h;cases h
      |some x=>exact zV ke _ (by simp[au])
     rw[bc.cut_ow af];exact dG.fr.row m n u h
  rcases ur with rfl|rfl<;>exact dF
def ca(bB:List (Nat×dA))(c:C)(fi:List bY)(ahI:Nat)(fn:Func):Bool:=
 match fn.body with
 |some code=>hy fn.ntmps bB c code&&q2 bB fi fn.results.toList&& !(fn.name== "runtime.NumGoroutine")&&decide (ahI<=fn.ntmps)
 |none=>false
theorem bJ.mk{P:cG}(hm:P.follows .mixedOrders=true){bB:List (Nat×dA)}(aI:fN P bB=true){f:FuncId}{fn:Func}(aO:P.funcs[f]? =some fn){c:C}{fi:List bY}{n:Nat}(e0:ca bB c fi n fn=true)
  {args:List ai} (au:args.length<=n) {s:cM} (pt:iX s) {Q:ai->cM->Prop} (he:ij args->(∀j cs,look j s.b=some cs->hS cs=true->hN cs)->cY P (cX s) c (cI fi s Q) ⟨kq 0 args,s.b,s.e,0,cX s⟩):bJ P f args s Q:=by
 unfold ca at e0;split at e0
 ·rename_i code ab;simp only[ct,qo,eF]at e0;obtain⟨⟨⟨J,U⟩,al⟩,a1⟩:=e0;exact bJ.of hm aI aO ab al J U (gZ au a1) pt he
 ·cases e0
theorem ya:iX ⟨[],[]⟩:=⟨fun _=>rfl,fun _=>rfl⟩
def bn(fi:List bY)(r:ai)(e:Exit)(st:bo):Prop:=
 (e= .ret\/e= .normal)/\match aT st fi with
  |some (c,cz)=>c/\ev (aS cz)=r
  |none=>eN
theorem bZ.mk{P:cG}(hm:P.follows .mixedOrders=true){bB:List (Nat×dA)}(aI:fN P bB=true){f:FuncId}{fn:Func}(aO:P.funcs[f]? =some fn){c:C}{fi:List bY}{n:Nat}(e0:ca bB c fi n fn=true)
  {args:List ai} (au:args.length<=n) {r:ai} (aK:aJ (fun _=>eN) r) (he:ij args->cY P [] c (bn fi r) ⟨kq 0 args,[],[],0,[]⟩):bZ P f args r:=by
 refine bJ.mk hm aI aO e0 au ya fun J _=>?_;have:=he J;have h2:bn fi r=cI fi ⟨[],[]⟩ (fun eG ah=>eG=r/\ah=⟨[],[]⟩):=by
  funext e st;unfold bn cI;apply propext;refine and_congr_right fun _=>?_;cases aT st fi with
  |none=>exact Iff.rfl
  |some x=>
   obtain⟨c,cz⟩:=x;refine and_congr_right fun _=>?_;constructor
   ·intro h;refine⟨⟨[],[]⟩,trivial,trivial,fun k cs ad=>by simp[look]at ad,fun k cs ad=>by simp[look]at ad,ya,?_,h,rfl⟩;rw[h];exact we (fun k ad=>ad.elim) r aK
   ·rintro⟨ah,_,_,_,_,_,_,h,_⟩;exact h
 rw[h2]at this;exact this
theorem ND{α:Type}{β:Type}:∀l:List (aL×α),bX ([]:List (aL×β)) l=l
 |[]=>rfl
 |(k,x)::r=>by simp[bX,look,ND r]
theorem cA.val{P:cG}{n:Nat}{args:List ai}{st:bo}{d:Option Nat}{K:bo->Prop}{r:ai}(ad:aP (fun _=>eN) args)(aO:bZ P n args r)(h:K {st with t:=eM d r st.t}):cA P n args st d K:=by
 refine .inl ⟨⟨[],[]⟩,_,fun k cs ad=>by simp[look]at ad,fun k cs ad=>by simp[look]at ad,ya,j2 (fun _ h=>h.elim) _ ad,aO,?_⟩;rintro eG ah ⟨rfl,rfl⟩;refine⟨⟨fun m h=>by simp[look]at h,fun m h=>by simp[look]at h⟩,?_⟩;have:after st ⟨[],[]⟩ ⟨[],[]⟩ d eG={st with t:=eM d eG st.t}:=by simp[after,ND,cX]
 rw[this];exact h
@[reducible,simp] def dI(n:Int):dp:= .c (.int .i64 n)
@[reducible,simp] def I(a b:Nat):c5:=⟨none,.s (.v a (.mov (.t b)))⟩
@[reducible,simp] def bQ(a:Nat)(i:fU):c5:=⟨none,.s (.v a i)⟩
@[reducible,simp] def cH(i:ei):c5:=⟨none,.s i⟩
@[reducible,simp] def c1(a f:Nat)(l:List dp):c5:=⟨none,.call (some a) (.c (.func f [])) l⟩
@[reducible,simp] def bU(j:Nat)(w:Bool)(a b:Nat):c5:=⟨some (j,w),.s (.v a (.mov (.t b)))⟩
@[reducible,simp] def w2(j:Nat)(w:Bool)(a:Nat)(i:fU):c5:=⟨some (j,w),.s (.v a i)⟩
@[reducible,simp] def ys(j:Nat)(w:Bool)(i:ei):c5:=⟨some (j,w),.s i⟩
@[reducible,simp] def cJ(d s a b:Nat):c5:=bQ d (.iaddr s (.t a) (.t b))
@[reducible,simp] def ax(d s a:Nat):c5:=bQ d (.load false s (.t a))
@[reducible,simp] def a8(d s a:Nat):c5:=bQ d (.load true s (.t a))
@[reducible,simp] def aH(d o s a:Nat):c5:=bQ d (.faddr o false s (.t a))
@[reducible,simp] def iI(d o s a:Nat):c5:=bQ d (.faddr o true s (.t a))
@[reducible,simp] def bF(d:Nat)(o:BinOp)(a b:Nat):c5:=bQ d (.bin o false (.t a) (.t b))
@[reducible,simp] def aQ(d:Nat)(o:BinOp)(a:Nat)(n:Int):c5:=bQ d (.bin o false (.t a) (dI n))
@[reducible,simp] def cD(d a:Nat):c5:=bQ d (.len (.t a))
@[reducible,simp] def cB(d a:Nat):c5:=bQ d (.notB (.t a))
@[reducible,simp] def cu(d i a:Nat):c5:=bQ d (.ext i (.t a))
@[reducible,simp] def cW(d a b:Nat):c5:=bQ d (.pick (.t a) (.c (.bool true)) (.t b))
@[reducible,simp] def dv(d a b:Nat):c5:=bQ d (.pick (.t a) (.t b) (.c (.bool false)))
@[reducible,simp] def bu(d:Nat)(b:Bool):c5:=bQ d (.mov (.c (.bool b)))
@[reducible,simp] def b7(d:Nat)(n:Int):c5:=bQ d (.mov (dI n))
@[reducible,simp] def bC(s a b:Nat):c5:=cH (.store s (.t a) (.t b))
@[reducible,simp] def ar(j:Nat)(w:Bool)(x:c5):c5:=⟨some (j,w),x.i⟩
@[reducible,simp] def aa(l:List c5)(c:C):C:= .seq (.region l) c
@[reducible,simp] def aV(n:Nat)(a b:C):C:= .cond (.t n) a b
@[reducible,simp] def gp(d a:Nat)(l:List dp):c5:=⟨none,.call (some d) (.t a) l⟩
@[reducible,simp] def cV(d f a:Nat):c5:=c1 d f [.t a]
@[reducible,simp] def cg(d f a b:Nat):c5:=c1 d f [.t a,.t b]
@[reducible,simp] def dm:List ai:=[.int .i64 0,.int .i64 0,.str [],.slice 4 .nil []]
@[reducible,simp] def kn:List ai:=[.int .i64 0,.int .i64 0,.int .i64 0,.str [],.slice 4 .nil []]
@[reducible,simp] def h5:List ai:=[.int .i64 0,.slice 5 .nil [],.slice 1 .nil [],.slice 2 .nil [],.slice 2 .nil []]
@[reducible,simp] def c3(a b:Nat):c5:=cH (.box a none (.t b))
@[reducible,simp] def da(a:Nat)(l:List ai):c5:=cH (.alloc a none (.agg l))
@[reducible,simp] def ey(a n:Nat):c5:=bQ a (.mov (.c (.slice n .nil [])))
@[reducible,simp] def gY(a b c d e:Nat):c5:=cH (.app a b c (.t d) (.t e))
@[reducible,simp] def ec(a b c:Nat)(l:List dp):c5:=cH (.bsl a b c l)
@[reducible,simp] def eE(a b:Nat):c5:=bQ a (.nck (.t b))
@[reducible,simp] def gM(d s a:Nat)(n:Int):c5:=bQ d (.iaddr s (.t a) (dI n))
@[reducible,simp] def gE(d:Nat)(l:List ai)(m:List (Nat×Nat×dp)):c5:=bQ d (.build l m)
@[reducible,simp] def fj(a b c:Nat)(x:C):C:= .block 0 (.loop (aa [bF a .lss b c] (.seq (aV a .skip (.exit 0)) x)))
end
end Go.Pv
namespace Go.Proofs.YtohaalphocaebaaGreat
section
open Go Go.Pv
def Pr:C:=(aa [bu 2 false] (.seq (aa [I 5 0,cD 6 5,b7 7 0] (fj 8 7 6 (.seq (.block 1 (aa [cJ 9 4 5 7,a8 10 4 9,da 4 dm,bC 4 4 10] (aa [a8 11 4 4,cV 12 117 11,cB 13 12] (aV 13 (aa [bu 2 false] .ret) .skip)))) (.region [aQ 14 .add 7 1,I 7 14])))) (aa [bu 2 true] .ret)))
@[simp] def akk:List bY:=[.tmp 2]
def y3:C:=(aa [c3 1 0,da 2 dm] (aa [aH 6 0 1 1,ax 7 1 6,aH 8 1 1 1,ax 9 1 8,aH 10 2 1 1,ax 11 1 10,gE 12 dm [(0,1,(.t 7)),(1,1,(.t 9)),(2,1,(.t 11))],da 3 dm,bC 4 3 12] (.seq (aa [aH 13 3 1 1,ax 14 1 13,cD 15 14,b7 16 0] (fj 17 16 15 (.seq (.block 1 (aa [cJ 18 4 14 16,a8 19 4 18,da 5 dm,bC 4 5 19] (.drawn true 29 [aH 20 3 1 3,ax 21 1 20,a8 22 4 5,cV 23 74 22,ec 24 4 32 [.t 23],gY 25 4 32 21 24,aH 26 3 1 3,bC 1 26 25]))) (.region [aQ 27 .add 16 1,I 16 27])))) (aa [a8 28 4 3,bC 4 2 28] .ret))))
@[simp] def akC:List bY:=[.cell 2 true 4]
def IJ:C:=(aa [da 2 dm] (aa [I 3 0,gE 4 dm [(0,1,(dI 1)),(1,1,(.t 3))],bC 4 2 4] .ret))
@[simp] def We:List bY:=[.cell 2 true 4]
def Pl:C:=(aa [cH (.box 2 (some 201) (.t 0)),c3 3 1,da 4 dm,bu 5 false] (aa [a8 6 4 3,bQ 7 (.mkf 182 [.t 2]),cg 8 181 6 7,cu 9 0 8,cu 10 1 8,bC 4 4 9,I 5 10] .ret))
@[simp] def VR:List bY:=[.cell 4 true 4,.tmp 5]
def OS:C:=(aa [bu 2 false] (.seq (aa [I 5 0,cD 6 5,aQ 7 .gtr 6 400] (aV 7 (aa [bu 2 false] .ret) .skip)) (.seq (aa [I 8 0,cD 9 8,b7 10 0] (fj 11 10 9 (.seq (.block 1 (aa [I 12 10,cJ 13 5 8 10,a8 14 5 13,da 4 kn,I 3 12,bC 5 4 14] (.seq (.drawn true 45 [aH 15 0 1 4,ax 16 1 15,aQ 17 .lss 16 0,I 18 17,ar 18 false (aH 19 0 1 4),ar 18 false (ax 20 1 19),ar 18 false (aQ 21 .gtr 20 100000),cW 22 18 21,I 23 22,bU 23 false 24 3,ar 23 false (aQ 25 .gtr 24 0),bU 23 false 26 25,bU 26 true 27 0,bU 26 true 28 3,ar 26 true (aQ 29 .sub 28 1),ar 26 true (cJ 30 5 27 29),ar 26 true (aH 31 0 1 30),ar 26 true (ax 32 1 31),ar 26 true (aH 33 0 1 4),ar 26 true (ax 34 1 33),ar 26 true (bF 35 .geq 32 34),ar 23 false (dv 36 26 35),cW 37 23 36,I 38 37,ar 38 false (iI 39 1 4 4),ar 38 false (a8 40 4 39),ar 38 false (cV 41 117 40),ar 38 false (cB 42 41),cW 43 38 42]) (aV 43 (aa [bu 2 false] .ret) .skip)))) (.region [aQ 44 .add 10 1,I 10 44])))) (aa [bu 2 true] .ret))))
@[simp] def GW:List bY:=[.tmp 2]
def O5:C:=(aa [c3 2 0,c3 3 1,bu 4 false] (aa [a8 5 4 2,a8 6 4 3,cg 7 170 5 6,aQ 8 .eql 7 0,I 4 8] .ret))
@[simp] def VF:List bY:=[.tmp 4]
def Qb:C:=(aa [c3 2 0,c3 3 1,da 4 dm] (aa [a8 5 4 2,a8 6 4 3,ec 7 4 32 [.t 5,.t 6],gE 8 dm [(0,1,(dI 4)),(3,1,(.t 7))],bC 4 4 8] .ret))
@[simp] def Wa:List bY:=[.cell 4 true 4]
def OR:C:=(aa [c3 1 0,bu 2 false] (aa [a8 3 4 1,c1 4 194 [.t 3,(dI 5000)],aQ 5 .gtr 4 0,I 2 5] .ret))
@[simp] def Vv:List bY:=[.tmp 2]
def OG:C:=(aa [bu 2 false] (.seq (aa [I 4 0,bQ 5 (.slen (.t 4)),aQ 6 .lss 5 1,I 7 6,bU 7 false 8 0,ar 7 false (bQ 9 (.slen (.t 8))),ar 7 false (aQ 10 .gtr 9 12),cW 11 7 10,I 12 11,bU 12 false 13 0,ar 12 false (bQ 14 (.sidx (.t 13) (dI 0))),ar 12 false (bQ 15 (.bin .lss false (.t 14) (.c (.int .u8 97)))),cW 16 12 15,I 17 16,bU 17 false 18 0,ar 17 false (bQ 19 (.sidx (.t 18) (dI 0))),ar 17 false (bQ 20 (.bin .gtr false (.t 19) (.c (.int .u8 122)))),cW 21 17 20] (aV 21 (aa [bu 2 false] .ret) .skip)) (.seq (aa [b7 3 1] (.block 0 (.loop (.seq (aa [I 22 3,I 23 0,bQ 24 (.slen (.t 23)),bF 25 .lss 22 24] (aV 25 .skip (.exit 0))) (.seq (.block 1 (aa [I 28 0,I 29 3,bQ 30 (.sidx (.t 28) (.t 29)),bQ 31 (.bin .geq false (.t 30) (.c (.int .u8 97))),I 32 31,bU 32 true 33 0,bU 32 true 34 3,ar 32 true (bQ 35 (.sidx (.t 33) (.t 34))),ar 32 true (bQ 36 (.bin .leq false (.t 35) (.c (.int .u8 122)))),dv 37 32 36,I 38 37,bU 38 false 39 0,bU 38 false 40 3,ar 38 false (bQ 41 (.sidx (.t 39) (.t 40))),ar 38 false (bQ 42 (.bin .geq false (.t 41) (.c (.int .u8 48)))),bU 38 false 43 42,bU 43 true 44 0,bU 43 true 45 3,ar 43 true (bQ 46 (.sidx (.t 44) (.t 45))),ar 43 true (bQ 47 (.bin .leq false (.t 46) (.c (.int .u8 57)))),ar 38 false (dv 48 43 47),cW 49 38 48,I 50 49,bU 50 false 51 0,bU 50 false 52 3,ar 50 false (bQ 53 (.sidx (.t 51) (.t 52))),ar 50 false (bQ 54 (.bin .eql false (.t 53) (.c (.int .u8 45)))),cW 55 50 54,cB 56 55] (aV 56 (aa [bu 2 false] .ret) .skip))) (.region [I 26 3,aQ 27 .add 26 1,I 3 27])))))) (aa [bu 2 true] .ret))))
@[simp] def GV:List bY:=[.tmp 2]
def xh:C:=(aa [c3 2 0] (.seq (aa [aH 4 0 1 2,ax 5 1 4,aQ 6 .eql 5 1] (aV 6 (.region [I 7 1,aH 8 1 1 2,ax 9 1 8,gp 10 7 [.t 9]]) .skip)) (aa [aH 11 0 1 2,ax 12 1 11,aQ 13 .eql 12 4] (aV 13 (aa [aH 14 3 1 2,ax 15 1 14,gM 16 4 15 0,a8 17 4 16,I 18 1,cg 19 129 17 18] (.region [aH 20 3 1 2,ax 21 1 20,gM 22 4 21 1,a8 23 4 22,I 24 1,cg 25 129 23 24])) .skip))))
@[simp] def ym:List bY:=[]
def O7:C:=(aa [cH (.box 2 (some 101) (.t 0)),cH (.box 3 (some 102) (.t 1)),b7 4 0] (aa [ax 6 1 2,cD 7 6,bQ 8 (.mkf 212 [.t 2,.t 3]),cg 9 211 7 8,I 5 9] (.seq (.seq (.drawn true 24 [I 10 5,ax 11 1 2,cD 12 11,bF 13 .lss 10 12,I 14 13,ar 14 true (ax 15 1 2),bU 14 true 16 5,ar 14 true (cJ 17 5 15 16),ar 14 true (aH 18 0 1 17),ar 14 true (ax 19 1 18),ar 14 true (ax 20 1 3),ar 14 true (bF 21 .eql 19 20),dv 22 14 21]) (aV 22 (aa [I 23 5,I 4 23] .ret) .skip)) (aa [b7 4 (-1)] .ret))))
@[simp] def VH:List bY:=[.tmp 4]
def xi:C:=(aa [c3 2 0,da 4 dm] (.seq (aa [aH 7 0 1 2,ax 8 1 7] (.block 0 (aa [aQ 10 .eql 8 1,I 9 10] (aV 9 (.seq (aa [I 12 1,aH 13 1 1 2,ax 14 1 13,gp 15 12 [.t 14],I 11 15,cu 16 0 11,cu 17 1 11,da 5 dm,bC 4 5 16,I 6 17] (aa [I 18 6] (aV 18 (aa [a8 19 4 5,cV 20 200 19,bC 4 4 20] .ret) .skip))) (aa [a8 21 4 2,bC 4 4 21] .ret)) (aa [aQ 23 .eql 8 4,I 22 23] (aV 22 (.seq (.drawn false 38 [aH 24 3 1 2,ax 25 1 24,gM 26 4 25 0,a8 27 4 26,I 28 1,cg 29 153 27 28,aH 30 3 1 2,ax 31 1 30,gM 32 4 31 1,a8 33 4 32,I 34 1,cg 35 153 33 34,cg 36 225 29 35,bC 4 4 36]) .ret) .skip)))))) (aa [a8 37 4 2,bC 4 4 37] .ret)))
@[simp] def yn:List bY:=[.cell 4 true 4]
def EH:C:=(aa [c3 2 0,c3 3 1,b7 4 0] (.seq (aa [aH 6 0 1 2,ax 7 1 6,aH 8 0 1 3,ax 9 1 8,bF 10 .neq 7 9] (aV 10 (aa [aH 11 0 1 2,ax 12 1 11,aH 13 0 1 3,ax 14 1 13,cg 15 232 12 14,I 4 15] .ret) .skip)) (.seq (aa [aH 16 1 1 2,ax 17 1 16,aH 18 1 1 3,ax 19 1 18,bF 20 .neq 17 19] (aV 20 (aa [aH 21 1 1 2,ax 22 1 21,aH 23 1 1 3,ax 24 1 23,cg 25 232 22 24,I 4 25] .ret) .skip)) (.seq (aa [aH 26 2 1 2,ax 27 1 26,aH 28 2 1 3,ax 29 1 28,bF 30 .neq 27 29] (aV 30 (.seq (aa [aH 31 2 1 2,ax 32 1 31,aH 33 2 1 3,ax 34 1 33,bF 35 .lss 32 34] (aV 35 (aa [b7 4 (-1)] .ret) .skip)) (aa [b7 4 1] .ret)) .skip)) (.seq (aa [aH 36 0 1 2,ax 37 1 36,aQ 38 .neq 37 4] (aV 38 (aa [b7 4 0] .ret) .skip)) (.seq (.seq (.drawn true 60 [aH 39 3 1 2,ax 40 1 39,gM 41 4 40 0,a8 42 4 41,aH 43 3 1 3,ax 44 1 43,gM 45 4 44 0,a8 46 4 45,cg 47 170 42 46,I 5 47]) (aa [I 48 5,aQ 49 .neq 48 0] (aV 49 (aa [I 50 5,I 4 50] .ret) .skip))) (.seq (.drawn true 60 [aH 51 3 1 2,ax 52 1 51,gM 53 4 52 1,a8 54 4 53,aH 55 3 1 3,ax 56 1 55,gM 57 4 56 1,a8 58 4 57,cg 59 170 54 58,I 4 59]) .ret)))))))
@[simp] def G2:List bY:=[.tmp 4]
def Pn:C:=(aa [c3 2 0,cH (.box 3 (some 202) (.t 1)),da 4 dm,bu 5 false] (aa [a8 7 4 2,bQ 8 (.mkf 240 [.t 3]),cg 9 239 7 8,I 6 9] (.seq (aa [I 10 6,aQ 11 .gtr 10 5000] (aV 11 (aa [gE 12 dm [],bC 4 4 12,bu 5 false] .ret) .skip)) (aa [a8 13 4 2,ax 14 1 3,cg 15 153 13 14,bC 4 4 15,bu 5 true] .ret))))
@[simp] def L9:List bY:=[.cell 4 true 4,.tmp 5]
def Pm:C:=(aa [da 3 dm,bu 4 false] (.seq (aa [ax 6 1 1,I 7 0,cg 8 134 6 7,I 5 8] (aa [I 9 5,aQ 10 .geq 9 0] (aV 10 (aa [ax 11 1 1,I 12 5,cJ 13 5 11 12,iI 14 1 4 13,a8 15 4 14,bC 4 3 15,bu 4 true] .ret) .skip))) (aa [gE 16 dm [],bC 4 3 16,bu 4 false] .ret)))
@[simp] def L8:List bY:=[.cell 3 true 4,.tmp 4]
def Pq:C:=(aa [ey 2 1] (aa [cH (.bslm 5 (some 306) 1 3 []),I 3 5] (.seq (aa [I 6 0,cH (.range 7 none (.t 6))] (.block 0 (.loop (aa [⟨none,.next 8 (.t 7)⟩,cu 9 0 8] (.seq (aV 9 .skip (.exit 0)) (.block 1 (aa [bQ 10 (.ment (.t 7)),cu 11 0 10,I 4 11] (.region [I 12 3,I 13 4,ec 14 1 3 [.t 13],cH (.appm 15 none 1 3 (.t 12) (.t 14)),I 3 15])))))))) (aa [I 16 3,cV 17 242 16] (.seq (.pub 3 (.region [I 18 3,I 2 18])) .ret)))))
@[simp] def VT:List bY:=[.tmp 2]
def Pg:C:=(aa [c3 2 0,b7 4 0] (.seq (aa [I 7 1,aQ 8 .lss 7 1] (aV 8 (aa [b7 4 (-1)] .ret) .skip)) (.seq (aa [aH 9 0 1 2,ax 10 1 9,aQ 11 .neq 10 4] (aV 11 (.seq (aa [aH 12 3 1 2,ax 13 1 12,cD 14 13,aQ 15 .neq 14 0] (aV 15 (aa [b7 4 (-1)] .ret) .skip)) (.seq (aa [aH 16 0 1 2,ax 17 1 16] (.block 0 (aa [aQ 19 .eql 17 0,I 18 19] (aV 18 (aa [aH 20 1 1 2,ax 21 1 20,aQ 22 .neq 21 0,I 23 22,ar 23 false (aH 24 2 1 2),ar 23 false (ax 25 1 24),w2 23 false 26 (.bin .neq false (.t 25) (.c (.str []))),cW 27 23 26] (aV 27 (aa [b7 4 (-1)] .ret) .skip)) (aa [aQ 29 .eql 17 1,I 28 29] (aV 28 (aa [aH 30 1 1 2,ax 31 1 30,aQ 32 .lss 31 0,I 33 32,ar 33 false (aH 34 1 1 2),ar 33 false (ax 35 1 34),ar 33 false (aQ 36 .gtr 35 100000),cW 37 33 36,I 38 37,ar 38 false (aH 39 2 1 2),ar 38 false (ax 40 1 39),w2 38 false 41 (.bin .neq false (.t 40) (.c (.str []))),cW 42 38 41] (aV 42 (aa [b7 4 (-1)] .ret) .skip)) (aa [aQ 44 .eql 17 2,I 43 44] (aV 43 (aa [aH 45 1 1 2,ax 46 1 45,aQ 47 .neq 46 0,I 48 47,ar 48 false (aH 49 2 1 2),ar 48 false (ax 50 1 49),ar 48 false (cV 51 128 50),ar 48 false (cB 52 51),cW 53 48 52] (aV 53 (aa [b7 4 (-1)] .ret) .skip)) (aa [aQ 55 .eql 17 3,I 54 55] (aV 54 (aa [aH 56 1 1 2,ax 57 1 56,aQ 58 .lss 57 (-1000000000),I 59 58,ar 59 false (aH 60 1 1 2),ar 59 false (ax 61 1 60),ar 59 false (aQ 62 .gtr 61 1000000000),cW 63 59 62,I 64 63,ar 64 false (aH 65 2 1 2),ar 64 false (ax 66 1 65),w2 64 false 67 (.bin .neq false (.t 66) (.c (.str []))),cW 68 64 67] (aV 68 (aa [b7 4 (-1)] .ret) .skip)) (aa [b7 4 (-1)] .ret))))))))))) (aa [b7 4 1] .ret))) .skip)) (.seq (aa [aH 69 1 1 2,ax 70 1 69,aQ 71 .neq 70 0,I 72 71,ar 72 false (aH 73 2 1 2),ar 72 false (ax 74 1 73),w2 72 false 75 (.bin .neq false (.t 74) (.c (.str []))),cW 76 72 75,I 77 76,ar 77 false (aH 78 3 1 2),ar 77 false (ax 79 1 78),ar 77 false (cD 80 79),ar 77 false (aQ 81 .neq 80 2),cW 82 77 81] (aV 82 (aa [b7 4 (-1)] .ret) .skip)) (aa [aH 83 3 1 2,ax 84 1 83,gM 85 4 84 0,a8 86 4 85,I 87 1,aQ 88 .sub 87 1,cg 89 194 86 88,I 5 89] (.seq (aa [I 90 5,aQ 91 .lss 90 0] (aV 91 (aa [b7 4 (-1)] .ret) .skip)) (aa [aH 92 3 1 2,ax 93 1 92,gM 94 4 93 1,a8 95 4 94,I 96 1,aQ 97 .sub 96 1,I 98 5,bF 99 .sub 97 98,cg 100 194 95 99,I 6 100] (.seq (aa [I 101 6,aQ 102 .lss 101 0] (aV 102 (aa [b7 4 (-1)] .ret) .skip)) (aa [I 103 5,bQ 104 (.bin .add false (dI 1) (.t 103)),I 105 6,bF 106 .add 104 105,I 4 106] .ret)))))))))
@[simp] def G1:List bY:=[.tmp 4]
def Iw:C:=(aa [c3 1 0,da 2 dm] (.seq (aa [aH 3 0 1 1,ax 4 1 3,aQ 5 .neq 4 4] (aV 5 (aa [aH 6 0 1 1,ax 7 1 6,aH 8 1 1 1,ax 9 1 8,aH 10 2 1 1,ax 11 1 10,gE 12 dm [(0,1,(.t 7)),(1,1,(.t 9)),(2,1,(.t 11))],bC 4 2 12] .ret) .skip)) (.seq (.drawn true 25 [aH 13 3 1 1,ax 14 1 13,gM 15 4 14 0,a8 16 4 15,cV 17 200 16,aH 18 3 1 1,ax 19 1 18,gM 20 4 19 1,a8 21 4 20,cV 22 200 21,ec 23 4 32 [.t 17,.t 22],gE 24 dm [(0,1,(dI 4)),(3,1,(.t 23))],bC 4 2 24]) .ret)))
@[simp] def aki:List bY:=[.cell 2 true 4]
def Px:C:=(aa [b7 4 0] (aa [I 8 0,b7 5 0,I 6 8] (.seq (.block 0 (.loop (.seq (aa [I 9 5,I 10 6,bF 11 .lss 9 10] (aV 11 .skip (.exit 0))) (.block 1 (aa [I 12 5,I 13 6,bF 14 .add 12 13,bQ 15 (.conv .u64 (.t 14)),bQ 16 (.bin .shr false (.t 15) (.c (.int .u64 1))),bQ 17 (.conv .i64 (.t 16)),I 7 17] (aa [I 18 1,I 19 7,gp 20 18 [.t 19],cB 21 20] (aV 21 (.region [I 22 7,aQ 23 .add 22 1,I 5 23]) (.region [I 24 7,I 6 24])))))))) (aa [I 25 5,I 4 25] .ret))))
@[simp] def VV:List bY:=[.tmp 4]
def O8:C:=(aa [bu 4 false] (.seq (.drawn true 12 [ax 5 1 1,I 6 0,cJ 7 5 5 6,aH 8 0 1 7,ax 9 1 8,ax 10 1 2,bF 11 .geq 9 10,I 4 11]) .ret))
@[simp] def VJ:List bY:=[.tmp 4]
def Pk:C:=(aa [c3 2 0,c3 3 1,da 4 dm] (aa [a8 5 4 2,a8 6 4 3,ec 7 4 32 [.t 5,.t 6],gE 8 dm [(0,1,(dI 4)),(3,1,(.t 7))],bC 4 4 8] .ret))
@[simp] def VQ:List bY:=[.cell 4 true 4]
def Pj:C:=(aa [b7 4 0] (.seq (aa [I 5 0,I 6 1,bF 7 .lss 5 6] (aV 7 (aa [b7 4 (-1)] .ret) .skip)) (.seq (aa [I 8 0,I 9 1,bF 10 .gtr 8 9] (aV 10 (aa [b7 4 1] .ret) .skip)) (aa [b7 4 0] .ret))))
@[simp] def VP:List bY:=[.tmp 4]
def vo:C:=(aa [c3 2 0,b7 4 0] (.seq (aa [aH 6 0 1 2,ax 7 1 6] (.block 0 (aa [aQ 9 .eql 7 1,I 8 9] (aV 8 (aa [I 10 1,aH 11 1 1 2,ax 12 1 11,gp 13 10 [.t 12],bQ 14 (.min2 (.t 13) (dI 5001)),I 4 14] .ret) (aa [aQ 16 .eql 7 4,I 15 16] (aV 15 (aa [aH 17 3 1 2,ax 18 1 17,gM 19 4 18 0,a8 20 4 19,I 21 1,cg 22 239 20 21,I 5 22] (.seq (aa [I 23 5,aQ 24 .gtr 23 5000] (aV 24 (aa [I 25 5,I 4 25] .ret) .skip)) (aa [I 26 5,bQ 27 (.bin .add false (dI 1) (.t 26)),aH 28 3 1 2,ax 29 1 28,gM 30 4 29 1,a8 31 4 30,I 32 1,cg 33 239 31 32,bF 34 .add 27 33,bQ 35 (.min2 (.t 34) (dI 5001)),I 4 35] .ret))) .skip)))))) (aa [b7 4 1] .ret)))
@[simp] def uZ:List bY:=[.tmp 4]
def Po:C:=(aa [b7 3 0] (.seq (aa [ax 7 1 1,I 8 0,gp 9 7 [.t 8],I 6 9,cu 10 0 6,cu 11 1 6,da 4 dm,bC 4 4 10,I 5 11] (aa [I 12 5] (aV 12 (aa [a8 13 4 4,c1 14 194 [.t 13,(dI 5000)],I 3 14] .ret) .skip))) (aa [b7 3 1] .ret)))
@[simp] def VS:List bY:=[.tmp 3]
def bB:List (Nat×dA):=[
 (3,⟨1,8,.int .i64,.int .i64 0⟩),
 (9,⟨1,16,.str,.str []⟩),
 (23,⟨1,24,.slice 61,.slice 5 .nil []⟩),
 (30,⟨1,24,.slice 32,.slice 4 .nil []⟩),
 (32,⟨4,56,.struct [(0,3),(1,3),(2,9),(3,30)],.agg [.int .i64 0,.int .i64 0,.str [],.slice 4 .nil []]⟩),
 (61,⟨5,64,.struct [(0,3),(1,32)],.agg [.int .i64 0,.int .i64 0,.int .i64 0,.str [],.slice 4 .nil []]⟩),
 (112,⟨1,24,.slice 3,.slice 1 .nil []⟩),
 (154,⟨1,8,.map 3 4,.junk⟩),
 (163,⟨1,8,.int .u64,.int .u64 0⟩),
 (184,⟨1,8,.other,.junk⟩)]
theorem mixed:ay.follows .mixedOrders=true:=by kernel_rfl
theorem bE{bB:List (Nat×dA)}(aI:fN ay bB=true){f:FuncId}{fn:Func}(aO:ay.funcs[f]? =some fn){c:C}{fi:List bY}{n:Nat}(e0:ca bB c fi n fn=true){args:List ai}{r:ai}(he:ij args->cY ay [] c (bn fi r) ⟨kq 0 args,[],[],0,[]⟩)(au:args.length<=n:=by simp)(aK:aJ (fun _=>eN) r:=by simp[aJ]):bZ ay f args r:=bZ.mk mixed aI aO e0 au aK he
theorem fF:fN ay bB=true:=by kernel_rfl
theorem aiG:ca bB Pr akk 1 Tryz.f68=true:=by kernel_rfl
theorem abO:ay.funcs[(68:Nat)]? =some Tryz.f68:=Tryz.func68
theorem Dh:ca bB y3 akC 1 Tryz.f74=true:=by kernel_rfl
theorem BJ:ay.funcs[(74:Nat)]? =some Tryz.f74:=Tryz.func74
theorem U5:ca bB IJ We 1 Tryz.f91=true:=by kernel_rfl
theorem Ri:ay.funcs[(91:Nat)]? =some Tryz.f91:=Tryz.func91
theorem aiA:ca bB Pl VR 2 Tryz.f95=true:=by kernel_rfl
theorem abI:ay.funcs[(95:Nat)]? =some Tryz.f95:=Tryz.func95
theorem ah7:ca bB OS GW 1 Tryz.f100=true:=by kernel_rfl
theorem abf:ay.funcs[(100:Nat)]? =some Tryz.f100:=Tryz.func100
theorem ail:ca bB O5 VF 2 Tryz.f108=true:=by kernel_rfl
theorem abt:ay.funcs[(108:Nat)]? =some Tryz.f108:=Tryz.func108
theorem ajp:ca bB Qb Wa 2 Tryz.f114=true:=by kernel_rfl
theorem acz:ay.funcs[(114:Nat)]? =some Tryz.f114:=Tryz.func114
theorem ah6:ca bB OR Vv 1 Tryz.f117=true:=by kernel_rfl
theorem abe:ay.funcs[(117:Nat)]? =some Tryz.f117:=Tryz.func117
theorem ahV:ca bB OG GV 1 Tryz.f128=true:=by kernel_rfl
theorem aa3:ay.funcs[(128:Nat)]? =some Tryz.f128:=Tryz.func128
theorem Ao:ca bB xh ym 2 Tryz.f129=true:=by kernel_rfl
theorem zd:ay.funcs[(129:Nat)]? =some Tryz.f129:=Tryz.func129
theorem ain:ca bB O7 VH 2 Tryz.f134=true:=by kernel_rfl
theorem abv:ay.funcs[(134:Nat)]? =some Tryz.f134:=Tryz.func134
theorem Ap:ca bB xi yn 2 Tryz.f153=true:=by kernel_rfl
theorem ze:ay.funcs[(153:Nat)]? =some Tryz.f153:=Tryz.func153
theorem LJ:ca bB EH G2 2 Tryz.f170=true:=by kernel_rfl
theorem Jd:ay.funcs[(170:Nat)]? =some Tryz.f170:=Tryz.func170
theorem aiC:ca bB Pn L9 2 Tryz.f181=true:=by kernel_rfl
theorem abK:ay.funcs[(181:Nat)]? =some Tryz.f181:=Tryz.func181
theorem aiB:ca bB Pm L8 2 Tryz.f182=true:=by kernel_rfl
theorem abJ:ay.funcs[(182:Nat)]? =some Tryz.f182:=Tryz.func182
theorem aiF:ca bB Pq VT 1 Tryz.f189=true:=by kernel_rfl
theorem abN:ay.funcs[(189:Nat)]? =some Tryz.f189:=Tryz.func189
theorem aiw:ca bB Pg G1 2 Tryz.f194=true:=by kernel_rfl
theorem abE:ay.funcs[(194:Nat)]? =some Tryz.f194:=Tryz.func194
theorem UY:ca bB Iw aki 1 Tryz.f200=true:=by kernel_rfl
theorem Ra:ay.funcs[(200:Nat)]? =some Tryz.f200:=Tryz.func200
theorem aiM:ca bB Px VV 2 Tryz.f211=true:=by kernel_rfl
theorem abT:ay.funcs[(211:Nat)]? =some Tryz.f211:=Tryz.func211
theorem aio:ca bB O8 VJ 3 Tryz.f212=true:=by kernel_rfl
theorem abw:ay.funcs[(212:Nat)]? =some Tryz.f212:=Tryz.func212
theorem aiz:ca bB Pk VQ 2 Tryz.f225=true:=by kernel_rfl
theorem abH:ay.funcs[(225:Nat)]? =some Tryz.f225:=Tryz.func225
theorem aiy:ca bB Pj VP 2 Tryz.f232=true:=by kernel_rfl
theorem abG:ay.funcs[(232:Nat)]? =some Tryz.f232:=Tryz.func232
theorem yf:ca bB vo uZ 2 Tryz.f239=true:=by kernel_rfl
theorem xo:ay.funcs[(239:Nat)]? =some Tryz.f239:=Tryz.func239
theorem aiD:ca bB Po VS 2 Tryz.f240=true:=by kernel_rfl
theorem abL:ay.funcs[(240:Nat)]? =some Tryz.f240:=Tryz.func240
end
end Go.Proofs.YtohaalphocaebaaGreat
namespace Go.Pv
section
open Go Go.RowKit
theorem fb{α:Type}{l:List α}{i:Nat}(h:i<l.length):∃b,l[i]? =some b/\∀h,(l[i]'h)=b:=⟨l[i],cr h,fun _=>rfl⟩
def MJ(st:bo)(i:ei):Prop:=match me st i with|some (c,_)=>c|none=>eN
def MK(st:bo)(i:ei):bo:=match me st i with|some (_,s)=>s|none=>st
def Ek(P:cG)(r:List c5)(K:bo->Prop)(st:bo):Prop:=h0 P r st K
def yU(P:cG)(ob:List aL)(c:C)(Q:Exit->bo->Prop)(st:bo):Prop:=cY P ob c Q st
def pW(P:cG)(v:ai)(s:Nat)(w:Bool)(i:ed)(r:List c5)(st:bo)(K:bo->Prop):Prop:=
 match v with
 | .bool b=>(b=w->h0 P (⟨none,i⟩::r) {st with t:=put s (.bool w) st.t} K)/\(b= !w->h0 P r {st with t:=eM i.dst (.tuple []) (put s (.bool !w) st.t)} K)
 | .tuple []=>h0 P r {st with t:=eM i.dst (.tuple []) st.t} K
 |_=>eN
def uf(P:cG)(ob:List aL)(v:ai)(x:dp)(t e:C)(Q:Exit->bo->Prop)(st:bo):Prop:=
 match v with
 | .bool b=>(b=true->cY P ob t Q (sg st x true))/\(b=false->cY P ob e Q (sg st x false))
 |_=>eN
def I7(P:cG)(v:ai)(d:Option Nat)(xs:List ai)(r:List c5)(st:bo)(K:bo->Prop):Prop:=
 match v with
 | .func n dk=>cA P n (dr (xs++dk)) st d (Ek P r K)
 |_=>eN
section
variable {P:cG} {ob:List aL} {st:bo} {K:bo->Prop} {r:List c5} {Q:Exit->bo->Prop} {a b c t e:C}
theorem aaL:h0 P [] st K=K st:=rfl
theorem aaM{i:ei}:h0 P (⟨none,.s i⟩::r) st K=(MJ st i/\h0 P r (MK st i) K):=by
 simp only[h0,ue,MJ,MK];cases me st i with
 |none=>simp
 |some x=>rfl
theorem aaI{d:Option Nat}{f:dp}{xs:List dp}:h0 P (⟨none,.call d f xs⟩::r) st K=I7 P (cm st.t f) d (xs.map (cm st.t)) r st K:=by simp only[h0,ue,I7];rfl
theorem aaK{d:Nat}{x:dp}:h0 P (⟨none,.next d x⟩::r) st K=sS st d (cm st.t x) (Ek P r K):=by simp only[h0,ue];rfl
def w8(P:cG)(ob:List aL)(c:C)(Q:Exit->bo->Prop):Option bo->Prop
 |some st=>cY P ob c Q st
 |none=>eN
theorem Yh:w8 P ob c Q (some st)=cY P ob c Q st:=rfl
theorem aan{s:Nat}:cY P ob (.pub s c) Q st=w8 P ob c Q (wF st s):=by simp only[cY];cases wF st s<;>rfl
theorem aaj{pA:Bool}{s:Nat}:cY P ob (.fg pA s c) Q st=cY P ob c Q {st with t:=put s (zh pA (get s st.t)) st.t}:=rfl
theorem aak{pA:Bool}{s:Nat}{d:C}:cY P ob (.seq (.fg pA s c) d) Q st=cY P ob (.seq c d) Q {st with t:=put s (zh pA (get s st.t)) st.t}:=rfl
theorem aal{fV:Bool}{s:Nat}:cY P ob (.fz fV s c) Q st=w8 P ob c Q (vw st fV s):=by simp only[cY];cases vw st fV s<;>rfl
theorem aam{fV:Bool}{s:Nat}{d:C}:cY P ob (.seq (.fz fV s c) d) Q st=w8 P ob (.seq c d) Q (vw st fV s):=by simp only[cY];cases vw st fV s<;>rfl
theorem aao{s:Nat}:cY P ob (.pubB s c) Q st=w8 P ob c Q (wE st s):=by simp only[cY];cases wE st s<;>rfl
theorem aaH{n:Nat}{dk:List ai}{d:Option Nat}{xs:List ai}:I7 P (.func n dk) d xs r st K=cA P n (dr (xs++dk)) st d (Ek P r K):=rfl
theorem aaJ{s:Nat}{w:Bool}{i:ed}:h0 P (⟨some (s,w),i⟩::r) st K=pW P (get s st.t) s w i r st K:=by simp only[h0,pW];try rfl
theorem aaR{s:Nat}{i:ed}:pW P (.bool true) s true i r st K=h0 P (⟨none,i⟩::r) {st with t:=put s (.bool true) st.t} K:=by simp[pW]
theorem aaN{s:Nat}{i:ed}:pW P (.bool false) s false i r st K=h0 P (⟨none,i⟩::r) {st with t:=put s (.bool false) st.t} K:=by simp[pW]
theorem aaQ{s:Nat}{i:ed}:pW P (.bool true) s false i r st K=h0 P r {st with t:=eM i.dst (.tuple []) (put s (.bool true) st.t)} K:=by simp[pW]
theorem aaO{s:Nat}{i:ed}:pW P (.bool false) s true i r st K=h0 P r {st with t:=eM i.dst (.tuple []) (put s (.bool false) st.t)} K:=by simp[pW]
theorem aaP{s:Nat}{w:Bool}{i:ed}:pW P (.tuple []) s w i r st K=h0 P r {st with t:=eM i.dst (.tuple []) st.t} K:=by simp[pW]
theorem bH{x:Bool}{s:Nat}{w:Bool}{i:ed}(J:x=w->h0 P (⟨none,i⟩::r) {st with t:=put s (.bool w) st.t} K)(U:x= !w->h0 P r {st with t:=eM i.dst (.tuple []) (put s (.bool !w) st.t)} K):pW P (.bool x) s w i r st K:=⟨J,U⟩
theorem Z8:cY P ob (.seq (.seq a b) c) Q st=cY P ob (.seq a (.seq b c)) Q st:=by simp only[cY];congr 1;funext e st';cases e<;>rfl
theorem aat:cY P ob (.seq .skip c) Q st=cY P ob c Q st:=rfl
theorem aar:cY P ob (.seq .ret c) Q st=Q .ret st:=rfl
theorem aah{n:Nat}:cY P ob (.seq (.exit n) c) Q st=Q (.exit n) st:=rfl
theorem aau:cY P ob .skip Q st=Q .normal st:=rfl
theorem aas:cY P ob .ret Q st=Q .ret st:=rfl
theorem aai{n:Nat}:cY P ob (.exit n) Q st=Q (.exit n) st:=rfl
theorem aap{gs:List c5}:cY P ob (.seq (.region gs) c) Q st=h0 P gs st (yU P ob c Q):=rfl
theorem aaq{gs:List c5}:cY P ob (.region gs) Q st=h0 P gs st (Q .normal):=rfl
theorem aab{x:dp}:cY P ob (.seq (.cond x t e) c) Q st=uf P ob (cm st.t x) x (.seq t c) (.seq e c) Q st:=by simp only[cY,uf];try rfl
theorem aac{x:dp}:cY P ob (.cond x t e) Q st=uf P ob (cm st.t x) x t e Q st:=by simp only[cY,uf];try rfl
theorem aaw{x:dp}:uf P ob (.bool true) x t e Q st=cY P ob t Q (sg st x true):=by simp[uf]
theorem aav{x:dp}:uf P ob (.bool false) x t e Q st=cY P ob e Q (sg st x false):=by simp[uf]
theorem bD{v:Bool}{x:dp}(J:v=true->cY P ob t Q (sg st x true))(U:v=false->cY P ob e Q (sg st x false)):uf P ob (.bool v) x t e Q st:=⟨J,U⟩
def yP(P:cG)(ob:List aL)(id:Nat)(c:C)(Q:Exit->bo->Prop)(e:Exit)(st:bo):Prop:=
 match e with
 | .normal=>cY P ob c Q st
 | .exit j=>if j=id then cY P ob c Q st else Q (.exit j) st
 |e=>Q e st
theorem Z9{id:Nat}:cY P ob (.seq (.block id a) c) Q st=cY P ob a (yP P ob id c Q) st:=by
 simp only[cY];congr 1;funext e st';cases e with
 |exit j=>rfl
 |_=>rfl
theorem aaa{id:Nat}:cY P ob (.block id a) Q st=cY P ob a (yP P ob id .skip Q) st:=by
 simp only[cY];congr 1;funext e st';cases e with
 |exit j=>simp only[yP];by_cases ag:j=id<;>simp[ag,cY]
 |_=>rfl
theorem X5{id:Nat}:yP P ob id c Q .normal st=yU P ob c Q st:=rfl
theorem X4{id j:Nat}:yP P ob id c Q (.exit j) st=if j=id then yU P ob c Q st else Q (.exit j) st:=rfl
theorem X6{id:Nat}:yP P ob id c Q .ret st=Q .ret st:=rfl
def bR(ob:List aL)(ha:Nat->bo->Prop)(k:Nat)(Q:Exit->bo->Prop)(e:Exit)(st:bo):Prop:=
 match e with
 | .normal=> ∃bN oQ,bN<k/\iP ob st oQ/\ha bN oQ
 |e=>Q e st
theorem Eh{ha:Nat->bo->Prop}{k:Nat}:bR ob ha k Q .normal st= ∃bN oQ,bN<k/\iP ob st oQ/\ha bN oQ:=rfl
theorem Yc{ha:Nat->bo->Prop}{k n:Nat}:bR ob ha k Q (.exit n) st=Q (.exit n) st:=rfl
theorem Yd{ha:Nat->bo->Prop}{k:Nat}:bR ob ha k Q .ret st=Q .ret st:=rfl
theorem mZ(ha:Nat->bo->Prop)(m:Nat)(wR:bo)(hw:iP ob st wR)(bA:ha m wR)(h:∀k s,ha k s->(∀i,ho (get i s.t))->(∀j cs,look j s.b=some cs->hS cs=true->hN cs)->cY P ob a (bR ob ha k Q) s):cY P ob (.loop a) Q st:=by
 simp only[cY];refine⟨ha,m,wR,hw,bA,fun k s J U al=>?_⟩;have:=h k s J U al;have bI:(bR ob ha k Q)=(fun e ah=>match e with| .normal=> ∃bN oQ,bN<k/\iP ob ah oQ/\ha bN oQ|e=>Q e ah):=by funext e ah;cases e<;>rfl
 rw[bI]at this;exact this
end
/-Regions cO draw kZ order. -/
def MH(n0:Nat)(st:bo)(i:ei):Prop:=match eA (pa n0 i) st.n (pa n0 i::st.o) st i with|some (c,_)=>c|none=>eN
def MI(n0:Nat)(st:bo)(i:ei):bo:=match eA (pa n0 i) st.n (pa n0 i::st.o) st i with|some (_,s)=>s|none=>st
def HX(P:cG)(q:Bool)(nw:List Nat)(n0:Nat)(r:List c5)(K:bo->Prop)(st:bo):Prop:=hP P q nw n0 r st K
def pV(P:cG)(q:Bool)(nw:List Nat)(n0:Nat)(v:ai)(s:Nat)(w:Bool)(i:ed)(r:List c5)(st:bo)(K:bo->Prop):Prop:=
 match v with
 | .bool b=>(b=w->hP P q nw n0 (⟨none,i⟩::r) {st with t:=put s (.bool w) st.t} K)/\(b= !w->hP P q nw n0 r {st with t:=eM i.dst (.tuple []) (put s (.bool !w) st.t)} K)
 | .tuple []=>hP P q nw n0 r {st with t:=eM i.dst (.tuple []) st.t} K
 |_=>eN
def I6(P:cG)(q:Bool)(nw:List Nat)(n0:Nat)(v:ai)(d:Option Nat)(xs:List ai)(r:List c5)(st:bo)(K:bo->Prop):Prop:=
 match v with
 | .func n dk=>hW P q nw n (dr (xs++dk)) st d (HX P q nw n0 r K)
 |_=>eN
section
variable {P:cG} {ob:List aL} {st:bo} {K:bo->Prop} {r:List c5} {Q:Exit->bo->Prop} {c:C} {q:Bool} {nw:List Nat} {n0 N:Nat}
theorem aaA:hP P q nw n0 [] st K=K st:=rfl
theorem aaB{i:ei}:hP P q nw n0 (⟨none,.s i⟩::r) st K=(lX q nw n0 st i/\MH n0 st i/\hP P q nw n0 r (MI n0 st i) K):=by
 simp only[hP,ku,MH,MI];cases eA (pa n0 i) st.n (pa n0 i::st.o) st i with
 |none=>simp
 |some x=>rfl
theorem aay{d:Option Nat}{f:dp}{xs:List dp}:hP P q nw n0 (⟨none,.call d f xs⟩::r) st K=I6 P q nw n0 (cm st.t f) d (xs.map (cm st.t)) r st K:=by simp only[hP,ku,I6];rfl
theorem aax{n:Nat}{dk:List ai}{d:Option Nat}{xs:List ai}:I6 P q nw n0 (.func n dk) d xs r st K=hW P q nw n (dr (xs++dk)) st d (HX P q nw n0 r K):=rfl
theorem aaz{s:Nat}{w:Bool}{i:ed}:hP P q nw n0 (⟨some (s,w),i⟩::r) st K=pV P q nw n0 (get s st.t) s w i r st K:=by simp only[hP,pV];try rfl
theorem aaG{s:Nat}{i:ed}:pV P q nw n0 (.bool true) s true i r st K=hP P q nw n0 (⟨none,i⟩::r) {st with t:=put s (.bool true) st.t} K:=by simp[pV]
theorem aaC{s:Nat}{i:ed}:pV P q nw n0 (.bool false) s false i r st K=hP P q nw n0 (⟨none,i⟩::r) {st with t:=put s (.bool false) st.t} K:=by simp[pV]
theorem aaF{s:Nat}{i:ed}:pV P q nw n0 (.bool true) s false i r st K=hP P q nw n0 r {st with t:=eM i.dst (.tuple []) (put s (.bool true) st.t)} K:=by simp[pV]
theorem aaD{s:Nat}{i:ed}:pV P q nw n0 (.bool false) s true i r st K=hP P q nw n0 r {st with t:=eM i.dst (.tuple []) (put s (.bool false) st.t)} K:=by simp[pV]
theorem aaE{s:Nat}{w:Bool}{i:ed}:pV P q nw n0 (.tuple []) s w i r st K=hP P q nw n0 r {st with t:=eM i.dst (.tuple []) st.t} K:=by simp[pV]
theorem bG{x:Bool}{s:Nat}{w:Bool}{i:ed}(J:x=w->hP P q nw n0 (⟨none,i⟩::r) {st with t:=put s (.bool w) st.t} K)(U:x= !w->hP P q nw n0 r {st with t:=eM i.dst (.tuple []) (put s (.bool !w) st.t)} K):pV P q nw n0 (.bool x) s w i r st K:=⟨J,U⟩
theorem aad{gs:List c5}:cY P ob (.seq (.drawn q N gs) c) Q st=hP P q [] st.n gs st (tP (st.n+N) st.o (yU P ob c Q)):=rfl
theorem aae{gs:List c5}:cY P ob (.drawn q N gs) Q st=hP P q [] st.n gs st (tP (st.n+N) st.o (Q .normal)):=rfl
theorem aaf{gs:List c5}:cY P ob (.seq (.drawnW nw N gs) c) Q st=((∀j∈nw,.obj j∉st.o)/\hP P false nw st.n gs st (tP (st.n+N) (nw.map aL.obj++st.o) (yU P ob c Q))):=rfl
theorem aag{gs:List c5}:cY P ob (.drawnW nw N gs) Q st=((∀j∈nw,.obj j∉st.o)/\hP P false nw st.n gs st (tP (st.n+N) (nw.map aL.obj++st.o) (Q .normal))):=rfl
theorem hW.val{n:Nat}{args:List ai}{d:Option Nat}{r:ai}(ad:aP (fun _=>eN) args)(aO:bZ P n args r)(h:K {st with t:=eM d r st.t}):hW P q nw n args st d K:=by
 refine .inr ⟨⟨[],[]⟩,⟨[],[]⟩,r,none,fun k cs ad=>by simp[look]at ad,fun k cs ad=>by simp[look]at ad,ya,ya,⟨fun k h=>.inl h,fun k h=>.inl h,fun k h=>h,fun k h=>h,fun k h=>by cases h⟩,j2 (fun _ h=>h.elim) _ ad,aO,fun _=>⟨rfl,rfl⟩,?_⟩;have:({after st ⟨[],[]⟩ ⟨[],[]⟩ d r with o:=st.o}:bo)={st with t:=eM d r st.t}:=by simp[after,ND]
 rw[this];exact h
theorem aD{n:Nat}{args:List ai}{d:Option Nat}{r:ai}(aO:bZ P n args r)(h:K {st with t:=eM d r st.t})(ad:aP (fun _=>eN) args:=by simp):hW P q nw n args st d K:=hW.val ad aO h
end
section
variable {k:IntKind} {n:Int} {b:Bool} {s:List c4} {sz:Nat} {tag:Bm} {xs:List ai} {key:aL} {off f:Nat} {x:ai}
@[simp]theorem aq9:eH (.int k n)=true:=rfl
@[simp]theorem aqX:eH (.bool b)=true:=rfl
@[simp]theorem ari:eH (.str s)=true:=rfl
@[simp]theorem arh:eH (.slice sz tag xs)=true:=rfl
@[simp]theorem aqU:eH (.agg xs)=true:=rfl
@[simp]theorem ard:eH (.ptr key off)=true:=rfl
@[simp]theorem aq5:eH (.eptr x)=true:=rfl
@[simp]theorem aq8{t:Nat}:eH (.iface t x)=true:=rfl
@[simp]theorem aob{t:Nat}:cells (.iface t x)=[.iface t x]:=rfl
@[simp]theorem aqZ{a:Option Addr}{n c:Nat}:eH (.cst (.slice a n c))=true:=rfl
@[simp]theorem aq0{s}:eH (.cst (.string s))=true:=rfl
@[simp]theorem arc:eH .nilp=true:=rfl
@[simp]theorem aq6:eH (.func f xs)=true:=rfl
@[simp]theorem aq7:eH (.gmap key)=true:=rfl
@[simp]theorem arf{n:Nat}:eH (.row sz key n)=true:=rfl
@[simp]theorem aoi{n:Nat}:cells (.row sz key n)=[.row sz key n]:=rfl
@[simp]theorem aoc:cells (.int k n)=[.int k n]:=rfl
@[simp]theorem an2:cells (.bool b)=[.bool b]:=rfl
@[simp]theorem aok:cells (.str s)=[.str s]:=rfl
@[simp]theorem aoj:cells (.slice sz tag xs)=[.slice sz tag xs]:=rfl
@[simp]theorem anZ:cells (.agg xs)=xs:=rfl
@[simp]theorem aoh:cells (.ptr key off)=[.ptr key off]:=rfl
@[simp]theorem an8:cells (.eptr x)=[.eptr x]:=rfl
@[simp]theorem aog:cells .nilp=[.nilp]:=rfl
@[simp]theorem an9:cells (.func f xs)=[.func f xs]:=rfl
@[simp]theorem aoa:cells (.gmap key)=[.gmap key]:=rfl
end
section
variable {b:List (aL×List ai)} {e:List (aL×fQ)} {agg:Bool} {sz off:Nat} {k:aL} {p:ai} {cs xs ba:List ai} {fl:IntKind} {n i:Int} {m j:Nat} {tag:Bm} {s:List c4} {Om:Bool} {lo hi:Option ai}
@[simp]theorem ap4{dH:Nat}{f:Nat}:mN b e agg sz (.rptr dH k m j f)=yx agg sz dH m j f (look k e):=rfl
@[simp]theorem ap3:mN b e agg sz (.ptr k off)=(match look k b with
  |some cs=>if agg then some (hS cs=true/\off+sz<=cs.length,.agg ((cs.drop off).take sz))else(cs[off]?).map fun p=>(hS cs=true,p)
  |none=>none):=rfl
@[simp]theorem ap2:mN b e agg sz (.eptr p)=if agg then some (isAgg sz p,p)else some (eH p=true/\cells p=[p],p):=rfl
@[simp]theorem aoI:BR agg sz (.eptr p)=if agg then some (isAgg sz p,p)else some (eH p=true/\cells p=[p],p):=rfl
@[simp]theorem aoA{o:Nat}:qJ off agg sz (.ptr k o)=some (True,.ptr k (o+off)):=rfl
@[simp]theorem aoB{dH f:Nat}:qJ off agg sz (.rptr dH k m j f)=some (True,.rptr dH k m j (f+off)):=rfl
@[simp]theorem aou:qJ off agg sz (.eptr (.agg cs))=if agg then some (off+sz<=cs.length,.eptr (.agg ((cs.drop off).take sz)))else(cs[off]?).map fun p=>(eH p=true/\cells p=[p],.eptr p):=rfl
@[simp]theorem aoD:ui off agg sz (.agg cs)=if agg then some (off+sz<=cs.length,.agg ((cs.drop off).take sz))else(cs[off]?).map fun p=>(True,p):=rfl
@[simp]theorem apj{dH:Nat}:zQ sz (.slice dH tag xs) (.int fl i)=if dH=sz then some (0<=i/\i<xs.length,.eptr (xs.getD i.toNat .junk))else none:=rfl
@[simp]theorem api{dH:Nat}:zQ sz (.row dH k m) (.int fl i)=if dH=sz then some (0<=i/\i<m,.rptr dH k m i.toNat 0)else none:=rfl
@[simp]theorem ap1{dH:Nat}:z1 (.slice dH tag xs)=some (True,.int .i64 xs.length):=rfl
@[simp]theorem ap0{dH:Nat}:z1 (.row dH k m)=some (True,.int .i64 m):=rfl
@[simp]theorem apZ{a:Option Addr}{n c:Nat}:z1 (.cst (.slice a n c))=some (True,.int .i64 n):=rfl
@[simp]theorem aqS{s}:DS (.cst (.string s))=some (True,.int .i64 s.size):=rfl
@[simp]theorem aqT:DS (.str s)=some (True,.int .i64 s.length):=rfl
@[simp]theorem aot:zc j (.tuple ba)=(ba[j]?).map fun p=>(True,p):=rfl
@[simp]theorem aqu:Ai (.ptr k off)=some (True,.ptr k off):=rfl
@[simp]theorem aqs:Ai (.eptr p)=some (True,.eptr p):=rfl
@[simp]theorem aqt:Ai (.func j cs)=some (True,.func j cs):=rfl
@[simp]theorem aqw:GC (.bool Om)=some (True,.bool (!Om)):=rfl
@[simp]theorem aqR:Hv (.str s) (.int fl i)=some (0<=i/\i<s.length,.int .u8 (s.getD i.toNat 0).toNat):=rfl
@[simp]theorem arj:HA (.str s) lo hi=(match q0 0 lo,q0 s.length hi with
  |some l,some h=>some (0<=l/\l<=h/\h<=s.length,.str ((s.take h.toNat).drop l.toNat))
  |_,_=>none):=rfl
@[simp]theorem ap5{dH:Nat}:Gq sz (.slice dH tag xs) lo hi=(if dH=sz then match q0 0 lo,q0 xs.length hi with
  |some l,some h=>some (0<=l/\l<=h/\h<=xs.length,.slice sz .no ((xs.take h.toNat).drop l.toNat))
  |_,_=>none else none):=rfl
theorem Ux{f:aL->Option (List ai)}{cc:hL}{z q:ai}{ok:Bool}:nY f cc z ok (.gmap k) q=(match f k with
  |some (.hdm _ _::kvs)=>if wb cc q=false then none else match wm cc q kvs with
   |some (some v)=>some (True,if ok then .tuple [v,.bool true]else v)
   |some none=>some (True,if ok then .tuple [z,.bool false]else z)
   |none=>none
  |_=>none):=rfl
theorem Uu{f:aL->Option (List ai)}:pB f (.ptr k 0)=(match f k with
  |some [.hdi _ seen last,.gmap mk]=>match f mk with
   |some (.hdm clock borns::kvs)=>match seen.getLast? with
    |some n=>(mO n borns kvs).map fun p=>(clock=last,p)
    |none=>none
   |_=>none
  |_=>none):=rfl
@[simp]theorem aqQ{dH f n' el jo:Nat}:yx agg sz dH m j f (some ⟨n',el,jo,some xs⟩)=(if n'=m/\jo=dH then
   (match xs[j]? with
    |some p=>if agg then some (eH p=true/\f+sz<=(cells p).length,.agg (((cells p).drop f).take sz))else((cells p)[f]?).map fun q=>(eH p=true,q)
    |none=>none)else none):=rfl
end
attribute [simp] Z8 aap Z9 aab aat aar aah aau aas aai aaq aaa aac yU X5 X4 X6 Yc Yd aaL aaM aaI aaH aaJ
 aaR aaN aaQ aaO aaP aaw aav MJ MK me hj kq cm get put jO qc nu nv cy q0 be bh HB n3 ub GN Gz EW Gy
 look eM ei.dst ed.dst sg Ek sI dr ev aJ aP
 aad aae aaf aag aaA aaB aay aax aaz aaG aaC aaF aaD aaE MH MI eA pa lX xr fU.loadO tP HX xT hS sJ aaK aan aao aaj aak aal aam vw Ju sO zh Yh wF Du wE q9 pK mv Gu
theorem aC{P:cG}{n:Nat}{args:List ai}{st:bo}{d:Option Nat}{K:bo->Prop}{r:ai}(aO:bZ P n args r)(h:K {st with t:=eM d r st.t})(ad:aP (fun _=>eN) args:=by simp):cA P n args st d K:=cA.val ad aO h
theorem aj{a b:Prop}(ab:b)(a7:a:=by first|omega|(unfold p5;omega)|(unfold lim;omega)):a/\b:=⟨a7,ab⟩
theorem b2{p:Prop}(h:eN:=by first|contradiction|omega):p:=h.elim
theorem c0{p:Prop}(h:p:=by(try simp[*]);(repeat' first|with_reducible refine aj ?_|with_reducible refine aC (by assumption) ?_|with_reducible refine aD (by assumption) ?_|simp[*]);(all_goals first|done|(simp[bn,aT,aU,aS, *];done))):p:=h
end
section
open Go Go.RowKit
structure dN (s:cM):Prop where
 obj:iX s
 kb:∀k cs,look k s.b=some cs->aP (inObs s) cs
 ke:∀k o,look k s.e=some o->et (inObs s) o
structure Same (s ah:cM):Prop where
 b:∀k,(look k s.b).isSome=(look k ah.b).isSome
 e:∀k,(look k s.e).isSome=(look k ah.e).isSome
theorem Same.refl(s:cM):Same s s:=⟨fun _=>rfl,fun _=>rfl⟩
theorem Same.inObs{s ah:cM}(h:Same s ah)(k:aL):inObs s k↔inObs ah k:=by unfold Pv.inObs;rw[h.b,h.e]
theorem uO{α:Type}{k:aL}{x:α}:∀{l:List (aL×α)},(k,x)∈l->(look k l).isSome
 |(i,y)::r,h=>by
  simp only[look];split
  ·rfl
  ·rename_i cF;rcases fI.1 h with h|h
   ·cases h;exact absurd rfl cF
   ·exact uO h
theorem Tm{s:cM}{k:aL}(h:k∈cX s):inObs s k:=by
 unfold cX at h;rcases h9.1 h with h|h
 ·obtain⟨⟨bN,x⟩,J,rfl⟩:=ia.1 h;exact .inl (uO J)
 ·obtain⟨⟨bN,x⟩,J,rfl⟩:=ia.1 h;exact .inr (uO J)
theorem j5{s:cM}(h:iX s)(m:Nat):aL.loc m∉cX s:=fun hm=>by
 rcases Tm hm with J|J
 ·rw[h.1 m]at J;cases J
 ·rw[h.2 m]at J;cases J
theorem iJ{α β:Type}(s:List (aL×β)):∀(a b:List (aL×α)),bX s (a++b)=bX s a++bX s b
 |[],b=>rfl
 |(k,x)::r,b=>by
  simp only[bV,bX];cases look k s with
  |none=>simp[iJ s r b]
  |some _=>exact iJ s r b
theorem NF{α β:Type}(s:List (aL×β)):∀(l:List (aL×α)),(∀k x,(k,x)∈l->(look k s).isSome)->bX s l=[]
 |[],_=>rfl
 |(k,x)::r,h=>by
  have J:=h k x Ψ;simp only[bX];cases au:look k s with
  |none=>rw[au]at J;cases J
  |some _=>exact NF s r fun k x ae=>h k x (by simp[ae])
theorem gX{α:Type}(s:List (aL×α)):bX s s=[]:=NF s s fun k x h=>uO h
theorem kc{α:Type}{k:aL}{x:α}:∀{l:List (aL×α)},look k l=none->cy k x l=l++[(k,x)]
 |[],_=>rfl
 |(i,y)::r,h=>by
  simp only[look]at h;split at h
  ·cases h
  ·rename_i cF;simp[cy,cF,kc h]
theorem cN{α:Type}(k:aL):∀(a b:List (aL×α)),look k (a++b)=match look k a with|some x=>some x|none=>look k b
 |[],b=>rfl
 |(i,y)::r,b=>by
  simp only[bV,look];split
  ·rfl
  ·exact cN k r b
theorem cA.ob{P:cG}{n:Nat}{args:List ai}{st:bo}{d:Option Nat}{K:bo->Prop}{s:cM}{Q:ai->cM->Prop}(aO:bJ P n args s Q)(af:dN s)(ab:∀k cs,look k s.b=some cs->look k st.b=some cs)(he:∀k o,look k s.e=some o->look k st.e=some o)
  (ad:aP (inObs s) args) (h:∀r ah,Q r ah->Same s ah/\K ⟨eM d r st.t,bX s.b st.b++ah.b,bX s.e st.e++ah.e,st.n,st.o++cX ah⟩):cA P n args st d K:=by
 refine .inl ⟨s,Q,fun k cs aq=>⟨ab k cs aq,.inl (by simp[aq]),af.kb k cs aq⟩,fun k o aw=>⟨he k o aw,.inr (by simp[aw]),af.ke k o aw⟩,af.obj,ad,aO,fun r ah bI=>?_⟩;obtain⟨J,U⟩:=h r ah bI;exact⟨⟨fun m hm=>.inl (by rw[J.b];exact hm),fun m hm=>.inl (by rw[J.e];exact hm)⟩,U⟩
theorem cI.ob{fi:List bY}{s ah:cM}{Q:ai->cM->Prop}{e:Exit}{st:bo}{c:Prop}{cz:List ai}(ur:e= .ret\/e= .normal)(xM:aT st fi=some (c,cz))(aq:c)(af:dN ah)(e8:Same s ah)(ab:∀k cs,look k ah.b=some cs->look k st.b=some cs)(c6:∀k o,look k ah.e=some o->look k st.e=some o)
  (ad:aJ (inObs ah) (ev (aS cz))) (bI:Q (ev (aS cz)) ah):cI fi s Q e st:=by
 refine⟨ur,?_⟩;rw[xM];have Sz:∀{α:Type} (l:List (aL×α)),(∀k x,(k,x)∈l->inObs ah k)->j0 ah l:=by
  intro α l;induction l with
  |nil=>intro _;trivial
  |cons x r bO=>obtain⟨k,x⟩:=x;intro h;exact⟨h k x Ψ,bO fun k x ae=>h k x (by simp[ae])⟩
 exact⟨aq,ah,Sz _ fun k x ae=>.inl (by rw[<-e8.b];exact uO ae),Sz _ fun k x ae=>.inr (by rw[<-e8.e];exact uO ae),fun k cs dg=>⟨ab k cs dg,.inl (by simp[dg]),af.kb k cs dg⟩,fun k o aw=>⟨c6 k o aw,.inr (by simp[aw]),af.ke k o aw⟩,af.obj,ad,bI⟩
theorem bJ.mono{P:cG}{f:FuncId}{args:List ai}{s:cM}{Q qv:ai->cM->Prop}(h:bJ P f args s Q)(bI:∀r ah,Q r ah->qv r ah):bJ P f args s qv:=by
 intro w Z ba J U al;have hm:∀(e:Ending) (w':World),(∃v r ah bq,e= .returned v/\Q r ah/\bd w' bq r v/\Good (fun bl=>fx Z s bl\/w.heap.size<=bl) w' bq ah.b ah.e/\pe bq ah/\iX ah/\qt ⟨w,Z,fx Z s,0,cX s⟩ w' bq)->(∃v r ah bq,e= .returned v/\qv r ah/\bd w' bq r v/\Good (fun bl=>fx Z s bl\/w.heap.size<=bl) w' bq ah.b ah.e/\pe bq ah/\iX ah/\qt ⟨w,Z,fx Z s,0,cX s⟩ w' bq):=by rintro e w' ⟨v,r,ah,bq,bz,a2,a3⟩;exact⟨v,r,ah,bq,bz,bI _ _ a2,a3⟩
 rcases h w Z ba J U al with⟨qM,aq⟩|⟨v,w',aq,aK⟩
 ·exact .inl ⟨qM,aq.mono hm⟩
 ·exact .inr ⟨v,w',aq,hm _ _ aK⟩
theorem De{s:cM}{k:aL}(h:inObs s k):¬fresh 0 (cX s) k:=fun aO=>aO.2 (tz h)
theorem iP.ob{s:cM}(af:dN s){st:bo}{dK:List (Nat×ai)}(aI:∀x∈dK,get x.1 st.t=x.2/\aJ (inObs s) x.2)(ab:∀k cs,look k s.b=some cs->look k st.b=some cs)(he:∀k o,look k s.e=some o->look k st.e=some o):
  iP (cX s) st ⟨dK,s.b,s.e,0,cX s⟩:=
 ⟨fun x ae=>⟨(aI x ae).1,we (fun k ad=>De ad) _ (aI x ae).2⟩,fun k cs aq=>⟨ab k cs aq,De (.inl (by simp[aq])),j2 (fun k ad=>De ad) _ (af.kb k cs aq)⟩,
  fun k o aw=>⟨he k o aw,De (.inr (by simp[aw])),fun xs ae=>j2 (fun k ad=>De ad) _ (af.ke k o aw xs ae)⟩,fun m hm=>hm⟩
def cL(st:bo)(fi:List bY)(R:ai->Prop):Prop:=match aT st fi with
 |some (c,cz)=>c/\R (ev (aS cz))
 |none=>eN
theorem cI.at{fi:List bY}{s:cM}{Q:ai->cM->Prop}{e:Exit}{st:bo}(ah:cM)(ur:e= .ret\/e= .normal)(af:dN ah)(e8:Same s ah)(ab:∀k cs,look k ah.b=some cs->look k st.b=some cs)(c6:∀k o,look k ah.e=some o->look k st.e=some o)
  (h:cL st fi fun r=>aJ (inObs ah) r/\Q r ah):cI fi s Q e st:=by
 unfold cL at h;split at h
 ·rename_i c cz aK;exact cI.ob ur aK h.1 af e8 ab c6 h.2.1 h.2.2
 ·exact h.elim
theorem hW.ob{P:cG}{nw:List Nat}{n:Nat}{args:List ai}{st:bo}{d:Option Nat}{K:bo->Prop}{s ah:cM}{r:ai}(aO:bJ P n args s fun eG dK=>eG=r/\dK=ah)(af:dN s)(eL:dN ah)(e8:Same s ah)(ab:∀k cs,look k s.b=some cs->look k st.b=some cs)(he:∀k o,look k s.e=some o->look k st.e=some o)
  (ad:aP (inObs s) args) (h:K ⟨eM d r st.t,bX s.b st.b++ah.b,bX s.e st.e++ah.e,st.n,st.o⟩):hW P false nw n args st d K:=
 .inr ⟨s,ah,r,none,fun k cs aq=>⟨ab k cs aq,.inl (by simp[aq]),af.kb k cs aq⟩,fun k o aw=>⟨he k o aw,.inr (by simp[aw]),af.ke k o aw⟩,af.obj,eL.obj,⟨fun k ad=>.inl (by rw[e8.b];exact ad),fun k ad=>.inl (by rw[e8.e];exact ad),fun k ad=>by rw[<-e8.b];exact ad,fun k ad=>by rw[<-e8.e];exact ad,fun k ad=>by cases ad⟩,ad,aO,(fun e=>by cases e),h⟩
theorem dN.of{s:cM}(aw:iX s)(ab:∀x∈s.b,aP (inObs s) x.2)(he:∀x∈s.e,∀xs,x.2.xs=some xs->aP (inObs s) xs):dN s:=⟨aw,fun k cs ad=>ab (k,cs) (ts ad),fun k o ad xs ae=>he (k,o) (ts ad) xs ae⟩
@[simp]theorem aqx(b:List (aL×List ai))(e:List (aL×fQ)):cX ⟨b,e⟩=b.map (·.1)++e.map (·.1):=rfl
theorem A4{α:Type}{k:aL}{p:α}:∀{a r:List (aL×α)},look k a=none->cy k p (a++r)=a++cy k p r
 |[],_,_=>rfl
 |(i,y)::a,r,h=>by
  simp only[look]at h;split at h
  ·cases h
  ·rename_i cF;simp[cy,cF,A4 h]
theorem agU{α:Type}{s b:List (aL×α)}(h:∀p∈s,look p.1 b=some p.2):∀k x,look k s=some x->look k b=some x:=fun k x ae=>h (k,x) (ts ae)
theorem eS{S:aL->Prop}{b0 b:List (aL×List ai)}(h:∀p∈b0,look p.1 b=some p.2/\S p.1/\aP S p.2):gV S b0 b:=fun k x ae=>h (k,x) (ts ae)
theorem eT{S:aL->Prop}{b0 b:List (aL×fQ)}(h:∀p∈b0,look p.1 b=some p.2/\S p.1/\et S p.2):nz S b0 b:=fun k x ae=>h (k,x) (ts ae)
theorem aE{α:Type}{s b:List (aL×α)}(h:∀k x,look k s=some x->look k b=some x:=by first|(refine agU ?_;simp;done)|(intro k x ae;first|exact ae|(simp[ae,gX];done)|(simp[cN,gX,ae];done)|(cases k<;>simp_all[cN];done))):∀k x,look k s=some x->look k b=some x:=h
theorem cb{ob:List aL}{st st':bo}(J:∀x∈st'.t,get x.1 st.t=x.2/\aJ (fun k=> ¬fresh st'.n st'.o k) x.2:=by simp[fresh,aP,aJ,cx,inObs,Pv.look])(U:∀p∈st'.b,look p.1 st.b=some p.2/\(¬fresh st'.n st'.o p.1)/\aP (fun k=> ¬fresh st'.n st'.o k) p.2:=by simp[fresh,aP,aJ,cx,inObs,Pv.look])(al:∀p∈st'.e,look p.1 st.e=some p.2/\(¬fresh st'.n st'.o p.1)/\et (fun k=> ¬fresh st'.n st'.o k) p.2:=by simp[fresh,aP,aJ,et,inObs,Pv.look])(a1:∀m∈ob,m∈st'.o:=by simp):iP ob st st':=⟨J,eS U,eT al,a1⟩
theorem bR.next{ob:List aL}{ha:Nat->bo->Prop}{k:Nat}{Q:Exit->bo->Prop}{st:bo}(bN:Nat){ah:bo}(ad:bN<k)(hi:ha bN ah)(hw:iP ob st ah):bR ob ha k Q .normal st:=⟨bN,ah,ad,hw,hi⟩
def kv:List (Int×ai)->List ai
 |[]=>[]
 |(k,v)::r=>.int .i64 k::v::kv r
def iv(l:List (Int×ai)):List ai:= .hdm l.length (List.range l.length)::kv l
def xd(k:Int):List (Int×ai)->Option ai
 |[]=>none
 |(i,v)::r=>if k=i then some v else xd k r
def o6(k:Int)(v:ai):List (Int×ai)->Option (List (Int×ai))
 |[]=>none
 |(i,w)::r=>if k=i then some ((k,v)::r)else match o6 k v r with|some eG=>some ((i,w)::eG)|none=>none
def gI(k:Int)(v:ai)(l:List (Int×ai)):List (Int×ai):=match o6 k v l with|some a6=>a6|none=>l++[(k,v)]
@[simp]theorem aqf:[ai.hdm 0 []]=iv []:=rfl
theorem Rp:∀a b,kv (a++b)=kv a++kv b
 |[],_=>rfl
 |(k,v)::r,b=>by simp[kv,Rp r b]
theorem Uv(k:Int):∀l,wm .i (.int .i64 k) (kv l)=some (xd k l)
 |[]=>rfl
 |(i,v)::r=>by
  simp only[kv,wm,tl,xd];by_cases h:k=i
  ·simp[h]
  ·have:(k==i)=false:=by simp[h]
   simp[h,Uv k r,this]
theorem Ob{k:Int}{v:ai}:∀{l a6},o6 k v l=some a6->a6.length=l.length
 |[],_,h=>by simp[o6]at h
 |(i,w)::r,a6,h=>by
  simp only[o6]at h;split at h
  ·cases h;rfl
  ·split at h
   ·rename_i eG aK;cases h;simp[Ob aK]
   ·cases h
theorem UM(k:Int)(v:ai):∀l,uR .i (.int .i64 k) v (kv l)=some ((o6 k v l).map kv)
 |[]=>rfl
 |(i,w)::r=>by
  simp only[kv,uR,tl,o6];by_cases h:k=i
  ·subst h;simp[kv]
  ·simp only[and_self,if_true,h,if_false,dM,UM k v r];have:(k==i)=false:=by simp[h]
   rw[this];cases o6 k v r<;>simp[kv]
@[simp]theorem UL(k:Int)(v:ai)(l:List (Int×ai)):oN .i (.int .i64 k) v (iv l)=some (iv (gI k v l)):=by
 simp only[iv,oN,TQ,Bool.true_eq_false,reduceCtorEq,if_false,UM,gI];cases h:o6 k v l with
 |some a6=>simp[Ob h]
 |none=>simp[Rp,kv,List.range_succ]
@[simp]theorem wo(f:aL->Option (List ai))(m:aL)(l:List (Int×ai))(z:ai)(ok:Bool)(k:Int)(hm:f m=some (iv l)):nY f .i z ok (.gmap m) (.int .i64 k)=(match xd k l with
  |some v=>some (True,if ok then .tuple [v,.bool true]else v)
  |none=>some (True,if ok then .tuple [z,.bool false]else z)):=by
 simp only[Ux,hm,iv,TQ,Bool.true_eq_false,reduceCtorEq,if_false,Uv];cases xd k l<;>rfl
def cx(n:Nat)(seen:List Nat)(m:aL):List ai:=[.hdi n seen n,.gmap m]
@[simp]theorem aqN(m:aL)(l:List (Int×ai)):yq m (iv l)=some (cx l.length [] m):=rfl
@[simp]theorem aqG(l:List (Int×ai)):hS (iv l)=false:=rfl
theorem Lj(b:Nat):∀(n:Nat) (l:List (Int×ai)),mO b (List.range' n l.length) (kv l)=(if n<=b then(l[b-n]?).map fun x=>.tuple [.int .i64 x.1,x.2]else none)
 |n,[]=>by simp[mO,kv]
 |n,(k,v)::r=>by
  simp only[oe,List.range'_succ,kv,mO];by_cases h:n=b
  ·subst h;simp
  ·rw[if_neg h,Lj b (n+1) r];by_cases U:n<=b
   ·rw[if_pos U,if_pos Ω];have:b-n=(b-(n+1))+1:=Ω
    rw[this];simp
   ·rw[if_neg U,if_neg Ω]
@[simp]theorem Ut(f:aL->Option (List ai))(fl mk:aL)(n:Nat)(seen:List Nat)(b:Nat)(l:List (Int×ai))(hi:f fl=some (cx n (seen++[b]) mk))(hm:f mk=some (iv l))(az:n=l.length):pB f (.ptr fl 0)=(l[b]?).map fun x=>(True,.tuple [.int .i64 x.1,x.2]):=by subst az;simp only[Uu,hi,hm,cx,iv,List.getLast?_append,List.getLast?_singleton,Option.some_or,List.range_eq_range',Lj,Nat.zero_le,if_true,Nat.sub_zero,Option.map_map];cases l[b]?<;>simp
theorem Q2{st:bo}{d:Nat}{K:bo->Prop}{fl mk:aL}{n:Nat}{seen:List Nat}{l:List (Int×ai)}(hi:look fl st.b=some (cx n seen mk))(hm:look mk st.b=some (iv l))(az:n=l.length)
  (J:(∀b,b<n->b∈seen)->K {st with t:=put d (.tuple [.bool false]) st.t}) (U:∀b k v,l[b]? =some (k,v)->b∉seen->K {st with t:=put d (.tuple [.bool true,.int .i64 k,v]) st.t,b:=cy fl (cx n (seen++[b]) mk) st.b}):
  sS st d (.ptr fl 0) K:=by
 subst az;simp only[sS,hi,cx,hm,iv,Ly,and_self,true_and];refine⟨fun h=>J fun b ab=>h b (by simpa using ab),fun b k v xK ab=>?_⟩;rw[List.range_eq_range',Lj]at xK;simp only[Nat.zero_le,if_true,Nat.sub_zero,gr,ai.tuple.injEq,yO,and_true]at xK;obtain⟨⟨bN,v'⟩,ao,aF,bM⟩:=xK;simp only at aF bM;subst aF bM;exact U b bN v' ao ab
theorem ajU{n:Nat}{seen:List Nat}(aG:seen.Nodup)(bt:∀b∈seen,b<n)(lA:∀b,b<n->b∈seen):seen.Perm (List.range n):=(List.perm_ext_iff_of_nodup aG List.nodup_range).2 fun b=>⟨fun h=>by simpa using bt b h,fun h=>lA b (by simpa using h)⟩
theorem Ht{n:Nat}{seen:List Nat}(aG:seen.Nodup)(bt:∀b∈seen,b<n):seen.length<=n:=by have:=Ef aG (l₂:=List.range n) (fun b ab=>by simpa using bt b ab);simpa using this
theorem MO{n b:Nat}{seen:List Nat}(aG:seen.Nodup)(bt:∀b∈seen,b<n)(ab:b<n)(az:b∉seen):seen.length<n:=by have J:(b::seen).Nodup:=List.nodup_cons.2 ⟨az,aG⟩;have:=Ht J (n:=n) (by simp;exact⟨ab,bt⟩);simp at this;omega
theorem Wk{α:Type}:∀(l pre:List α),(List.range' pre.length l.length).filterMap (fun b=>(pre++l)[b]?)=l
 |[],_=>rfl
 |x::r,pre=>by have bO:=Wk r (pre++[x]);simp only[oW,List.length_singleton,List.append_assoc,List.singleton_append]at bO;simp[List.range'_succ,bO]
theorem MN{α:Type}{l:List α}{seen:List Nat}(aG:seen.Nodup)(bt:∀b∈seen,b<l.length)(lA:∀b,b<l.length->b∈seen):(seen.filterMap fun b=>l[b]?).Perm l:=by have J:=(ajU aG bt lA).filterMap fun b=>l[b]?;have U:=Wk l [];simp only[List.length_nil,b3,<-List.range_eq_range']at U;rwa[U]at J
theorem LC{b:Nat}{seen:List Nat}(aG:seen.Nodup)(az:b∉seen):(seen++[b]).Nodup:=by rw[List.nodup_append];exact⟨aG,Ψ,by simp;intro a a7 e;subst e;exact az a7⟩
theorem cS.start{w:World}{Z:bc}{s:cM}{args:List ai}{ba:Array Value}(pt:iX s)(aW:Good (fx Z s) w Z s.b s.e)(ae:pe Z s)(aK:cR w Z args ba.toList):
  cS ⟨w,Z,fx Z s,ba.size,cX s⟩ ⟨kq 0 args,s.b,s.e,0,cX s⟩ {tmps:=ba,defers:=[]} w Z:=by
 have kE:=DE aK;have kU:ba.size=args.length:=by simpa using kE
 have oF:∀k,fresh 0 (cX s) k->Z.bx k=none/\Z.ow k=none/\∀j b,¬Z.tr k j b:=by
  intro k ad;cases k with
  |loc m=>exact⟨(ae _).1 (pt.1 m),(ae _).2.1 (pt.2 m),(ae _).2.2⟩
  |obj m=>
   simp only[fresh,true_and]at ad;refine⟨?_,?_,(ae _).2.2⟩
   ·refine(ae _).1 ?_;cases h:look (.obj m) s.b with
    |none=>rfl
    |some x=>exact absurd (tz (.inl (by simp[h]))) ad
   ·refine(ae _).2.1 ?_;cases h:look (.obj m) s.e with
    |none=>rfl
    |some x=>exact absurd (tz (.inr (by simp[h]))) ad
 have jw:∀m,(Z.bx (.obj m)≠none\/Z.ow (.obj m)≠none)-> .obj m∈cX s:=by
  intro m hm;refine Classical.byContradiction fun aq=>?_;obtain⟨J,U,_⟩:=oF (.obj m) ⟨trivial,aq⟩;rcases hm with hm|hm
  ·exact hm J
  ·exact hm U
 refine⟨⟨aW.alt,fun k cs ad=>?_,aW.inj,fun g o er=>?_,aW.oinj,aW.obx,aW.one,aW.otr⟩,⟨rfl,rfl,rfl,eC _,fun _ _ _=>rfl,fun b o h=>⟨h,rfl⟩,fun b o h=>.inl h,fun n b h=>h,fun n b h=>jw n (.inl (by rw[h];simp)),fun m n u h=>⟨n,u,h,.inl ⟨rfl,rfl⟩⟩,fun m n u h=>jw m (.inr (by rw[h];simp)),fun k j _ _ b h=>absurd h ((ae k).2.2 j b),fun k j b h=>absurd h ((ae k).2.2 j b),fun k j b h=>absurd h ((ae k).2.2 j b),fun _ _ _=>rfl⟩,rfl,rfl,fun i=>?_,oF⟩
 ·obtain⟨bl,us,el,g1,g2,g3⟩:=aW.box k cs ad;exact⟨bl,us,el,g1,.inl g2,g3⟩
 ·obtain⟨v,us,g1,g2,g3,g4⟩:=aW.own g o er;exact⟨v,us,g1,g2,fun bl fk=>⟨.inl (g3 bl fk).1,(g3 bl fk).2⟩,g4⟩
 ·rw[JD];by_cases hi:i<args.length
  ·rw[if_pos Ω];have ux:args[i]? =some args[i]:=cr hi;obtain⟨v,ao,aF⟩:=Hk i aK ux;have IY:ba[i]? =some v:=by simpa using ao
   show bd w Z _ (ba.getD i undef);rw[Array.getD_eq_getD_getElem?,IY];simpa[List.getD,ux]using aF
  ·rw[if_neg Ω];simp[bd]
theorem bJ.sem{P:cG}{f:FuncId}{args:List ai}{s:cM}{Q:ai->cM->Prop}(pt:iX s)
  (h:∀(w:World) (Z:bc) (ba:Array Value),ba.size=args.length->cS ⟨w,Z,fx Z s,ba.size,cX s⟩ ⟨kq 0 args,s.b,s.e,0,cX s⟩ {tmps:=ba,defers:=[]} w Z->
   w5 P f ba w fun e w'=> ∃v st' bp bq r ah,e= .returned v/\cS ⟨w,Z,fx Z s,ba.size,cX s⟩ st' bp w' bq/\bd w' bq r v/\j0 ah s.b/\j0 ah s.e/\gV (inObs ah) ah.b st'.b/\nz (inObs ah) ah.e st'.e/\iX ah/\aJ (inObs ah) r/\Q r ah):bJ P f args s Q:=by
 intro w Z ba aW ae aK;have kU:ba.size=args.length:=by simpa using DE aK
 have p4:=cS.start pt aW ae aK;have hm:∀(e:Ending) (w':World),(∃v st' bp bq r ah,e= .returned v/\cS ⟨w,Z,fx Z s,ba.size,cX s⟩ st' bp w' bq/\bd w' bq r v/\j0 ah s.b/\j0 ah s.e/\gV (inObs ah) ah.b st'.b/\nz (inObs ah) ah.e st'.e/\iX ah/\aJ (inObs ah) r/\Q r ah)->
   ∃v r ah bq,e= .returned v/\Q r ah/\bd w' bq r v/\Good (fun bl=>fx Z s bl\/w.heap.size<=bl) w' bq ah.b ah.e/\pe bq ah/\iX ah/\qt ⟨w,Z,fx Z s,0,cX s⟩ w' bq:=by
  rintro e w' ⟨v,st',bp,bq,r,ah,rfl,dG,oO,kb,ke,aZ,bm,bP,cP,cZ⟩;refine⟨v,r,ah,bq.cut (inObs ah),rfl,cZ,u3 (oi.cut _ w' bq) _ _ cP oO,dG.good.cut aZ bm (fun bl h _=>h),?_,bP,?_⟩
  ·intro k;refine⟨?_,?_,?_⟩;rotate_left 2
   ·rintro j b ⟨af,ab⟩;obtain⟨t1,t2⟩:=dG.fr.trn k j b ab;rcases af with af|af<;>obtain⟨x,iq⟩:=fP.1 af
    ·obtain⟨bl,ch,el,ao,_⟩:=dG.good.box k x (aZ k x iq).1;rw[t1]at ao;cases ao
    ·obtain⟨v',ch,ao,_⟩:=dG.good.own k x (bm k x iq).1;rw[t2]at ao;cases ao
   ·intro ad;by_cases af:inObs ah k
    ·rw[bc.cut_bx af];rcases af with af|af
     ·rw[ad]at af;cases af
     ·obtain⟨x,iq⟩:=fP.1 af;obtain⟨v',ch,ao,_⟩:=dG.good.own k x (bm k x iq).1;rcases dG.good.one k with J|J
      ·exact J
      ·rw[J]at ao;cases ao
    ·exact(bc.cut_no af).1
   ·intro ad;by_cases af:inObs ah k
    ·rw[bc.cut_ow af];rcases af with af|af
     ·obtain⟨x,iq⟩:=fP.1 af;obtain⟨bl,ch,el,ao,_⟩:=dG.good.box k x (aZ k x iq).1;rcases dG.good.one k with J|J
      ·rw[J]at ao;cases ao
      ·exact J
     ·rw[ad]at af;cases af
    ·exact(bc.cut_no af).2.1
  ·refine⟨dG.fr.os,dG.fr.tape,dG.fr.output,dG.fr.size,dG.fr.block,dG.fr.keep,dG.fr.fresh,fun n b h=>?_,dG.fr.obn,fun m n u h=>?_,dG.fr.obr,fun k j bN dD b J U=>dG.fr.trd k j bN dD b J.2 U.2,fun k j b ab=>dG.fr.trb k j b ab.2,fun k j b ab=>(by rw[bc.cut_bx ab.1,bc.cut_ow ab.1];exact dG.fr.trn k j b ab.2),dG.fr.sh⟩
   ·have af:inObs ah (.obj n):=by
     cases au:look (.obj n) s.b with
     |none=>rw[(ae _).1 au]at h;cases h
     |some x=>exact zV kb _ (by simp[au])
    rw[bc.cut_bx af];exact dG.fr.obj n b h
   ·have af:inObs ah (.obj m):=by
     cases au:look (.obj m) s.e with
     |none=>rw[(ae _).2.1 au]at h;cases h
     |some x=>exact zV ke _ (by simp[au])
    rw[bc.cut_ow af];exact dG.fr.row m n u h
 rcases h w Z ba kU p4 with⟨qM,aq⟩|⟨v,w',aq,xM⟩
 ·exact .inl ⟨qM,aq.mono hm⟩
 ·exact .inr ⟨v,w',aq,hm _ _ xM⟩
theorem cS.grown{C:fa}{st:bo}{a:Act}{w w':World}{Z:bc}(h:cS C st a w Z)(aW:w.grownBy w' none):cS C st a w' Z:=by
 have kT:lx w Z w' Z:=⟨fun b o bj=>⟨bj,ET aW (h.good.alt b o bj)⟩,fun _ _ _ h=>h,fun _ n u _ h=>⟨n,u,h,.inl ⟨rfl,rfl⟩⟩,fun b o bj=>wO (aW.block b (h.good.alt b o bj) Ψ),fun _ _ _ _ h=>h⟩;refine h.over kT rfl ⟨fun b o bj=>Nat.lt_of_lt_of_le (h.good.alt b o bj) aW.size,fun k cs ad=>?_,h.good.inj,fun g o er=>?_,h.good.oinj,h.good.obx,h.good.one,h.good.otr⟩
  ⟨aW.os.trans h.fr.os,aW.tape.trans h.fr.tape,aW.output.trans h.fr.output,gZ h.fr.size aW.size,fun k ad hm=>?_,fun b o bj=>?_,h.fr.fresh,h.fr.obj,h.fr.obn,h.fr.row,h.fr.obr,h.fr.trd,fun k j b ab=>⟨(h.fr.trb k j b ab).1,Nat.lt_of_lt_of_le (h.fr.trb k j b ab).2 aW.size⟩,h.fr.trn,fun b o bj=>(kT.sh b o (h.fr.keep b o bj).1).trans (h.fr.sh b o bj)⟩ h.new
 ·obtain⟨bl,us,el,g1,g2,g3,g4,g5⟩:=h.good.box k cs ad;exact⟨bl,us,el,g1,g2,g3,by rw[aW.block bl (Array.getElem?_eq_some_iff.1 g4).1 Ψ];exact g4,qj kT g5⟩
 ·obtain⟨v,us,g1,g2,g3,g4⟩:=h.good.own g o er;exact⟨v,us,g1,g2.kept aW (by cases v.ownBlock<;>simp),g3,si kT (fun _ _ _ h=>h) g4⟩
 ·rw[aW.block k (Nat.lt_of_lt_of_le ad h.fr.size) Ψ];exact h.fr.block k ad hm
 ·obtain⟨aX,bg⟩:=h.fr.keep b o bj;exact⟨aX,(kT.A b o aX).2.trans bg⟩
theorem cA.new{P:cG}{n:Nat}{args:List ai}{st:bo}{d:Option Nat}{K:bo->Prop}{s:cM}{Q:ai->cM->Prop}(aO:bJ P n args s Q)(af:dN s)(ab:∀k cs,look k s.b=some cs->look k st.b=some cs)(he:∀k o,look k s.e=some o->look k st.e=some o)
  (ad:aP (inObs s) args) (h:∀r ah,Q r ah->(∀m,inObs ah (.obj m)->inObs s (.obj m)/\Same s ah\/ .obj m∉st.o)/\K ⟨eM d r st.t,bX s.b st.b++ah.b,bX s.e st.e++ah.e,st.n,st.o++cX ah⟩):cA P n args st d K:=by
 refine .inl ⟨s,Q,fun k cs aq=>⟨ab k cs aq,.inl (by simp[aq]),af.kb k cs aq⟩,fun k o aw=>⟨he k o aw,.inr (by simp[aw]),af.ke k o aw⟩,af.obj,ad,aO,fun r ah bI=>?_⟩;obtain⟨J,U⟩:=h r ah bI;refine⟨⟨fun m hm=>?_,fun m hm=>?_⟩,U⟩
 ·rcases J m (.inl hm)with⟨_,al⟩|al
  ·exact .inl (by rw[al.b];exact hm)
  ·exact .inr al
 ·rcases J m (.inr hm)with⟨_,al⟩|al
  ·exact .inl (by rw[al.e];exact hm)
  ·exact .inr al
theorem cI.new{fi:List bY}{s:cM}{Q:ai->cM->Prop}{e:Exit}{st:bo}(ah:cM)(ur:e= .ret\/e= .normal)(af:dN ah)(e8:j0 ah s.b/\j0 ah s.e)(ab:∀k cs,look k ah.b=some cs->look k st.b=some cs)(c6:∀k o,look k ah.e=some o->look k st.e=some o)
  (h:cL st fi fun r=>aJ (inObs ah) r/\Q r ah):cI fi s Q e st:=by
 unfold cL at h;split at h
 ·rename_i c cz aK;refine⟨ur,?_⟩;rw[aK];exact⟨h.1,ah,e8.1,e8.2,fun k cs dg=>⟨ab k cs dg,.inl (by simp[dg]),af.kb k cs dg⟩,fun k o aw=>⟨c6 k o aw,.inr (by simp[aw]),af.ke k o aw⟩,af.obj,h.2.1,h.2.2⟩
 ·exact h.elim
@[simp]theorem aoq{P:cG}{ob:List aL}{c d:C}{Q:Exit->bo->Prop}{st:bo}{s:Nat}:cY P ob (.seq (.pub s c) d) Q st=w8 P ob (.seq c d) Q (wF st s):=by simp only[cY];cases wF st s<;>rfl
@[simp]theorem aop{P:cG}{ob:List aL}{c d:C}{Q:Exit->bo->Prop}{st:bo}{s:Nat}:cY P ob (.seq (.pubB s c) d) Q st=w8 P ob (.seq c d) Q (wE st s):=by simp only[cY];cases wE st s<;>rfl
end
section
open Go Go.RowKit
def uH(t:List (Nat×ai))(cc:List Nat):List (Nat×ai):=cc.map fun k=>(k,get k t)
@[simp]theorem apx(t:List (Nat×ai)):uH t []=[]:=rfl
@[simp]theorem apw(t:List (Nat×ai))(k:Nat)(cc:List Nat):uH t (k::cc)=(k,get k t)::uH t cc:=rfl
def pD(st:bo)(cc:List Nat)(cs:List (Nat×ai)):bo:=⟨uH st.t cc++cs,st.b,st.e,st.n,st.o⟩
theorem ahx(t:List (Nat×ai))(b:List (aL×List ai))(e:List (aL×fQ))(n:Nat)(o:List aL)(cc:List Nat)(cs:List (Nat×ai)):pD ⟨t,b,e,n,o⟩ cc cs=⟨uH t cc++cs,b,e,n,o⟩:=rfl
def yQ{α:Type}(S:Nat->α->bo)(n:Nat)(gO:Nat->α->Prop)(k:Nat)(st:bo):Prop:= ∃i a,i<=n/\k=n-i/\gO i a/\st=S i a
section
variable {P:cG} {ob:List aL} {st:bo} {Q:Exit->bo->Prop} {c:C} {α:Type}
theorem ik(S:Nat->α->bo)(n:Nat)(gO:Nat->α->Prop)(a0:α)(hw:iP ob st (S 0 a0))(bA:gO 0 a0)(s6:∀a,gO n a->(∀i,ho (get i (S n a).t))->cY P ob c (bR ob (yQ S n gO) 0 Q) (S n a))
  (jK:∀i a,i<n->gO i a->(∀j,ho (get j (S i a).t))->cY P ob c (bR ob (yQ S n gO) (n-i) Q) (S i a)):cY P ob (.loop c) Q st:=by
 refine mZ (yQ S n gO) n _ hw ⟨0,a0,Ω,Ω,bA,rfl⟩ ?_;rintro k s ⟨i,a,hi,rfl,ag,rfl⟩ ab _;rcases Nat.lt_or_ge i n with h|h
 ·exact jK i a h ag ab
 ·obtain rfl:i=n:=Ω
  rw[Nat.sub_self];exact s6 a ag ab
theorem bR.rng{S:Nat->α->bo}{n:Nat}{gO:Nat->α->Prop}{i:Nat}(bp:α)(hi:i<n)(ag:gO (i+1) bp)(hw:iP ob st (S (i+1) bp)):bR ob (yQ S n gO) (n-i) Q .normal st:=⟨n-(i+1),_,Ω,hw,i+1,bp,Ω,rfl,ag,rfl⟩
def Bf{α:Type}(S:α->bo)(lq:α->Nat)(gO:α->Prop)(k:Nat)(st:bo):Prop:= ∃a,k=lq a/\gO a/\st=S a
theorem oy(S:α->bo)(lq:α->Nat)(gO:α->Prop)(a0:α)(hw:iP ob st (S a0))(bA:gO a0)
  (jK:∀a,gO a->(∀j,ho (get j (S a).t))->cY P ob c (bR ob (Bf S lq gO) (lq a) Q) (S a)):cY P ob (.loop c) Q st:=by
 refine mZ (Bf S lq gO) (lq a0) _ hw ⟨a0,rfl,bA,rfl⟩ ?_;rintro k s ⟨a,rfl,ag,rfl⟩ ab _;exact jK a ag ab
theorem bR.whl{S:α->bo}{lq:α->Nat}{gO:α->Prop}{k:Nat}(bp:α)(hm:lq bp<k)(ag:gO bp)(hw:iP ob st (S bp)):bR ob (Bf S lq gO) k Q .normal st:=⟨lq bp,_,hm,hw,bp,rfl,ag,rfl⟩
end
theorem h6{p:Prop}(h:p:=by(try simp[*]);(repeat' first|with_reducible refine aj ?_|with_reducible refine aC (by assumption) ?_|with_reducible refine aD (by assumption) ?_|simp[*]);(all_goals first|exact bR.rng () (by assumption) (by first|assumption|trivial) cb|exact bR.rng _ (by assumption) (by assumption) cb)):p:=h
end
section
open Go Go.RowKit
def mc(s:cM)(n:Nat)(k:aL):Prop:=inObs s k\/ ∃m,m<n/\k= .loc m
@[simp]theorem UP(s:cM)(n m:Nat)(hm:m<n):mc s n (.loc m):= .inr ⟨m,hm,rfl⟩
theorem Ak{s:cM}{n:Nat}{l:List ai}(h:aP (inObs s) l):aP (mc s n) l:=j2 (fun _ h=>.inl h) l h
theorem x9{s ah:cM}(e8:Same s ah){n:Nat}{k:aL}(h:mc ah n k):¬fresh n (cX s) k:=by
 rcases h with h|⟨m,hm,rfl⟩
 ·exact fun aO=>aO.2 (tz ((e8.inObs k).2 h))
 ·intro aO;have:=aO.1;simp at this;omega
theorem iP.obL{s ah:cM}(eL:dN ah)(e8:Same s ah){st:bo}{dK:List (Nat×ai)}{L:List (aL×List ai)}{n:Nat}(aI:∀x∈dK,get x.1 st.t=x.2/\aJ (mc ah n) x.2)(fe:∀x∈L,look x.1 st.b=some x.2/\mc ah n x.1/\aP (mc ah n) x.2)
  (ab:∀k cs,look k ah.b=some cs->look k st.b=some cs) (he:∀k o,look k ah.e=some o->look k st.e=some o):iP (cX s) st ⟨dK,L++ah.b,ah.e,n,cX s⟩:=by
 refine⟨fun x ae=>⟨(aI x ae).1,we (fun k ad=>x9 e8 ad) _ (aI x ae).2⟩,fun k cs ad=>?_,fun k o aw=>?_,fun m hm=>hm⟩
 ·simp only at ad;rw[cN]at ad;cases au:look k L with
  |some x=>rw[au]at ad;simp only[dy]at ad;subst ad;obtain⟨J,U,al⟩:=fe _ (ts au);exact⟨J,x9 e8 U,j2 (fun k ad=>x9 e8 ad) _ al⟩
  |none=>rw[au]at ad;exact⟨ab k cs ad,x9 e8 (.inl (.inl (by simp[ad]))),j2 (fun k ad=>x9 e8 (.inl ad)) _ (eL.kb k cs ad)⟩
 ·exact⟨he k o aw,x9 e8 (.inl (.inr (by simp at aw;simp[aw]))),fun xs ae=>j2 (fun k ad=>x9 e8 (.inl ad)) _ (eL.ke k o aw xs ae)⟩
def hd{α:Type}(l:List α)(i j:Nat):List α:=match l[i]?,l[j]? with
 |some x,some y=>(l.set i y).set j x
 |_,_=>l
section
variable {α:Type}
@[simp]theorem ag3(l:List α)(i j:Nat):(hd l i j).length=l.length:=by unfold hd;split<;>simp
theorem z8(l:List α)(i j k:Nat)(hi:i<l.length)(ag:j<l.length):(hd l i j)[k]? =if k=i then l[j]? else if k=j then l[i]? else l[k]?:=by
 unfold hd;rw[cr hi,cr ag];simp only[List.getElem?_set,List.length_set];by_cases J:j=k
 ·subst J;by_cases U:j=i
  ·subst U;simp[hi]
  ·simp[U,ag]
 ·by_cases U:i=k
  ·subst U;simp[J,hi]
  ·simp[J,U,k5 J,k5 U]
theorem Uh(l:List α)(i j:Nat):(hd l i j).Perm l:=by
 unfold hd;split
 ·rename_i x y ae aM;obtain⟨hi,rfl⟩:=fp.1 ae;obtain⟨ag,rfl⟩:=fp.1 aM;exact List.set_set_perm hi ag
 ·exact .refl _
inductive gl (a b:Nat):List α->List α->Prop
 |refl (l:List α):gl a b l l
 |step {l m:List α} {i j:Nat}:gl a b l m->a<=i->i<b->a<=j->j<b->i<m.length->j<m.length->gl a b l (hd m i j)
theorem gl.length{a b:Nat}{l m:List α}(h:gl a b l m):m.length=l.length:=by
 induction h with
 |refl=>rfl
 |step _ _ _ _ _ _ _ bO=>rw[ag3,bO]
theorem gl.perm{a b:Nat}{l m:List α}(h:gl a b l m):m.Perm l:=by
 induction h with
 |refl=>exact .refl _
 |step _ _ _ _ _ _ _ bO=>exact(Uh _ _ _).trans bO
theorem gl.out{a b:Nat}{l m:List α}(h:gl a b l m)(k:Nat)(ad:k<a\/b<=k):m[k]? =l[k]?:=by
 induction h with
 |refl=>rfl
 |step _ J U al a1 bW dd bO=>rw[z8 _ _ _ _ bW dd,if_neg Ω,if_neg Ω];exact bO
theorem gl.all{a b:Nat}{l m:List α}(h:gl a b l m)(p:α->Prop)(bL:∀k x,a<=k->k<b->l[k]? =some x->p x):∀k x,a<=k->k<b->m[k]? =some x->p x:=by
 induction h with
 |refl=>exact bL
 |step _ J U al a1 bW dd bO=>
  intro k x gn lf ae;rw[z8 _ _ _ _ bW dd]at ae;split at ae
  ·exact bO _ _ al a1 ae
  ·split at ae
   ·exact bO _ _ J U ae
   ·exact bO _ _ gn lf ae
theorem gl.trans{a b:Nat}{l m r:List α}(h:gl a b l m)(ck:gl a b m r):gl a b l r:=by
 induction ck with
 |refl=>exact h
 |step _ J U al a1 bW dd bO=>exact .step bO J U al a1 bW dd
theorem gl.mono{a b bp b0:Nat}{l m:List α}(h:gl a b l m)(a7:bp<=a)(ab:b<=b0):gl bp b0 l m:=by
 induction h with
 |refl=>exact .refl _
 |step _ J U al a1 bW dd bO=>exact .step bO Ω Ω Ω Ω bW dd
def e7(lt:α->α->Bool)(a b:Nat)(l:List α):Prop:= ∀i j x y,a<=i->i<j->j<b->l[i]? =some x->l[j]? =some y->lt y x=false
structure qu (lt:α->α->Bool):Prop where
 asym:∀x y,lt x y=true->lt y x=false
 ntr:∀x y z,lt y x=false->lt z y=false->lt z x=false
theorem e7.pairwise{lt:α->α->Bool}{l:List α}(h:e7 lt 0 l.length l):l.Pairwise fun x y=>lt y x=false:=by rw[oX];intro i j hi ag lD;exact h i j _ _ Ω lD ag (cr hi) (cr ag)
def hT(a m b k:Nat):Nat:=if k<a then k else if k<a+(b-m)then k+(m-a)else if k<b then k-(b-m)else k
def sn(a b c k:Nat):Nat:=if a<=k/\k<a+c then b+(k-a)else if b<=k/\k<b+c then a+(k-b)else k
end
theorem Fs(i j:Nat)(h:i+j<=1099511627776):mj.wrap (Int.fdiv (hl.wrap ((i:Int)+j)) (2 ^ (min 1 hl.bits)))=((i+j)/2:Nat):=by
 have hw:hl.wrap ((i:Int)+j)=i+j:=by simp[sy,nD,rf];omega
 have JO:hl.bits=64:=rfl;rw[hw,JO,show(2:Int) ^ (min 1 64)=2 from by decide,Int.fdiv_eq_ediv_of_nonneg _ Ω,ml]
 ·omega
 ·omega
end
section
open Go Go.RowKit
section
variable {P:cG} {ob:List aL} {st:bo} {Q:Exit->bo->Prop} {c:C} {α:Type}
theorem eQ(cc:List Nat)(cs:Nat->α->List (Nat×ai))(n:Nat)(gO:Nat->α->Prop)(a0:α)(hw:iP ob st (pD st cc (cs 0 a0)))(bA:gO 0 a0)(s6:∀a,gO n a->(∀i,ho (get i (pD st cc (cs n a)).t))->cY P ob c (bR ob (yQ (fun i a=>pD st cc (cs i a)) n gO) 0 Q) (pD st cc (cs n a)))
  (jK:∀i a,i<n->gO i a->(∀j,ho (get j (pD st cc (cs i a)).t))->cY P ob c (bR ob (yQ (fun i a=>pD st cc (cs i a)) n gO) (n-i) Q) (pD st cc (cs i a))):cY P ob (.loop c) Q st:=
 ik (fun i a=>pD st cc (cs i a)) n gO a0 hw bA s6 jK
theorem vt(cc:List Nat)(cs:α->List (Nat×ai))(lq:α->Nat)(gO:α->Prop)(a0:α)(hw:iP ob st (pD st cc (cs a0)))(bA:gO a0)
  (jK:∀a,gO a->(∀j,ho (get j (pD st cc (cs a)).t))->cY P ob c (bR ob (Bf (fun a=>pD st cc (cs a)) lq gO) (lq a) Q) (pD st cc (cs a))):cY P ob (.loop c) Q st:=
 oy (fun a=>pD st cc (cs a)) lq gO a0 hw bA jK
end
attribute [simp] ahx
end
end Go.Pv
namespace Go.Proofs.YtohaalphocaebaaGreat
section
open Go Go.Pv
def Qv:C:=(aa [bQ 4 (.mov (.c (.nilp)))] (aa [I 7 0,cV 8 113 7,I 5 8] (.seq (aa [b7 6 0] (.block 0 (.loop (.seq (aa [I 9 6,I 10 1,bF 11 .lss 9 10] (aV 11 .skip (.exit 0))) (.seq (.block 1 (.region [I 14 5,cV 15 53 14])) (.region [I 12 6,aQ 13 .add 12 1,I 6 13])))))) (aa [I 16 5,I 4 16] .ret))))
@[simp] def Wj:List bY:=[.tmp 4]
def P6:C:=(aa [da 6 dm] (aa [I 9 0,c1 10 110 [.t 9,(dI 8)],I 7 10] (.seq (aa [I 11 1,aQ 12 .gtr 11 2,I 13 12,bU 13 true 14 7,ar 13 true (aQ 15 .geq 14 3),dv 16 13 15] (aV 16 (aa [I 17 0,I 18 1,aQ 19 .quo 18 2,I 20 2,c1 21 46 [.t 17,.t 19,.t 20],da 8 dm,bC 4 8 21] (.seq (.drawn false 42 [a8 22 4 8,I 23 0,I 24 1,aQ 25 .quo 24 2,I 26 2,c1 27 46 [.t 23,.t 25,.t 26],cg 28 114 22 27,bC 4 6 28]) .ret)) .skip)) (.seq (aa [I 29 2,aQ 30 .gtr 29 0,I 31 30,bU 31 true 32 7,ar 31 true (aQ 33 .rem 32 2),ar 31 true (aQ 34 .eql 33 0),dv 35 31 34] (aV 35 (aa [I 36 0,I 37 2,cg 38 110 36 37,cV 39 91 38,bC 4 6 39] .ret) .skip)) (aa [I 40 0,cV 41 115 40,bC 4 6 41] .ret)))))
@[simp] def G4:List bY:=[.cell 6 true 4]
def IH:C:=(aa [b7 2 0] (aa [I 4 0,I 5 0,eE 6 5,aH 7 2 1 6,ax 8 1 7,bQ 9 (.bin .mul true (.t 8) (dI 6364136223846793005)),bQ 10 (.bin .add true (.t 9) (dI 1442695040888963407)),eE 11 4,aH 12 2 1 11,bC 1 12 10] (.seq (.drawn true 58 [I 13 0,eE 14 13,aH 15 2 1 14,ax 16 1 15,bQ 17 (.bin .shr false (.t 16) (.c (.int .u64 33))),I 18 0,eE 19 18,aH 20 2 1 19,ax 21 1 20,bQ 22 (.bin .shr false (.t 21) (.c (.int .u64 45))),bF 23 .xor 17 22,aQ 24 .and 23 255,I 3 24]) (.seq (.seq (.drawn true 58 [I 25 0,eE 26 25,aH 27 1 1 26,ax 28 1 27,I 29 0,eE 30 29,aH 31 0 1 30,ax 32 1 31,cD 33 32,bF 34 .lss 28 33]) (aV 34 (.seq (.drawn true 58 [I 35 3,I 36 0,eE 37 36,aH 38 0 1 37,ax 39 1 38,I 40 0,eE 41 40,aH 42 1 1 41,ax 43 1 42,cJ 44 1 39 43,ax 45 1 44,bQ 46 (.conv .i64 (.t 45)),bF 47 .add 35 46,aQ 48 .and 47 255,I 3 48]) (.region [I 49 0,I 50 0,eE 51 50,aH 52 1 1 51,ax 53 1 52,aQ 54 .add 53 1,eE 55 49,aH 56 1 1 55,bC 1 56 54])) .skip)) (aa [I 57 3,I 2 57] .ret)))))
@[simp] def Mi:List bY:=[.tmp 2]
def P1:C:=(aa [b7 4 0] (.seq (aa [I 5 1,aQ 6 .leq 5 0] (aV 6 (aa [b7 4 0] .ret) .skip)) (aa [I 7 0,cV 8 53 7,I 9 1,bF 10 .rem 8 9,I 4 10] .ret)))
@[simp] def Mh:List bY:=[.tmp 4]
def P3:C:=(aa [bQ 2 (.mov (.c (.nilp)))] (aa [I 5 0,cD 6 5,bQ 7 (.bin .add false (dI 90411) (.t 6)),I 3 7] (.seq (aa [b7 4 0] (.block 0 (.loop (.seq (aa [I 8 4,I 9 0,cD 10 9,bF 11 .lss 8 10,I 12 11,bU 12 true 13 4,ar 12 true (aQ 14 .lss 13 4000),dv 15 12 14] (aV 15 .skip (.exit 0))) (.seq (.block 1 (.region [I 18 3,aQ 19 .mul 18 131,I 20 0,I 21 4,cJ 22 1 20 21,ax 23 1 22,bQ 24 (.conv .i64 (.t 23)),bF 25 .add 19 24,aQ 26 .add 25 7,aQ 27 .and 26 1073741823,I 3 27])) (.region [I 16 4,aQ 17 .add 16 1,I 4 17])))))) (aa [I 28 0,I 29 3,bQ 30 (.build [.slice 1 .nil [],.int .i64 0,.int .i64 0] [(0,1,(.t 28)),(2,1,(.t 29))]),cH (.box 31 (some 401) (.t 30)),I 2 31] .ret))))
@[simp] def V6:List bY:=[.tmp 2]
def P4:C:=(aa [da 2 dm] (aa [I 4 0,c1 5 110 [.t 4,(dI 7)],I 3 5] (.seq (aa [I 6 3,aQ 7 .lss 6 2] (aV 7 (aa [I 8 3,cV 9 192 8,bC 4 2 9] .ret) .skip)) (.seq (aa [I 10 3,aQ 11 .lss 10 5] (aV 11 (aa [cH (.bsl 12 1 9 [(.c (.str [97])),(.c (.str [98])),(.c (.str [99]))]),I 13 3,aQ 14 .sub 13 2,cJ 15 1 12 14,ax 16 1 15,cV 17 184 16,bC 4 2 17] .ret) .skip)) (aa [gE 18 dm [],bC 4 2 18] .ret)))))
@[simp] def V7:List bY:=[.cell 2 true 4]
def Qe:C:=(aa [da 2 dm] (aa [I 3 0,gE 4 dm [(0,1,(dI 2)),(2,1,(.t 3))],bC 4 2 4] .ret))
@[simp] def Wd:List bY:=[.cell 2 true 4]
def P9:C:=(aa [da 2 dm] (aa [I 3 0,gE 4 dm [(0,1,(dI 3)),(1,1,(.t 3))],bC 4 2 4] .ret))
@[simp] def V9:List bY:=[.cell 2 true 4]
def vf:List (Nat×dA):=[
 (3,⟨1,8,.int .i64,.int .i64 0⟩),
 (5,⟨1,1,.int .u8,.int .u8 0⟩),
 (9,⟨1,16,.str,.str []⟩),
 (22,⟨1,24,.slice 5,.slice 1 .nil []⟩),
 (23,⟨1,24,.slice 61,.slice 5 .nil []⟩),
 (24,⟨1,24,.slice 23,.slice 1 .nil []⟩),
 (25,⟨1,24,.slice 104,.slice 2 .nil []⟩),
 (26,⟨1,24,.slice 106,.slice 2 .nil []⟩),
 (28,⟨5,104,.struct [(0,3),(1,23),(2,24),(3,25),(4,26)],.agg [.int .i64 0,.slice 5 .nil [],.slice 1 .nil [],.slice 2 .nil [],.slice 2 .nil []]⟩),
 (30,⟨1,24,.slice 32,.slice 4 .nil []⟩),
 (32,⟨4,56,.struct [(0,3),(1,3),(2,9),(3,30)],.agg [.int .i64 0,.int .i64 0,.str [],.slice 4 .nil []]⟩),
 (145,⟨1,24,.slice 9,.slice 1 .nil []⟩),
 (162,⟨3,40,.struct [(0,22),(1,3),(2,3)],.agg [.slice 1 .nil [],.int .i64 0,.int .i64 0]⟩)]
theorem vg:fN ay vf=true:=by kernel_rfl
theorem ajJ:ca vf Qv Wj 2 Tryz.f45=true:=by kernel_rfl
theorem acT:ay.funcs[(45:Nat)]? =some Tryz.f45:=Tryz.func45
theorem ajk:ca vf P6 G4 3 Tryz.f46=true:=by kernel_rfl
theorem acu:ay.funcs[(46:Nat)]? =some Tryz.f46:=Tryz.func46
theorem U4:ca vf IH Mi 1 Tryz.f53=true:=by kernel_rfl
theorem Rh:ay.funcs[(53:Nat)]? =some Tryz.f53:=Tryz.func53
theorem ajf:ca vf P1 Mh 2 Tryz.f110=true:=by kernel_rfl
theorem aco:ay.funcs[(110:Nat)]? =some Tryz.f110:=Tryz.func110
theorem ajh:ca vf P3 V6 1 Tryz.f113=true:=by kernel_rfl
theorem acq:ay.funcs[(113:Nat)]? =some Tryz.f113:=Tryz.func113
theorem aji:ca vf P4 V7 1 Tryz.f115=true:=by kernel_rfl
theorem acr:ay.funcs[(115:Nat)]? =some Tryz.f115:=Tryz.func115
theorem ajs:ca vf Qe Wd 1 Tryz.f184=true:=by kernel_rfl
theorem acC:ay.funcs[(184:Nat)]? =some Tryz.f184:=Tryz.func184
theorem ajn:ca vf P9 V9 1 Tryz.f192=true:=by kernel_rfl
theorem acx:ay.funcs[(192:Nat)]? =some Tryz.f192:=Tryz.func192
end
end Go.Proofs.YtohaalphocaebaaGreat
namespace Go.Pv
section
open Go
inductive b5 where
 |mk (kind n:Int) (name:List c4) (args:List b5)
def b5.kind:b5->Int| .mk k _ _ _=>k
def b5.num:b5->Int| .mk _ n _ _=>n
def b5.name:b5->List c4| .mk _ _ s _=>s
def b5.args:b5->List b5| .mk _ _ _ a=>a
mutual
def enc:b5->ai
 | .mk k n s a=>.agg [.int .i64 k,.int .i64 n,.str s,.slice 4 .no (qH a)]
def qH:List b5->List ai
 |[]=>[]
 |x::xs=>enc x::qH xs
end
theorem E3:∀l,qH l=l.map enc
 |[]=>rfl
 |x::xs=>by simp[qH,E3 xs]
theorem BE(t:b5):enc t= .agg [.int .i64 t.kind,.int .i64 t.num,.str t.name,.slice 4 .no (t.args.map enc)]:=by cases t;simp[enc,E3,b5.kind,b5.num,b5.name,b5.args]
mutual
theorem T2(S:aL->Prop):∀t:b5,aJ S (enc t)
 | .mk k n s a=>by simp[enc,aJ,aP,KX S a]
theorem KX(S:aL->Prop):∀l:List b5,aP S (qH l)
 |[]=>by simp[qH,aP]
 |x::xs=>by simp[qH,aP,T2 S x,KX S xs]
end
mutual
theorem W5:∀t:b5,ev (enc t)=enc t
 | .mk k n s a=>by simp[enc,ev,dr,M3 a]
theorem M3:∀l:List b5,dr (qH l)=qH l
 |[]=>by simp[qH,dr]
 |x::xs=>by simp[qH,dr,W5 x,M3 xs]
end
@[simp]theorem apQ(S:aL->Prop)(t:b5):aJ S (enc t)=True:=eq_true (T2 S t)
@[simp]theorem apH(S:aL->Prop)(l:List b5):aP S (l.map enc)=True:=by rw[<-E3];exact eq_true (KX S l)
theorem alI(l:List b5):dr (l.map enc)=l.map enc:=by rw[<-E3];exact M3 l
attribute [simp] W5 alI
@[simp]theorem aq4(t:b5):eH (enc t)=true:=by rw[BE];rfl
@[simp]theorem an7(t:b5):cells (enc t)=[.int .i64 t.kind,.int .i64 t.num,.str t.name,.slice 4 .no (t.args.map enc)]:=by rw[BE];rfl
@[simp]theorem anv(t:b5):ai.agg [.int .i64 t.kind,.int .i64 t.num,.str t.name,.slice 4 .no (t.args.map enc)]=enc t:=(BE t).symm
@[simp]theorem aps(t:b5):Pv.isAgg 4 (enc t):=by rw[BE];exact⟨_,rfl,rfl⟩
inductive T where
 |nil
 |var (n:Int)
 |sym (s:List c4)
 |num (n:Int)
 |pair (a b:T)
 deriving DecidableEq,Inhabited
def T.tm:T->b5
 | .nil=>.mk 0 0 [] []
 | .var n=>.mk 1 n [] []
 | .sym s=>.mk 2 0 s []
 | .num n=>.mk 3 n [] []
 | .pair a b=>.mk 4 0 [] [a.tm,b.tm]
def T.e:T->ai
 | .nil=>.agg [.int .i64 0,.int .i64 0,.str [],.slice 4 .no []]
 | .var n=>.agg [.int .i64 1,.int .i64 n,.str [],.slice 4 .no []]
 | .sym s=>.agg [.int .i64 2,.int .i64 0,.str s,.slice 4 .no []]
 | .num n=>.agg [.int .i64 3,.int .i64 n,.str [],.slice 4 .no []]
 | .pair a b=>.agg [.int .i64 4,.int .i64 0,.str [],.slice 4 .no [a.e,b.e]]
theorem rs:∀t:T,enc t.tm=t.e
 | .nil| .var _| .sym _| .num _=>rfl
 | .pair a b=>by simp[T.tm,enc,qH,T.e,rs a,rs b]
def T.kind:T->Int
 | .nil=>0| .var _=>1| .sym _=>2| .num _=>3| .pair _ _=>4
def T.int:T->Int
 | .var n=>n| .num n=>n|_=>0
def T.name:T->List c4
 | .sym s=>s|_=>[]
def T.args:T->List T
 | .pair a b=>[a,b]|_=>[]
theorem T.e_eq(t:T):t.e= .agg [.int .i64 t.kind,.int .i64 t.int,.str t.name,.slice 4 .no (t.args.map T.e)]:=by cases t<;>rfl
@[simp]theorem anu(t:T):ai.agg [.int .i64 t.kind,.int .i64 t.int,.str t.name,.slice 4 .no (t.args.map T.e)]=t.e:=(T.e_eq t).symm
@[simp]theorem anw:ai.agg [.int .i64 0,.int .i64 0,.str [],.slice 4 .no []]=T.nil.e:=rfl
@[simp]theorem anB(n:Int):ai.agg [.int .i64 1,.int .i64 n,.str [],.slice 4 .no []]=(T.var n).e:=rfl
@[simp]theorem anA(s:List c4):ai.agg [.int .i64 2,.int .i64 0,.str s,.slice 4 .no []]=(T.sym s).e:=rfl
@[simp]theorem anx(n:Int):ai.agg [.int .i64 3,.int .i64 n,.str [],.slice 4 .no []]=(T.num n).e:=rfl
@[simp]theorem anz(a b:T):ai.agg [.int .i64 4,.int .i64 0,.str [],.slice 4 .no [a.e,b.e]]=(T.pair a b).e:=rfl
@[simp]theorem aox(off:Nat)(fV:Bool)(sz:Nat)(t:T):qJ off fV sz (.eptr t.e)=if fV then some (off+sz<=4,.eptr (.agg (([.int .i64 t.kind,.int .i64 t.int,.str t.name,.slice 4 .no (t.args.map T.e)].drop off).take sz)))else(([.int .i64 t.kind,.int .i64 t.int,.str t.name,.slice 4 .no (t.args.map T.e)]:List ai)[off]?).map fun p=>(eH p=true/\cells p=[p],.eptr p):=by rw[T.e_eq];rfl
@[simp]theorem agN:(T.nil).kind=0:=rfl
@[simp]theorem agc:(T.nil).int=0:=rfl
@[simp]theorem ahD:(T.nil).name=[]:=rfl
@[simp]theorem YF:(T.nil).args=[]:=rfl
@[simp]theorem agR(n:Int):(T.var n).kind=1:=rfl
@[simp]theorem agh(n:Int):(T.var n).int=n:=rfl
@[simp]theorem ahH(n:Int):(T.var n).name=[]:=rfl
@[simp]theorem YJ(n:Int):(T.var n).args=[]:=rfl
@[simp]theorem agQ(s:List c4):(T.sym s).kind=2:=rfl
@[simp]theorem agf(s:List c4):(T.sym s).int=0:=rfl
@[simp]theorem ahG(s:List c4):(T.sym s).name=s:=rfl
@[simp]theorem YI(s:List c4):(T.sym s).args=[]:=rfl
@[simp]theorem agO(n:Int):(T.num n).kind=3:=rfl
@[simp]theorem agd(n:Int):(T.num n).int=n:=rfl
@[simp]theorem ahE(n:Int):(T.num n).name=[]:=rfl
@[simp]theorem YG(n:Int):(T.num n).args=[]:=rfl
@[simp]theorem agP(a b:T):(T.pair a b).kind=4:=rfl
@[simp]theorem age(a b:T):(T.pair a b).int=0:=rfl
@[simp]theorem ahF(a b:T):(T.pair a b).name=[]:=rfl
@[simp]theorem YH(a b:T):(T.pair a b).args=[a,b]:=rfl
@[simp]theorem apP(S:aL->Prop)(t:T):aJ S t.e=True:=by rw[<-rs];simp
@[simp]theorem ars(t:T):ev t.e=t.e:=by rw[<-rs];simp
theorem TX(S:aL->Prop):∀l:List T,aP S (l.map T.e)
 |[]=>by simp[aP]
 |x::xs=>by simp[aP,TX S xs]
@[simp]theorem TW(S:aL->Prop)(l:List T):aP S (l.map T.e)=True:=eq_true (TX S l)
@[simp]theorem alH:∀l:List T,dr (l.map T.e)=l.map T.e
 |[]=>rfl
 |x::xs=>by simp[dr,alH xs]
@[simp]theorem aq3(t:T):eH t.e=true:=by rw[T.e_eq];rfl
@[simp]theorem an6(t:T):cells t.e=[.int .i64 t.kind,.int .i64 t.int,.str t.name,.slice 4 .no (t.args.map T.e)]:=by rw[T.e_eq];rfl
@[simp]theorem apr(t:T):Pv.isAgg 4 t.e:=by rw[T.e_eq];exact⟨_,rfl,rfl⟩
def T.size:T->Nat
 | .pair a b=>1+a.size+b.size
 |_=>1
theorem T.size_pos(t:T):1<=t.size:=by cases t<;>simp[T.size]<;>omega
def low(b:c4):Bool:=decide (97<=b.toNat/\b.toNat<=122)
def mH(b:c4):Bool:=low b||decide (48<=b.toNat/\b.toNat<=57)||b.toNat==45
def ji(s:List c4):Bool:=decide (1<=s.length/\s.length<=12)&&low (s.getD 0 0)&&(s.drop 1).all mH
def T.ok:T->Bool
 | .nil=>true
 | .var n=>decide (0<=n/\n<=100000)
 | .sym s=>ji s
 | .num n=>decide (-1000000000<=n/\n<=1000000000)
 | .pair a b=>a.ok&&b.ok
def lg(k n:Int)(s:List c4):Bool:=if k=0 then n==0&&s==[]else if k=1 then decide (0<=n/\n<=100000)&&s==[]else if k=2 then n==0&&ji s else if k=3 then decide (-1000000000<=n/\n<=1000000000)&&s==[]else false
def ft:b5->Int->Int
 | .mk k n s [a,b],room=>if room<1\/k≠4\/n≠0\/s≠[]then-1 else if ft a (room-1)<0 then-1 else if ft b (room-1-ft a (room-1))<0 then-1 else 1+ft a (room-1)+ft b (room-1-ft a (room-1))
 | .mk k n s args,room=>if room<1\/k=4\/args≠[]\/lg k n s=false then-1 else 1
theorem Lz(k n:Int)(s:List c4)(args:List b5)(room:Int):ft (.mk k n s args) room=if room<1 then-1 else if k≠4 then(if args≠[]then-1 else if lg k n s then 1 else-1)else if n≠0\/s≠[]then-1 else match args with
  |[a,b]=>if ft a (room-1)<0 then-1 else if ft b (room-1-ft a (room-1))<0 then-1 else 1+ft a (room-1)+ft b (room-1-ft a (room-1))
  |_=> -1:=by
 match args with
 |[]=>simp only[ft];by_cases J:room<1<;>by_cases U:k=4<;>by_cases al:lg k n s=true<;>simp[J,U,al]
 |[a]=>simp[ft]
 |[a,b]=>simp only[ft];by_cases J:room<1<;>by_cases U:k=4<;>simp[J,U]
 |a::b::c::r=>simp[ft]
theorem GB:∀(t:T) (room:Int),ft t.tm room=if t.ok=true/\(t.size:Int)<=room then(t.size:Int)else-1
 | .nil,room=>by simp[T.tm,ft,T.ok,T.size,lg];split<;>rename_i h<;>simp_all<;>omega
 | .var n,room=>by simp[T.tm,ft,T.ok,T.size,lg];split<;>split<;>simp_all<;>omega
 | .sym s,room=>by simp[T.tm,ft,T.ok,T.size,lg];by_cases J:room<1<;>by_cases U:ji s=true<;>simp[J,U]<;>omega
 | .num n,room=>by simp[T.tm,ft,T.ok,T.size,lg];split<;>split<;>simp_all<;>omega
 | .pair a b,room=>by
  have a7:=a.size_pos;have ab:=b.size_pos;simp only[T.tm,ft,GB a,GB b,T.ok,T.size,ct];by_cases J:room<1
  ·simp[J];omega
  ·by_cases U:a.ok=true/\(a.size:Int)<=room-1
   ·rw[if_pos U];by_cases al:b.ok=true/\(b.size:Int)<=room-1-a.size
    ·rw[if_pos al];simp[J,U.1,al.1];split<;>omega
    ·rw[if_neg al];simp[J,U.1];intro lB;have:=al;simp[lB]at this;omega
   ·rw[if_neg U];simp[J];intro ld;have:=U;simp[ld]at this;omega
theorem Dd:∀(t:b5) (room:Int),ft t room= -1\/1<=ft t room
 | .mk k n s [a,b],room=>by
  simp only[ft];split
  ·exact .inl rfl
  ·split
   ·exact .inl rfl
   ·split
    ·exact .inl rfl
    ·right;omega
 | .mk k n s [],room=>by simp only[ft];split<;>simp
 | .mk k n s [a],room=>by simp[ft]
 | .mk k n s (a::b::c::r),room=>by simp[ft]
theorem LB:∀(t:b5) (room:Int),0<ft t room->∃x:T,x.tm=t
 | .mk k n s [a,b],room,h=>by
  simp only[ft]at h;split at h
  ·omega
  ·rename_i J;simp only[not_or,Int.not_lt,ne_eq,arB]at J;obtain⟨J,rfl,rfl,rfl⟩:=J;split at h
   ·omega
   ·split at h
    ·omega
    ·obtain⟨x,rfl⟩:=LB a (room-1) (by rcases Dd a (room-1)with h|h<;>omega);obtain⟨y,rfl⟩:=LB b (room-1-ft x.tm (room-1)) (by rcases Dd b (room-1-ft x.tm (room-1))with h|h<;>omega);exact⟨.pair x y,rfl⟩
 | .mk k n s [],room,h=>by
  simp only[ft]at h;split at h
  ·omega
  ·rename_i J;simp only[not_or,ne_eq,not_true_eq_false,not_false_eq_true,true_and,Bool.not_eq_false]at J;obtain⟨_,_,J⟩:=J;unfold lg at J;split at J
   ·rename_i e;subst e;simp at J;obtain⟨rfl,rfl⟩:=J;exact⟨.nil,rfl⟩
   ·split at J
    ·rename_i e;subst e;simp at J;obtain⟨_,rfl⟩:=J;exact⟨.var n,rfl⟩
    ·split at J
     ·rename_i e;subst e;simp at J;obtain⟨rfl,_⟩:=J;exact⟨.sym s,rfl⟩
     ·split at J
      ·rename_i e;subst e;simp at J;obtain⟨_,rfl⟩:=J;exact⟨.num n,rfl⟩
      ·cases J
 | .mk k n s [a],room,h=>by simp[ft]at h
 | .mk k n s (a::b::c::r),room,h=>by simp[ft]at h
theorem LA:∀(t:b5) (room:Int),ft t room<=room\/ft t room= -1
 | .mk k n s [a,b],room=>by
  simp only[ft];split
  ·exact .inr rfl
  ·split
   ·exact .inr rfl
   ·split
    ·exact .inr rfl
    ·rcases LA b (room-1-ft a (room-1))with h|h<;>omega
 | .mk k n s [],room=>by simp only[ft];split<;>simp;rename_i h;omega
 | .mk k n s [a],room=>by simp[ft]
 | .mk k n s (a::b::c::r),room=>by simp[ft]
mutual
def b5.sz:b5->Nat
 | .mk _ _ _ a=>1+b5.szL a
def b5.szL:List b5->Nat
 |[]=>0
 |x::xs=>x.sz+b5.szL xs
end
theorem W8:∀{l:List b5} {x:b5},x∈l->x.sz<=b5.szL l
 |y::l,x,h=>by
  rcases fI.1 h with rfl|h
  ·simp[b5.szL]
  ·have:=W8 h;simp[b5.szL];omega
theorem alM{t x:b5}(h:x∈t.args):x.sz<t.sz:=by cases t;simp[b5.args]at h;have:=W8 h;simp[b5.sz];omega
def T.fit(t:T):Bool:=t.ok&&decide (t.size<=5000)
def b5.fits(t:b5):Bool:=decide (0<ft t 5000)
theorem b5.fits_T(t:T):t.tm.fits=t.fit:=by
 unfold b5.fits T.fit;rw[GB];have:=t.size_pos;by_cases J:t.ok=true<;>by_cases U:t.size<=5000
 ·rw[if_pos ⟨J,Ω⟩];simp[J,U];omega
 ·rw[if_neg Ω];simp[U]
 ·rw[if_neg (by simp[J])];simp[J]
 ·rw[if_neg (by simp[J])];simp[J]
theorem b5.fits_ex{t:b5}(h:t.fits=true):∃x:T,x.tm=t/\x.fit=true:=by obtain⟨x,rfl⟩:=LB t 5000 (by simpa[b5.fits]using h);exact⟨x,rfl,by rw[<-b5.fits_T];exact h⟩
structure ak where
 v:Int
 t:T
 deriving DecidableEq,Inhabited
def ak.e(b:ak):ai:= .agg [.int .i64 b.v,.int .i64 b.t.kind,.int .i64 b.t.int,.str b.t.name,.slice 4 .no (b.t.args.map T.e)]
@[simp]theorem ak.eta(b:ak):ak.mk b.v b.t=b:=rfl
@[simp]theorem N0(v:Int)(t:T):ai.agg [.int .i64 v,.int .i64 t.kind,.int .i64 t.int,.str t.name,.slice 4 .no (t.args.map T.e)]=(ak.mk v t).e:=rfl
@[simp]theorem anp(v:Int):ai.agg [.int .i64 v,.int .i64 0,.int .i64 0,.str [],.slice 4 .no []]=(ak.mk v .nil).e:=rfl
@[simp]theorem ant(v n:Int):ai.agg [.int .i64 v,.int .i64 1,.int .i64 n,.str [],.slice 4 .no []]=(ak.mk v (.var n)).e:=rfl
@[simp]theorem ans(v:Int)(s:List c4):ai.agg [.int .i64 v,.int .i64 2,.int .i64 0,.str s,.slice 4 .no []]=(ak.mk v (.sym s)).e:=rfl
@[simp]theorem anq(v n:Int):ai.agg [.int .i64 v,.int .i64 3,.int .i64 n,.str [],.slice 4 .no []]=(ak.mk v (.num n)).e:=rfl
@[simp]theorem anr(v:Int)(a b:T):ai.agg [.int .i64 v,.int .i64 4,.int .i64 0,.str [],.slice 4 .no [a.e,b.e]]=(ak.mk v (.pair a b)).e:=rfl
@[simp]theorem apL(S:aL->Prop)(b:ak):aJ S b.e=True:=by simp[ak.e,-N0]
@[simp]theorem arl(b:ak):ev b.e=b.e:=by simp[ak.e,-N0]
theorem TU(S:aL->Prop):∀l:List ak,aP S (l.map ak.e)
 |[]=>by simp[aP]
 |x::xs=>by simp[aP,TU S xs]
@[simp]theorem apE(S:aL->Prop)(l:List ak):aP S (l.map ak.e)=True:=eq_true (TU S l)
@[simp]theorem W4:∀l:List ak,dr (l.map ak.e)=l.map ak.e
 |[]=>rfl
 |x::xs=>by simp[dr,W4 xs]
@[simp]theorem aqW(b:ak):eH b.e=true:=rfl
@[simp]theorem an1(b:ak):cells b.e=[.int .i64 b.v,.int .i64 b.t.kind,.int .i64 b.t.int,.str b.t.name,.slice 4 .no (b.t.args.map T.e)]:=rfl
@[simp]theorem apn(b:ak):Pv.isAgg 5 b.e:=⟨_,rfl,rfl⟩
@[simp]theorem aoE(off:Nat)(fV:Bool)(sz:Nat)(b:ak):ui off fV sz b.e=if fV then some (off+sz<=5,.agg (([.int .i64 b.v,.int .i64 b.t.kind,.int .i64 b.t.int,.str b.t.name,.slice 4 .no (b.t.args.map T.e)].drop off).take sz))else(([.int .i64 b.v,.int .i64 b.t.kind,.int .i64 b.t.int,.str b.t.name,.slice 4 .no (b.t.args.map T.e)]:List ai)[off]?).map fun p=>(True,p):=rfl
@[simp]theorem aov(off:Nat)(fV:Bool)(sz:Nat)(b:ak):qJ off fV sz (.eptr b.e)=if fV then some (off+sz<=5,.eptr (.agg (([.int .i64 b.v,.int .i64 b.t.kind,.int .i64 b.t.int,.str b.t.name,.slice 4 .no (b.t.args.map T.e)].drop off).take sz)))else(([.int .i64 b.v,.int .i64 b.t.kind,.int .i64 b.t.int,.str b.t.name,.slice 4 .no (b.t.args.map T.e)]:List ai)[off]?).map fun p=>(eH p=true/\cells p=[p],.eptr p):=rfl
def T.occ(v:Int):T->Bool
 | .var n=>n==v
 | .pair a b=>a.occ v||b.occ v
 |_=>false
def eu(a b:Int):Int:=if a<b then-1 else if b<a then 1 else 0
def kI(a b:List c4):Int:=if a=b then 0 else if ht a b then-1 else 1
def ep:T->T->Int
 | .pair a b,.pair c d=>if ep a c=0 then ep b d else ep a c
 |x,y=>if x.kind≠y.kind then eu x.kind y.kind else if x.int≠y.int then eu x.int y.int else kI x.name y.name
structure dO where
 v:Int
 t:b5
def dO.e(b:dO):ai:= .agg [.int .i64 b.v,.int .i64 b.t.kind,.int .i64 b.t.num,.str b.t.name,.slice 4 .no (b.t.args.map enc)]
def ak.b(b:ak):dO:=⟨b.v,b.t.tm⟩
theorem ak.b_e(b:ak):b.b.e=b.e:=by obtain⟨v,t⟩:=b;cases t<;>simp only[ak.b,dO.e,ak.e,T.tm,b5.kind,b5.num,b5.name,b5.args,rs,agN,agR,agQ,agO,agP,agc,agh,agf,agd,age,ahD,ahH,ahG,ahE,ahF,YF,YJ,YI,YG,YH,eO,hn]
@[simp]theorem dO.eta(b:dO):dO.mk b.v b.t=b:=rfl
@[simp]theorem N1(v:Int)(t:b5):ai.agg [.int .i64 v,.int .i64 t.kind,.int .i64 t.num,.str t.name,.slice 4 .no (t.args.map enc)]=(dO.mk v t).e:=rfl
@[simp]theorem apM(S:aL->Prop)(b:dO):aJ S b.e=True:=by simp[dO.e,-N1]
@[simp]theorem arn(b:dO):ev b.e=b.e:=by simp[dO.e,-N1]
theorem TV(S:aL->Prop):∀l:List dO,aP S (l.map dO.e)
 |[]=>by simp[aP]
 |x::xs=>by simp[aP,TV S xs]
@[simp]theorem apF(S:aL->Prop)(l:List dO):aP S (l.map dO.e)=True:=eq_true (TV S l)
@[simp]theorem alG:∀l:List dO,dr (l.map dO.e)=l.map dO.e
 |[]=>rfl
 |x::xs=>by simp[dr,alG xs]
@[simp]theorem aqY(b:dO):eH b.e=true:=rfl
@[simp]theorem an3(b:dO):cells b.e=[.int .i64 b.v,.int .i64 b.t.kind,.int .i64 b.t.num,.str b.t.name,.slice 4 .no (b.t.args.map enc)]:=rfl
@[simp]theorem apq(b:dO):Pv.isAgg 5 b.e:=⟨_,rfl,rfl⟩
@[simp]theorem aoF(off:Nat)(fV:Bool)(sz:Nat)(b:dO):ui off fV sz b.e=if fV then some (off+sz<=5,.agg (([.int .i64 b.v,.int .i64 b.t.kind,.int .i64 b.t.num,.str b.t.name,.slice 4 .no (b.t.args.map enc)].drop off).take sz))else(([.int .i64 b.v,.int .i64 b.t.kind,.int .i64 b.t.num,.str b.t.name,.slice 4 .no (b.t.args.map enc)]:List ai)[off]?).map fun p=>(True,p):=rfl
@[simp]theorem aow(off:Nat)(fV:Bool)(sz:Nat)(b:dO):qJ off fV sz (.eptr b.e)=if fV then some (off+sz<=5,.eptr (.agg (([.int .i64 b.v,.int .i64 b.t.kind,.int .i64 b.t.num,.str b.t.name,.slice 4 .no (b.t.args.map enc)].drop off).take sz)))else(([.int .i64 b.v,.int .i64 b.t.kind,.int .i64 b.t.num,.str b.t.name,.slice 4 .no (b.t.args.map enc)]:List ai)[off]?).map fun p=>(eH p=true/\cells p=[p],.eptr p):=rfl
def Am(l:List dO)(i:Nat):Prop:= ∀b,l[i]? =some b->(0<=b.v/\b.v<=100000)/\(∀c,0<i->l[i-1]? =some c->c.v<b.v)/\b.t.fits=true
def vj(l:List dO):Prop:=l.length<=400/\∀i,i<l.length->Am l i
theorem q1:∀a b:T,ep a b=0↔a=b
 | .pair a b,.pair c d=>by
  simp only[ep,T.pair.injEq];split
  ·rename_i h;rw[q1 b d,<-q1 a c];simp[h]
  ·rename_i h;simp[h,<-q1 a c]
 | .nil,y=>by cases y<;>simp[ep,eu,kI]
 | .var n,y=>by cases y<;>simp[ep,eu,kI]<;>omega
 | .sym s,y=>by cases y<;>simp[ep,eu,kI];rename_i ah;by_cases h:s=ah<;>simp[h];by_cases U:ht s ah=true<;>simp[U]
 | .num n,y=>by cases y<;>simp[ep,eu,kI]<;>omega
 | .pair a b,.nil| .pair a b,.var _| .pair a b,.sym _| .pair a b,.num _=>by simp[ep,eu]
def T.sub(f:Int->Option T):T->T
 | .var n=>match f n with|some x=>x|none=>.var n
 | .pair a b=>.pair (a.sub f) (b.sub f)
 |t=>t
def lj(f:Int->Int):T->Int
 | .var n=>if 5001<f n then 5001 else f n
 | .pair a b=>if 5000<lj f a then lj f a else if 5001<1+lj f a+lj f b then 5001 else 1+lj f a+lj f b
 |_=>1
theorem Hw(f:Int->Int)(aO:∀v,-1<=f v):∀t,-1<=lj f t/\lj f t<=5001
 | .var n=>by have:=aO n;simp only[lj];split<;>omega
 | .pair a b=>by have:=Hw f aO a;have:=Hw f aO b;simp only[lj];split<;>(try split)<;>omega
 | .nil| .sym _| .num _=>by simp[lj]
def dc(l:List ak)(v:Int):Option T:=(l.find? fun b=>b.v==v).map (·.t)
end
end Go.Pv
namespace Go.Proofs.YtohaalphocaebaaGreat
section
open Go Go.Pv
structure dz where
 d:List Int
 i:Nat
 h:Int
def hZ(d:List Int):List ai:=d.map (ai.int .u8)
def dz.e(c:dz):List ai:=[.slice 1 .no (hZ c.d),.int .i64 c.i,.int .i64 c.h]
def bK(c:dz):cM:=⟨[(.obj 401,c.e)],[]⟩
@[simp]theorem apz(S:aL->Prop)(d:List Int):aP S (hZ d)=True:=by
 apply eq_true;induction d with
 |nil=>simp[-bh,-be,hZ,aP]
 |cons x r bO=>simp only[hZ,eO,aP,aJ]at bO⊢;exact⟨trivial,bO⟩
@[simp]theorem aro(d:List Int):dr (hZ d)=hZ d:=by
 induction d with
 |nil=>rfl
 |cons x r bO=>simp only[hZ,eO,dr,ev]at bO⊢;rw[bO]
@[simp]theorem anX(d:List Int):(hZ d).length=d.length:=by simp[-bh,-be,hZ]
theorem Ir{d:List Int}{i:Nat}{x:Int}(h:d[i]? =some x):(hZ d)[i]? =some (.int .u8 x):=by simp[-bh,-be,hZ,h]
theorem e5(c:dz):dN (bK c):=by unfold bK;exact dN.of ⟨by intro m;simp[-bh,-be,Pv.look],by intro m;simp[-bh,-be,Pv.look]⟩ (by simp[-bh,-be,dz.e,aP,aJ]) (by simp[-bh,-be])
theorem fT(c cl:dz):Same (bK c) (bK cl):=by refine⟨fun k=>?_,fun k=>rfl⟩;simp only[bK,Pv.look];split<;>rfl
def sL(d:List Int):Prop:= ∀x∈d,0<=x/\x<256
def Aj(h:Int):Int:=mj.wrap (mj.wrap (h*6364136223846793005)+1442695040888963407)
def xe(k:IntKind)(a b:Int):Int:=k.wrap (lS k.bits a&&& lS k.bits b).toNat
def XX(k:IntKind)(a b:Int):Int:=k.wrap (lS k.bits a ^^^ lS k.bits b).toNat
def MR(k:IntKind)(a b:Int):Int:=a.fdiv (2 ^ (min b.toNat k.bits))
section
variable (a b:Int)
@[simp]theorem anF:be .add false (.int .i64 a) (.int .i64 b)=some (p5 (a+b),.int .i64 (a+b)):=by unfold be bh;simp[-bh,-be]
@[simp]theorem anG:be .add true (.int .i64 a) (.int .i64 b)=some (True,.int .i64 (mj.wrap (a+b))):=rfl
@[simp]theorem anT:be .sub false (.int .i64 a) (.int .i64 b)=some (p5 (a-b),.int .i64 (a-b)):=by unfold be bh;simp[-bh,-be]
@[simp]theorem anN:be .mul false (.int .i64 a) (.int .i64 b)=some (p5 (a*b),.int .i64 (a*b)):=by unfold be bh;simp[-bh,-be]
@[simp]theorem anO:be .mul true (.int .i64 a) (.int .i64 b)=some (True,.int .i64 (mj.wrap (a*b))):=rfl
@[simp]theorem anQ:be .quo false (.int .i64 a) (.int .i64 b)=some (b≠0,.int .i64 (mj.wrap (a.tdiv b))):=rfl
@[simp]theorem anR:be .rem false (.int .i64 a) (.int .i64 b)=some (b≠0,.int .i64 (a.tmod b)):=rfl
@[simp]theorem anI:be .eql false (.int .i64 a) (.int .i64 b)=some (True,.bool (a==b)):=rfl
@[simp]theorem anP:be .neq false (.int .i64 a) (.int .i64 b)=some (True,.bool (a !=b)):=rfl
@[simp]theorem anM:be .lss false (.int .i64 a) (.int .i64 b)=some (True,.bool (decide (a<b))):=rfl
@[simp]theorem anL:be .leq false (.int .i64 a) (.int .i64 b)=some (True,.bool (decide (a<=b))):=rfl
@[simp]theorem anK:be .gtr false (.int .i64 a) (.int .i64 b)=some (True,.bool (decide (b<a))):=rfl
@[simp]theorem anJ:be .geq false (.int .i64 a) (.int .i64 b)=some (True,.bool (decide (b<=a))):=rfl
@[simp]theorem anH:be .and false (.int .i64 a) (.int .i64 b)=some (True,.int .i64 (xe .i64 a b)):=rfl
@[simp]theorem anU:be .xor false (.int .i64 a) (.int .i64 b)=some (True,.int .i64 (XX .i64 a b)):=rfl
@[simp]theorem anS(k:IntKind):be .shr false (.int .i64 a) (.int k b)=some (0<=b,.int .i64 (MR .i64 a b)):=rfl
end
theorem Ig(x m:Int)(bA:0<=m)(J:m<9223372036854775807):0<=xe .i64 x m/\xe .i64 x m<=m:=by
 have hm:(lS 64 m).toNat=m.toNat:=by rw[BitVec.toNat_ofInt];omega
 have h:(lS 64 x&&& lS 64 m).toNat<=m.toNat:=by rw[BitVec.toNat_and,hm];exact Nat.and_le_right
 unfold xe;rw[show mj.bits=64 from rfl,ml _ Ω];omega
def x7(h:Int):Int:=xe .i64 (XX .i64 (MR .i64 h 33) (MR .i64 h 45)) 255
theorem UG(h:Int):0<=x7 h/\x7 h<=255:=Ig _ _ Ω Ω
def dz.byte(c:dz):Int:=match c.d[c.i]? with|some x=>xe .i64 (x7 (Aj c.h)+x) 255|none=>x7 (Aj c.h)
def dz.next(c:dz):dz:=⟨c.d,if c.i<c.d.length then c.i+1 else c.i,Aj c.h⟩
theorem dz.byte_le(c:dz):0<=c.byte/\c.byte<=255:=by
 unfold dz.byte;split
 ·exact Ig _ _ Ω Ω
 ·exact UG _
structure dz.ok (c:dz):Prop where
 d:sL c.d
 l:c.d.length<=10000000
 i:c.i<=c.d.length
theorem dz.ok.next{c:dz}(h:c.ok):c.next.ok:=⟨h.d,h.l,by have:=h.i;simp only[dz.next];split<;>omega⟩
theorem RH(c:dz)(aq:c.ok):bJ ay 53 [.ptr (.obj 401) 0] (bK c) fun r ah=>r= .int .i64 c.byte/\ah=bK c.next:=by
 have af:=e5 c;have eL:=e5 c.next;have dT:=fT c c.next;obtain⟨d,i,h⟩:=c;obtain⟨aG,au,hi⟩:=aq;simp only at aG au hi;have rR:=UG (Aj h);simp only[x7]at rR;by_cases bt:i<d.length
 ·obtain⟨x,ae⟩:∃x,d[i]? =some x:=⟨_,cr bt⟩;have ky:∀h,(hZ d)[i]'h= .int .u8 x:=fun h=>by have:=Ir ae;rw[cr h]at this;simpa using this
  have rY:=aG x (eZ ae);have hw:mj.wrap x=x:=ml _ Ω;simp only[bK,dz.e,dz.next,bt,if_true]at af eL dT⊢;refine bJ.mk mixed vg Rh U4 (by simp[-bh,-be]) af.obj fun aR cE=>?_;unfold IH;simp[-bh,-be,bt,ky,hw,<-Aj.eq_1];(with_reducible repeat' first|((first|apply bD|apply bH|apply bG)<;>intro h<;>try simp[-bh,-be]at h)|refine aj ?_|simp[-bh,-be]);refine cI.at _ (.inl rfl) eL dT aE aE ?_;simp[-bh,-be,cL,Mi,aT,aU,aS];simp[-bh,-be,dz.byte,ae,x7]
 ·have ae:d[i]? =none:=by simp[-bh,-be];omega
  simp only[bK,dz.e,dz.next,bt,if_false]at af eL dT⊢;refine bJ.mk mixed vg Rh U4 (by simp[-bh,-be]) af.obj fun aR cE=>?_;unfold IH;simp[-bh,-be,bt,<-Aj.eq_1];(with_reducible repeat' first|((first|apply bD|apply bH|apply bG)<;>intro h<;>try simp[-bh,-be]at h)|refine aj ?_|simp[-bh,-be]);refine cI.at _ (.inl rfl) eL dT aE aE ?_;simp[-bh,-be,cL,Mi,aT,aU,aS];simp[-bh,-be,dz.byte,ae,x7]
end
section
open Go Go.Pv
def agn(s:List c4)(k:Nat)(st:bo):Prop:=∃i:Nat,1<=i/\i<=s.length/\k=s.length-i/\((s.drop 1).all mH=(s.drop i).all mH)/\st=⟨[(0,.str s),(3,.int .i64 i)],[],[],0,[]⟩
theorem tK(s:List c4):bZ ay 128 [.str s] (.bool (ji s)):=by
 refine bZ.mk mixed fF aa3 ahV Ψ d7 fun ab=>?_;unfold OG;simp;(with_reducible repeat' first|((first|refine bD (fun h=>?_) fun h=>?_|refine bH (fun h=>?_) fun h=>?_|refine bG (fun h=>?_) fun h=>?_)<;>try simp at h)|refine aj ?_|simp);case refine_1.refine_1.refine_1.refine_2=>
  have afj:ji s=(s.drop 1).all mH:=by simp[ji,low];omega
  rw[afj];refine mZ (agn s) (s.length-1) _ ⟨Ψ,by simp[gV],by simp[nz],Ψ⟩ ⟨1,Ω,Ω,rfl,rfl,rfl⟩ ?_;rintro k st ⟨i,l3,hE,ad,lA,rfl⟩ jf cE;rw[lA];simp;refine bD (fun bt=>?_) (fun vE=>?_)
  ·simp at bt;have aG:s.drop i=s[i]?.getD 0::s.drop (i+1):=by rw[k4 bt];simp[bt]
   simp;(with_reducible repeat' first|((first|refine bD (fun h=>?_) fun h=>?_|refine bH (fun h=>?_) fun h=>?_|refine bG (fun h=>?_) fun h=>?_)<;>try simp at h)|refine aj ?_|simp);all_goals first
    |(simp[bn,GV,aT,aU,aS,aG,mH,low];omega)
    |(simp only[Eh];refine⟨s.length-(i+1),_,Ω,⟨Ψ,by simp[gV],by simp[nz],Ψ⟩,i+1,Ω,Ω,rfl,?_,rfl⟩;rw[lA,aG];simp[mH,low];omega)
  ·simp at vE;have:s.drop i=[]:=by simp;omega
   simp[bn,GV,aT,aU,aS,this]
 all_goals simp[bn,GV,aT,aU,aS,ji,low]
 all_goals omega
theorem XI(m:Nat):∀(t:b5),t.sz<=m->∀(room:Int),0<=room/\room<=10000->bZ ay 194 [enc t,.int .i64 room] (.int .i64 (ft t room)):=by
 induction m with
 |zero=>intro t aI;cases t;simp[b5.sz]at aI
 |succ m bO=>
 rintro⟨k,n,s,args⟩ aI room rU;refine bE fF abE aiw fun aR=>?_;unfold Pg;simp[b5.kind,b5.num,b5.name,b5.args];(with_reducible repeat' first|((first|refine bD (fun h=>?_) fun h=>?_|refine bH (fun h=>?_) fun h=>?_|refine bG (fun h=>?_) fun h=>?_)<;>try simp at h)|refine aj ?_|simp);all_goals try refine cA.val Ψ (tK _) ?_
 all_goals try simp
 (with_reducible repeat' first|((first|refine bD (fun h=>?_) fun h=>?_|refine bH (fun h=>?_) fun h=>?_|refine bG (fun h=>?_) fun h=>?_)<;>try simp at h)|refine aj ?_|simp);all_goals try simp[bn,G1,aT,aU,aS]
 case succ.refine_2.refine_2.refine_1.refine_1.refine_2=>
  rename_i bA J U al;match args,h with
  |[a,b],_=>
  simp[b5.sz,b5.szL]at aI;subst J U al;simp;(with_reducible repeat' first|((first|refine bD (fun h=>?_) fun h=>?_|refine bH (fun h=>?_) fun h=>?_|refine bG (fun h=>?_) fun h=>?_)<;>try simp at h)|refine aj ?_|simp);refine cA.val Ψ (bO a Ω (room-1) Ω) ?_;simp;have a7:=LA a (room-1);have ng:=Dd a (room-1);(with_reducible repeat' first|((first|refine bD (fun h=>?_) fun h=>?_|refine bH (fun h=>?_) fun h=>?_|refine bG (fun h=>?_) fun h=>?_)<;>try simp at h)|refine aj ?_|simp)
  ·simp[bn,G1,aT,aU,aS];rw[Lz];simp;omega
  ·refine cA.val Ψ (bO b Ω (room-1-ft a (room-1)) Ω) ?_;simp;have ab:=LA b (room-1-ft a (room-1));have fX:=Dd b (room-1-ft a (room-1));(with_reducible repeat' first|((first|refine bD (fun h=>?_) fun h=>?_|refine bH (fun h=>?_) fun h=>?_|refine bG (fun h=>?_) fun h=>?_)<;>try simp at h)|refine aj ?_|simp);all_goals simp[bn,G1,aT,aU,aS]
   all_goals rw[Lz];simp;omega
 all_goals rw[Lz]
 all_goals simp_all[lg]
 all_goals first|omega|(split<;>simp at h⊢)
theorem Nn(t:b5):bZ ay 117 [enc t] (.bool t.fits):=by refine bE fF abe ah6 fun aR=>?_;unfold OR;simp;refine cA.val Ψ (XI t.sz t (eC _) 5000 Ω) ?_;simp;simp[bn,Vv,aT,aU,aS];simp[b5.fits]
theorem amo(t:T):bZ ay 117 [t.e] (.bool t.fit):=by have:=Nn t.tm;rwa[rs,b5.fits_T]at this
theorem HQ(a b:T):bZ ay 225 [a.e,b.e] (T.pair a b).e:=by refine bE fF abH aiz fun aR=>?_;unfold Pk;simp;(with_reducible repeat' first|((first|refine bD (fun h=>?_) fun h=>?_|refine bH (fun h=>?_) fun h=>?_|refine bG (fun h=>?_) fun h=>?_)<;>try simp at h)|refine aj ?_|simp);all_goals try simp[bn,VQ,aT,aU,aS]
theorem A7(a b:T):bZ ay 114 [a.e,b.e] (T.pair a b).e:=by refine bE fF acz ajp fun aR=>?_;unfold Qb;simp;(with_reducible repeat' first|((first|refine bD (fun h=>?_) fun h=>?_|refine bH (fun h=>?_) fun h=>?_|refine bG (fun h=>?_) fun h=>?_)<;>try simp at h)|refine aj ?_|simp);all_goals try simp[bn,Wa,aT,aU,aS]
theorem tL(t:T):bZ ay 200 [t.e] t.e:=by
 induction t with
 |pair a b dB dC=>refine bE fF Ra UY fun aR=>?_;unfold Iw;exact c0
 |_=>refine bE fF Ra UY fun aR=>?_;unfold Iw;exact c0
theorem oa(a b:Int):bZ ay 232 [.int .i64 a,.int .i64 b] (.int .i64 (eu a b)):=by
 refine bE fF abG aiy fun aR=>?_;unfold Pj;simp;((with_reducible repeat' first|refine aj ?_|simp|((first|apply bD|apply bH|apply bG)<;>intro h<;>try simp at h))<;>(try exact b2));all_goals simp[bn,VP,aT,aU,aS]
 all_goals simp[eu]
 all_goals omega
theorem A9(a:T):∀b:T,bZ ay 170 [a.e,b.e] (.int .i64 (ep a b)):=by
 induction a with
 |pair bz a2 F2 F3=>
  intro b;cases b with
  |pair cf b9=>
   refine bE fF Jd LJ fun aR=>?_;unfold EH;simp;((with_reducible repeat' first|refine aj ?_|refine aC (F2 _) ?_|refine aD (F2 _) ?_|refine aC (F3 _) ?_|refine aD (F3 _) ?_|refine aC (oa _ _) ?_|refine aD (oa _ _) ?_|simp|((first|apply bD|apply bH|apply bG)<;>intro h<;>try simp at h))<;>(try exact b2));all_goals simp[bn,G2,aT,aU,aS]
   all_goals simp_all[ep]
  |_=>
   refine bE fF Jd LJ fun aR=>?_;unfold EH;simp;(with_reducible repeat' first|refine aj ?_|refine aC (oa _ _) ?_|refine aD (oa _ _) ?_|simp);all_goals simp[bn,G2,aT,aU,aS]
   all_goals simp_all[ep]
 |_=>
  intro b;cases b<;>
  (refine bE fF Jd LJ fun aR=>?_;unfold EH
   simp
   (with_reducible repeat' first|((first|apply bD|apply bH|apply bG)<;>intro h<;>try simp at h)|refine aj ?_|refine aC (oa _ _) ?_|refine aD (oa _ _) ?_|simp)
   all_goals simp[bn,G2,aT,aU,aS]
   all_goals simp_all[ep,kI])
theorem ss(a b:T):bZ ay 108 [a.e,b.e] (.bool (decide (a=b))):=by
 refine bE fF abt ail fun aR=>?_;unfold O5;simp;(with_reducible repeat' first|refine aj ?_|refine aC (A9 _ _) ?_|refine aD (A9 _ _) ?_|simp);all_goals simp[bn,VF,aT,aU,aS]
 have:=q1 a b;by_cases h:ep a b=0<;>simp_all
open Classical in
def ags(l:List dO)(k:Nat)(st:bo):Prop:=∃i:Nat,i<=l.length/\k=l.length-i/\(∀j,j<i->Am l j)/\st=⟨[(0,.slice 5 .no (l.map dO.e)),(8,.slice 5 .no (l.map dO.e)),(9,.int .i64 l.length),(10,.int .i64 i)],[],[],0,[]⟩
open Classical in
theorem Xt(l:List dO):bZ ay 100 [.slice 5 .no (l.map dO.e)] (.bool (decide (vj l))):=by
 refine bE fF abf ah7 fun aR=>?_;unfold OS;simp;(with_reducible repeat' first|((first|apply bD|apply bH|apply bG)<;>intro h<;>try simp at h)|refine aj ?_|simp)
 ·simp[bn,GW,aT,aU,aS];intro ck;have:=ck.1;omega
 ·refine mZ (ags l) l.length _ ⟨Ψ,by simp[gV],by simp[nz],Ψ⟩ ⟨0,Ω,Ω,Ψ,rfl⟩ ?_;rintro k st ⟨i,hi,ad,lA,rfl⟩ jf cE;simp;refine bD (fun bt=>?_) (fun vE=>?_)
  ·simp at bt;obtain⟨b,ab⟩:∃b,l[i]? =some b:=⟨_,cr bt⟩;obtain⟨c,aq⟩:∃c,l[i-1]? =some c:=⟨_,cr Ω⟩;clear jf cE;simp[ab,aq];((with_reducible repeat' first|refine aj ?_|refine aC (Nn _) ?_|refine aD (Nn _) ?_|simp[aq]|((first|apply bD|apply bH|apply bG)<;>intro h<;>try simp at h))<;>(try exact b2));all_goals first
    |(simp[bn,GW,aT,aU,aS];intro ck;have J:=ck.2 i bt b ab;have U:=J.2.1 c;have al:=J.2.2;first|omega|(have:=U Ω aq;omega)|(rw[al]at h;cases h)|simp_all)
    |(simp only[Eh];refine⟨l.length-(i+1),_,Ω,⟨Ψ,by simp[gV],by simp[nz],Ψ⟩,i+1,Ω,rfl,fun j ag=>?_,rfl⟩
      by_cases e:j=i
      ·subst e;intro b0 fX;rw[ab]at fX;cases fX;refine⟨Ω,fun cl bA hA=>?_,by assumption⟩;rw[aq]at hA;cases hA;omega
      ·exact lA j Ω)
  ·simp at vE;simp[bn,GW,aT,aU,aS];exact⟨Ω,fun j ag=>lA j Ω⟩
def dz.below(c:dz)(n:Int):Int:=if n<=0 then 0 else c.byte.tmod n
def dz.belowC(c:dz)(n:Int):dz:=if n<=0 then c else c.next
theorem dz.ok.below{c:dz}(h:c.ok)(n:Int):(c.belowC n).ok:=by unfold dz.belowC;split;exact h;exact h.next
theorem dz.below_le(c:dz)(n:Int)(az:0<n):0<=c.below n/\c.below n<n:=by have:=c.byte_le;unfold dz.below;rw[if_neg Ω];exact⟨Int.tmod_nonneg _ this.1,Int.tmod_lt_of_pos _ az⟩
theorem BU(c:dz)(aq:c.ok)(n:Int):bJ ay 110 [.ptr (.obj 401) 0,.int .i64 n] (bK c) fun r ah=>r= .int .i64 (c.below n)/\ah=bK (c.belowC n):=by
 have af:=e5 c;have dT:=fT c;refine bJ.mk mixed vg aco ajf (by simp[-bh,-be]) af.obj fun aR cE=>?_;unfold P1;unfold bK;simp[-bh,-be];(with_reducible repeat' first|((first|apply bD|apply bH|apply bG)<;>intro h<;>try simp[-bh,-be]at h)|refine aj ?_|simp[-bh,-be])
 ·(refine cI.at (bK (c)) (.inl rfl) (e5 _) (fT _ _) bv bv ?_;simp[-bh,-be,cL,Mh,aT,aU,aS,bK]);simp[-bh,-be,dz.below,dz.belowC,h]
 ·(refine cA.ob (RH c aq) (e5 _) bv bv dl ?_;rintro r ah ⟨rfl,rfl⟩;refine⟨fT _ _,?_⟩;unfold bK;simp[-bh,-be,bX]);((with_reducible repeat' first|refine aj ?_|simp[-bh,-be]|((first|apply bD|apply bH|apply bG)<;>intro h<;>try simp[-bh,-be]at h))<;>(try exact b2));(refine cI.at (bK (c.next)) (.inl rfl) (e5 _) (fT _ _) bv bv ?_;simp[-bh,-be,cL,Mh,aT,aU,aS,bK]);have:¬n<=0:=Ω
  simp[-bh,-be,dz.below,dz.belowC,this]
theorem Xz(n:Int):bZ ay 91 [.int .i64 n] (T.var n).e:=by refine bE fF Ri U5 fun aR=>?_;unfold IJ;simp[-bh,-be];simp[-bh,-be,bn,We,aT,aU,aS]
theorem Xy(n:Int):bZ ay 192 [.int .i64 n] (T.num n).e:=by refine bE vg acx ajn fun aR=>?_;unfold P9;simp[-bh,-be];simp[-bh,-be,bn,V9,aT,aU,aS]
theorem Nq(s:List c4):bZ ay 184 [.str s] (T.sym s).e:=by refine bE vg acC ajs fun aR=>?_;unfold Qe;simp[-bh,-be];simp[-bh,-be,bn,Wd,aT,aU,aS]
def rl(k:Int):T:=if k<2 then .num k else if k<5 then .sym (([[97],[98],[99]]:List (List c4)).getD (k-2).toNat [])else .nil
theorem adz(c:dz)(aq:c.ok):bJ ay 115 [.ptr (.obj 401) 0] (bK c) fun r ah=>r=(rl (c.below 7)).e/\ah=bK c.next:=by
 have af:=e5 c;have ab:=c.below_le 7 Ω;have uB:c.belowC 7=c.next:=by simp[-bh,-be,dz.belowC]
 refine bJ.mk mixed vg acr aji (by simp[-bh,-be]) af.obj fun aR cE=>?_;unfold P4;unfold bK;simp[-bh,-be];(refine cA.ob (BU c aq 7) (e5 _) bv bv dl ?_;rintro r ah ⟨rfl,rfl⟩;refine⟨fT _ _,?_⟩;unfold bK;simp[-bh,-be,bX]);rw[uB];generalize ad:c.below 7=k at ab⊢;obtain⟨bN,rfl⟩:∃bN:Nat,k=bN:=⟨k.toNat,Ω⟩;rcases(by omega:bN=0\/bN=1\/bN=2\/bN=3\/bN=4\/bN=5\/bN=6)with rfl|rfl|rfl|rfl|rfl|rfl|rfl;all_goals simp[-bh,-be]
 all_goals(with_reducible repeat' first|refine aj ?_|refine aC (Xy _) ?_|refine aD (Xy _) ?_|refine aC (Nq _) ?_|refine aD (Nq _) ?_|simp[-bh,-be])
 all_goals(refine cI.at (bK (c.next)) (.inl rfl) (e5 _) (fT _ _) bv bv ?_;simp[-bh,-be,cL,V7,aT,aU,aS,bK])
 all_goals simp[-bh,-be,rl]
def dY(size:Nat)(vars:Int)(c:dz):T×dz:=
 if 2<size/\3<=c.below 8 then
  (.pair (dY (size/2) vars c.next).1 (dY (size/2) vars (dY (size/2) vars c.next).2).1,(dY (size/2) vars (dY (size/2) vars c.next).2).2)
 else if 0<vars/\(c.below 8).tmod 2=0 then(.var (c.next.below vars),c.next.belowC vars)
 else(rl (c.next.below 7),c.next.next)
termination_by size
theorem E0(size:Nat)(vars:Int):∀c:dz,c.ok->(dY size vars c).2.ok:=by
 induction size using pO with
 |ind size bO=>
  intro c aq;rw[dY];split
  ·rename_i h;exact bO _ Ω _ (bO _ Ω _ aq.next)
  ·split
   ·exact aq.next.below _
   ·exact aq.next.next
theorem Jw(vars:Int)(av:vars<=1000000)(size:Nat)(bk:size<=1000000):∀(c:dz),c.ok->bJ ay 46 [.ptr (.obj 401) 0,.int .i64 size,.int .i64 vars] (bK c) fun r ah=>r=(dY size vars c).1.e/\ah=bK (dY size vars c).2:=by
 induction size using pO with
 |ind size bO=>
  intro c aq;have af:=e5 c;have ab:=c.below_le 8 Ω;have uB:c.belowC 8=c.next:=by simp[-bh,-be,dz.belowC]
  obtain⟨z,Ti⟩:∃z,z=size/2:=⟨_,rfl⟩;have hdiv:mj.wrap ((size:Int)/2)=(z:Int):=by rw[ml _ Ω];omega
  have s5:∀h:2<size/\3<=c.below 8,dY size vars c=(.pair (dY z vars c.next).1 (dY z vars (dY z vars c.next).2).1,(dY z vars (dY z vars c.next).2).2):=fun h=>by rw[dY,if_pos h,Ti]
  have aeM:∀(h:¬(2<size/\3<=c.below 8)) (ck:0<vars/\(c.below 8).tmod 2=0),dY size vars c=(.var (c.next.below vars),c.next.belowC vars):=fun h ck=>by rw[dY,if_neg h,if_pos ck]
  have aeJ:∀(h:¬(2<size/\3<=c.below 8)) (ck:¬(0<vars/\(c.below 8).tmod 2=0)),dY size vars c=(rl (c.next.below 7),c.next.next):=fun h ck=>by rw[dY,if_neg h,if_neg ck]
  have CJ:2<size->∀c:dz,c.ok->bJ ay 46 [.ptr (.obj 401) 0,.int .i64 z,.int .i64 vars] (bK c) fun r ah=>r=(dY z vars c).1.e/\ah=bK (dY z vars c).2:=fun h=>bO z Ω Ω;clear bO;refine bJ.mk mixed vg acu ajk (by simp[-bh,-be]) af.obj fun aR cE=>?_;unfold P6;unfold bK;simp[-bh,-be];(refine cA.ob (BU c aq 8) (e5 _) bv bv dl ?_;rintro r ah ⟨rfl,rfl⟩;refine⟨fT _ _,?_⟩;unfold bK;simp[-bh,-be,bX]);rw[uB];(with_reducible repeat' first|((first|apply bD|apply bH|apply bG)<;>intro h<;>try simp[-bh,-be]at h)|refine aj ?_|simp[-bh,-be,hdiv])
  ·rename_i U;(refine cA.ob (CJ Ω c.next aq.next) (e5 _) bv bv dl ?_;rintro r ah ⟨rfl,rfl⟩;refine⟨fT _ _,?_⟩;unfold bK;simp[-bh,-be,bX]);((with_reducible repeat' first|refine aj ?_|simp[-bh,-be,hdiv]|((first|apply bD|apply bH|apply bG)<;>intro h<;>try simp[-bh,-be]at h))<;>(try exact b2));(refine hW.ob (CJ Ω (dY z vars c.next).2 (E0 _ _ _ aq.next)) (e5 _) (e5 _) (fT _ _) bv bv dl ?_;unfold bK;simp[-bh,-be,bX]);(with_reducible repeat' first|refine aj ?_|refine aC (A7 _ _) ?_|refine aD (A7 _ _) ?_|simp[-bh,-be]);rw[s5 Ω];(refine cI.at (bK ((dY z vars (dY z vars c.next).2).2)) (.inl rfl) (e5 _) (fT _ _) bv bv ?_;simp[-bh,-be,cL,G4,aT,aU,aS,bK])
  all_goals first
   |(rw[aeM Ω ⟨Ω,by assumption⟩];(refine cA.ob (BU c.next aq.next vars) (e5 _) bv bv dl ?_;rintro r ah ⟨rfl,rfl⟩;refine⟨fT _ _,?_⟩;unfold bK;simp[-bh,-be,bX]);(with_reducible repeat' first|refine aj ?_|refine aC (Xz _) ?_|refine aD (Xz _) ?_|simp[-bh,-be]);(refine cI.at (bK (c.next.belowC vars)) (.inl rfl) (e5 _) (fT _ _) bv bv ?_;simp[-bh,-be,cL,G4,aT,aU,aS,bK]);done)
   |(rw[aeJ Ω (by rintro⟨J,U⟩;first|omega|contradiction|(simp_all;done))];(refine cA.ob (adz c.next aq.next) (e5 _) bv bv dl ?_;rintro r ah ⟨rfl,rfl⟩;refine⟨fT _ _,?_⟩;unfold bK;simp[-bh,-be,bX]);(with_reducible repeat' first|refine aj ?_|simp[-bh,-be]);(refine cI.at (bK (c.next.next)) (.inl rfl) (e5 _) (fT _ _) bv bv ?_;simp[-bh,-be,cL,G4,aT,aU,aS,bK]);done)
def AP:List Int->Int->Int
 |[],h=>h
 |x::r,h=>AP r (xe .i64 (h*131+x+7) 1073741823)
def wu(d:List Int):dz:=⟨d,0,AP (d.take 4000) (90411+d.length)⟩
def agp(d:List Int)(k:Nat)(st:bo):Prop:=∃(i:Nat) (h:Int),i<=d.length/\i<=4000/\k=d.length-i/\0<=h/\h<=2000000000/\AP ((d.take 4000).drop i) h=AP (d.take 4000) (90411+d.length)/\st=⟨[(0,.slice 1 .no (hZ d)),(3,.int .i64 h),(4,.int .i64 i)],[],[],0,[]⟩
theorem ady(d:List Int)(aG:sL d)(au:d.length<=10000000):bJ ay 113 [.slice 1 .no (hZ d)] ⟨[],[]⟩ fun r ah=>r= .ptr (.obj 401) 0/\ah=bK (wu d):=by
 have af:dN ⟨[],[]⟩:=(dN.of ⟨by intro m;simp[-bh,-be,Pv.look],by intro m;simp[-bh,-be,Pv.look]⟩ (by simp[-bh,-be,aP,aJ,inObs,Pv.look]) (by simp[-bh,-be,aP,aJ,inObs,Pv.look]));refine bJ.mk mixed vg acq ajh (by simp[-bh,-be]) af.obj fun aR cE=>?_;unfold P3;simp[-bh,-be];(with_reducible repeat' first|refine aj ?_|simp[-bh,-be]);refine mZ (agp d) d.length _ ⟨by simp[-bh,-be],by simp[-bh,-be,gV],by simp[-bh,-be,nz],by simp[-bh,-be]⟩ ⟨0,90411+d.length,Ω,Ω,Ω,Ω,Ω,by simp[-bh,-be],rfl⟩ ?_;rintro k st ⟨i,g,hi,ao1,ad,bA,J,jg,rfl⟩ jf cE;clear jf cE;have s6:¬(i<d.length/\i<4000)->g=AP (d.take 4000) (90411+d.length):=by intro az;rw[List.drop_of_length_le (by simp[-bh,-be];omega)]at jg;exact jg
 have jY:¬(i<d.length/\i<4000)->wu d=⟨d,0,g⟩:=fun az=>by simp[-bh,-be,wu,s6 az]
 simp[-bh,-be];(with_reducible repeat' first|((first|apply bD|apply bH|apply bG)<;>intro h<;>try simp[-bh,-be]at h)|refine aj ?_|simp[-bh,-be])
 ·have bt:i<d.length:=Ω
  obtain⟨x,ae⟩:∃x,d[i]? =some x:=⟨_,cr bt⟩;have ky:∀h,(hZ d)[i]'h= .int .u8 x:=fun h=>by have:=Ir ae;rw[cr h]at this;simpa using this
  have rY:=aG x (eZ ae);have hw:mj.wrap x=x:=ml _ Ω;have pZ:=Ig (g*131+x+7) 1073741823 Ω Ω;simp[-bh,-be,Ir ae,hw];(with_reducible repeat' first|refine aj ?_|simp[-bh,-be]);refine bR.next (d.length-(i+1)) Ω ⟨i+1,_,Ω,Ω,rfl,pZ.1,Ω,?_,rfl⟩ ⟨by simp[-bh,-be],by simp[-bh,-be,gV],by simp[-bh,-be,nz],by simp[-bh,-be]⟩;rw[<-jg,k4 (l:=d.take 4000) (i:=i) (by simp[-bh,-be];omega)];have:(d.take 4000)[i]'(by simp[-bh,-be];omega)=x:=by have:=ae;rw[cr bt]at this;simpa using this
  rw[this,AP]
 all_goals rw[jY Ω]
 all_goals refine cI.new (bK ⟨d,0,g⟩) (.inl rfl) (e5 _) (by simp[-bh,-be,j0]) bv bv ?_
 all_goals simp[-bh,-be,cL,V6,aT,aU,aS,bK,inObs,Pv.look]
def sj:Nat->dz->dz
 |0,c=>c
 |n+1,c=>(sj n c).next
theorem MT{c:dz}(h:c.ok):∀n,(sj n c).ok
 |0=>h
 |n+1=>(MT h n).next
theorem UO{d:List Int}(aG:sL d)(au:d.length<=10000000):(wu d).ok:=⟨aG,au,by simp[-bh,-be,wu]⟩
def pS(d:List Int)(n:Nat):dz:=sj n (wu d)
theorem QF{d:List Int}(aG:sL d)(au:d.length<=10000000)(n:Nat):(pS d n).ok:=MT (UO aG au) n
theorem qV(S:aL->Prop)(c:dz):aP S c.e:=by simp[-bh,-be,dz.e,aP,aJ]
def agj(c:dz)(n:Nat)(k:Nat)(st:bo):Prop:=∃i:Nat,i<=n/\k=n-i/\st=⟨[(1,.int .i64 n),(5,.ptr (.obj 401) 0),(6,.int .i64 i)],[(.obj 401,(sj i c).e)],[],0,[.obj 401]⟩
theorem RI(d:List Int)(aG:sL d)(au:d.length<=10000000)(n:Nat)(az:n<=1000000):bJ ay 45 [.slice 1 .no (hZ d),.int .i64 n] ⟨[],[]⟩ fun r ah=>r= .ptr (.obj 401) 0/\ah=bK (pS d n):=by
 unfold pS;have af:dN ⟨[],[]⟩:=(dN.of ⟨by intro m;simp[-bh,-be,Pv.look],by intro m;simp[-bh,-be,Pv.look]⟩ (by simp[-bh,-be,aP,aJ,inObs,Pv.look]) (by simp[-bh,-be,aP,aJ,inObs,Pv.look]));refine bJ.mk mixed vg acT ajJ (by simp[-bh,-be]) af.obj fun aR cE=>?_;unfold Qv;simp[-bh,-be];refine cA.new (ady d aG au) af aE aE (by simp[-bh,-be]) ?_;rintro r ah ⟨rfl,rfl⟩;refine⟨fun m _=>.inr (by simp[-bh,-be]),?_⟩;unfold bK;simp[-bh,-be,bX];refine mZ (agj (wu d) n) n _ ⟨by simp[-bh,-be,fresh,aP,aJ,cx,inObs,Pv.look,qV,sj],eS (by simp[-bh,-be,fresh,aP,aJ,cx,inObs,Pv.look,qV,sj]),eT (by simp[-bh,-be,fresh,aP,aJ,et,inObs,Pv.look,qV,sj]),by simp[-bh,-be]⟩ ⟨0,Ω,rfl,rfl⟩ ?_;rintro k st ⟨i,hi,ad,rfl⟩ jf cE;clear jf cE;simp[-bh,-be];(with_reducible repeat' first|((first|apply bD|apply bH|apply bG)<;>intro h<;>try simp[-bh,-be]at h)|refine aj ?_|simp[-bh,-be])
 ·(refine cA.ob (RH _ (MT (UO aG au) i)) (e5 _) bv bv dl ?_;rintro r ah ⟨rfl,rfl⟩;refine⟨fT _ _,?_⟩;unfold bK;simp[-bh,-be,bX]);(with_reducible repeat' first|((first|apply bD|apply bH|apply bG)<;>intro h<;>try simp[-bh,-be]at h)|refine aj ?_|simp[-bh,-be]);refine bR.next (n-(i+1)) Ω ⟨i+1,Ω,rfl,rfl⟩ ⟨by simp[-bh,-be,fresh,aP,aJ,cx,inObs,Pv.look,qV,sj],eS (by simp[-bh,-be,fresh,aP,aJ,cx,inObs,Pv.look,qV,sj]),eT (by simp[-bh,-be,fresh,aP,aJ,et,inObs,Pv.look,qV,sj]),by simp[-bh,-be]⟩
 ·obtain rfl:i=n:=Ω
  refine cI.new (bK (sj i (wu d))) (.inl rfl) (e5 _) (by simp[-bh,-be,j0]) bv bv ?_;simp[-bh,-be,cL,Wj,aT,aU,aS,bK,inObs,Pv.look]
/-What is drawn. -/
theorem YO(k:Int)(bA:0<=k)(J:k<7):(rl k).ok=true/\(∀v,(rl k).occ v=false)/\(rl k).size=1:=by obtain⟨n,rfl⟩:∃n:Nat,k=n:=⟨k.toNat,Ω⟩;rcases(by omega:n=0\/n=1\/n=2\/n=3\/n=4\/n=5\/n=6)with rfl|rfl|rfl|rfl|rfl|rfl|rfl<;>refine⟨?_,fun v=>?_,?_⟩<;>first|rfl|decide
theorem ZL(vars:Int)(av:vars<=100001)(n:Nat):∀c:dz,(dY n vars c).1.ok=true/\(∀v,(dY n vars c).1.occ v=true->0<=v/\v<vars)/\(dY n vars c).1.size<=2*n-1+(if n=0 then 1 else 0):=by
 induction n using pO with
 |ind n bO=>
  intro c;have dW:=c.next.below_le 7 Ω;rw[dY];split
  ·rename_i h;obtain⟨bz,a2,a3⟩:=bO (n/2) Ω c.next;obtain⟨cf,b9,gb⟩:=bO (n/2) Ω (dY (n/2) vars c.next).2;refine⟨by simp[T.ok,bz,cf],fun v av=>?_,?_⟩
   ·simp only[T.occ,ls]at av;rcases av with av|av
    ·exact a2 v av
    ·exact b9 v av
   ·simp only[T.size];split at a3<;>split at gb<;>split<;>omega
  ·split
   ·rename_i h;have:=c.next.below_le vars h.1;refine⟨by simp[T.ok];omega,fun v av=>?_,by simp only[T.size];split<;>omega⟩;simp[T.occ]at av;omega
   ·obtain⟨bz,a2,a3⟩:=YO _ dW.1 dW.2;refine⟨bz,fun v av=>?_,?_⟩
    ·simp only[a2 v]at av;cases av
    ·simp only[a3];split<;>omega
def mg(p:Nat->Bool)(i j:Nat):Nat:=if i<j then(if p ((i+j)/2)then mg p i ((i+j)/2)else mg p ((i+j)/2+1) j)else i
termination_by j-i
def agr(s:cM)(n g:Nat)(dk:List ai)(p:Nat->Bool)(k:Nat)(st:bo):Prop:=∃i j:Nat,i<=j/\j<=n/\k=j-i/\mg p i j=mg p 0 n/\st=⟨[(1,.func g dk),(5,.int .i64 i),(6,.int .i64 j)],s.b,s.e,0,cX s⟩
theorem adm(s:cM)(af:dN s)(n g:Nat)(az:n<=1000000)(dk:List ai)(aq:aP (inObs s) dk)(dh:dr dk=dk)(p:Nat->Bool)(aO:∀i:Nat,i<n->bJ ay g (.int .i64 i::dk) s fun r ah=>r= .bool (p i)/\ah=s):
  bJ ay 211 [.int .i64 n,.func g dk] s fun r ah=>r= .int .i64 (mg p 0 n)/\ah=s:=by
 refine bJ.mk mixed fF abT aiM Ψ af.obj fun aR cE=>?_;unfold Px;simp;refine mZ (agr s n g dk p) n _ (iP.ob af (by simp[aq]) aE aE) ⟨0,n,Ω,Ω,rfl,rfl,rfl⟩ ?_;rintro k st ⟨i,j,lD,ag,ad,Kp,rfl⟩ jf cE;clear jf cE;simp;refine bD (fun bt=>?_) (fun vE=>?_)
 ·simp at bt;have hw:hl.wrap ((i:Int)+j)=i+j:=by simp[sy,nD,rf];omega
  obtain⟨m,hm⟩:∃m,m=(i+j)/2:=⟨_,rfl⟩;have aG:Int.fdiv ((i:Int)+j) 2=(m:Int):=by rw[Int.fdiv_eq_ediv_of_nonneg _ Ω];omega
  have oJ:mj.wrap (m:Int)=m:=by rw[ml];omega
  have JO:hl.bits=64:=rfl;simp[hw,dh,JO,aG,oJ];refine⟨by unfold p5;omega,?_⟩;refine cA.ob (aO m Ω) af aE aE (by simp[aq]) ?_;rintro r ah ⟨rfl,rfl⟩;refine⟨Same.refl _,?_⟩;simp[gX];(with_reducible repeat' first|((first|apply bD|apply bH|apply bG)<;>intro h<;>try simp at h)|refine aj ?_|simp)
  ·simp only[Eh];refine⟨j-(m+1),_,Ω,iP.ob af (by simp[aq]) aE aE,m+1,j,Ω,Ω,rfl,?_,rfl⟩;rw[<-Kp];conv=>rhs;unfold mg
   simp[bt,<-hm,h]
  ·simp only[Eh];refine⟨m-i,_,Ω,iP.ob af (by simp[aq]) aE aE,i,m,Ω,Ω,rfl,?_,rfl⟩;rw[<-Kp];conv=>rhs;unfold mg
   simp[bt,<-hm,h]
 ·simp at vE;have:mg p 0 n=i:=by rw[<-Kp];unfold mg;rw[if_neg Ω]
  rw[this];simp;refine cI.at s (.inl rfl) af (Same.refl s) aE aE ?_;simp[cL,VV,aT,aU,aS]
def nb(l:List ak)(v:Int):Int:=
 let i:=mg (fun i=>match l[i]? with|some b=>decide (v<=b.v)|none=>false) 0 l.length
 match l[i]? with|some b=>if b.v=v then i else-1|none=> -1
theorem ads(l:List ak)(v:Int)(i:Nat)(b:ak)(ab:l[i]? =some b):bJ ay 212 [.int .i64 i,.ptr (.obj 101) 0,.ptr (.obj 102) 0] ⟨[(.obj 101,[.slice 5 .no (l.map ak.e)]),(.obj 102,[.int .i64 v])],[]⟩ fun r ah=>r= .bool (decide (v<=b.v))/\ah=⟨[(.obj 101,[.slice 5 .no (l.map ak.e)]),(.obj 102,[.int .i64 v])],[]⟩:=by have af:dN ⟨[(.obj 101,[.slice 5 .no (l.map ak.e)]),(.obj 102,[.int .i64 v])],[]⟩:=(dN.of ⟨by intro m;simp[Pv.look],by intro m;simp[Pv.look]⟩ f8 f8);have bt:i<l.length:=(fp.1 ab).1;refine bJ.mk mixed fF abw aio Ψ af.obj fun aR cE=>?_;unfold O8;simp[ab];(with_reducible repeat' first|refine aj ?_|simp);refine cI.at _ (.inl rfl) af (Same.refl _) aE aE ?_;simp[cL,VJ,aT,aU,aS]
theorem tM(l:List ak)(v:Int)(au:l.length<=1000000):bZ ay 134 [.slice 5 .no (l.map ak.e),.int .i64 v] (.int .i64 (nb l v)):=by
 refine bE fF abv ain fun aR=>?_;unfold O7;simp;have af:dN ⟨[(.obj 101,[.slice 5 .no (l.map ak.e)]),(.obj 102,[.int .i64 v])],[]⟩:=(dN.of ⟨by intro m;simp[Pv.look],by intro m;simp[Pv.look]⟩ f8 f8);refine cA.ob (adm ⟨[(.obj 101,[.slice 5 .no (l.map ak.e)]),(.obj 102,[.int .i64 v])],[]⟩ af l.length 212 au [.ptr (.obj 101) 0,.ptr (.obj 102) 0] (by simp[inObs]) Ψ (fun i=>match l[i]? with|some b=>decide (v<=b.v)|none=>false) fun i hi=>?_) af aE aE (by simp[inObs]) ?_
 ·obtain⟨b,ab⟩:∃b,l[i]? =some b:=⟨_,cr hi⟩;simp only[ab];exact ads l v i b ab
 rintro r ah ⟨rfl,rfl⟩;refine⟨Same.refl _,?_⟩;unfold nb;generalize mg _ 0 l.length=i;cases ab:l[i]? with
 |none=>
  have bt:¬i<l.length:=by simpa using ab
  simp[bX,bt];exact c0
 |some b=>
  have bt:i<l.length:=(fp.1 ab).1;simp[bX,ab,bt];((with_reducible repeat' first|refine aj ?_|simp[ab]|((first|apply bD|apply bH|apply bG)<;>intro h<;>try simp at h))<;>(try exact b2));all_goals simp[bn,VH,aT,aU,aS]
  all_goals simp_all
def se(l:List ak)(v:Int):Option T:=if nb l v<0 then none else(l[(nb l v).toNat]?).map (·.t)
theorem Rq(l:List ak)(v:Int):nb l v<l.length/\ -1<=nb l v:=by
 unfold nb;simp only;split
 ·rename_i b ab;have:=(fp.1 ab).1;split<;>omega
 ·omega
theorem RJ(l:List ak)(v:Int)(au:l.length<=1000000)(o:Option T)(aw:o=se l v):bJ ay 182 [.int .i64 v,.ptr (.obj 201) 0] ⟨[(.obj 201,[.slice 5 .no (l.map ak.e)])],[]⟩ fun r ah=>r= .tuple [(o.getD .nil).e,.bool o.isSome]/\ah=⟨[(.obj 201,[.slice 5 .no (l.map ak.e)])],[]⟩:=by
 have af:dN ⟨[(.obj 201,[.slice 5 .no (l.map ak.e)])],[]⟩:=(dN.of ⟨by intro m;simp[Pv.look],by intro m;simp[Pv.look]⟩ f8 f8);have bt:=(Rq l v).1;unfold se at aw;refine bJ.mk mixed fF abJ aiB Ψ af.obj fun aR cE=>?_;unfold Pm;simp;(with_reducible repeat' first|((first|apply bD|apply bH|apply bG)<;>intro h<;>try simp at h)|refine aj ?_|refine aC (tM l v au) ?_|refine aD (tM l v au) ?_|simp)
 ·obtain⟨b,ab⟩:∃b,l[(nb l v).toNat]? =some b:=⟨_,cr Ω⟩;have hQ:o=some b.t:=by rw[aw,if_neg Ω,ab];rfl
  simp[ab];(with_reducible repeat' first|((first|apply bD|apply bH|apply bG)<;>intro h<;>try simp at h)|refine aj ?_|simp[ab]);refine cI.at _ (.inl rfl) af (Same.refl _) aE aE ?_;simp[cL,L8,aT,aU,aS];simp[hQ]
 ·have hQ:o=none:=by rw[aw,if_pos h]
  refine cI.at _ (.inl rfl) af (Same.refl _) aE aE ?_;simp[cL,L8,aT,aU,aS];simp[hQ]
theorem adP(s:cM)(af:dN s)(g:Nat)(dk:List ai)(aq:aP (inObs s) dk)(dh:dr dk=dk)(f:Int->Int)(Cd:∀v,-1<=f v)(t:T)(aO:∀v,t.occ v=true->bJ ay g (.int .i64 v::dk) s fun r ah=>r= .int .i64 (f v)/\ah=s):
  bJ ay 239 [t.e,.func g dk] s fun r ah=>r= .int .i64 (lj f t)/\ah=s:=by
 have az:∀m,Pv.look (.loc m) s.b=none:=af.obj.1;have hu:∀m cs,cy (.loc m) cs s.b=s.b++[(.loc m,cs)]:=fun m cs=>kc (az m);have aw:∀m,aL.loc m∉cX s:=j5 af.obj;induction t with
 |pair a b dB dC=>
  have aph:=Hw f Cd a;have apk:=Hw f Cd b;refine bJ.mk mixed fF xo yf Ψ af.obj fun aR cE=>?_;unfold vo;simp[hu,aw,cN,az,dh];(with_reducible repeat' first|refine aj ?_|simp[hu,aw,cN,az]);refine cA.ob (dB fun v av=>aO v (by simp[T.occ,av])) af aE aE (by simp[aq]) ?_;rintro r ah ⟨rfl,rfl⟩;refine⟨Same.refl _,?_⟩;simp[gX,iJ,bX,az];(with_reducible repeat' first|((first|apply bD|apply bH|apply bG)<;>intro h<;>try simp at h)|refine aj ?_|simp[hu,aw,cN,az])
  ·refine cI.at ah (.inl rfl) af (Same.refl _) aE aE ?_;simp[cL,uZ,aT,aU,aS];simp[lj];omega
  ·rw[dh];refine cA.ob (dC fun v av=>aO v (by simp[T.occ,av])) af aE aE (by simp[aq]) ?_;rintro r s2 ⟨rfl,rfl⟩;refine⟨Same.refl _,?_⟩;simp[gX,iJ,bX,az];(with_reducible repeat' first|((first|apply bD|apply bH|apply bG)<;>intro h<;>try simp at h)|refine aj ?_|simp[hu,aw,cN,az]);refine cI.at s2 (.inl rfl) af (Same.refl _) aE aE ?_;simp[cL,uZ,aT,aU,aS];simp[lj];omega
 |var n=>refine bJ.mk mixed fF xo yf Ψ af.obj fun aR cE=>?_;unfold vo;simp[hu,aw,cN,az,dh];(with_reducible repeat' first|refine aj ?_|simp[hu,aw,cN,az]);refine cA.ob (aO n (by simp[T.occ])) af aE aE (by simp[aq]) ?_;rintro r ah ⟨rfl,rfl⟩;refine⟨Same.refl _,?_⟩;simp[gX,iJ,bX,az];refine cI.at ah (.inl rfl) af (Same.refl _) aE aE ?_;simp[cL,uZ,aT,aU,aS];simp[lj]
 |_=>refine bJ.mk mixed fF xo yf Ψ af.obj fun aR cE=>?_;unfold vo;simp[hu,aw,cN,az,dh];(with_reducible repeat' first|refine aj ?_|simp[hu,aw,cN,az]);refine cI.at s (.inl rfl) af (Same.refl _) aE aE ?_;simp[cL,uZ,aT,aU,aS];simp[lj]
theorem adC(s:cM)(af:dN s)(g:Nat)(dk:List ai)(aq:aP (inObs s) dk)(dh:dr dk=dk)(f:Int->Option T)(t:T)(aO:∀v,t.occ v=true->bJ ay g (.int .i64 v::dk) s fun r ah=>r= .tuple [((f v).getD .nil).e,.bool (f v).isSome]/\ah=s):
  bJ ay 153 [t.e,.func g dk] s fun r ah=>r=(t.sub f).e/\ah=s:=by
 have az:∀m,Pv.look (.loc m) s.b=none:=af.obj.1;have cF:∀m,Pv.look (.loc m) s.e=none:=af.obj.2;have hu:∀m cs,cy (.loc m) cs s.b=s.b++[(.loc m,cs)]:=fun m cs=>kc (az m);have aw:∀m,aL.loc m∉cX s:=j5 af.obj;have lI:∀m p r,cy (.loc m) p (s.b++r)=s.b++cy (.loc m) p r:=fun m p r=>A4 (az m);induction t with
 |pair a b dB dC=>refine bJ.mk mixed fF ze Ap Ψ af.obj fun aR cE=>?_;unfold xi;simp[hu,aw,cN,az,cF,dh,lI];(with_reducible repeat' first|refine aj ?_|simp[hu,aw,cN,az,cF,lI]);refine hW.ob (dB fun v av=>aO v (by simp[T.occ,av])) af af (Same.refl _) aE aE (by simp[aq]) ?_;simp[gX,iJ,bX,az,dh];refine hW.ob (dC fun v av=>aO v (by simp[T.occ,av])) af af (Same.refl _) aE aE (by simp[aq]) ?_;simp[gX,iJ,bX,az,dh];(with_reducible repeat' first|refine aj ?_|refine aC (HQ _ _) ?_|refine aD (HQ _ _) ?_|simp);refine cI.at s (.inl rfl) af (Same.refl _) aE aE ?_;simp[cL,yn,aT,aU,aS,cN,az];simp[T.sub]
 |var n=>
  refine bJ.mk mixed fF ze Ap Ψ af.obj fun aR cE=>?_;unfold xi;simp[hu,aw,cN,az,dh,lI];(with_reducible repeat' first|refine aj ?_|simp[hu,aw,cN,az,lI]);refine cA.ob (aO n (by simp[T.occ])) af aE aE (by simp[aq]) ?_;rintro r ah ⟨rfl,rfl⟩;refine⟨Same.refl _,?_⟩;simp[gX,iJ,bX,az,hu,aw,cN];(with_reducible repeat' first|((first|apply bD|apply bH|apply bG)<;>intro h<;>try simp at h)|refine aj ?_|refine aC (tL _) ?_|refine aD (tL _) ?_|simp[hu,aw,cN,az,lI]);all_goals refine cI.at ah (.inl rfl) af (Same.refl _) aE aE ?_
  all_goals simp[cL,yn,aT,aU,aS,cN,az]
  all_goals cases qM:f n<;>simp_all[T.sub]
 |_=>refine bJ.mk mixed fF ze Ap Ψ af.obj fun aR cE=>?_;unfold xi;simp[hu,aw,cN,az,dh,lI];(with_reducible repeat' first|((first|apply bD|apply bH|apply bG)<;>intro h<;>try simp at h)|refine aj ?_|simp[hu,aw,cN,az,lI]);refine cI.at s (.inl rfl) af (Same.refl _) aE aE ?_;simp[cL,yn,aT,aU,aS,cN,az];simp[T.sub]
def oj(l:List ak):cM:=⟨[(.obj 201,[.slice 5 .no (l.map ak.e)])],[]⟩
def rj(l:List ak):cM:=⟨[(.obj 201,[.slice 5 .no (l.map ak.e)]),(.obj 202,[.func 182 [.ptr (.obj 201) 0]])],[]⟩
theorem Bj(l:List ak):dN (oj l):=by unfold oj;exact(dN.of ⟨by intro m;simp[Pv.look],by intro m;simp[Pv.look]⟩ f8 f8)
theorem HY(l:List ak):dN (rj l):=by unfold rj;exact(dN.of ⟨by intro m;simp[Pv.look],by intro m;simp[Pv.look]⟩ f8 f8)
def uj(l:List ak)(v:Int):Int:=match se l v with|some x=>ft x.tm 5000|none=>1
theorem ada(l:List ak)(v:Int): -1<=uj l v:=by
 unfold uj;split
 ·rename_i x _;rcases Dd x.tm 5000 with h|h<;>omega
 ·omega
theorem XJ(t:T):bZ ay 194 [t.e,.int .i64 5000] (.int .i64 (ft t.tm 5000)):=by have:=XI t.tm.sz t.tm (eC _) 5000 Ω;rwa[rs]at this
theorem adM(l:List ak)(v:Int)(au:l.length<=1000000):bJ ay 240 [.int .i64 v,.ptr (.obj 202) 0] (rj l) fun r ah=>r= .int .i64 (uj l v)/\ah=rj l:=by
 have af:=HY l;unfold rj at af⊢;refine bJ.mk mixed fF abL aiD Ψ af.obj fun aR cE=>?_;unfold Po;simp;refine cA.ob (RJ l v au _ rfl) (Bj l) aE aE (by simp[inObs]) ?_;rintro r ah ⟨rfl,rfl⟩;refine⟨Same.refl _,?_⟩;simp[bX];(with_reducible repeat' first|((first|apply bD|apply bH|apply bG)<;>intro h<;>try simp at h)|refine aj ?_|refine aC (XJ _) ?_|refine aD (XJ _) ?_|simp);all_goals refine cI.at _ (.inl rfl) af (Same.refl _) aE aE ?_
 all_goals simp[cL,VS,aT,aU,aS]
 all_goals unfold uj
 all_goals cases bL:se l v<;>simp_all
def Dv(l:List ak)(t:T):T:=t.sub (se l)
def tC(l:List ak)(t:T):Bool:=decide (lj (uj l) t<=5000)
theorem adL(l:List ak)(t:T)(au:l.length<=1000000):bJ ay 181 [t.e,.func 182 [.ptr (.obj 201) 0]] (oj l) fun r ah=>r= .tuple [(if tC l t then Dv l t else .nil).e,.bool (tC l t)]/\ah=oj l:=by
 have af:=Bj l;unfold oj at af⊢;refine bJ.mk mixed fF abK aiC Ψ af.obj fun aR cE=>?_;unfold Pn;simp;refine cA.ob (adP (rj l) (HY l) 240 [.ptr (.obj 202) 0] (by simp[inObs,rj]) Ψ (uj l) (ada l) t fun v av=>adM l v au) (HY l) (by unfold rj;exact aE) (by unfold rj;exact aE) (by simp[inObs,rj]) ?_;rintro r ah ⟨rfl,rfl⟩;refine⟨Same.refl _,?_⟩;unfold rj;simp[bX];(with_reducible repeat' first|((first|apply bD|apply bH|apply bG)<;>intro h<;>try simp at h)|refine aj ?_|simp)
 ·refine cI.at _ (.inl rfl) af (Same.refl _) aE aE ?_;simp[cL,L9,aT,aU,aS];have:tC l t=false:=by simp[tC];omega
  simp[this]
 ·refine cA.ob (adC (oj l) (Bj l) 182 [.ptr (.obj 201) 0] (by simp[inObs,oj]) Ψ (se l) t fun v av=>RJ l v au _ rfl) (Bj l) (by unfold oj;exact aE) (by unfold oj;exact aE) (by simp[inObs,oj]) ?_;rintro r ah ⟨rfl,rfl⟩;refine⟨Same.refl _,?_⟩;unfold oj;simp[bX];refine cI.at _ (.inl rfl) af (Same.refl _) aE aE ?_;simp[cL,L9,aT,aU,aS];have:tC l t=true:=by simp[tC];omega
  simp[this,Dv]
theorem amR(l:List ak)(t:T)(au:l.length<=1000000):bZ ay 95 [.slice 5 .no (l.map ak.e),t.e] (.tuple [(if tC l t then Dv l t else .nil).e,.bool (tC l t)]):=by refine bE fF abI aiA fun aR=>?_;unfold Pl;simp;refine cA.ob (adL l t au) (Bj l) (by unfold oj;exact aE) (by unfold oj;exact aE) (by simp[inObs,oj]) ?_;rintro r ah ⟨rfl,rfl⟩;refine⟨Same.refl _,?_⟩;unfold oj;simp[bX];simp[bn,VR,aT,aU,aS]
end
end Go.Proofs.YtohaalphocaebaaGreat
namespace Go.Pv
section
open Go
def T.ap(θ:Int->T):T->T
 | .var n=>θ n
 | .pair a b=>.pair (a.ap θ) (b.ap θ)
 |t=>t
theorem xf(f g:Int->T)(t:T):(t.ap f).ap g=t.ap fun v=>(f v).ap g:=by
 induction t with
 |pair a b dB dC=>simp[T.ap,dB,dC]
 |_=>simp[T.ap]
theorem o5{f g:Int->T}{t:T}(h:∀v,t.occ v=true->f v=g v):t.ap f=t.ap g:=by
 induction t with
 |var n=>exact h n (by simp[T.occ])
 |pair a b dB dC=>simp only[T.ap];rw[dB fun v av=>h v (by simp[T.occ,av]),dC fun v av=>h v (by simp[T.occ,av])]
 |_=>rfl
theorem YD(t:T):t.ap .var=t:=by induction t<;>simp_all[T.ap]
theorem Ii{f:Int->T}{t:T}(h:∀v,t.occ v=true->f v= .var v):t.ap f=t:=(o5 h).trans (YD t)
theorem W6(f:Int->Option T)(t:T):t.sub f=t.ap fun v=>(f v).getD (.var v):=by
 induction t with
 |var n=>simp only[T.sub,T.ap];cases f n<;>rfl
 |pair a b dB dC=>simp[T.sub,T.ap,dB,dC]
 |_=>rfl
theorem YC(θ:Int->T)(t:T):t.size<=(t.ap θ).size:=by
 induction t with
 |var n=>exact T.size_pos _
 |pair a b dB dC=>simp only[T.ap,T.size];omega
 |_=>exact eC _
theorem yb(θ:Int->T){v:Int}{t:T}(h:t.occ v=true):(θ v).size<=(t.ap θ).size/\(t.kind≠1->(θ v).size<(t.ap θ).size):=by
 induction t with
 |var n=>simp[T.occ]at h;subst h;simp[T.ap,T.kind]
 |pair a b dB dC=>
  simp only[T.occ,ls]at h;simp only[T.ap,T.size];rcases h with h|h
  ·have:=(dB h).1;exact⟨Ω,fun _=>Ω⟩
  ·have:=(dC h).1;exact⟨Ω,fun _=>Ω⟩
 |_=>simp[T.occ]at h
theorem Al{θ:Int->T}{v:Int}{t:T}:(t.ap θ).occ v=true↔∃w,t.occ w=true/\(θ w).occ v=true:=by
 induction t with
 |var n=>simp[T.ap,T.occ]
 |pair a b dB dC=>
  simp only[T.ap,T.occ,ls,dB,dC];constructor
  ·rintro(⟨w,J,U⟩|⟨w,J,U⟩)
   ·exact⟨w,.inl J,U⟩
   ·exact⟨w,.inr J,U⟩
  ·rintro⟨w,J|J,U⟩
   ·exact .inl ⟨w,J,U⟩
   ·exact .inr ⟨w,J,U⟩
 |_=>simp[T.ap,T.occ]
def aY(s:List ak)(v:Int):T:=(dc s v).getD (.var v)
abbrev gN(s:List ak):Prop:=s.Pairwise fun x y=>x.v<y.v
def dS(s:List ak)(θ:Int->T):Prop:= ∀b∈s,θ b.v=b.t.ap θ
structure eI (s:List ak):Prop where
 asc:gN s
 free:∀b∈s,∀w,b.t.occ w=true->dc s w=none
 ori:∀b∈s,∀w,b.t= .var w->w<b.v
theorem tZ(b:ak)(s:List ak)(v:Int):dc (b::s) v=if b.v=v then some b.t else dc s v:=by
 unfold dc;by_cases h:b.v=v
 ·simp[h]
 ·have:(b.v==v)=false:=by simp[h]
  simp[this,h,List.find?_cons]
theorem jH{v:Int}{t:T}:∀{s:List ak},dc s v=some t->(⟨v,t⟩:ak)∈s
 |[],h=>by simp[dc]at h
 |b::s,h=>by
  rw[tZ]at h;split at h
  ·rename_i e;cases h;subst e;simp
  ·exact og _ (jH h)
theorem vl{v:Int}:∀{s:List ak},dc s v=none↔∀b∈s,b.v≠v
 |[]=>by simp[dc]
 |b::s=>by
  rw[tZ];by_cases h:b.v=v
  ·simp[h]
  ·simp[h,vl (s:=s)]
theorem rn{b:ak}:∀{s:List ak},gN s->b∈s->dc s b.v=some b.t
 |[],_,h=>by simp at h
 |c::s,a7,h=>by
  rw[tZ];have ng:=mS.1 a7;rcases fI.1 h with rfl|h
  ·simp
  ·have:=ng.1 b h;rw[if_neg Ω];exact rn ng.2 h
theorem N8:∀{s ah:List ak},gN s->gN ah->(∀v,dc s v=dc ah v)->s=ah
 |[],[],_,_,_=>rfl
 |[],c::ah,_,_,h=>by have:=h c.v;rw[tZ]at this;simp[dc]at this
 |c::s,[],_,_,h=>by have:=h c.v;rw[tZ]at this;simp[dc]at this
 |b::s,c::ah,a7,ab,h=>by
  have fX:=mS.1 ab;have ng:=mS.1 a7;have J:(⟨b.v,b.t⟩:ak)∈c::ah:=jH (by rw[<-h b.v,tZ];simp);have U:(⟨c.v,c.t⟩:ak)∈b::s:=jH (by rw[h c.v,tZ];simp);have Sf:b=c:=by
   rcases fI.1 J with e|e
   ·exact e
   ·rcases fI.1 U with aF|aF
    ·exact aF.symm
    ·have aZ:=fX.1 _ e;have bm:=ng.1 _ aF;simp only at aZ bm;omega
  subst Sf;rw[N8 ng.2 fX.2 fun v=>?_];have:=h v;rw[tZ,tZ]at this;by_cases e:b.v=v
  ·have k2:dc s v=none:=vl.2 fun x ae=>by have:=ng.1 x ae;omega
   have z2:dc ah v=none:=vl.2 fun x ae=>by have:=fX.1 x ae;omega
   rw[k2,z2]
  ·simpa[e]using this
theorem MY{s:List ak}(a7:gN s){θ:Int->T}:dS s θ↔∀v,θ v=(aY s v).ap θ:=by
 constructor
 ·intro h v;unfold aY;cases e:dc s v with
  |none=>rfl
  |some t=>exact h _ (jH e)
 ·intro h b ab;have:=h b.v;rw[aY,rn a7 ab]at this;exact this
theorem MX{s:List ak}{θ:Int->T}(h:dS s θ)(t:T):t.ap θ=(t.ap (aY s)).ap θ:=by
 rw[xf];refine o5 fun v _=>?_;unfold aY;cases e:dc s v with
 |none=>rfl
 |some t=>exact h _ (jH e)
theorem ak9{s:List ak}(af:eI s){t:T}(h:∀w,t.occ w=true->dc s w=none):t.ap (aY s)=t:=Ii fun v av=>by simp[aY,h v av]
theorem va{s:List ak}(af:eI s):dS s (aY s):=fun b ab=>by rw[ak9 af (af.free b ab),aY,rn af.asc ab];rfl
theorem Lu{s ah:List ak}(af:eI s)(eL:eI ah)(h:∀θ,dS ah θ->dS s θ){v:Int}(av:dc ah v=none):dc s v=none:=by
 cases e:dc s v with
 |none=>rfl
 |some t=>
  have J:=h _ (va eL) _ (jH e);simp only[aY,av,jq]at J;cases t with
  |var w=>
   have U:w<v:=af.ori _ (jH e) w rfl;simp only[T.ap,aY]at J;cases bM:dc ah w with
   |none=>rw[bM]at J;simp at J;omega
   |some u=>rw[bM]at J;simp only[hV]at J;subst J;have:=eL.ori _ (jH bM) v rfl;simp only at this;omega
  |_=>simp[T.ap]at J
theorem ahz{s ah:List ak}(eL:eI ah)(h:∀θ,dS ah θ->dS s θ){v:Int}:(aY s v).size<=(aY ah v).size:=by
 have J:=h _ (va eL);unfold aY;cases e:dc s v with
 |none=>exact T.size_pos _
 |some t=>have:=J _ (jH e);show t.size<=(aY ah v).size;simp only at this;rw[this];exact YC _ _
theorem WZ{s ah:List ak}(af:eI s)(eL:eI ah)(h:∀θ,dS s θ↔dS ah θ):s=ah:=by
 refine N8 af.asc eL.asc fun v=>?_;have d1:∀w,dc s w=none↔dc ah w=none:=fun w=>⟨Lu eL af (fun θ=>(h θ).1),Lu af eL fun θ=>(h θ).2⟩;cases e:dc s v with
 |none=>exact((d1 v).1 e).symm
 |some t=>
  cases fL:dc ah v with
  |none=>rw[(d1 v).2 fL]at e;cases e
  |some dK=>have J:=(h _).2 (va eL) _ (jH e);simp only[aY,fL,hV]at J;rw[J];exact e4 some (Ii fun w hw=>by have:=(d1 w).1 (af.free _ (jH e) w hw);simp[aY,this]).symm
def fJ(s:List ak):Prop:=s.length<=400/\∀b∈s,b.t.size<=5000
theorem YN{s:List ak}(h:gN s):(s.map (·.v)).Nodup:=by rw[List.nodup_iff_pairwise_ne,List.pairwise_map];exact h.imp fun h=>Ω
theorem Rl{s ah:List ak}(af:eI s)(eL:eI ah)(h:∀θ,dS ah θ->dS s θ)(aO:fJ ah):fJ s:=by
 have aG:∀x∈s.map (·.v),x∈ah.map (·.v):=by
  intro x ae;obtain⟨b,ab,rfl⟩:=ia.1 ae;cases e:dc ah b.v with
  |none=>have:=Lu af eL h e;rw[rn af.asc ab]at this;cases this
  |some t=>exact ia.2 ⟨_,jH e,rfl⟩
 have au:=Ef (YN af.asc) aG;simp only[List.length_map]at au;refine⟨gZ au aO.1,fun b ab=>?_⟩;have J:=ahz (s:=s) eL h (v:=b.v);rw[aY,rn af.asc ab]at J;obtain⟨c,aq,e⟩:=ia.1 (aG b.v (ia.2 ⟨b,ab,rfl⟩));have U:=aO.2 c aq;rw[aY,<-e,rn eL.asc aq]at J;exact gZ J U
def hY(E:List (T×T))(θ:Int->T):Prop:= ∀e∈E,e.1.ap θ=e.2.ap θ
theorem DV(θ:Int->T):hY [] θ:=fun _ h=>by simp at h
theorem q5{e:T×T}{E:List (T×T)}{θ:Int->T}:hY (e::E) θ↔e.1.ap θ=e.2.ap θ/\hY E θ:=by simp[hY]
theorem DU{E mm:List (T×T)}{θ:Int->T}:hY (E++mm) θ↔hY E θ/\hY mm θ:=by simp only[hY,h9];exact⟨fun h=>⟨fun e he=>h e (.inl he),fun e he=>h e (.inr he)⟩,fun h e he=>he.elim (h.1 e) (h.2 e)⟩
def iO(s:List ak)(E:List (T×T)):Option (List ak)->Prop
 |some ah=>(eI ah/\fJ ah)/\∀θ,dS ah θ↔dS s θ/\hY E θ
 |none=> ∀ah,eI ah->(∀θ,dS ah θ->dS s θ/\hY E θ)->¬fJ ah
theorem Yq{s:List ak}{E:List (T×T)}:∀{o o':Option (List ak)},iO s E o->iO s E o'->o=o'
 |none,none,_,_=>rfl
 |some s1,none,h,ck=>absurd h.1.2 (ck s1 h.1.1 fun θ=>(h.2 θ).1)
 |none,some s1,ck,h=>absurd h.1.2 (ck s1 h.1.1 fun θ=>(h.2 θ).1)
 |some s1,some s2,h,ck=>by rw[WZ h.1.1 ck.1.1 fun θ=>(h.2 θ).trans (ck.2 θ).symm]
theorem yV{s s2:List ak}{E NN:List (T×T)}(h:∀θ,(dS s θ/\hY E θ)↔(dS s2 θ/\hY NN θ)):∀{o:Option (List ak)},iO s E o->iO s2 NN o
 |none,aK=>fun ah J U=>aK ah J fun θ fS=>(h θ).2 (U θ fS)
 |some s1,aK=>⟨aK.1,fun θ=>(aK.2 θ).trans (h θ)⟩
theorem H9{s s1:List ak}{E mm:List (T×T)}(h:iO s E (some s1)):∀{o:Option (List ak)},iO s1 mm o->iO s (E++mm) o
 |none,aK=>fun ah J U=>aK ah J fun θ fS=>⟨(h.2 θ).2 ⟨(U θ fS).1,(DU.1 (U θ fS).2).1⟩,(DU.1 (U θ fS).2).2⟩
 |some s2,aK=>⟨aK.1,fun θ=>by rw[aK.2 θ,h.2 θ,DU,and_assoc]⟩
theorem Et{s:List ak}{E:List (T×T)}(mm:List (T×T))(h:iO s E none):iO s (E++mm) none:=fun ah J U=>h ah J fun θ fS=>⟨(U θ fS).1,(DU.1 (U θ fS).2).1⟩
theorem Es{s:List ak}{E:List (T×T)}(h:∀θ,dS s θ->¬hY E θ):iO s E none:=fun ah J U=>absurd (U _ (va J)).2 (h _ (U _ (va J)).1)
theorem Ia{s:List ak}(af:eI s)(aO:fJ s):iO s [] (some s):=⟨⟨af,aO⟩,fun θ=>⟨fun h=>⟨h,DV θ⟩,fun h=>h.1⟩⟩
def one(v:Int)(x:T)(w:Int):T:=if w=v then x else .var w
def oK(b:ak):List ak->List ak
 |[]=>[b]
 |c::s=>if b.v<c.v then b::c::s else c::oK b s
def mw(s:List ak)(v:Int)(x:T):List ak:=oK ⟨v,x⟩ (s.map fun b=>⟨b.v,b.t.ap (one v x)⟩)
theorem Ln{b x:ak}:∀{s:List ak},x∈oK b s↔x=b\/x∈s
 |[]=>by simp[oK]
 |c::s=>by
  simp only[oK];split
  ·simp
  ·simp only[fI,Ln (s:=s)];constructor
   ·rintro(h|h|h)
    ·exact .inr (.inl h)
    ·exact .inl h
    ·exact .inr (.inr h)
   ·rintro(h|h|h)
    ·exact .inr (.inl h)
    ·exact .inl h
    ·exact .inr (.inr h)
theorem T9{b:ak}:∀{s:List ak},(oK b s).length=s.length+1
 |[]=>rfl
 |c::s=>by simp only[oK];split<;>simp[T9]
theorem N9{b:ak}:∀{s:List ak},gN s->(∀c∈s,c.v≠b.v)->gN (oK b s)
 |[],_,_=>by simp[oK]
 |c::s,a7,az=>by
  have ng:=mS.1 a7;simp only[oK];split
  ·rename_i bt;refine mS.2 ⟨fun x ae=>?_,a7⟩;rcases fI.1 ae with rfl|ae
   ·exact bt
   ·have:=ng.1 x ae;omega
  ·rename_i vE;refine mS.2 ⟨fun x ae=>?_,N9 ng.2 fun c aq=>az c (by simp[aq])⟩;rcases Ln.1 ae with rfl|ae
   ·have:=az c Ψ;omega
   ·exact ng.1 x ae
theorem qf{s:List ak}{v:Int}{x:T}{b:ak}:b∈mw s v x↔b=⟨v,x⟩\/ ∃c∈s,b=⟨c.v,c.t.ap (one v x)⟩:=by unfold mw;rw[Ln,ia];refine or_congr Iff.rfl ⟨fun⟨c,J,U⟩=>⟨c,J,U.symm⟩,fun⟨c,J,U⟩=>⟨c,J,U.symm⟩⟩
theorem U7{v:Int}{x:T}{θ:Int->T}(h:θ v=x.ap θ)(t:T):(t.ap (one v x)).ap θ=t.ap θ:=by
 rw[xf];refine o5 fun w _=>?_;unfold one;split
 ·rename_i e;subst e;exact h.symm
 ·rfl
theorem Ey{s:List ak}{v w:Int}{x:T}:dc (mw s v x) w=none↔w≠v/\dc s w=none:=by
 rw[vl,vl];constructor
 ·intro h;exact⟨fun e=>h ⟨v,x⟩ (qf.2 (.inl rfl)) e.symm,fun b ab=>h ⟨b.v,b.t.ap (one v x)⟩ (qf.2 (.inr ⟨b,ab,rfl⟩))⟩
 ·rintro⟨J,U⟩ b ab;rcases qf.1 ab with rfl|⟨c,aq,rfl⟩
  ·exact fun e=>J e.symm
  ·exact U c aq
theorem MQ{s:List ak}(af:eI s){t:T}{w:Int}(h:(t.ap (aY s)).occ w=true):dc s w=none:=by
 obtain⟨u,_,U⟩:=Al.1 h;unfold aY at U;cases e:dc s u with
 |none=>rw[e]at U;simp[T.occ]at U;subst U;exact e
 |some t=>rw[e]at U;exact af.free _ (jH e) w U
theorem alz{s:List ak}(af:eI s){v:Int}{t:T}(av:dc s v=none)(aw:(t.ap (aY s)).occ v=false)(te:∀w,t.ap (aY s)= .var w->w<v):eI (mw s v (t.ap (aY s))):=by
 have ae:∀w,(t.ap (aY s)).occ w=true->dc (mw s v (t.ap (aY s))) w=none:=fun w hw=>Ey.2 ⟨fun e=>(by subst e;rw[aw]at hw;cases hw),MQ af hw⟩;refine⟨N9 ?_ ?_,fun b ab w hw=>?_,fun b ab w hw=>?_⟩
 ·rw[gN,List.pairwise_map];exact af.asc
 ·intro c aq;obtain⟨b,ab,rfl⟩:=ia.1 aq;exact vl.1 av b ab
 ·rcases qf.1 ab with rfl|⟨c,aq,rfl⟩
  ·exact ae w hw
  ·obtain⟨u,J,U⟩:=Al.1 hw;unfold one at U;split at U
   ·exact ae w U
   ·rename_i cF;simp[T.occ]at U;subst U;exact Ey.2 ⟨cF,af.free c aq _ J⟩
 ·rcases qf.1 ab with rfl|⟨c,aq,rfl⟩
  ·exact te w hw
  ·simp only at hw⊢;cases e:c.t with
   |var u=>
    have:=af.ori c aq u e;rw[e]at hw;simp only[T.ap,one]at hw;split at hw
    ·rename_i aF;subst aF;have:=te w hw;omega
    ·cases hw;exact this
   |_=>rw[e]at hw;simp[T.ap]at hw
theorem WX{s:List ak}{v:Int}{t:T}(θ:Int->T):dS (mw s v (t.ap (aY s))) θ↔dS s θ/\hY [(.var v,t)] θ:=by
 have ao:hY [(.var v,t)] θ↔θ v=t.ap θ:=by simp[hY,T.ap]
 rw[ao];constructor
 ·intro h;have bA:θ v=(t.ap (aY s)).ap θ:=h _ (qf.2 (.inl rfl));have J:dS s θ:=fun b ab=>by have:=h _ (qf.2 (.inr ⟨b,ab,rfl⟩));simp only at this;rw[U7 bA]at this;exact this
  exact⟨J,by rw[MX J t];exact bA⟩
 ·rintro⟨J,U⟩ b ab;have bA:θ v=(t.ap (aY s)).ap θ:=by rw[<-MX J t];exact U
  rcases qf.1 ab with rfl|⟨c,aq,rfl⟩
  ·exact bA
  ·simp only;rw[U7 bA];exact J c aq
open Classical in
theorem Yn{s:List ak}(af:eI s){v:Int}{t:T}(av:dc s v=none)(aw:(t.ap (aY s)).occ v=false)(te:∀w,t.ap (aY s)= .var w->w<v):iO s [(.var v,t)] (if fJ (mw s v (t.ap (aY s)))then some (mw s v (t.ap (aY s)))else none):=by
 have J:=alz af av aw te;split
 ·rename_i aO;exact⟨⟨J,aO⟩,WX⟩
 ·rename_i aO;exact fun ah U al a1=>aO (Rl J U (fun θ fS=>(WX θ).2 (al θ fS)) a1)
def hk(s:List ak):T->T
 | .var n=>aY s n
 |t=>t
def nL(s:List ak)(v:Int)(t:T):Option (List ak):=if(t.ap (aY s)).size<=5000/\(t.ap (aY s)).occ v=false/\s.length<400/\∀b∈s,(b.t.ap (one v (t.ap (aY s)))).size<=5000 then some (mw s v (t.ap (aY s)))else none
def ka(rec:List ak->T->T->Option (Option (List ak)))(s:List ak):T->T->Option (Option (List ak))
 | .var i,.var j=>some (if i<j then nL s j (.var i)else if i=j then some s else nL s i (.var j))
 | .var i,y=>some (nL s i y)
 |x,.var j=>some (nL s j x)
 | .pair bz a2,.pair cf b9=>match rec s bz cf with
  |none=>none
  |some none=>some none
  |some (some s1)=>rec s1 a2 b9
 |x,y=>some (if x=y then some s else none)
def kJ:Nat->List ak->T->T->Option (Option (List ak))
 |0,_,_,_=>none
 |n+1,s,a,b=>ka (kJ n) s (hk s a) (hk s b)
theorem al5{rec Ms:List ak->T->T->Option (Option (List ak))}(h:∀s a b o,rec s a b=some o->Ms s a b=some o){s:List ak}{x y:T}{o:Option (List ak)}(he:ka rec s x y=some o):ka Ms s x y=some o:=by
 cases x<;>cases y<;>simp only[ka]at he⊢ <;>try exact he
 rename_i bz a2 cf b9;cases e:rec s bz cf with
 |none=>rw[e]at he;cases he
 |some gU=>
  rw[e]at he;rw[h _ _ _ _ e];cases gU with
  |none=>exact he
  |some s1=>exact h _ _ _ _ he
theorem D0:∀{n m:Nat} {s:List ak} {a b:T} {o:Option (List ak)},n<=m->kJ n s a b=some o->kJ m s a b=some o
 |0,_,_,_,_,_,_,h=>by simp[kJ]at h
 |n+1,0,_,_,_,_,hm,_=>Ω
 |n+1,m+1,s,a,b,o,hm,h=>by simp only[kJ]at h⊢;exact al5 (fun s a b o h=>D0 Ω h) h
theorem Jn{s:List ak}{v:Int}{x:T}:fJ (mw s v x)↔(x.size<=5000/\s.length<400/\∀b∈s,(b.t.ap (one v x)).size<=5000):=by
 have au:(mw s v x).length=s.length+1:=by simp[mw,T9]
 unfold fJ;rw[au];constructor
 ·rintro⟨J,U⟩;exact⟨U _ (qf.2 (.inl rfl)),Ω,fun b ab=>U _ (qf.2 (.inr ⟨b,ab,rfl⟩))⟩
 ·rintro⟨J,U,al⟩;refine⟨Ω,fun b ab=>?_⟩;rcases qf.1 ab with rfl|⟨c,aq,rfl⟩
  ·exact J
  ·exact al c aq
theorem Yo{s:List ak}(af:eI s){v:Int}{t:T}(av:dc s v=none)(cF:t.ap (aY s)≠ .var v)(te:∀w,t.ap (aY s)= .var w->w<v):iO s [(.var v,t)] (nL s v t):=by
 unfold nL;cases aw:(t.ap (aY s)).occ v with
 |true=>
  rw[if_neg Ψ];refine Es fun θ J U=>?_;have al:=(q5.1 U).1;simp only[T.ap]at al;rw[MX J t]at al;have ad:(t.ap (aY s)).kind≠1:=by
   intro ad;cases e:t.ap (aY s)with
   |var w=>rw[e]at aw;simp[T.occ]at aw;subst aw;exact cF e
   |_=>rw[e]at ad;simp[T.kind]at ad
  have:=(yb θ aw).2 ad;rw[<-al]at this;omega
 |false=>
  have J:=Yn af av aw te;by_cases aO:fJ (mw s v (t.ap (aY s)))
  ·rw[if_pos aO]at J;rw[if_pos ⟨(Jn.1 aO).1,rfl,(Jn.1 aO).2⟩];exact J
  ·rw[if_neg aO]at J;rw[if_neg fun h=>aO (Jn.2 ⟨h.1,h.2.2⟩)];exact J
theorem XN{s:List ak}(af:eI s){t:T}{i:Int}(h:hk s t= .var i):dc s i=none:=by
 cases t with
 |var n=>
  simp only[hk,aY]at h;cases e:dc s n with
  |none=>rw[e]at h;simp at h;subst h;exact e
  |some u=>rw[e]at h;simp at h;subst h;exact af.free _ (jH e) i (by simp[T.occ])
 |_=>simp[hk]at h
theorem NB{s:List ak}{θ:Int->T}(h:dS s θ)(t:T):(hk s t).ap θ=t.ap θ:=by
 cases t with
 |var n=>
  simp only[hk,T.ap,aY];cases e:dc s n with
  |none=>rfl
  |some u=>exact(h _ (jH e)).symm
 |_=>rfl
theorem XP{s:List ak}(af:eI s)(t:T):(hk s t).ap (aY s)=t.ap (aY s):=NB (va af) t
def p6(V:List Int)(t:T):Prop:= ∀w,t.occ w=true->w∈V
def xS(V:List Int)(s:List ak):Prop:= ∀b∈s,b.v∈V/\p6 V b.t
def y8(V:List Int)(s:List ak):Nat:=(V.filter fun v=>(dc s v).isNone).length
theorem Rk{α:Type}{p q:α->Bool}{v:α}:∀{V:List α},(∀x∈V,q x=true->p x=true)->v∈V->p v=true->q v=false->(V.filter q).length<(V.filter p).length
 |[],_,h,_,_=>by simp at h
 |x::V,h,av,bL,bI=>by
  have hle:∀W:List α,(∀x∈W,q x=true->p x=true)->(W.filter q).length<=(W.filter p).length:=by
   intro W;induction W with
   |nil=>intro _;simp
   |cons y W bO=>intro B5;have:=bO fun x ae=>B5 x (by simp[ae]);have aM:=B5 y Ψ;simp only[List.filter_cons];cases e:q y<;>cases aF:p y<;>simp_all<;>omega
  simp only[List.filter_cons];rcases fI.1 av with rfl|av
  ·have:=hle V fun x ae=>h x (by simp[ae]);simp[bL,bI];omega
  ·have:=Rk (fun x ae=>h x (og _ ae)) av bL bI;have ae:=h x Ψ;cases e:q x<;>cases aF:p x<;>simp_all<;>omega
theorem ZE{V:List Int}{s:List ak}{v:Int}{x:T}(av:v∈V)(az:dc s v=none):y8 V (mw s v x)<y8 V s:=by
 unfold y8;refine Rk (v:=v) (fun w _ h=>?_) av (by simp[az]) ?_
 ·rw[Option.isNone_iff_eq_none,Ey]at h;simp[h.2]
 ·cases e:dc (mw s v x) v with
  |none=>exact absurd rfl (Ey.1 e).1
  |some _=>rfl
theorem Tn{V:List Int}{s:List ak}(h:xS V s){t:T}(aI:p6 V t):p6 V (t.ap (aY s)):=fun w hw=>by
 obtain⟨u,J,U⟩:=Al.1 hw;unfold aY at U;cases e:dc s u with
 |none=>rw[e]at U;simp[T.occ]at U;subst U;exact aI _ J
 |some x=>rw[e]at U;exact(h _ (jH e)).2 w U
theorem aga{V:List Int}{s:List ak}(h:xS V s){v:Int}{x:T}(av:v∈V)(ae:p6 V x):xS V (mw s v x):=fun b ab=>by
 rcases qf.1 ab with rfl|⟨c,aq,rfl⟩
 ·exact⟨av,ae⟩
 ·refine⟨(h c aq).1,fun w hw=>?_⟩;obtain⟨u,J,U⟩:=Al.1 hw;unfold one at U;split at U
  ·exact ae w U
  ·simp[T.occ]at U;subst U;exact(h c aq).2 _ J
theorem To{V:List Int}{s:List ak}(h:xS V s){t:T}(aI:p6 V t):p6 V (hk s t):=by
 cases t with
 |var n=>have:=Tn h aI;simpa[hk,T.ap]using this
 |_=>exact aI
def Bn(V:List Int)(s:List ak)(a b:T)(o:Option (List ak)):Prop:=iO s [(a,b)] o/\∀ah,o=some ah->xS V ah/\(ah=s\/y8 V ah<y8 V s)
theorem D1{V:List Int}{s:List ak}(af:eI s)(gx:xS V s){v:Int}{t a b:T}(av:v∈V)(aI:p6 V t)(az:dc s v=none)(cF:t.ap (aY s)≠ .var v)(te:∀w,t.ap (aY s)= .var w->w<v)(aq:∀θ,dS s θ->(θ v=t.ap θ↔a.ap θ=b.ap θ)):Bn V s a b (nL s v t):=by
 refine⟨yV (fun θ=>?_) (Yo af az cF te),fun ah h=>?_⟩
 ·refine and_congr_right fun h=>?_;rw[q5,q5];simp only[T.ap,aq θ h]
 ·unfold nL at h;split at h
  ·cases h;exact⟨aga gx av (Tn gx aI),.inr (ZE av az)⟩
  ·cases h
theorem AS{s:List ak}{i:Int}(h:dc s i=none):aY s i= .var i:=by simp[aY,h]
theorem Xi(V:List Int)(k:Nat):∀(m:Nat) (s:List ak) (a b:T),eI s->fJ s->xS V s->p6 V a->p6 V b->y8 V s=k->(a.ap (aY s)).size+(b.ap (aY s)).size=m->
  ∃n o,kJ n s a b=some o/\Bn V s a b o:=by
 induction k using pO with
 |ind k KD=>
 intro m;induction m using pO with
 |ind m zR=>
 intro s a b af aO gx a7 ab ad hm;have ae:=To gx a7;have aM:=To gx ab;have M7:=XP af a;have M8:=XP af b;have tX:=fun θ (h:dS s θ)=>NB h a;have nI:=fun θ (h:dS s θ)=>NB h b;have qK:=fun i=>XN af (t:=a) (i:=i);have Jt:=fun i=>XN af (t:=b) (i:=i);have key:∀(rec:List ak->T->T->Option (Option (List ak))) (o:Option (List ak)),ka rec s (hk s a) (hk s b)=some o->(∀bz a2 cf b9,hk s a= .pair bz a2->hk s b= .pair cf b9->Bn V s a b o)->Bn V s a b o:=by
  intro rec o he bL;cases ex:hk s a with
  |var i=>
   have E9:=qK i ex;have qA:=fun θ h=>(tX θ h).symm.trans (by rw[ex]);cases h1:hk s b with
   |var j=>
    have xq:=Jt j h1;have o7:=fun θ h=>(nI θ h).symm.trans (by rw[h1]);rw[ex,h1]at he;simp only[ka]at he;have hi:i∈V:=by rw[ex]at ae;exact ae i (by simp[T.occ])
    have ag:j∈V:=by rw[h1]at aM;exact aM j (by simp[T.occ])
    rcases Int.lt_trichotomy i j with h|h|h
    ·rw[if_pos h]at he;cases he;refine D1 af gx ag (by rw[ex]at ae;exact ae) xq (by simp[T.ap,AS E9];omega) (fun w hw=>by simp[T.ap,AS E9]at hw;omega) fun θ fS=>?_;rw[qA θ fS,o7 θ fS];simp only[T.ap];exact⟨Eq.symm,Eq.symm⟩
    ·subst h;rw[if_neg Ω,if_pos rfl]at he;cases he;refine⟨⟨⟨af,aO⟩,fun θ=>⟨fun h=>⟨h,q5.2 ⟨?_,DV θ⟩⟩,fun h=>h.1⟩⟩,fun ah e=>by cases e;exact⟨gx,.inl rfl⟩⟩;simp only;rw[qA θ h,o7 θ h]
    ·rw[if_neg Ω,if_neg Ω]at he;cases he;refine D1 af gx hi (by rw[h1]at aM;exact aM) E9 (by simp[T.ap,AS xq];omega) (fun w hw=>by simp[T.ap,AS xq]at hw;omega) fun θ fS=>?_;rw[qA θ fS,o7 θ fS];simp only[T.ap]
   |_=>have o7:=fun θ h=>(nI θ h).symm.trans (by rw[h1]);rw[ex,h1]at he;simp only[ka]at he;cases he;refine D1 af gx (by rw[ex]at ae;exact ae i (by simp[T.occ])) (by rw[h1]at aM;exact aM) E9 (by simp[T.ap]) (fun w hw=>by simp[T.ap]at hw) fun θ fS=>?_;rw[qA θ fS,o7 θ fS];simp only[T.ap]
  |pair bz a2=>
   cases h1:hk s b with
   |pair cf b9=>exact bL bz a2 cf b9 ex h1
   |var j=>have xq:=Jt j h1;have qA:=fun θ h=>(tX θ h).symm.trans (by rw[ex]);have o7:=fun θ h=>(nI θ h).symm.trans (by rw[h1]);rw[ex,h1]at he;simp only[ka]at he;cases he;refine D1 af gx (by rw[h1]at aM;exact aM j (by simp[T.occ])) (by rw[ex]at ae;exact ae) xq (by simp[T.ap]) (fun w hw=>by simp[T.ap]at hw) fun θ fS=>?_;rw[qA θ fS,o7 θ fS];simp only[T.ap];exact⟨Eq.symm,Eq.symm⟩
   |_=>have qA:=fun θ h=>(tX θ h).symm.trans (by rw[ex]);have o7:=fun θ h=>(nI θ h).symm.trans (by rw[h1]);rw[ex,h1]at he;simp only[ka]at he;simp at he;subst he;refine⟨Es fun θ J U=>?_,fun ah e=>by cases e⟩;have:=(q5.1 U).1;simp only at this;rw[qA θ J,o7 θ J]at this;simp[T.ap]at this
  |_=>
   have qA:=fun θ h=>(tX θ h).symm.trans (by rw[ex]);cases h1:hk s b with
   |var j=>have xq:=Jt j h1;have o7:=fun θ h=>(nI θ h).symm.trans (by rw[h1]);rw[ex,h1]at he;simp only[ka]at he;cases he;refine D1 af gx (by rw[h1]at aM;exact aM j (by simp[T.occ])) (by rw[ex]at ae;exact ae) xq (by simp[T.ap]) (fun w hw=>by simp[T.ap]at hw) fun θ fS=>?_;rw[qA θ fS,o7 θ fS];simp only[T.ap];exact⟨Eq.symm,Eq.symm⟩
   |_=>
    have o7:=fun θ h=>(nI θ h).symm.trans (by rw[h1]);rw[ex,h1]at he;simp only[ka,dy]at he;split at he
    ·rename_i e;subst he;refine⟨⟨⟨af,aO⟩,fun θ=>⟨fun h=>⟨h,q5.2 ⟨?_,DV θ⟩⟩,fun h=>h.1⟩⟩,fun ah e=>by cases e;exact⟨gx,.inl rfl⟩⟩;simp only;rw[qA θ h,o7 θ h];try rw[e]
    ·rename_i e;subst he;refine⟨Es fun θ J U=>?_,fun ah e=>by cases e⟩;have:=(q5.1 U).1;simp only at this;rw[qA θ J,o7 θ J]at this;simp[T.ap]at this e;try exact e this
 by_cases FQ:∃bz a2 cf b9,hk s a= .pair bz a2/\hk s b= .pair cf b9
 ·obtain⟨bz,a2,cf,b9,ex,h1⟩:=FQ;have ee:(bz.ap (aY s)).size+(cf.ap (aY s)).size<m/\(a2.ap (aY s)).size+(b9.ap (aY s)).size<m:=by rw[ex]at M7;rw[h1]at M8;simp only[T.ap]at M7 M8;rw[<-hm,<-M7,<-M8];simp only[T.size];omega
  have ld:p6 V bz:=fun w hw=>by rw[ex]at ae;exact ae w (by simp[T.occ,hw])
  have pY:p6 V a2:=fun w hw=>by rw[ex]at ae;exact ae w (by simp[T.occ,hw])
  have lB:p6 V cf:=fun w hw=>by rw[h1]at aM;exact aM w (by simp[T.occ,hw])
  have po:p6 V b9:=fun w hw=>by rw[h1]at aM;exact aM w (by simp[T.occ,hw])
  have Sl:∀θ,(dS s θ/\hY ([(bz,cf)]++[(a2,b9)]) θ)↔(dS s θ/\hY [(a,b)] θ):=fun θ=>and_congr_right fun h=>by simp only[List.singleton_append,q5,DV,and_true];rw[<-tX θ h,<-nI θ h,ex,h1];simp[T.ap]
  obtain⟨iw,gU,ao,cU⟩:=zR _ ee.1 s bz cf af aO gx ld lB ad rfl;cases gU with
  |none=>refine⟨iw+1,none,?_,yV Sl (Et _ cU.1),fun ah e=>by cases e⟩;simp only[kJ,ex,h1,ka,ao]
  |some s1=>
   obtain⟨v1,v2⟩:=cU.2 s1 rfl;have CA:∃gj gJ,kJ gj s1 a2 b9=some gJ/\Bn V s1 a2 b9 gJ:=by
    rcases v2 with rfl|v2
    ·exact zR _ ee.2 _ a2 b9 af aO gx pY po ad rfl
    ·exact KD _ Ω _ s1 a2 b9 cU.1.1.1 cU.1.1.2 v1 pY po rfl rfl
   obtain⟨gj,gJ,aF,dq⟩:=CA;refine⟨max iw gj+1,gJ,?_,yV Sl (H9 cU.1 dq.1),fun ah e=>?_⟩
   ·simp only[kJ,ex,h1,ka,D0 (Nat.le_max_left iw gj) ao];exact D0 (Nat.le_max_right iw gj) aF
   ·obtain⟨fZ,dU⟩:=dq.2 ah e;refine⟨fZ,?_⟩;rcases v2 with rfl|v2
    ·exact dU
    ·rcases dU with rfl|dU
     ·exact .inr v2
     ·exact .inr Ω
 ·have SQ:∀bz a2 cf b9,hk s a= .pair bz a2->hk s b= .pair cf b9->eN:=fun bz a2 cf b9 J U=>FQ ⟨bz,a2,cf,b9,J,U⟩;have:∃o,ka (kJ 0) s (hk s a) (hk s b)=some o:=by cases ex:hk s a<;>cases h1:hk s b<;>simp only[ka]<;>first|exact⟨_,rfl⟩|exact(SQ _ _ _ _ ex h1).elim
  obtain⟨o,aw⟩:=this;exact⟨1,o,aw,key _ o aw fun bz a2 cf b9 J U=>(SQ bz a2 cf b9 J U).elim⟩
def tg{α:Type}(k:Int):List (Int×α)->Option α
 |[]=>none
 |(i,v)::r=>if k=i then some v else tg k r
def eU{α:Type}(k:Int)(v:α):List (Int×α)->List (Int×α)
 |[]=>[(k,v)]
 |(i,w)::r=>if k=i then(i,v)::r else(i,w)::eU k v r
def cn{α:Type}(m:List (Int×α)):List Int:=m.map (·.1)
theorem nA{α:Type}(k:Int)(v:α)(j:Int):∀m:List (Int×α),tg j (eU k v m)=if j=k then some v else tg j m
 |[]=>by simp only[eU,tg]
 |(i,w)::r=>by
  simp only[eU];by_cases h:k=i
  ·subst h;by_cases U:j=k<;>simp[tg,U]
  ·by_cases U:j=i
   ·subst U;have:¬j=k:=fun e=>h e.symm;simp[tg,h,this]
   ·simp[tg,h,U,nA k v j r]
theorem HD{α:Type}{k:Int}:∀{m:List (Int×α)},(tg k m).isSome=true↔k∈cn m
 |[]=>by simp[tg,cn]
 |(i,w)::r=>by
  simp only[tg,cn,eO,fI];by_cases h:k=i
  ·simp[h]
  ·simp only[h,if_false,false_or];exact HD
theorem alY{α:Type}{k:Int}{m:List (Int×α)}:tg k m=none↔k∉cn m:=by rw[<-HD];cases tg k m<;>simp
theorem CW{α:Type}{k:Int}{v:α}:∀{m:List (Int×α)},k∈cn m->cn (eU k v m)=cn m
 |[],h=>by simp[cn]at h
 |(i,w)::r,h=>by
  simp only[eU];by_cases e:k=i
  ·simp[e,cn]
  ·rw[if_neg e];have ck:k∈cn r:=by simpa[cn,e]using h
   have:=CW (v:=v) ck;simp only[cn]at this⊢;simp[this]
theorem TS{α:Type}{k:Int}{v:α}:∀{m:List (Int×α)},k∉cn m->cn (eU k v m)=cn m++[k]
 |[],h=>by simp[cn,eU]
 |(i,w)::r,h=>by have e:¬k=i:=fun e=>h (by simp[cn,e]);have ck:k∉cn r:=fun ad=>h (by simp[cn]at ad⊢;exact .inr ad);have:=TS (v:=v) ck;simp only[eU,if_neg e];simp only[cn]at this⊢;simp[this]
structure bs where
 up:List (Int×Int)
 shape:List (Int×T)
 shaped:List (Int×Bool)
 color:List (Int×Int)
 size:List (Int×Int)
 full:List (Int×T)
def bs.shd(c:bs)(x:Int):Bool:=(tg x c.shaped).getD false
def bs.shp(c:bs)(x:Int):T:=(tg x c.shape).getD .nil
def bs.col(c:bs)(x:Int):Int:=(tg x c.color).getD 0
def bs.sz(c:bs)(x:Int):Int:=(tg x c.size).getD 0
def jb(m:List (Int×Int))(v:Int):Int:=(tg v m).getD 0
def wK:Nat->List (Int×Int)->Int->Option (Int×List (Int×Int))
 |0,_,_=>none
 |n+1,m,v=>if jb m v=v then some (v,m)else wK n (eU v (jb m (jb m v)) m) (jb (eU v (jb m (jb m v)) m) v)
def yW(v:Int)(m:List (Int×Int)):List (Int×Int):=if(tg v m).isSome then m else eU v v m
def rt(c:bs)(v:Int):Option (Int×bs):=(wK (v.toNat+1) (yW v c.up) v).map fun p=>(p.1,{c with up:=p.2})
def T.foldO{α:Type}(f:Int->α->Option α):T->α->Option α
 | .var n,a=>f n a
 | .pair x y,a=>(x.foldO f a).bind (y.foldO f)
 |_,a=>some a
def T.mapO{α:Type}(f:Int->α->Option (T×α)):T->α->Option (T×α)
 | .var n,a=>f n a
 | .pair x y,a=>(x.mapO f a).bind fun p=>(y.mapO f p.2).map fun q=>(.pair p.1 q.1,q.2)
 |t,a=>some (t,a)
def T.sizeO{α:Type}(f:Int->α->Option (Int×α)):T->α->Option (Int×α)
 | .var n,a=>(f n a).map fun p=>(if 5001<p.1 then 5001 else p.1,p.2)
 | .pair x y,a=>(x.sizeO f a).bind fun p=>if 5000<p.1 then some p else(y.sizeO f p.2).map fun q=>(if 5001<1+p.1+q.1 then 5001 else 1+p.1+q.1,q.2)
 |_,a=>some (1,a)
def Ab(t:T)(c:bs):Option bs:=t.foldO (fun v c=>(rt c v).map (·.2)) c
structure tS where
 c:bs
 seen:List (Int×Bool)
 found:Bool
def wJ(rec:T->bs->List (Int×Bool)->Option tS)(x:Int)(v:Int)(a:tS):Option tS:=
 (rt a.c v).bind fun p=>if a.found=true\/p.1=x then some ⟨p.2,a.seen,true⟩
  else if(tg p.1 a.seen).getD false=false/\p.2.shd p.1=true then rec (p.2.shp p.1) p.2 (eU p.1 true a.seen)
  else some ⟨p.2,a.seen,a.found⟩
def pI:Nat->Int->T->bs->List (Int×Bool)->Option tS
 |0,_,_,_,_=>none
 |n+1,x,t,c,seen=>t.foldO (wJ (pI n x) x) ⟨c,seen,false⟩
def bs.know(c:bs)(x:Int)(t:T):bs:={c with shape:=eU x t c.shape,shaped:=eU x true c.shaped}
def uK(n:Nat)(x:Int)(t:T)(c:bs):Option (Bool×bs):=(pI n x t (c.know x t) []).map fun a=>(!a.found,a.c)
def bs.join(c:bs)(x y:Int):bs:={c with up:=eU y x c.up}
def rv(rec:T->T->bs->Option (Bool×bs))(n:Nat)(x y:Int)(c:bs):Option (Bool×bs):=
 if c.shd y=false then
  (if c.shd x=false then some (true,c)else(pI n x (c.shp x) c []).map fun a=>(!a.found,a.c))
 else if c.shd x=false then uK n x (c.shp y) c
 else(pI n x (c.shp y) c []).bind fun a=>if a.found=true then some (false,a.c)else
  (pI n x (a.c.shp x) a.c []).bind fun b=>if b.found=true then some (false,b.c)else rec (b.c.shp x) (c.shp y) b.c
def gv:Nat->T->T->bs->Option (Bool×bs)
 |0,_,_,_=>none
 |n+1,.var i,.var j,c=>(rt c i).bind fun p=>(rt p.2 j).bind fun q=>if p.1=q.1 then some (true,q.2)else if q.1<p.1 then rv (gv n) n q.1 p.1 (q.2.join q.1 p.1)else rv (gv n) n p.1 q.1 (q.2.join p.1 q.1)
 |n+1,.var i,b,c=>(rt c i).bind fun p=>if p.2.shd p.1=false then uK n p.1 b p.2 else gv n (p.2.shp p.1) b p.2
 |n+1,a,.var j,c=>gv n (.var j) a c
 |n+1,.pair bz a2,.pair cf b9,c=>(gv n bz cf c).bind fun p=>if p.1=true then gv n a2 b9 p.2 else some (false,p.2)
 |_+1,a,b,c=>some (decide (a=b),c)
structure jG (m:List (Int×Int)) (ρ:Int->Int):Prop where
 up:∀v u,tg v m=some u->(0<=u/\u<=v/\u∈cn m)/\ρ u=ρ v/\(ρ v=v↔u=v)
 no:∀v,v∉cn m->ρ v=v
theorem jG.get{m:List (Int×Int)}{ρ:Int->Int}(h:jG m ρ){v:Int}(av:v∈cn m):∃u,tg v m=some u/\jb m v=u:=by have:=HD.2 av;obtain⟨u,hu⟩:=fP.1 this;exact⟨u,hu,by simp[jb,hu]⟩
theorem jG.root{m:List (Int×Int)}{ρ:Int->Int}(h:jG m ρ):∀(n:Nat) (v:Int),v.toNat<=n->(ρ v<=v/\ρ (ρ v)=ρ v/\(v∈cn m->ρ v∈cn m/\0<=ρ v)):=by
 intro n;induction n using pO with
 |ind n bO=>
 intro v az;by_cases av:v∈cn m
 ·obtain⟨u,J,_⟩:=h.get av;obtain⟨⟨bz,a2,a3⟩,a4,a5⟩:=h.up v u J;by_cases e:u=v
  ·have:=a5.2 e;subst e;rw[this];exact⟨Ω,this,fun _=>⟨a3,bz⟩⟩
  ·obtain⟨cf,b9,gb⟩:=bO (u.toNat) Ω u Ω;rw[<-a4];exact⟨Ω,b9,fun _=>gb a3⟩
 ·have:=h.no v av;rw[this];exact⟨Ω,this,fun h=>absurd h av⟩
theorem jG.le{m:List (Int×Int)}{ρ:Int->Int}(h:jG m ρ)(v:Int):ρ v<=v:=(h.root v.toNat v (eC _)).1
theorem jG.idem{m:List (Int×Int)}{ρ:Int->Int}(h:jG m ρ)(v:Int):ρ (ρ v)=ρ v:=(h.root v.toNat v (eC _)).2.1
theorem jG.mem{m:List (Int×Int)}{ρ:Int->Int}(h:jG m ρ){v:Int}(av:v∈cn m):ρ v∈cn m/\0<=ρ v:=(h.root v.toNat v (eC _)).2.2 av
theorem WL{ρ:Int->Int}:∀(n:Nat) (m:List (Int×Int)) (v:Int),jG m ρ->v∈cn m->v.toNat<n->∃lL,wK n m v=some (ρ v,lL)/\jG lL ρ/\cn lL=cn m
 |0,_,_,_,_,az=>Ω
 |n+1,m,v,h,av,az=>by
  obtain⟨u,J,U⟩:=h.get av;obtain⟨⟨bz,a2,a3⟩,a4,a5⟩:=h.up v u J;simp only[wK,U];by_cases e:u=v
  ·rw[if_pos e];have:=a5.2 e;exact⟨m,by rw[this],h,rfl⟩
  ·rw[if_neg e];obtain⟨x,g1,g2⟩:=h.get a3;obtain⟨⟨cf,b9,gb⟩,tY,Oe⟩:=h.up u x g1;rw[g2];have ad:=CW (v:=x) av;have l5:jG (eU v x m) ρ:=by
    refine⟨fun w y hw=>?_,fun w hw=>h.no w (by rw[ad]at hw;exact hw)⟩;rw[nA]at hw;rw[ad];by_cases ew:w=v
    ·subst ew;rw[if_pos rfl]at hw;cases hw;refine⟨⟨cf,Ω,gb⟩,by rw[tY,a4],⟨fun aK=>absurd (a5.1 aK) e,fun ae=>?_⟩⟩;have:u=w:=Ω
     exact absurd this e
    ·rw[if_neg ew]at hw;exact h.up w y hw
   have afO:jb (eU v x m) v=x:=by simp[jb,nA]
   rw[afO];obtain⟨lL,bT,cv,dj⟩:=WL n (eU v x m) x l5 (by rw[ad];exact gb) Ω;exact⟨lL,by rw[bT,tY,a4],cv,by rw[dj,ad]⟩
structure iN (ρ:Int->Int) (c cl:bs):Prop where
 ru:jG cl.up ρ
 keys:cn cl.up=cn c.up
 eq:cl={c with up:=cl.up}
theorem iN.refl{ρ:Int->Int}{c:bs}(h:jG c.up ρ):iN ρ c c:=⟨h,rfl,rfl⟩
theorem iN.trans{ρ:Int->Int}{a b c:bs}(h:iN ρ a b)(k:iN ρ b c):iN ρ a c:=⟨k.ru,k.keys.trans h.keys,by rw[k.eq,h.eq]⟩
theorem iN.shd{ρ:Int->Int}{c cl:bs}(h:iN ρ c cl)(x:Int):cl.shd x=c.shd x:=by rw[h.eq];rfl
theorem iN.shp{ρ:Int->Int}{c cl:bs}(h:iN ρ c cl)(x:Int):cl.shp x=c.shp x:=by rw[h.eq];rfl
theorem tF{ρ:Int->Int}{c:bs}{v:Int}(h:jG c.up ρ)(av:v∈cn c.up):∃cl,rt c v=some (ρ v,cl)/\iN ρ c cl:=by
 have a7:yW v c.up=c.up:=by simp[yW,HD.2 av]
 obtain⟨lL,J,U,al⟩:=WL (v.toNat+1) c.up v h av Ω;exact⟨{c with up:=lL},by simp[rt,a7,J],⟨U,al,rfl⟩⟩
theorem akU{ρ:Int->Int}{c:bs}{v:Int}(h:jG c.up ρ)(bA:0<=v)(av:v∉cn c.up):rt c v=some (v,{c with up:=eU v v c.up})/\jG (eU v v c.up) ρ/\cn (eU v v c.up)=cn c.up++[v]:=by
 have az:=alY.2 av;have ad:=TS (v:=v) av;refine⟨?_,⟨fun w u hw=>?_,fun w hw=>h.no w fun hm=>hw (by rw[ad];simp[hm])⟩,ad⟩
 ·simp[rt,yW,az,wK,jb,nA]
 ·rw[nA]at hw;rw[ad];by_cases e:w=v
  ·subst e;rw[if_pos rfl]at hw;cases hw;exact⟨⟨bA,Ω,Ψ⟩,rfl,⟨fun _=>rfl,fun _=>h.no _ av⟩⟩
  ·rw[if_neg e]at hw;obtain⟨⟨bz,a2,a3⟩,a4⟩:=h.up w u hw;exact⟨⟨bz,a2,by simp[a3]⟩,a4⟩
def bs.ph(c:bs)(x:Int):Option T:=if c.shd x then some (c.shp x)else none
theorem iN.ph{ρ:Int->Int}{c cl:bs}(h:iN ρ c cl):cl.ph=c.ph:=by funext x;simp only[bs.ph,h.shd,h.shp]
def kh(ph:Int->Option T)(ρ:Int->Int)(θ:Int->T):Prop:=(∀v,θ v=θ (ρ v))/\∀x t,ρ x=x->ph x=some t->θ x=t.ap θ
def jc(ph:Int->Option T)(ρ:Int->Int)(z u:Int):Prop:=ρ z=z/\∃t w,ph z=some t/\t.occ w=true/\ρ w=u
inductive mT (E:Int->Int->Prop):Int->Int->Prop
 |refl (a:Int):mT E a a
 |step {a b c:Int}:E a b->mT E b c->mT E a c
def oq(V:List Int)(ph:Int->Option T):Prop:= ∀x t,ph x=some t->t.kind≠1/\(∀w,t.occ w=true->w∈V)/\x∈V
def HI(V:List Int)(ph:Int->Option T)(seen:List (Int×Bool)):Nat:=(V.filter fun v=>(ph v).isSome&& !((tg v seen).getD false)).length
def mI(seen:List (Int×Bool))(z:Int):Prop:=(tg z seen).getD false=true
structure Yi (V:List Int) (ph:Int->Option T) (ρ:Int->Int) (x:Int) (occ:Int->Prop) (a bp:tS):Prop where
 sm:iN ρ a.c bp.c
 sub:∀z,mI a.seen z->mI bp.seen z
 yes:bp.found=true->a.found=true\/ ∃w,occ w/\mT (jc ph ρ) (ρ w) x
 kept:a.found=true->bp.found=true
 no:bp.found=false->(∀w,occ w->ρ w≠x/\((ph (ρ w)).isSome=true->mI bp.seen (ρ w)))/\∀r,mI bp.seen r->¬mI a.seen r->∀u,jc ph ρ r u->u≠x/\((ph u).isSome=true->mI bp.seen u)
theorem Fa{α:Type}{p q:α->Bool}:∀{V:List α},(∀x∈V,q x=true->p x=true)->(V.filter q).length<=(V.filter p).length
 |[],_=>by simp
 |y::V,h=>by have:=Fa (p:=p) (q:=q) (V:=V) fun x ae=>h x (by simp[ae]);have aM:=h y Ψ;simp only[List.filter_cons];cases e:q y<;>cases aF:p y<;>simp_all<;>omega
theorem Fb{α:Type}{p q:α->Bool}{v:α}:∀{V:List α},(∀x∈V,q x=true->p x=true)->v∈V->p v=true->q v=false->(V.filter q).length<(V.filter p).length
 |[],_,h,_,_=>by simp at h
 |x::V,h,av,bL,bI=>by
  have hle:=Fa (p:=p) (q:=q) (V:=V) fun x ae=>h x (og _ ae);simp only[List.filter_cons];rcases fI.1 av with rfl|av
  ·simp[bL,bI];omega
  ·have:=Fb (fun x ae=>h x (og _ ae)) av bL bI;have ae:=h x Ψ;cases e:q x<;>cases aF:p x<;>simp_all<;>omega
theorem al7{V:List Int}{ph:Int->Option T}{s ah:List (Int×Bool)}(h:∀z,mI s z->mI ah z):HI V ph ah<=HI V ph s:=
 Fa fun x _ ae=>by
  simp only[ct,qo]at ae⊢;refine⟨ae.1,?_⟩;cases e:(tg x s).getD false with
  |false=>rfl
  |true=>have:=h x e;unfold mI at this;rw[ae.2]at this;cases this
theorem KE{s:List (Int×Bool)}{r z:Int}:mI (eU r true s) z↔z=r\/mI s z:=by unfold mI;rw[nA];by_cases h:z=r<;>simp[h]
theorem akK{V:List Int}{ph:Int->Option T}{ρ:Int->Int}{x:Int}(gA:oq V ph)(k:Nat):∀(t:T) (a:tS),jG a.c.up ρ->cn a.c.up=V->a.c.ph=ph->(∀w,t.occ w=true->w∈V)->HI V ph a.seen<=k->
  ∃N bp,(∀n,N<=n->t.foldO (wJ (pI n x) x) a=some bp)/\Yi V ph ρ x (fun w=>t.occ w=true) a bp:=by
 induction k using pO with
 |ind k KD=>
 intro t;induction t with
 |var v=>
  intro a l5 ad jy aI xP;obtain⟨bT,J,U⟩:=tF l5 (by rw[ad];exact aI v (by simp[T.occ]));have jg:bT.shd (ρ v)=(ph (ρ v)).isSome:=by rw[U.shd,<-jy];simp only[bs.ph];split<;>simp_all
  by_cases aO:a.found=true\/ρ v=x
  ·refine⟨0,⟨bT,a.seen,true⟩,fun n _=>by simp[T.foldO,wJ,J,aO],U,fun z bk=>bk,fun _=>?_,fun _=>rfl,fun h=>by cases h⟩;rcases aO with aO|aO
   ·exact .inl aO
   ·exact .inr ⟨v,by simp[T.occ],by rw[aO];exact .refl _⟩
  ·by_cases af:(tg (ρ v) a.seen).getD false=false/\bT.shd (ρ v)=true
   ·have FP:ph (ρ v)=some (bT.shp (ρ v)):=by rw[<-jy];simp only[bs.ph,U.shp];rw[if_pos (by rw[<-U.shd];exact af.2)]
    obtain⟨g1,g2,g3⟩:=gA _ _ FP;have bt:HI V ph (eU (ρ v) true a.seen)<k:=by
     refine Nat.lt_of_lt_of_le (Fb (v:=ρ v) (fun z _ bk=>?_) g3 ?_ ?_) xP
     ·simp only[ct,qo]at bk⊢;refine⟨bk.1,?_⟩;rw[nA]at bk;by_cases e:z=ρ v
      ·subst e;exact af.1
      ·rw[if_neg e]at bk;exact bk.2
     ·simp[FP,af.1]
     ·simp[nA]
    obtain⟨N,bp,ao,cU⟩:=KD _ bt (bT.shp (ρ v)) ⟨bT,eU (ρ v) true a.seen,false⟩ U.ru (by rw[U.keys];exact ad) (by rw[U.ph];exact jy) g2 (eC _);refine⟨N+1,bp,fun n az=>?_,U.trans cU.sm,fun z bk=>cU.sub z (KE.2 (.inr bk)),fun aM=>?_,fun h=>absurd (.inl h) aO,fun c8=>?_⟩
    ·obtain⟨n',rfl⟩:∃n',n=n'+1:=⟨n-1,Ω⟩;simp only[T.foldO,wJ,J,hU,if_neg aO,if_pos af,pI];exact ao n' Ω
    ·rcases cU.yes aM with h|⟨w,aZ,bm⟩
     ·cases h
     ·exact .inr ⟨v,by simp[T.occ],.step ⟨by rw[jG.idem l5],_,w,FP,aZ,rfl⟩ bm⟩
    ·obtain⟨aZ,bm⟩:=cU.no c8;have jw:mI bp.seen (ρ v):=cU.sub _ (KE.2 (.inl rfl));refine⟨fun w hw=>?_,fun r aK dG u hu=>?_⟩
     ·simp[T.occ]at hw;subst hw;exact⟨fun e=>aO (.inr e),fun _=>jw⟩
     ·by_cases qI:r=ρ v
      ·subst qI;obtain⟨_,dK,w,k2,z2,rfl⟩:=hu;rw[FP]at k2;cases k2;exact aZ w z2
      ·exact bm r aK (fun h=>(KE.1 h).elim qI dG) u hu
   ·have Cd:a.found=false:=by cases e:a.found with
     |false=>rfl
     |true=>exact absurd (.inl e) aO
    refine⟨0,⟨bT,a.seen,a.found⟩,fun n _=>by simp only[T.foldO,wJ,J,hU,if_neg aO,if_neg af],U,fun z bk=>bk,fun h=>.inl h,fun h=>h,fun _=>⟨fun w hw=>?_,fun r J U=>absurd J U⟩⟩;simp[T.occ]at hw;subst hw;refine⟨fun e=>aO (.inr e),fun bL=>?_⟩;unfold mI;cases e:(tg (ρ v) a.seen).getD false with
    |true=>rfl
    |false=>exact absurd ⟨e,by rw[jg];exact bL⟩ af
 |pair p q af7 af8=>
  intro a l5 ad jy aI xP;obtain⟨hG,bz,ao,cU⟩:=af7 a l5 ad jy (fun w hw=>aI w (by simp[T.occ,hw])) xP;obtain⟨je,a2,aF,dq⟩:=af8 bz cU.sm.ru (by rw[cU.sm.keys];exact ad) (by rw[cU.sm.ph];exact jy) (fun w hw=>aI w (by simp[T.occ,hw])) (gZ (al7 cU.sub) xP);refine⟨max hG je,a2,fun n az=>by simp only[T.foldO];rw[ao n Ω];exact aF n Ω,cU.sm.trans dq.sm,fun z bk=>dq.sub z (cU.sub z bk),fun aM=>?_,fun h=>dq.kept (cU.kept h),fun c8=>?_⟩
  ·rcases dq.yes aM with h|⟨w,aZ,bm⟩
   ·rcases cU.yes h with h|⟨w,aZ,bm⟩
    ·exact .inl h
    ·exact .inr ⟨w,by simp[T.occ,aZ],bm⟩
   ·exact .inr ⟨w,by simp[T.occ,aZ],bm⟩
  ·have aeb:bz.found=false:=by cases e:bz.found with
    |false=>rfl
    |true=>have:=dq.kept e;rw[c8]at this;cases this
   obtain⟨eR,fM⟩:=cU.no aeb;obtain⟨s1,s2⟩:=dq.no c8;refine⟨fun w hw=>?_,fun r aK dG u hu=>?_⟩
   ·simp only[T.occ,ls]at hw;rcases hw with hw|hw
    ·exact⟨(eR w hw).1,fun h=>dq.sub _ ((eR w hw).2 h)⟩
    ·exact s1 w hw
   ·by_cases h:mI bz.seen r
    ·exact⟨(fM r h dG u hu).1,fun cw=>dq.sub _ ((fM r h dG u hu).2 cw)⟩
    ·exact s2 r aK h u hu
 |_=>intro a l5 ad jy aI xP;exact⟨0,a,fun n _=>rfl,iN.refl l5,fun z bk=>bk,fun h=>.inl h,fun h=>h,fun _=>⟨fun w hw=>by simp[T.occ]at hw,fun r J U=>absurd J U⟩⟩
theorem G9{ρ:Int->Int}{x:Int}{c:bs}{t:T}(l5:jG c.up ρ)(gA:oq (cn c.up) c.ph)(aI:∀w,t.occ w=true->w∈cn c.up):
  ∃N a,(∀n,N<=n->pI n x t c []=some a)/\iN ρ c a.c/\(a.found=true↔∃w,t.occ w=true/\mT (jc c.ph ρ) (ρ w) x):=by
 obtain⟨N,a,J,U⟩:=akK (x:=x) gA _ t ⟨c,[],false⟩ l5 rfl rfl aI (eC _);refine⟨N+1,a,fun n az=>?_,U.sm,fun h=>?_,fun⟨w,hw,aK⟩=>?_⟩
 ·obtain⟨n',rfl⟩:∃n',n=n'+1:=⟨n-1,Ω⟩;exact J n' Ω
 ·rcases U.yes h with h|h
  ·cases h
  ·exact h
 ·cases e:a.found with
  |true=>rfl
  |false=>
   obtain⟨aZ,bm⟩:=U.no e;have key:∀z,mT (jc c.ph ρ) z x->z≠x->((c.ph z).isSome=true->mI a.seen z)->eN:=by
    have:∀z y,mT (jc c.ph ρ) z y->y=x->z≠x->((c.ph z).isSome=true->mI a.seen z)->eN:=by
     intro z y aM;induction aM with
     |refl z=>intro h ck;exact absurd h ck
     | @step z b cl he _ bO=>intro ae cF jw;obtain⟨_,dK,w',k2,_,_⟩:=id he;have af:=jw (by simp[k2]);obtain⟨g1,g2⟩:=bm z af (by simp[mI,tg]) b he;exact bO ae g1 g2
    exact fun z bk=>this z x bk rfl
   exact(key _ aK (aZ w hw).1 (aZ w hw).2).elim
end
end Go.Pv
