/- The most general unifier within the limits. -/
import Derived.Deep.LoopGhost
import Derived.Test.YtohaalphocaebaaGreatH1
set_option linter.all false
set_option maxHeartbeats 4000000
set_option maxRecDepth 4000
open Array renaming getElem?_toList->uG
open Bool renaming and_eq_true->cy,false_eq_true->ho,or_eq_true->lu
open Decidable renaming not_not->awa
open Go renaming Program->cI,TypeId->gu
open Go.IntKind renaming bits->oU,signed->th,u64->hI,wrap->ti
open Go.IntWalk renaming i64_in->pN
open Go.Op renaming bytesLess->hP
open Go.Region renaming wanted->pO
open Go.Result renaming andThen_ok->gf
open Go.Sem renaming run_bind->fZ,run_pure->gL
open Go.Value renaming cells->pP
open List renaming all_eq_true->jd,cons_append->bW,drop_eq_getElem_cons->lR,getElem?_eq_getElem->b6,getElem?_eq_none->qZ,getElem?_eq_some_iff->eV,length_append->pQ,length_cons->oX,length_map->oh,map_cons->gM,map_nil->mN,mem_append->kt,mem_cons->fT,mem_cons_of_mem->oY,mem_filter->oi,mem_map->iu,nil_append->b9,pairwise_cons->nz,pairwise_iff_getElem->qo
open List.Nodup renaming length_le_of_subset->P7
open List.Pairwise renaming imp_of_mem->arP,nil->Jx
open List.Perm renaming eq_of_pairwise->P8
open List.cons renaming injEq->oW
open Nat renaming le_refl->fc,le_trans->kJ
open Ne renaming symm->lv
open Option renaming bind_some->ki,getD_none->kv,getD_some->jM,isSome_iff_exists->fL,isSome_none->jN,map_eq_some_iff->hf,map_some->o0
open Option.some renaming inj->ed,injEq->ea
open Prod.mk renaming injEq->jO
open _root_ renaming False->e8,UInt8->dw,beq_iff_eq->eb,congrArg->fh,decide_eq_false->hQ,decide_eq_false_iff_not->fC,decide_eq_true_eq->eW
namespace Go.Pv
section
open Go Go.RowKit
def ak6(A:dq)(s ah:cL)(rm:Option aI):Prop:=(∀k,(look k ah.b).isSome->(look k s.b).isSome\/rm=some k)/\(∀k,(look k ah.e).isSome->(look k s.e).isSome\/rm=some k)/\(∀k,(look k s.b).isSome->(look k ah.b).isSome)/\(∀k,(look k s.e).isSome->(look k ah.e).isSome)/\
 (∀k,rm=some k->(∃j,k= .obj j)/\A.F k/\A.b k=none/\A.e k=none/\((look k ah.b).isSome\/(look k ah.e).isSome))
def abd(P:cI)(n:Nat)(args:List aj)(A:dq)(d:Option Nat)(x:k3):Prop:=
 ∃s ah r rm,(∀k cs,look k s.b=some cs->A.b k=some cs/\aC (inObs s) cs)/\(∀k o,look k s.e=some o->A.e k=some o/\dt (inObs s) o)/\ju s/\ju ah/\ak6 A s ah rm/\aC (inObs s) args/\
  bI P n args s (fun eZ da=>eZ=r/\da=ah)/\x=⟨d,r,ah.b,ah.e,rm⟩
def abe(P:cI)(n0 n:Nat)(args:List aj)(A:dq)(d:Option Nat)(x:k3):Prop:=
 ∃cQ r,d=some cQ/\(A.F (.loc (n0+cQ))/\A.b (.loc (n0+cQ))=none/\A.e (.loc (n0+cQ))=none)/\aC (fun _=>e8) args/\
  Jz P n (n0+cQ) args ⟨[],[]⟩ (fun eZ da=>eZ=r/\da=⟨[],[]⟩)/\x=⟨d,r,[],[],some (.loc (n0+cQ))⟩
def y2:aj->Bool
 | .ptr (.loc _) _=>true
 | .eptr _=>true
 |_=>false
def gk.isB:gk->Bool
 | .loadB _ _ _=>true
 | .mgetB _ _ _ _ _=>true
 |_=>false
def gk.ptrOf(t:Nat->aj):gk->aj
 | .load _ _ x=>dP t x
 | .loadB _ _ x=>dP t x
 |_=>.junk
def eJ(P:cI)(q:Bool)(n0:Nat):ey->dq->k3->Prop
 | .s (.v d i),A,x=> ∃c p,qm A.t A.b A.e i=some (c,p)/\c/\(i.isLoad=true->i.isB=true\/q=true\/y2 (i.ptrOf A.t)=true)/\x=⟨some d,p,[],[],none⟩
 | .s (.box d none v),A,x=>(A.F (.loc (n0+d))/\A.b (.loc (n0+d))=none/\A.e (.loc (n0+d))=none)/\eT (dP A.t v)=true/\x=⟨some d,.ptr (.loc (n0+d)) 0,[(.loc (n0+d),cells (dP A.t v))],[],some (.loc (n0+d))⟩
 | .s (.alloc d none z),A,x=>(A.F (.loc (n0+d))/\A.b (.loc (n0+d))=none/\A.e (.loc (n0+d))=none)/\x=⟨some d,.ptr (.loc (n0+d)) 0,[(.loc (n0+d),cells z)],[],some (.loc (n0+d))⟩
 | .s (.store sz u v),A,x=> ∃k off cs,dP A.t u= .ptr k off/\A.b k=some cs/\(gr cs=true/\eT (dP A.t v)=true/\(cells (dP A.t v)).length=sz/\off+sz<=cs.length)/\x=⟨none,.junk,[(k,oN cs off (cells (dP A.t v)))],[],none⟩
 | .s (.bsl d sz el xs),A,x=>(A.F (.loc (n0+d))/\A.b (.loc (n0+d))=none/\A.e (.loc (n0+d))=none)/\tu sz (xs.map (dP A.t))/\x=⟨some d,.slice sz (.own (.loc (n0+d))) (xs.map (dP A.t)),[],[(.loc (n0+d),⟨xs.length,el,sz,none⟩)],some (.loc (n0+d))⟩
 | .s (.app d sz el u v),A,x=> ∃tag xs lp ys,dP A.t u= .slice sz tag xs/\dP A.t v= .slice sz lp ys/\
   ((∃k o,tag= .own k/\A.e k=some o/\(o.xs=none/\o.n=xs.length/\o.el=el/\o.sz=sz/\xs.length+ys.length<=lim)/\x=⟨some d,.slice sz (.own k) (xs++ys),[],[(k,⟨xs.length+ys.length,el,sz,none⟩)],none⟩)\/
    (tag= .nil/\ys.length<=lim/\(A.F (.loc (n0+d))/\A.b (.loc (n0+d))=none/\A.e (.loc (n0+d))=none)/\x=⟨some d,.slice sz (.own (.loc (n0+d))) ys,[],[(.loc (n0+d),⟨ys.length,el,sz,none⟩)],some (.loc (n0+d))⟩))
 | .s (.appm d _ sz el u v),A,x=> ∃k n xs lp ys,dP A.t u= .row sz k n/\dP A.t v= .slice sz lp ys/\A.e k=some ⟨n,el,sz,some xs⟩/\xs.length+ys.length<=lim/\x=⟨some d,.row sz k (xs.length+ys.length),[],[(k,⟨xs.length+ys.length,el,sz,some (xs++ys)⟩)],none⟩
 | .s (.storeE sz u v),A,x=> ∃k n i f el dZ xs q,dP A.t u= .rptr dZ k n i f/\A.e k=some ⟨n,el,dZ,some xs⟩/\xs[i]? =some q/\(eT q=true/\eT (dP A.t v)=true/\(cells (dP A.t v)).length=sz/\f+sz<=(cells q).length/\0<sz)/\x=⟨none,.junk,[],[(k,⟨n,el,dZ,some (xs.set i (nr q f (cells (dP A.t v))))⟩)],none⟩
 | .s (.mkmap d (some m)),A,x=>(A.F (.obj m)/\A.b (.obj m)=none/\A.e (.obj m)=none)/\x=⟨some d,.gmap (.obj m),[(.obj m,[.hdm 0 []])],[],some (.obj m)⟩
 | .s (.mput ck u k v),A,x=> ∃m cs cs',dP A.t u= .gmap m/\A.b m=some cs/\oK ck (dP A.t k) (dP A.t v) cs=some cs'/\x=⟨none,.junk,[(m,cs')],[],none⟩
 | .call d f xs,A,x=> ∃n di,dP A.t f= .func n di/\((abd P n (c6 (xs.map (dP A.t)++di)) A d x/\(q=true->x.bw=[]/\x.ew=[]))\/abe P n0 n (c6 (xs.map (dP A.t)++di)) A d x)
 |_,_,_=>e8
inductive Cy where
 |v|l|n|s|w|a|c|m|r|k
 deriving DecidableEq
def ey.mode:ey->Cy
 | .s (.v _ (.loadB _ _ _))=>.m
 | .s (.v _ (.mgetB _ _ _ _ _))=>.m
 | .s (.v _ i)=>if i.isLoad then .l else .v
 | .s (.storeE _ _ _)=>.r
 | .s (.box _ _ _)=>.n
 | .s (.alloc _ _ _)=>.n
 | .s (.store _ _ _)=>.w
 | .s (.bsl _ _ _ _)=>.s
 | .s (.app _ _ _ _ _)=>.a
 | .s (.bslm _ _ _ _ _)=>.w
 | .s (.mks _ _ _ _ _ _)=>.w
 | .s (.appm _ _ _ _ _ _)=>.r
 | .s (.mkmap _ _)=>.k
 | .s (.mput _ _ _ _)=>.w
 | .s (.range _ _ _)=>.w
 | .call _ _ _=>.c
 | .next _ _=>.w
structure JN (q:Bool) (n0:Nat) (m:Cy) (dst:Option Nat) (A:dq) (x:k3):Prop where
 d:x.d=dst
 b:∀k,(look k x.bw).isSome->(m= .n/\∃d,dst=some d/\k= .loc (n0+d)/\A.b k=none/\A.e k=none)\/m= .w\/(m= .c/\(∃j,k= .obj j)/\q=false)\/(m= .k/\(∃j,k= .obj j)/\A.b k=none/\A.e k=none)
 e:∀k,(look k x.ew).isSome->(m= .s/\∃d,dst=some d/\k= .loc (n0+d)/\A.b k=none/\A.e k=none)\/(m= .a/\(A.e k≠none\/ ∃d,dst=some d/\k= .loc (n0+d)/\A.b k=none/\A.e k=none))\/(m= .c/\(∃j,k= .obj j)/\q=false)\/(m= .r/\∃o,A.e k=some o/\o.xs≠none)
 r:∀k,x.rm=some k->(∃d,dst=some d/\k= .loc (n0+d))\/((m= .c\/m= .k)/\(∃j,k= .obj j)/\((look k x.bw).isSome\/(look k x.ew).isSome))
 ex:m= .a->∀k o,(look k x.ew).isSome->A.e k=some o->o.xs=none
 xn:m= .a\/m= .s->∀k o,look k x.ew=some o->o.xs=none
theorem ud{α:Type}{k bJ:aI}{x:α}(h:(look k [(bJ,x)]).isSome):k=bJ:=by
 simp only[look]at h;split at h
 ·rename_i e;exact e.symm
 ·cases h
theorem M7{k bJ:aI}{n el sz:Nat}{o:gg}(h:look k [(bJ,(⟨n,el,sz,none⟩:gg))]=some o):o.xs=none:=by
 simp only[look]at h;split at h
 ·cases h;rfl
 ·cases h
theorem Z1{P:cI}{q:Bool}{n0:Nat}{i:ey}{A:dq}{x:k3}(h:eJ P q n0 i A x):JN q n0 i.mode i.dst A x:=by
 cases i with
 |s i=>
  cases i with
  |v d i=>simp only[eJ]at h;obtain⟨c,p,_,_,_,rfl⟩:=h;exact⟨rfl,fun k ad=>by simp[look]at ad,fun k ad=>by simp[look]at ad,fun k ad=>by simp at ad,fun _ k o ad=>by simp[look]at ad,fun _ k o ad=>by simp[look]at ad⟩
  |box d key v=>
   cases key with
   |some m=>simp only[eJ]at h
   |none=>simp only[eJ]at h;obtain⟨⟨_,U,ar⟩,_,rfl⟩:=h;exact⟨rfl,fun k ad=>by obtain rfl:=ud ad;exact .inl ⟨rfl,d,rfl,rfl,U,ar⟩,fun k ad=>by simp[look]at ad,fun k ad=>by simp at ad;exact .inl ⟨d,rfl,ad.symm⟩,fun _ k o ad=>by simp[look]at ad,fun _ k o ad=>by simp[look]at ad⟩
  |alloc d key z=>
   cases key with
   |some m=>simp only[eJ]at h
   |none=>simp only[eJ]at h;obtain⟨⟨_,U,ar⟩,rfl⟩:=h;exact⟨rfl,fun k ad=>by obtain rfl:=ud ad;exact .inl ⟨rfl,d,rfl,rfl,U,ar⟩,fun k ad=>by simp[look]at ad,fun k ad=>by simp at ad;exact .inl ⟨d,rfl,ad.symm⟩,fun _ k o ad=>by simp[look]at ad,fun _ k o ad=>by simp[look]at ad⟩
  |store sz u v=>simp only[eJ]at h;obtain⟨k,off,cs,_,_,_,rfl⟩:=h;exact⟨rfl,fun k ad=>.inr (.inl rfl),fun k ad=>by simp[look]at ad,fun k ad=>by simp at ad,fun _ k o ad=>by simp[look]at ad,fun _ k o ad=>by simp[look]at ad⟩
  |bsl d sz el xs=>simp only[eJ]at h;obtain⟨⟨_,U,ar⟩,_,rfl⟩:=h;exact⟨rfl,fun k ad=>by simp[look]at ad,fun k ad=>by obtain rfl:=ud ad;exact .inl ⟨rfl,d,rfl,rfl,U,ar⟩,fun k ad=>by simp at ad;exact .inl ⟨d,rfl,ad.symm⟩,fun e=>by simp[ey.mode]at e,fun _ k o ad=>M7 ad⟩
  |app d sz el u v=>
   simp only[eJ]at h;obtain⟨tag,xs,lp,ys,_,_,h⟩:=h;rcases h with⟨k,o,_,J,⟨gY,_⟩,rfl⟩|⟨_,_,⟨_,U,ar⟩,rfl⟩
   ·exact⟨rfl,fun k ad=>by simp[look]at ad,fun k ad=>by obtain rfl:=ud ad;exact .inr (.inl ⟨rfl,.inl (by rw[J];simp)⟩),fun k ad=>by simp at ad,fun _ bJ o' ad ay=>by obtain rfl:=ud ad;rw[J]at ay;cases ay;exact gY,fun _ k o ad=>M7 ad⟩
   ·exact⟨rfl,fun k ad=>by simp[look]at ad,fun k ad=>by obtain rfl:=ud ad;exact .inr (.inl ⟨rfl,.inr ⟨d,rfl,rfl,U,ar⟩⟩),fun k ad=>by simp at ad;exact .inl ⟨d,rfl,ad.symm⟩,fun _ bJ o' ad ay=>(by obtain rfl:=ud ad;rw[ar]at ay;cases ay),fun _ k o ad=>M7 ad⟩
  |bslm d key sz el xs=>simp only[eJ]at h
  |mks d key sz el z x=>simp only[eJ]at h
  |appm d key sz el u v=>simp only[eJ]at h;obtain⟨k,n,xs,lp,ys,_,_,J,_,rfl⟩:=h;exact⟨rfl,fun k ad=>by simp[look]at ad,fun k ad=>by obtain rfl:=ud ad;exact .inr (.inr (.inr ⟨rfl,_,J,Ψ⟩)),fun k ad=>by simp at ad,fun e=>by simp[ey.mode]at e,fun e=>by simp[ey.mode]at e⟩
  |storeE sz u v=>simp only[eJ]at h;obtain⟨k,n,i,f,el,dZ,xs,q,_,J,_,_,rfl⟩:=h;exact⟨rfl,fun k ad=>by simp[look]at ad,fun k ad=>by obtain rfl:=ud ad;exact .inr (.inr (.inr ⟨rfl,_,J,Ψ⟩)),fun k ad=>by simp at ad,fun e=>by simp[ey.mode]at e,fun e=>by simp[ey.mode]at e⟩
  |mkmap d key=>
   cases key with
   |none=>simp only[eJ]at h
   |some m=>simp only[eJ]at h;obtain⟨⟨_,U,ar⟩,rfl⟩:=h;exact⟨rfl,fun k ad=>by obtain rfl:=ud ad;exact .inr (.inr (.inr ⟨rfl,⟨m,rfl⟩,U,ar⟩)),fun k ad=>by simp[look]at ad,fun k ad=>by simp at ad;subst ad;exact .inr ⟨.inr rfl,⟨m,rfl⟩,.inl (by simp[look])⟩,fun e=>by simp[ey.mode]at e,fun e=>by simp[ey.mode]at e⟩
  |mput ck x k v=>simp only[eJ]at h;obtain⟨m,cs,cs',_,_,_,rfl⟩:=h;exact⟨rfl,fun k ad=>.inr (.inl rfl),fun k ad=>by simp[look]at ad,fun k ad=>by simp at ad,fun e=>by simp[ey.mode]at e,fun e=>by simp[ey.mode]at e⟩
  |range d key x=>simp only[eJ]at h
 |next d x=>simp only[eJ]at h
 |call d f xs=>
  simp only[eJ]at h;obtain⟨n,di,_,h⟩:=h;rcases h with⟨⟨s,ah,r,rm,_,_,_,ay,Vs,_,_,rfl⟩,bn⟩|⟨cQ,r,rfl,_,_,_,rfl⟩;rotate_left
  ·exact⟨rfl,fun k ad=>by simp[look]at ad,fun k ad=>by simp[look]at ad,fun k ad=>by simp at ad;exact .inl ⟨cQ,rfl,ad.symm⟩,fun _ k o ad=>by simp[look]at ad,fun _ k o ad=>by simp[look]at ad⟩
  refine⟨rfl,fun k ad=>.inr (.inr (.inl ⟨rfl,?_,?_⟩)),fun k ad=>.inr (.inr (.inl ⟨rfl,?_,?_⟩)),fun k ad=>.inr ⟨.inl rfl,(Vs.2.2.2.2 k ad).1,(Vs.2.2.2.2 k ad).2.2.2.2⟩,fun e=>by simp[ey.mode]at e,fun e=>by simp[ey.mode]at e⟩
  ·cases k with
   |loc m=>rw[ay.1 m]at ad;cases ad
   |obj m=>exact⟨m,rfl⟩
  ·cases q with
   |false=>rfl
   |true=>rw[(bn rfl).1]at ad;simp[look]at ad
  ·cases k with
   |loc m=>rw[ay.2 m]at ad;cases ad
   |obj m=>exact⟨m,rfl⟩
  ·cases q with
   |false=>rfl
   |true=>rw[(bn rfl).2]at ad;simp[look]at ad
theorem Qb{P:cI}{q:Bool}{n0:Nat}{i:ey}{A gz:dq}{x:k3}(h:eJ P q n0 i A x)(aJ:q5 i.looks A.t gz.t)
  (au:i.mode= .l->∀k,(q=true\/ ∃m,k= .loc m)->A.b k≠none->gz.b k=A.b k) (Vk:i.mode= .m->∀k,A.b k≠none->gz.b k=A.b k)
  (lD:i.mode= .l->q=true->∀k o,A.e k=some o->o.xs≠none->gz.e k=some o)
  (ax:∀d,i.dst=some d->(i.mode= .n\/i.mode= .s\/i.mode= .a\/i.mode= .c)->(A.F (.loc (n0+d))/\A.b (.loc (n0+d))=none/\A.e (.loc (n0+d))=none)->(gz.F (.loc (n0+d))/\gz.b (.loc (n0+d))=none/\gz.e (.loc (n0+d))=none))
  (bD:i.mode= .a->∀k o,A.e k=some o->gz.e k=some o) (hw:i.mode= .w->∀k,gz.b k=A.b k) (ajd:i.mode= .k->∀m,(A.F (.obj m)/\A.b (.obj m)=none/\A.e (.obj m)=none)->(gz.F (.obj m)/\gz.b (.obj m)=none/\gz.e (.obj m)=none)) (DM:i.mode= .r->∀k o,A.e k=some o->o.xs≠none->gz.e k=some o)
  (aw:i.mode= .c->∀m,gz.b (.obj m)=A.b (.obj m)/\gz.e (.obj m)=A.e (.obj m)/\(A.F (.obj m)->gz.F (.obj m))):eJ P q n0 i gz x:=by
 cases i with
 |s i=>
  cases i with
  |v d i=>
   simp only[eJ]at h⊢;obtain⟨c,p,J,U,ar,a6⟩:=h;by_cases k7:∃agg sz y,i= .loadB agg sz y
   ·obtain⟨agg,sz,y,rfl⟩:=k7;simp only[ey.looks,eF.looks,gk.looks]at aJ;have vl:=gH aJ;refine⟨c,p,?_,U,fun _=>.inl rfl,a6⟩;rw[<-J];simp only[qm,<-vl];have hm:=Vk (by simp[ey.mode]);simp only[qm]at J;cases bF:dP A.t y<;>simp only[sM];rename_i key off;rw[bF]at J;simp only[sM]at J;cases af:A.b key with
    |none=>simp[af]at J
    |some cs=>have:gz.b key=A.b key:=hm key (by rw[af];simp);rw[this,af]
   by_cases GC:∃ck zero ok y z,i= .mgetB ck zero ok y z
   ·obtain⟨ck,zero,ok,y,z,rfl⟩:=GC;simp only[ey.looks,eF.looks,gk.looks]at aJ;obtain⟨t1,t2⟩:=kL aJ;refine⟨c,p,?_,U,fun _=>.inl rfl,a6⟩;simp only[qm]at J⊢;rw[<-gH t1,<-gH t2];exact Xi (Vk (by simp[ey.mode])) J
   replace ar:i.isLoad=true->q=true\/y2 (i.ptrOf A.t)=true:=fun mX=>(ar mX).resolve_left (fun af=>by cases i<;>simp[gk.isB]at af;exact k7 ⟨_,_,_,rfl⟩;exact GC ⟨_,_,_,_,_,rfl⟩);have aiu:i.isLoad=true->(ey.s (.v d i)).mode= .l:=by intro mX;cases i<;>simp only[gk.isLoad]at mX<;>first|(cases mX;done)|(simp[ey.mode,gk.isLoad];done)|exact absurd ⟨_,_,_,rfl⟩ k7|exact absurd ⟨_,_,_,_,_,rfl⟩ GC
   by_cases mX:i.isLoad=true
   ·have bn:∀(bF:y2 (i.ptrOf A.t)=false),∀k,A.b k≠none->gz.b k=A.b k:=fun bF k ad=>au (aiu mX) k (.inl ((ar mX).resolve_right (by rw[bF];simp))) ad;cases i<;>simp only[gk.isLoad]at mX<;>try(cases mX;done)
    case mget ck zero ok y z=>simp only[ey.looks,eF.looks,gk.looks]at aJ;obtain⟨t1,t2⟩:=kL aJ;refine⟨c,p,?_,U,fun _=>.inr (ar rfl),a6⟩;simp only[qm]at J⊢;rw[<-gH t1,<-gH t2];exact Xi (bn rfl) J
    case ment y=>simp only[ey.looks,eF.looks,gk.looks]at aJ;refine⟨c,p,?_,U,fun _=>.inr (ar rfl),a6⟩;simp only[qm]at J⊢;rw[<-gH aJ];exact aku (bn rfl) J
    case mlen y=>simp only[ey.looks,eF.looks,gk.looks]at aJ;refine⟨c,p,?_,U,fun _=>.inr (ar rfl),a6⟩;simp only[qm]at J⊢;rw[<-gH aJ];exact akO (bn rfl) J
    case loadB agg sz y=>exact absurd ⟨_,_,_,rfl⟩ k7
    case mgetB=>exact absurd ⟨_,_,_,_,_,rfl⟩ GC
    rename_i agg sz y;simp only[ey.looks,eF.looks,gk.looks]at aJ;have vl:=gH aJ;refine⟨c,p,?_,U,fun _=>.inr (by have:=ar rfl;simpa only[gk.ptrOf,<-vl]using this),a6⟩;rw[<-J];simp only[qm,<-vl];have hm:=au (by simp[ey.mode,gk.isLoad]);simp only[qm]at J;have tG:=ar rfl;simp only[gk.ptrOf]at tG;cases bF:dP A.t y<;>simp only[sM]
    ·rename_i key off;rw[bF]at J tG;simp only[sM]at J;cases af:A.b key with
     |none=>simp[af]at J
     |some cs=>have:gz.b key=A.b key:=hm key (by rcases tG with h|h;exact .inl h;cases key;exact .inr ⟨_,rfl⟩;simp[y2]at h) (by rw[af];simp);rw[this,af]
    ·rename_i dZ key n i f;rw[bF]at J tG;simp only[sM]at J;have VD:q=true:=tG.resolve_right (by simp[y2]);unfold zF at J;split at J
     ·rename_i n' el jK xs he;rw[he,lD (by simp[ey.mode,gk.isLoad]) VD key _ he Ψ]
     ·cases J
   ·have mX:i.isLoad=false:=by simpa using mX
    refine⟨c,p,?_,U,(fun e=>by rw[mX]at e;cases e),a6⟩;rw[<-J];exact(aqg (by simpa only[ey.looks,eF.looks]using aJ) mX).symm
  |box d key v=>
   cases key with
   |some m=>simp only[eJ]at h
   |none=>simp only[eJ,ey.looks,eF.looks]at h aJ⊢;obtain⟨J,U,ar⟩:=h;rw[<-gH aJ];exact⟨ax d rfl (.inl rfl) J,U,ar⟩
  |alloc d key z=>
   cases key with
   |some m=>simp only[eJ]at h
   |none=>simp only[eJ]at h⊢;exact⟨ax d rfl (.inl rfl) h.1,h.2⟩
  |store sz u v=>simp only[eJ,ey.looks,eF.looks]at h aJ⊢;obtain⟨J,U⟩:=kL aJ;rw[<-gH J,<-gH U];obtain⟨k,off,cs,g1,g2,g3,g4⟩:=h;exact⟨k,off,cs,g1,by rw[hw rfl];exact g2,g3,g4⟩
  |bsl d sz el xs=>simp only[eJ,ey.looks,eF.looks]at h aJ⊢;rw[<-HI aJ];exact⟨ax d rfl (.inr (.inl rfl)) h.1,h.2⟩
  |app d sz el u v=>
   simp only[eJ,ey.looks,eF.looks]at h aJ⊢;obtain⟨J,U⟩:=kL aJ;rw[<-gH J,<-gH U];obtain⟨tag,xs,lp,ys,g1,g2,h⟩:=h;refine⟨tag,xs,lp,ys,g1,g2,?_⟩;rcases h with⟨k,o,ak,aD,bh⟩|⟨ak,aD,bh,dk⟩
   ·exact .inl ⟨k,o,ak,bD rfl k o aD,bh⟩
   ·exact .inr ⟨ak,aD,ax d rfl (.inr (.inr (.inl rfl))) bh,dk⟩
  |bslm d key sz el xs=>simp only[eJ]at h
  |mks d key sz el z x=>simp only[eJ]at h
  |appm d key sz el u v=>simp only[eJ,ey.looks,eF.looks]at h aJ⊢;obtain⟨J,U⟩:=kL aJ;rw[<-gH J,<-gH U];obtain⟨k,n,xs,lp,ys,g1,g2,g3,g4,g5⟩:=h;exact⟨k,n,xs,lp,ys,g1,g2,DM rfl k _ g3 Ψ,g4,g5⟩
  |storeE sz u v=>simp only[eJ,ey.looks,eF.looks]at h aJ⊢;obtain⟨J,U⟩:=kL aJ;rw[<-gH J,<-gH U];obtain⟨k,n,i,f,el,dZ,xs,q,g1,g2,g3⟩:=h;exact⟨k,n,i,f,el,dZ,xs,q,g1,DM rfl k _ g2 Ψ,g3⟩
  |mkmap d key=>
   cases key with
   |none=>simp only[eJ]at h
   |some m=>simp only[eJ]at h⊢;exact⟨ajd rfl m h.1,h.2⟩
  |mput ck u k v=>simp only[eJ,ey.looks,eF.looks]at h aJ⊢;obtain⟨t1,t3⟩:=kL aJ;obtain⟨t1,t2⟩:=kL t1;obtain⟨m,cs,cs',g1,g2,g3,g4⟩:=h;rw[<-gH t1,<-gH t2,<-gH t3];exact⟨m,cs,cs',g1,by rw[hw rfl];exact g2,g3,g4⟩
  |range d key x=>simp only[eJ]at h
 |next d x=>simp only[eJ]at h
 |call d f xs=>
  simp only[eJ,ey.looks]at h aJ⊢;obtain⟨J,U⟩:=kL aJ;rw[<-gH J,<-HI U];obtain⟨n,di,g1,h⟩:=h;rcases h with⟨⟨s,ah,r,rm,bM,cp,dc,h2,kM,pZ⟩,g3⟩|⟨cQ,r,rfl,bM,cp⟩;rotate_left
  ·exact⟨n,di,g1,.inr ⟨cQ,r,rfl,ax cQ rfl (.inr (.inr (.inr rfl))) bM,cp⟩⟩
  refine⟨n,di,g1,.inl ⟨⟨s,ah,r,rm,fun k cs ad=>?_,fun k o ad=>?_,dc,h2,⟨kM.1,kM.2.1,kM.2.2.1,kM.2.2.2.1,fun k ad=>?_⟩,pZ⟩,g3⟩⟩
  ·cases k with
   |loc m=>rw[dc.1 m]at ad;cases ad
   |obj m=>rw[(aw rfl m).1];exact bM _ _ ad
  ·cases k with
   |loc m=>rw[dc.2 m]at ad;cases ad
   |obj m=>rw[(aw rfl m).2.1];exact cp _ _ ad
  ·obtain⟨⟨j,rfl⟩,d2,d3,d4,d5⟩:=kM.2.2.2.2 k ad;exact⟨⟨j,rfl⟩,(aw rfl j).2.2 d2,by rw[(aw rfl j).1];exact d3,by rw[(aw rfl j).2.1];exact d4,d5⟩
def lN(d:Option Nat):k3:=⟨d,.tuple [],[],[],none⟩
def k4(P:cI)(q:Bool)(n0:Nat)(g:de)(A:dq)(x:k3):Prop:=
 match g.g with
 |none=>eJ P q n0 g.i A x
 |some (s,w)=>match A.t s with
  | .bool b=>(b=w/\eJ P q n0 g.i A x)\/(b= !w/\x=lN g.i.dst)
  | .tuple []=>x=lN g.i.dst
  |_=>e8
def fk:Cy->Cy->Bool
 | .v,_=>true
 |_,.v=>true
 | .l,.l| .l,.n| .l,.s| .l,.a| .l,.c=>true
 | .n,.n| .n,.s| .n,.a| .n,.c=>true
 | .s,.l| .s,.n| .s,.s| .s,.c=>true
 | .a,.l| .a,.n| .a,.s=>true
 | .c,.l| .c,.n| .c,.s=>true
 | .l,.m| .m,.l| .m,.m| .m,.n| .m,.s| .m,.a| .s,.m| .a,.m=>true
 | .l,.k| .m,.k| .n,.k| .s,.k=>true
 | .m,.r| .r,.m| .r,.n| .r,.s| .n,.r| .s,.r| .r,.w| .w,.r=>true
 |_,_=>false
def AH(g h:de):Bool:=(match g.i.dst with|some d=> !(h.looks.contains d)&&h.i.dst !=some d|none=>true)&&(match h.i.dst with|some d=> !(g.looks.contains d)|none=>true)&&fk g.i.mode h.i.mode
theorem Z2(q:Bool)(n0:Nat)(m:Cy)(d:Option Nat)(A:dq):JN q n0 m d A (lN d):=⟨rfl,fun k ad=>by simp[lN,look]at ad,fun k ad=>by simp[lN,look]at ad,fun k ad=>by simp[lN]at ad,fun _ k o ad=>by simp[lN,look]at ad,fun _ k o ad=>by simp[lN,look]at ad⟩
theorem Pz{P:cI}{q:Bool}{n0:Nat}{g:de}{A:dq}{x:k3}(h:k4 P q n0 g A x):JN q n0 g.i.mode g.i.dst A x:=by
 unfold k4 at h;split at h
 ·exact Z1 h
 ·split at h
  ·rcases h with⟨_,h⟩|⟨_,rfl⟩
   ·exact Z1 h
   ·exact Z2 _ _ _ _ _
  ·subst h;exact Z2 _ _ _ _ _
  ·exact h.elim
theorem tB{A:dq}{x:k3}{k:aI}(h:look k x.bw=none):(A.do x).b k=A.b k:=by simp[dq.do,iT,h]
theorem tC{A:dq}{x:k3}{k:aI}(h:look k x.ew=none):(A.do x).e k=A.e k:=by simp[dq.do,iT,h]
theorem KD{A:dq}{x:k3}{k:aI}(h:(A.do x).b k=none):A.b k=none:=by
 simp only[dq.do,iT]at h;split at h
 ·cases h
 ·exact h
theorem KE{A:dq}{x:k3}{k:aI}(h:(A.do x).e k=none):A.e k=none:=by
 simp only[dq.do,iT]at h;split at h
 ·cases h
 ·exact h
theorem mg{α:Type}{o:Option α}(h:¬o.isSome):o=none:=by cases o<;>simp at h⊢
theorem Qd{P:cI}{q:Bool}{n0:Nat}{g:de}{A gz:dq}{x:k3}(h:k4 P q n0 g A x)(aJ:q5 g.looks A.t gz.t)(hm:eJ P q n0 g.i A x->eJ P q n0 g.i gz x):k4 P q n0 g gz x:=by
 unfold k4 at h⊢;cases a7:g.g with
 |none=>simp only[a7]at h⊢;exact hm h
 |some zN=>
  obtain⟨s,w⟩:=zN;have:A.t s=gz.t s:=aJ s (by simp[de.looks,a7]);simp only[a7,this]at h⊢;split at h
  ·rcases h with⟨J,U⟩|h
   ·exact .inl ⟨J,hm U⟩
   ·exact .inr h
  ·exact h
  ·exact h
theorem swap{P:cI}{q:Bool}{n0:Nat}{g h:de}(Vb:AH g h=true){A:dq}{x y:k3}(ab:k4 P q n0 g A x)(aL:k4 P q n0 h (A.do x) y):
  k4 P q n0 h A y/\k4 P q n0 g (A.do y) x/\x.apart y:=by
 simp only[AH,cy]at Vb;obtain⟨⟨fD,e2⟩,hm⟩:=Vb;have zQ:=Pz ab;have cM:∀d cd,g.i.dst=some d->h.i.dst=some cd->d≠cd:=by intro d cd ak aD e;simp only[ak,cy,bne_iff_ne]at fD;exact fD.2 (by rw[aD,e])
 have GF:q5 h.looks (A.do x).t A.t:=by intro i hi;simp only[dq.do];rw[if_neg];intro e;rw[zQ.d]at e;simp only[e,cy,Bool.not_eq_true',List.contains_eq_mem,fC]at fD;exact fD.1 hi
 have lb:∀k,(look k x.bw).isSome->_:=zQ.b;have hle:∀k,(look k x.ew).isSome->_:=zQ.e;have Wq:k4 P q n0 h A y:=by
  refine Qd aL GF fun iI=>Qb iI (fun i hi=>GF i (by simp[de.looks,hi])) (fun e k ad af=>?_) (fun e k af=>?_) (fun e bn k o ay gY=>?_) (fun d aR Vp l2=>?_) (fun e k o ay=>?_) (fun e k=>?_) (fun e m l2=>⟨l2.1.1,KD l2.2.1,KE l2.2.2⟩) (fun e k o ay gY=>?_) (fun e m=>?_)
  ·rw[tB (mg fun ag=>?_)];rcases lb k ag with⟨ak,_⟩|ak|⟨ak,⟨j,aD⟩,bh⟩|⟨ak,_⟩;rotate_left 3
   ·rw[e,ak]at hm;simp[fk]at hm
   ·rw[e,ak]at hm;simp[fk]at hm
   ·rw[e,ak]at hm;simp[fk]at hm
   ·rcases ad with ad|⟨m,ad⟩
    ·rw[ad]at bh;cases bh
    ·rw[ad]at aD;cases aD
  ·rw[tB (mg fun ag=>?_)];rcases lb k ag with⟨ak,_⟩|ak|⟨ak,_⟩|⟨ak,_⟩<;>(rw[e,ak]at hm;simp[fk]at hm)
  ·rw[e]at hm;cases fE:look k x.ew with
   |none=>rw[tC fE]at ay;exact ay
   |some o'=>
    exfalso;have Mc:(A.do x).e k=some o':=by simp[dq.do,iT,fE]
    rw[Mc]at ay;cases ay;rcases hle k (by simp[fE])with⟨ak,_⟩|⟨ak,_⟩|⟨ak,_,bh⟩|⟨ak,_⟩
    ·exact gY (zQ.xn (.inr ak) k _ fE)
    ·exact gY (zQ.xn (.inl ak) k _ fE)
    ·rw[bn]at bh;cases bh
    ·rw[ak]at hm;simp[fk]at hm
  ·exact⟨l2.1.1,KD l2.2.1,KE l2.2.2⟩
  ·rw[tC (mg fun ag=>?_)]at ay
   ·exact ay
   ·rw[e]at hm;rcases hle k ag with⟨ak,_⟩|⟨ak,_⟩|⟨ak,_⟩|⟨ak,_⟩<;>(rw[ak]at hm;simp[fk]at hm)
  ·rw[tB (mg fun ag=>?_)];rw[e]at hm;rcases lb k ag with⟨ak,_⟩|ak|⟨ak,_⟩|⟨ak,_⟩<;>(rw[ak]at hm;simp[fk]at hm)
  ·rw[e]at hm;cases fE:look k x.ew with
   |none=>rw[tC fE]at ay;exact ay
   |some o'=>
    exfalso;have Mc:(A.do x).e k=some o':=by simp[dq.do,iT,fE]
    rw[Mc]at ay;cases ay;rcases hle k (by simp[fE])with⟨ak,_⟩|⟨ak,_⟩|⟨ak,_⟩|⟨ak,_⟩
    ·exact gY (zQ.xn (.inr ak) k _ fE)
    ·rw[ak]at hm;simp[fk]at hm
    ·rw[ak]at hm;simp[fk]at hm
    ·rw[ak]at hm;simp[fk]at hm
  ·rw[e]at hm;refine⟨?_,?_,fun hh=>hh.1⟩
   ·rw[tB (mg fun ag=>?_)];rcases lb _ ag with⟨ak,d,_,aD,_⟩|ak|⟨ak,_⟩|⟨ak,_⟩;rotate_left 3
    ·rw[ak]at hm;simp[fk]at hm
    ·cases aD
    ·rw[ak]at hm;simp[fk]at hm
    ·rw[ak]at hm;simp[fk]at hm
   ·rw[tC (mg fun ag=>?_)];rcases hle _ ag with⟨ak,d,_,aD,_⟩|⟨ak,_⟩|⟨ak,_⟩|⟨ak,_⟩
    ·cases aD
    ·rw[ak]at hm;simp[fk]at hm
    ·rw[ak]at hm;simp[fk]at hm
    ·rw[ak]at hm;simp[fk]at hm
 have ty:=Pz Wq;have UR:q5 g.looks A.t (A.do y).t:=by intro i hi;simp only[dq.do];rw[if_neg];intro e;rw[ty.d]at e;simp only[e,Bool.not_eq_true',List.contains_eq_mem,fC]at e2;exact e2 hi
 refine⟨Wq,?_,?_⟩
 ·refine Qd ab UR fun iI=>Qb iI (fun i hi=>UR i (by simp[de.looks,hi])) (fun e k ad af=>?_) (fun e k af=>?_) (fun e bn k o ay gY=>?_) (fun d aR Vp l2=>?_) (fun e k o ay=>?_) (fun e k=>?_) (fun e m l2=>?_) (fun e k o ay gY=>?_) (fun e m=>?_)
  ·refine tB (mg fun ag=>?_);rcases ty.b k ag with⟨ak,d,_,_,aD,_⟩|ak|⟨ak,⟨j,aD⟩,bh⟩|⟨_,_,aD,_⟩;rotate_left 3
   ·exact af aD
   ·exact af aD
   ·rw[e,ak]at hm;simp[fk]at hm
   ·rcases ad with ad|⟨m,ad⟩
    ·rw[ad]at bh;cases bh
    ·rw[ad]at aD;cases aD
  ·refine tB (mg fun ag=>?_);rcases ty.b k ag with⟨ak,d,_,_,aD,_⟩|ak|⟨ak,_⟩|⟨_,_,aD,_⟩;rotate_left 3
   ·exact af aD
   ·exact af aD
   ·rw[e,ak]at hm;simp[fk]at hm
   ·rw[e,ak]at hm;simp[fk]at hm
  ·rw[tC (mg fun ag=>?_)]
   ·exact ay
   ·rcases ty.e k ag with⟨ak,d,_,_,_,aD⟩|⟨ak,aD⟩|⟨ak,_,bh⟩|⟨ak,_⟩
    ·rw[aD]at ay;cases ay
    ·exact gY (ty.ex ak k o ag ay)
    ·rw[bn]at bh;cases bh
    ·rw[e,ak]at hm;simp[fk]at hm
  ·refine⟨⟨l2.1,fun re=>?_⟩,?_,?_⟩
   ·rcases ty.r _ re with⟨cd,ak,aD⟩|⟨_,⟨j,aD⟩,_⟩
    ·simp only[aI.loc.injEq]at aD;exact cM d cd aR ak Ω
    ·cases aD
   ·rw[tB (mg fun ag=>?_)]
    ·exact l2.2.1
    ·rcases ty.b _ ag with⟨ak,cd,aD,bh,_⟩|ak|⟨ak,⟨j,aD⟩,_⟩|⟨ak,⟨j,aD⟩,_⟩;rotate_left 3
     ·cases aD
     ·simp only[aI.loc.injEq]at bh;exact cM d cd aR aD Ω
     ·rcases Vp with aD|aD|aD|aD<;>(rw[ak,aD]at hm;simp[fk]at hm)
     ·cases aD
   ·rw[tC (mg fun ag=>?_)]
    ·exact l2.2.2
    ·rcases ty.e _ ag with⟨ak,cd,aD,bh,_⟩|⟨ak,aD⟩|⟨ak,⟨j,aD⟩,_⟩|⟨ak,o,aD,_⟩
     ·simp only[aI.loc.injEq]at bh;exact cM d cd aR aD Ω
     ·rcases aD with aD|⟨cd,aD,bh,_⟩
      ·exact aD l2.2.2
      ·simp only[aI.loc.injEq]at bh;exact cM d cd aR aD Ω
     ·cases aD
     ·rw[l2.2.2]at aD;cases aD
  ·rw[tC (mg fun ag=>?_)]
   ·exact ay
   ·rw[e]at hm;rcases ty.e k ag with⟨ak,d,_,_,_,aD⟩|⟨ak,_⟩|⟨ak,_⟩|⟨ak,_⟩
    ·rw[aD]at ay;cases ay
    ·rw[ak]at hm;simp[fk]at hm
    ·rw[ak]at hm;simp[fk]at hm
    ·rw[ak]at hm;simp[fk]at hm
  ·refine tB (mg fun ag=>?_);rw[e]at hm;rcases ty.b k ag with⟨ak,_⟩|ak|⟨ak,_⟩|⟨ak,_⟩<;>(rw[ak]at hm;simp[fk]at hm)
  ·rw[e]at hm;refine⟨⟨l2.1,fun re=>?_⟩,?_,?_⟩
   ·rcases ty.r _ re with⟨cd,ak,aD⟩|⟨ak|ak,_⟩
    ·cases aD
    ·rw[ak]at hm;simp[fk]at hm
    ·rw[ak]at hm;simp[fk]at hm
   ·rw[tB (mg fun ag=>?_)]
    ·exact l2.2.1
    ·rcases ty.b _ ag with⟨ak,_⟩|ak|⟨ak,_⟩|⟨ak,_⟩<;>(rw[ak]at hm;simp[fk]at hm)
   ·rw[tC (mg fun ag=>?_)]
    ·exact l2.2.2
    ·rcases ty.e _ ag with⟨ak,_⟩|⟨ak,_⟩|⟨ak,_⟩|⟨ak,o,aD,_⟩
     ·rw[ak]at hm;simp[fk]at hm
     ·rw[ak]at hm;simp[fk]at hm
     ·rw[ak]at hm;simp[fk]at hm
     ·rw[l2.2.2]at aD;cases aD
  ·rw[tC (mg fun ag=>?_)]
   ·exact ay
   ·rw[e]at hm;rcases ty.e k ag with⟨ak,d,_,_,_,aD⟩|⟨ak,_⟩|⟨ak,_⟩|⟨ak,_⟩
    ·rw[aD]at ay;cases ay
    ·rw[ak]at hm;simp[fk]at hm
    ·rw[ak]at hm;simp[fk]at hm
    ·rw[ak]at hm;simp[fk]at hm
  ·rw[e]at hm;refine⟨?_,?_,fun hh=>⟨hh,fun re=>?_⟩⟩;rotate_left 2
   ·rcases ty.r _ re with⟨cd,_,aD⟩|⟨aD|aD,_⟩
    ·cases aD
    ·rw[aD]at hm;simp[fk]at hm
    ·rw[aD]at hm;simp[fk]at hm
   ·refine tB (mg fun ag=>?_);rcases ty.b _ ag with⟨ak,d,_,aD,_⟩|ak|⟨ak,_⟩|⟨ak,_⟩;rotate_left 3
    ·rw[ak]at hm;simp[fk]at hm
    ·cases aD
    ·rw[ak]at hm;simp[fk]at hm
    ·rw[ak]at hm;simp[fk]at hm
   ·refine tC (mg fun ag=>?_);rcases ty.e _ ag with⟨ak,d,_,aD,_⟩|⟨ak,_⟩|⟨ak,_⟩|⟨ak,_⟩
    ·cases aD
    ·rw[ak]at hm;simp[fk]at hm
    ·rw[ak]at hm;simp[fk]at hm
    ·rw[ak]at hm;simp[fk]at hm
 ·refine⟨fun i hi e=>?_,fun k ad=>mg fun ag=>?_,fun k ad=>mg fun ag=>?_⟩
  ·rw[zQ.d]at hi;rw[ty.d]at e;exact cM i i hi e rfl
  ·rcases lb k ad with⟨bH,d,a2,a3,_⟩|bH|⟨bH,⟨j,a2⟩,_⟩|⟨bH,_⟩<;>rcases ty.b k ag with⟨bV,cd,b7,fV,_⟩|bV|⟨bV,⟨dT,b7⟩,_⟩|⟨bV,⟨dT,b7⟩,_⟩;all_goals first|(rw[bH,bV]at hm;simp[fk]at hm;done)|skip
   ·rw[a3]at fV;simp only[aI.loc.injEq]at fV;exact cM d cd a2 b7 Ω
   ·rw[a3]at b7;cases b7
   ·rw[a3]at b7;cases b7
   ·rw[a2]at fV;cases fV
  ·rcases hle k ad with⟨bH,d,a2,a3,_,a4⟩|⟨bH,a2⟩|⟨bH,⟨j,a2⟩,_⟩|⟨bH,gU,a2,_⟩<;>rcases ty.e k ag with⟨bV,cd,b7,fV,_,o8⟩|⟨bV,b7⟩|⟨bV,⟨dT,b7⟩,_⟩|⟨bV,fB,b7,_⟩
   ·rw[a3]at fV;simp only[aI.loc.injEq]at fV;exact cM d cd a2 b7 Ω
   ·rw[bH,bV]at hm;simp[fk]at hm
   ·rw[a3]at b7;cases b7
   ·rw[a4]at b7;cases b7
   ·rcases a2 with a2|⟨d,a2,a3,_⟩
    ·exact a2 o8
    ·rw[a3]at fV;simp only[aI.loc.injEq]at fV;exact cM d cd a2 b7 Ω
   ·rw[bH,bV]at hm;simp[fk]at hm
   ·rw[bH,bV]at hm;simp[fk]at hm
   ·rw[bH,bV]at hm;simp[fk]at hm
   ·rw[a2]at fV;cases fV
   ·rw[bH,bV]at hm;simp[fk]at hm
   ·rw[bH,bV]at hm;simp[fk]at hm
   ·rw[bH,bV]at hm;simp[fk]at hm
   ·rw[o8]at a2;cases a2
   ·rw[bH,bV]at hm;simp[fk]at hm
   ·rw[bH,bV]at hm;simp[fk]at hm
   ·rw[bH,bV]at hm;simp[fk]at hm
def x6(C:fu)(A:dq)(a:Act)(w:World):Prop:= ∃st Z,lT st A/\(∀k,A.F k->fresh st.n st.o k)/\c0 C st a w Z
theorem M4{st:bu}{A:dq}(h:lT st A)(d:Nat)(p:aj):lT {st with t:=put d p st.t} (A.do ⟨some d,p,[],[],none⟩):=by
 refine⟨fun i=>?_,fun k=>?_,fun k=>?_⟩
 ·simp only[dq.do,p7,ea,h.t]
 ·simpa[dq.do,iT,look]using h.b k
 ·simpa[dq.do,iT,look]using h.e k
theorem W2{st:bu}{A:dq}(h:lT st A)(d:Nat)(p:aj)(o':List aI)(rm:Option aI):lT {st with t:=put d p st.t,o:=o'} (A.do ⟨some d,p,[],[],rm⟩):=by have:=M4 h d p;exact⟨this.t,this.b,this.e⟩
theorem aa1{α:Type}{β:Type}:∀l:List (aI×α),cl ([]:List (aI×β)) l=l
 |[]=>rfl
 |(k,x)::r=>by simp[cl,look,aa1 r]
theorem Bw{st:bu}{A:dq}(h:lT st A)(d:Nat)(p:aj)(κ:aI)(cs:List aj)(n':Nat)(o':List aI)(rm:Option aI):lT ⟨put d p st.t,cA κ cs st.b,st.e,n',o'⟩ (A.do ⟨some d,p,[(κ,cs)],[],rm⟩):=by
 refine⟨fun i=>?_,fun k=>?_,fun k=>?_⟩
 ·simp only[dq.do,p7,ea,h.t]
 ·simp only[dq.do,iT,look,jt,h.b];by_cases e:κ=k<;>simp[e]
 ·simpa[dq.do,iT,look]using h.e k
theorem HD{st:bu}{A:dq}(h:lT st A)(κ:aI)(cs:List aj)(p:aj):lT {st with b:=cA κ cs st.b} (A.do ⟨none,p,[(κ,cs)],[],none⟩):=by
 refine⟨fun i=>?_,fun k=>?_,fun k=>?_⟩
 ·simpa[dq.do]using h.t i
 ·simp only[dq.do,iT,look,jt,h.b];by_cases e:κ=k<;>simp[e]
 ·simpa[dq.do,iT,look]using h.e k
theorem xk{st:bu}{A:dq}(h:lT st A)(d:Nat)(p:aj)(κ:aI)(o:gg)(n':Nat)(o':List aI)(rm:Option aI):lT ⟨put d p st.t,st.b,cA κ o st.e,n',o'⟩ (A.do ⟨some d,p,[],[(κ,o)],rm⟩):=by
 refine⟨fun i=>?_,fun k=>?_,fun k=>?_⟩
 ·simp only[dq.do,p7,ea,h.t]
 ·simpa[dq.do,iT,look]using h.b k
 ·simp only[dq.do,iT,look,jt,h.e];by_cases e:κ=k<;>simp[e]
theorem W1{st:bu}{A:dq}(h:lT st A)(κ:aI)(o:gg)(p:aj):lT {st with e:=cA κ o st.e} (A.do ⟨none,p,[],[(κ,o)],none⟩):=by
 refine⟨fun i=>?_,fun k=>?_,fun k=>?_⟩
 ·simpa[dq.do]using h.t i
 ·simpa[dq.do,iT,look]using h.b k
 ·simp only[dq.do,iT,look,jt];by_cases e:κ=k<;>simp[e,h.e]
theorem Nk{α:Type}{k:aI}:∀{l:List (aI×α)},k∈l.map (·.1)->(look k l).isSome
 |[],h=>by simp at h
 |(i,x)::r,h=>by
  simp only[look];split
  ·rfl
  ·rename_i e;simp only[gM,fT]at h;rcases h with h|h
   ·exact absurd h.symm e
   ·exact Nk h
theorem wH{n:Nat}{o:List aI}{κ:aI}:∀j,fresh n (κ::o) j->fresh n o j/\j≠κ:=by intro j ae;simp only[fresh,fT,not_or]at ae⊢;exact⟨⟨ae.1,ae.2.2⟩,ae.2.1⟩
theorem agu{n:Nat}{o:List aI}{κ j:aI}(h:fresh n o j)(ae:some κ≠some j):fresh n (κ::o) j:=by simp only[fresh,fT,not_or]at h⊢;exact⟨h.1,fun e=>ae (by rw[e]),h.2⟩
theorem Qc{P:cI}{bG:List (Nat×dN)}(aJ:fY P bG=true){C:fu}{q:Bool}{n0:Nat}{i:ey}{o:Oper}(ay:vT C.N bG i o=true){A:dq}{x:k3}(ab:eJ P q n0 i A x){a:Act}{w:World}(aO:x6 C A a w)
  {K:Act->World->Prop} {Q:Exit->Act->World->Prop} (c5:∀bs w',x6 C (A.do x) bs w'->K bs w'):o.wp P a w K Q:=by
 obtain⟨st,Z,au,hh,aO⟩:=aO;have yy:∀(t:List (Nat×aj)) (b:List (aI×List aj)) (e:List (aI×gg)) (d:Option Nat) (p:aj) (bw:List (aI×List aj)) (ew:List (aI×gg)),∀k,(A.do ⟨d,p,bw,ew,none⟩).F k->fresh st.n st.o k:=fun t b e d p bw ew k ad=>hh k ad.1;have nK:∀(d:Option Nat) (p:aj) (bw:List (aI×List aj)) (ew:List (aI×gg)) (κ:aI),∀k,(A.do ⟨d,p,bw,ew,some κ⟩).F k->fresh st.n (κ::st.o) k:=fun d p bw ew κ k ad=>agu (hh k ad.1) ad.2;cases i with
 |s i=>
  have ia:EP C.N bG i o=true:=by simpa only[vT]using ay
  cases i with
  |v d i=>simp only[eJ]at ab;obtain⟨c,p,J,U,_,rfl⟩:=ab;rw[<-Z7 au]at J;refine kd (κ:= .loc 0) (n':=0) (o₁:=[]) aJ aO ia (fun h=>by simp[eF.makes]at h) (fun h=>by simp[eF.makes]at h) (st':={st with t:=put d p st.t}) (by simp only[eS,J]) U fun bs w' bt cn=>c5 _ _ ⟨_,bt,M4 au d p,fun k ad=>hh k ad.1,cn⟩
  |box d key v=>
   cases key with
   |some m=>simp only[eJ]at ab
   |none=>simp only[eJ]at ab;obtain⟨⟨J,_⟩,U,rfl⟩:=ab;rw[<-jl au]at U;refine kd (κ:= .loc (n0+d)) (n':=st.n) (o₁:= .loc (n0+d)::st.o) aJ aO ia (fun _=>hh _ J) (fun _=>wH) (st':=⟨put d (.ptr (.loc (n0+d)) 0) st.t,cA (.loc (n0+d)) (cells (cv st.t v)) st.b,st.e,st.n,.loc (n0+d)::st.o⟩) (by simp only[eS]) U fun bs w' bt cn=>c5 _ _ ⟨_,bt,?_,nK _ _ _ _ _,cn⟩;rw[jl au];exact Bw au d _ _ _ _ _ _
  |alloc d key z=>
   cases key with
   |some m=>simp only[eJ]at ab
   |none=>simp only[eJ]at ab;obtain⟨⟨J,_⟩,rfl⟩:=ab;refine kd (κ:= .loc (n0+d)) (n':=st.n) (o₁:= .loc (n0+d)::st.o) aJ aO ia (fun _=>hh _ J) (fun _=>wH) (st':=⟨put d (.ptr (.loc (n0+d)) 0) st.t,cA (.loc (n0+d)) (cells z) st.b,st.e,st.n,.loc (n0+d)::st.o⟩) (by simp only[eS]) trivial fun bs w' bt cn=>c5 _ _ ⟨_,bt,Bw au d _ _ _ _ _ _,nK _ _ _ _ _,cn⟩
  |store sz u v=>simp only[eJ]at ab;obtain⟨k,off,cs,J,U,ar,rfl⟩:=ab;rw[<-jl au]at J ar;rw[<-au.b]at U;refine kd (κ:= .loc 0) (n':=0) (o₁:=[]) aJ aO ia (fun h=>by simp[eF.makes]at h) (fun h=>by simp[eF.makes]at h) (st':={st with b:=cA k (oN cs off (cells (cv st.t v))) st.b}) (by simp only[eS,J,U]) ar fun bs w' bt cn=>c5 _ _ ⟨{st with b:=cA k (oN cs off (cells (cv st.t v))) st.b},bt,by rw[jl au];exact HD au k _ _,fun k ad=>hh k ad.1,cn⟩
  |bsl d sz el xs=>simp only[eJ]at ab;obtain⟨⟨J,_⟩,U,rfl⟩:=ab;rw[<-u7 au]at U;refine kd (κ:= .loc (n0+d)) (n':=st.n) (o₁:= .loc (n0+d)::st.o) aJ aO ia (fun _=>hh _ J) (fun _=>wH) (st':=⟨put d (.slice sz (.own (.loc (n0+d))) (xs.map (cv st.t))) st.t,st.b,cA (.loc (n0+d)) ⟨xs.length,el,sz,none⟩ st.e,st.n,.loc (n0+d)::st.o⟩) (by simp only[eS]) U fun bs w' bt cn=>c5 _ _ ⟨_,bt,?_,nK _ _ _ _ _,cn⟩;rw[u7 au];exact xk au d _ _ _ _ _ _
  |app d sz el u v=>
   simp only[eJ]at ab;obtain⟨tag,xs,lp,ys,J,U,ab⟩:=ab;rw[<-jl au]at J U;rcases ab with⟨k,ow,rfl,ar,a6,rfl⟩|⟨rfl,ar,⟨a6,_⟩,rfl⟩
   ·rw[<-au.e]at ar;refine kd (κ:= .loc 0) (n':=0) (o₁:=[]) aJ aO ia (fun h=>by simp[eF.makes,J]at h) (fun h=>by simp[eF.makes,J]at h) (st':=⟨put d (.slice sz (.own k) (xs++ys)) st.t,st.b,cA k ⟨xs.length+ys.length,el,sz,none⟩ st.e,st.n,st.o⟩) (by simp only[eS,J,U,ar,and_self,if_true]) a6.2 fun bs w' bt cn=>c5 _ _ ⟨_,bt,xk au d _ _ _ _ _ _,fun k ad=>hh k ad.1,cn⟩
   ·refine kd (κ:= .loc (n0+d)) (n':=st.n) (o₁:= .loc (n0+d)::st.o) aJ aO ia (fun _=>hh _ a6) (fun _=>wH) (st':=⟨put d (.slice sz (.own (.loc (n0+d))) ys) st.t,st.b,cA (.loc (n0+d)) ⟨ys.length,el,sz,none⟩ st.e,st.n,.loc (n0+d)::st.o⟩) (by simp only[eS,J,U,and_self,if_true]) ar fun bs w' bt cn=>c5 _ _ ⟨_,bt,xk au d _ _ _ _ _ _,nK _ _ _ _ _,cn⟩
  |bslm d key sz el xs=>simp only[eJ]at ab
  |mks d key sz el z x=>simp only[eJ]at ab
  |appm d key sz el u v=>simp only[eJ]at ab;obtain⟨k,n,xs,lp,ys,J,U,ar,a6,rfl⟩:=ab;rw[<-jl au]at J U;rw[<-au.e]at ar;refine kd (κ:= .loc 0) (n':=0) (o₁:=[]) aJ aO ia (fun h=>by simp[eF.makes,J]at h) (fun h=>by simp[eF.makes,J]at h) (st':=⟨put d (.row sz k (xs.length+ys.length)) st.t,st.b,cA k ⟨xs.length+ys.length,el,sz,some (xs++ys)⟩ st.e,st.n,st.o⟩) (by simp only[eS,tv,J,U,ar,and_self,if_true]) a6 fun bs w' bt cn=>c5 _ _ ⟨_,bt,xk au d _ _ _ _ _ _,fun k ad=>hh k ad.1,cn⟩
  |storeE sz u v=>simp only[eJ]at ab;obtain⟨k,n,i,f,el,dZ,xs,q,J,U,ar,a6,rfl⟩:=ab;rw[<-jl au]at J a6;rw[<-au.e]at U;refine kd (κ:= .loc 0) (n':=0) (o₁:=[]) aJ aO ia (fun h=>by simp[eF.makes]at h) (fun h=>by simp[eF.makes]at h) (st':={st with e:=cA k ⟨n,el,dZ,some (xs.set i (nr q f (cells (cv st.t v))))⟩ st.e}) (by simp only[eS,rM,J,U,ar,and_self,if_true]) a6 fun bs w' bt cn=>c5 _ _ ⟨{st with e:=cA k ⟨n,el,dZ,some (xs.set i (nr q f (cells (cv st.t v))))⟩ st.e},bt,by rw[jl au];exact W1 au k _ _,fun k ad=>hh k ad.1,cn⟩
  |mkmap d key=>
   cases key with
   |none=>simp only[eJ]at ab
   |some m=>simp only[eJ]at ab;obtain⟨⟨J,_⟩,rfl⟩:=ab;exact kd (κ:= .obj m) (n':=st.n) (o₁:= .obj m::st.o) aJ aO ia (fun _=>hh _ J) (fun _=>wH) (st':=⟨put d (.gmap (.obj m)) st.t,cA (.obj m) [.hdm 0 []] st.b,st.e,st.n,.obj m::st.o⟩) (by simp only[eS]) trivial fun bs w' bt cn=>c5 _ _ ⟨_,bt,Bw au d _ _ _ _ _ _,nK _ _ _ _ _,cn⟩
  |mput ck u k v=>simp only[eJ]at ab;obtain⟨m,cs,cs',J,U,ar,rfl⟩:=ab;rw[<-jl au]at J;rw[<-jl au,<-jl au]at ar;rw[<-au.b]at U;exact kd (κ:= .loc 0) (n':=0) (o₁:=[]) aJ aO ia (fun h=>by simp[eF.makes]at h) (fun h=>by simp[eF.makes]at h) (st':={st with b:=cA m cs' st.b}) (by simp only[eS,J,U,ar]) trivial fun bs w' bt cn=>c5 _ _ ⟨{st with b:=cA m cs' st.b},bt,HD au m _ _,fun k ad=>hh k ad.1,cn⟩
  |range d key x=>simp only[eJ]at ab
 |next d x=>simp only[eJ]at ab
 |call d f xs=>
  simp only[eJ]at ab;obtain⟨n,di,J,ab⟩:=ab;rw[<-jl au]at J;rcases ab with⟨⟨s,ah,r,rm,bM,cp,dc,h2,kM,pZ,CN,rfl⟩,_⟩|⟨cQ,r,rfl,bM,cp,dc,rfl⟩;rotate_left
  ·rw[<-u7 au]at cp dc;simp only[vT]at ay;split at ay
   ·rename_i sb args eP nS;simp only[cy,eb]at ay;obtain⟨⟨⟨ak,aD⟩,bh⟩,dk⟩:=ay;have mz:=eE aO bh;rw[J]at mz;refine S7 aO nS ak aD mz (EK aO dk) (K:=fun st'=>st'={st with t:=put cQ r st.t,o:= .loc (n0+cQ)::st.o}) ⟨⟨[],[]⟩,_,some (n0+cQ),st.n,fun _=>.loc (n0+cQ)::st.o,fun k cs ad=>by simp[look]at ad,fun k cs ad=>by simp[look]at ad,⟨fun _=>rfl,fun _=>rfl⟩,km (fun _ h=>h.elim) _ cp,dc,fun m hm=>?_,fun k eZ ah bn ad=>?_,?_⟩ ?_
    ·cases hm;exact hh _ bM.1
    ·obtain⟨_,rfl⟩:=bn;have:=wH k ad;exact⟨by simpa[c2]using this.1,fun m hm=>by cases hm;exact this.2⟩
    ·rintro eZ pE ⟨rfl,rfl⟩;refine⟨⟨fun m hm=>by simp[look]at hm,fun m hm=>by simp[look]at hm⟩,?_⟩;simp[after,aa1,e4]
    ·rintro st' bs w' bt rfl cn;exact c5 _ _ ⟨_,bt,W2 au cQ r _ _,nK _ _ _ _ _,cn⟩
   ·cases ay
  rw[<-u7 au]at pZ CN;simp only[vT]at ay;split at ay
  ·rename_i sb args eP nS;simp only[cy,eb]at ay;obtain⟨⟨⟨ak,aD⟩,bh⟩,dk⟩:=ay;have mz:=eE aO bh;rw[J]at mz;obtain⟨aS,be,b8,eg,dm⟩:=kM;refine S6 aO nS ak aD mz (EK aO dk) (K:=fun st'=>st'=after st s ah d r) (.inl ⟨s,_,fun k cs ad=>⟨by rw[au.b];exact(bM k cs ad).1,.inl (by simp[ad]),(bM k cs ad).2⟩,fun k o' ad=>⟨by rw[au.e];exact(cp k o' ad).1,.inr (by simp[ad]),(cp k o' ad).2⟩,dc,pZ,CN,?_⟩) ?_
   ·rintro eZ pE ⟨rfl,rfl⟩;refine⟨⟨fun m hm=>?_,fun m hm=>?_⟩,rfl⟩
    ·rcases aS _ hm with h|h
     ·exact .inl h
     ·exact .inr (hh _ (dm _ h).2.1).2
    ·rcases be _ hm with h|h
     ·exact .inl h
     ·exact .inr (hh _ (dm _ h).2.1).2
   ·rintro st' bs w' bt rfl cn;refine c5 _ _ ⟨_,bt,⟨fun i=>?_,fun k=>?_,fun k=>?_⟩,fun k ad=>?_,cn⟩
    ·simp only[after,dq.do];cases d with
     |none=>simpa[e4]using au.t i
     |some d=>simp only[e4,p7,ea,au.t]
    ·simp only[after,dq.do,iT,zc,vK];by_cases ag:(look k s.b).isSome
     ·have:=b8 k ag;obtain⟨y,aL⟩:=fL.1 this;simp[ag,aL]
     ·cases ax:look k ah.b with
      |none=>simp only[ag,au.b];cases A.b k<;>simp
      |some y=>
       rcases aS k (by simp[ax])with h|h
       ·exact absurd h ag
       ·have:=dm k h;simp[ag,au.b,this]
    ·simp only[after,dq.do,iT,zc,vK];by_cases ag:(look k s.e).isSome
     ·have:=eg k ag;obtain⟨y,aL⟩:=fL.1 this;simp[ag,aL]
     ·cases ax:look k ah.e with
      |none=>simp only[ag,au.e];cases A.e k<;>simp
      |some y=>
       rcases be k (by simp[ax])with h|h
       ·exact absurd h ag
       ·have:=dm k h;simp[ag,au.e,this]
    ·have LR:=hh k ad.1;have pq:=aO.lookNone LR;simp only[after];refine⟨LR.1,fun iW=>?_⟩;rcases kt.1 iW with iW|iW
     ·exact LR.2 iW
     ·rcases kt.1 iW with iW|iW
      ·rcases aS k (Nk iW)with h|h
       ·obtain⟨y,aL⟩:=fL.1 h;have:=(bM k y aL).1;rw[<-au.b,pq.1]at this;cases this
       ·exact ad.2 h
      ·rcases be k (Nk iW)with h|h
       ·obtain⟨y,aL⟩:=fL.1 h;have:=(cp k y aL).1;rw[<-au.e,pq.2]at this;cases this
       ·exact ad.2 h
  ·cases ay
theorem abg{P:cI}{bG:List (Nat×dN)}(aJ:fY P bG=true){C:fu}{q:Bool}{n0:Nat}{ops:Array Oper}{g:de}{o:Oper}{j:Nat}(ae:ops[j]? =some o)(ay:C9 C.N bG ops.toList g o=true){A:dq}{x:k3}(ab:k4 P q n0 g A x){a:Act}{w:World}(aO:x6 C A a w)
  {K:Act->World->Prop} {Q:Exit->Act->World->Prop} (c5:∀bs w',x6 C (A.do x) bs w'->K bs w'):wpOp P ops Q j K a w:=by
 unfold wpOp;rw[ae];simp only;simp only[C9,cy]at ay;obtain⟨jn,pn⟩:=ay;unfold k4 at ab;cases Du:g.g with
 |none=>
  cases fa:o.guard with
  |some x=>simp[fa,Du]at jn
  |none=>
   have hw:pO o (yielded ops a.tmps)=true:=by simp[pO,fa]
   rw[if_pos hw];simp only[Du]at ab;exact .inl (Qc aJ pn ab aO c5)
 |some zN=>
  obtain⟨s,want⟩:=zN;cases fa:o.guard with
  |none=>simp[fa,Du]at jn
  |some arE=>
   obtain⟨atI,b4⟩:=arE;simp only[fa,Du,cy,eb,eW]at jn;obtain⟨⟨⟨⟨rfl,U⟩,ar⟩,a6⟩,b0⟩:=jn;obtain⟨st,Z,au,hh,dY⟩:=id aO;obtain⟨ja,oe⟩:=aa5 dY U ar;simp only[Du]at ab;have VL:∀(h:x=lN g.i.dst),K (a.put o.dst undef) w:=by
    rintro rfl;rw[a6];refine c5 _ _ ⟨_,Z,?_,fun k ad=>?_,dY.put b0 (p:= .tuple []) (by simp[bd,cY,undef])⟩
    ·refine⟨fun i=>?_,fun k=>?_,fun k=>?_⟩
     ·simp only[dq.do,lN];cases g.i.dst with
      |none=>simpa[e4]using au.t i
      |some d=>simp only[e4,p7,ea,au.t]
     ·simpa[dq.do,iT,look,lN]using au.b k
     ·simpa[dq.do,iT,look,lN]using au.e k
    ·exact hh k ad.1
   split at ab
   ·rename_i b af;have aL:=ja b (by rw[au.t];exact af);rcases ab with⟨rfl,ab⟩|⟨rfl,ab⟩
    ·have hw:pO o (yielded ops a.tmps)=true:=by simp[pO,fa,aL]
     rw[if_pos hw];exact .inl (Qc aJ pn ab aO c5)
    ·have hw:¬(pO o (yielded ops a.tmps)=true):=by simp[pO,fa,aL]
     rw[if_neg hw];exact VL ab
   ·rename_i af;have aL:=oe (by rw[au.t];exact af);have hw:¬(pO o (yielded ops a.tmps)=true):=by simp[pO,fa,aL]
    rw[if_neg hw];exact VL ab
   ·exact ab.elim
def wC(P:cI)(q:Bool)(n0:Nat)(K:dq->Prop):List (Nat×de)->dq->Prop
 |[],A=>K A
 |(_,g)::r,A=> ∃x,k4 P q n0 g A x/\wC P q n0 K r (A.do x)
theorem QT{P:cI}{q:Bool}{n0:Nat}{K:dq->Prop}{i:Nat}{g:de}:∀(o1 pT:List (Nat×de)) (A:dq),(∀x∈o1,AH x.2 g=true)->wC P q n0 K (o1++(i,g)::pT) A->∃x,k4 P q n0 g A x/\wC P q n0 K (o1++pT) (A.do x)
 |[],pT,A,_,h=>h
 |(j,UE)::o1,pT,A,aw,h=>by simp only[bW,wC]at h;obtain⟨y,aL,h⟩:=h;obtain⟨x,ab,h⟩:=QT o1 pT (A.do y) (fun z bz=>aw z (oY _ bz)) h;obtain⟨s1,s2,s3⟩:=swap (aw _ (List.mem_cons_self ..)) aL ab;refine⟨x,s1,y,s2,?_⟩;rw[<-dq.do_comm A s3];exact h
def rem(hX:Array Bool):Nat->List de->List (Nat×de)
 |_,[]=>[]
 |k,g::r=>if hX.getD k false then rem hX (k+1) r else(k,g)::rem hX (k+1) r
theorem Y5{l a1:Array Bool}:∀(gs:List de) (k:Nat),(∀j,k<=j->l.getD j false=a1.getD j false)->rem l k gs=rem a1 k gs
 |[],_,_=>rfl
 |g::r,k,h=>by simp only[rem,h k (fc _),Y5 r (k+1) fun j ae=>h j Ω]
theorem Gy{l:Array Bool}{i j:Nat}(h:i<l.size):(l.setIfInBounds i true).getD j false=if i=j then true else l.getD j false:=by
 simp only[Array.getD_eq_getD_getElem?];by_cases e:i=j
 ·subst e;simp[h]
 ·simp[e]
theorem OQ{l:Array Bool}{i:Nat}(hi:i<l.size)(ax:l.getD i false=false):∀(gs:List de) (k:Nat),k<=i->i<k+gs.length->∃o1 pT g,gs[i-k]? =some g/\rem l k gs=o1++(i,g)::pT/\rem (l.setIfInBounds i true) k gs=o1++pT/\
  ∀x∈o1,gs[x.1-k]? =some x.2/\k<=x.1/\x.1<i/\l.getD x.1 false=false
 |[],k,J,U=>by simp at U;omega
 |g::r,k,J,U=>by
  by_cases e:k=i
  ·subst e;refine⟨[],rem l (k+1) r,g,Ψ,by simp[rem,ax],?_,fun x ab=>by simp at ab⟩;simp only[rem,Gy hi,if_true,b9];exact Y5 r (k+1) fun j ae=>by rw[Gy hi,if_neg Ω]
  ·obtain⟨o1,pT,fv,ak,aD,bh,dk⟩:=OQ hi ax r (k+1) Ω (by simp at U;omega);have wR:i-k=(i-(k+1))+1:=Ω
   have hz:(l.setIfInBounds i true).getD k false=l.getD k false:=by rw[Gy hi,if_neg Ω]
   by_cases ad:l.getD k false=true
   ·refine⟨o1,pT,fv,by rw[wR];simpa using ak,by simp only[rem,ad,if_true,aD],by simp only[rem,hz,ad,if_true,bh],fun x ab=>?_⟩;obtain⟨f1,f2,f3,f4⟩:=dk x ab;refine⟨?_,Ω,f3,f4⟩;have:x.1-k=(x.1-(k+1))+1:=Ω
    rw[this];simpa using f1
   ·have ad:l.getD k false=false:=by simpa using ad
    refine⟨(k,g)::o1,pT,fv,by rw[wR];simpa using ak,by simp[rem,ad,aD],by simp[rem,hz,ad,bh],fun x ab=>?_⟩;rcases fT.1 ab with rfl|ab
    ·exact⟨Ψ,fc _,by simp;omega,ad⟩
    ·obtain⟨f1,f2,f3,f4⟩:=dk x ab;refine⟨?_,Ω,f3,f4⟩;have:x.1-k=(x.1-(k+1))+1:=Ω
     rw[this];simpa using f1
def vL(acc:List Nat):List Edge->Nat
 |[]=>0
 |e::r=>if Region.binds .any e then(2 ^ e.on)|||(acc.getD e.on 0)|||vL acc r else vL acc r
def sO(acc:List Nat):List Oper->List Nat
 |[]=>acc
 |o::os=>sO (acc++[vL acc o.after.toList]) os
def EM(m:Nat)(h:de):Nat->List de->Bool
 |_,[]=>true
 |i,g::r=>(m.testBit i||AH g h)&&EM m h (i+1) r
def Ey:List de->List de->List Nat->Bool
 |_,[],_=>true
 |pre,h::r,m::ms=>EM m h 0 pre&&Ey (pre++[h]) r ms
 |_,_,[]=>false
def CT:Nat->List Oper->Bool
 |_,[]=>true
 |k,o::os=>o.after.toList.all (fun e=> !Region.binds .any e||decide (e.on<k))&&CT (k+1) os
def CG(gs:List de)(ops:List Oper):Bool:=CT 0 ops&&Ey [] gs (sO [] ops)
theorem Nd{acc:List Nat}{j:Nat}:∀{es:List Edge},(vL acc es).testBit j=true->∃e∈es,Region.binds .any e=true/\(j=e.on\/(acc.getD e.on 0).testBit j=true)
 |[],h=>by simp[vL]at h
 |e::r,h=>by
  simp only[vL]at h;split at h
  ·rename_i af;simp only[Nat.testBit_or,lu]at h;rcases h with(h|h)|h
   ·refine⟨e,Ψ,af,.inl ?_⟩;rw[Nat.testBit_two_pow]at h;have cn:e.on=j:=by simpa using h
    exact cn.symm
   ·exact⟨e,Ψ,af,.inr h⟩
   ·obtain⟨fj,J,U⟩:=Nd h;exact⟨fj,by simp[J],U⟩
  ·obtain⟨fj,J,U⟩:=Nd h;exact⟨fj,by simp[J],U⟩
theorem Nf:∀(os:List Oper) (acc:List Nat) (k:Nat),k<acc.length->(sO acc os)[k]? =acc[k]?
 |[],acc,k,_=>rfl
 |o::os,acc,k,h=>by simp only[sO];rw[Nf os _ k d7,List.getElem?_append_left h]
theorem Xa:∀(os:List Oper) (acc:List Nat) (k:Nat) (o:Oper),os[k]? =some o->∃uR,(sO acc os)[acc.length+k]? =some (vL uR o.after.toList)/\uR.length=acc.length+k/\∀i,i<uR.length->uR[i]? =(sO acc os)[i]?
 |[],acc,k,o,h=>by simp at h
 |o'::os,acc,0,o,h=>by
  simp only[List.getElem?_cons_zero,ea]at h;subst h;refine⟨acc,?_,Ψ,fun i hi=>?_⟩
  ·simp only[sO,Nat.add_zero];rw[Nf os _ _ Ψ];simp
  ·simp only[sO];rw[Nf os _ i d7,List.getElem?_append_left hi]
 |o'::os,acc,k+1,o,h=>by simp only[List.getElem?_cons_succ]at h;obtain⟨uR,J,U,ar⟩:=Xa os (acc++[vL acc o'.after.toList]) k o h;refine⟨uR,?_,by rw[U];simp;omega,fun i hi=>by rw[ar i hi];rfl⟩;simp only[sO];rw[show acc.length+(k+1)=(acc++[vL acc o'.after.toList]).length+k from by simp;omega];exact J
def P9(ops:Array Oper)(hX:Array Bool):Prop:= ∀k o,ops[k]? =some o->hX.getD k false=true->∀e∈o.after.toList,Region.binds .any e=true->hX.getD e.on false=true
theorem akq{ops:Array Oper}{hX:Array Bool}(aR:P9 ops hX):∀(k:Nat) (o:Oper),ops[k]? =some o->(∀e∈o.after.toList,Region.binds .any e=true->hX.getD e.on false=true)->∀j,((sO [] ops.toList).getD k 0).testBit j=true->hX.getD j false=true:=by
 intro k;induction k using Nat.strongRecOn with
 |_ k bR=>
  intro o ay au j ae;obtain⟨uR,J,U,ar⟩:=Xa ops.toList [] k o (by simpa using ay);simp only[List.length_nil,Nat.zero_add]at J U;rw[List.getD_eq_getElem?_getD,J]at ae;obtain⟨e,he,af,cZ⟩:=Nd ae;rcases cZ with rfl|cZ
  ·exact au e he af
  ·by_cases bE:e.on<uR.length
   ·have hm:uR.getD e.on 0=(sO [] ops.toList).getD e.on 0:=by rw[List.getD_eq_getElem?_getD,ar _ bE,List.getD_eq_getElem?_getD]
    have ad:k<ops.size:=(Array.getElem?_eq_some_iff.1 ay).1;have ia:ops[e.on]? =some ops[e.on]:=Array.getElem?_eq_getElem Ω;rw[hm]at cZ;exact bR e.on Ω _ ia (fun fj wP gb=>aR e.on _ ia (au e he af) fj wP gb) j cZ
   ·rw[List.getD_eq_getElem?_getD,qZ Ω]at cZ;simp at cZ
theorem Zn{m:Nat}{h:de}:∀{gs:List de} {i0:Nat},EM m h i0 gs=true->∀i g,gs[i]? =some g->m.testBit (i0+i)=true\/AH g h=true
 |[],i0,_,i,g,a7=>by simp at a7
 |fv::r,i0,aO,0,g,a7=>by simp only[EM,cy,lu]at aO;simp only[List.getElem?_cons_zero,ea]at a7;subst a7;simpa using aO.1
 |fv::r,i0,aO,i+1,g,a7=>by simp only[EM,cy]at aO;have:=Zn aO.2 i g (by simpa using a7);rwa[show i0+1+i=i0+(i+1)from by omega]at this
theorem X6:∀{gs pre:List de} {ms:List Nat},Ey pre gs ms=true->∀j h,gs[j]? =some h->∀i g,i<pre.length+j->(pre++gs)[i]? =some g->(ms.getD j 0).testBit i=true\/AH g h=true
 |[],pre,ms,_,j,h,ae,_,_,_,_=>by simp at ae
 |cn::r,pre,[],bF,j,h,ae,_,_,_,_=>by simp[Ey]at bF
 |cn::r,pre,m::ms,bF,j,h,ae,i,g,hi,a7=>by
  simp only[Ey,cy]at bF;cases j with
  |zero=>simp only[List.getElem?_cons_zero,ea]at ae;subst ae;rw[List.getElem?_append_left Ω]at a7;simpa using Zn bF.1 i g a7
  |succ j=>have:=X6 bF.2 j h (by simpa using ae) i g d7 (by simpa using a7);simpa using this
theorem TB:∀{os:List Oper} {k:Nat},CT k os=true->∀i o,os[i]? =some o->∀e∈o.after.toList,Region.binds .any e=true->e.on<k+i
 |[],k,_,i,o,ay,_,_,_=>by simp at ay
 |o'::os,k,h,0,o,ay,e,he,af=>by simp only[CT,cy,jd]at h;simp only[List.getElem?_cons_zero,ea]at ay;subst ay;have:=h.1 e he;simpa[af]using this
 |o'::os,k,h,i+1,o,ay,e,he,af=>by simp only[CT,cy]at h;have:=TB h.2 i o (by simpa using ay) e he af;omega
theorem UG{N:Nat}{bG:List (Nat×dN)}{ops:List Oper}:∀{gs:List de} {os:List Oper},kO N bG ops gs os=true->∀(i:Nat) (g:de),gs[i]? =some g->∃o,os[i]? =some o/\C9 N bG ops g o=true
 |[],[],_,i,g,h=>by simp at h
 |[],_::_,h,_,_,_=>by simp[kO]at h
 |_::_,[],h,_,_,_=>by simp[kO]at h
 |fv::gs,o::os,h,0,g,a7=>by simp only[kO,cy]at h;simp only[List.getElem?_cons_zero,ea]at a7;subst a7;exact⟨o,Ψ,h.1⟩
 |fv::gs,o::os,h,i+1,g,a7=>by simp only[kO,cy]at h;obtain⟨o',J,U⟩:=UG h.2 i g (by simpa using a7);exact⟨o',by simpa using J,U⟩
theorem Lu{N:Nat}{bG:List (Nat×dN)}{ops:List Oper}:∀{gs:List de} {os:List Oper},kO N bG ops gs os=true->gs.length=os.length
 |[],[],_=>rfl
 |[],_::_,h=>by simp[kO]at h
 |_::_,[],h=>by simp[kO]at h
 |g::gs,o::os,h=>by simp only[kO,cy]at h;simp[Lu h.2]
theorem Y6{l:Array Bool}:∀(gs:List de) (k:Nat),rem l k gs=[]\/ ∃i g,i<gs.length/\gs[i]? =some g/\l.getD (k+i) false=false/\∀j,j<i->l.getD (k+j) false=true
 |[],_=>.inl rfl
 |g::r,k=>by
  by_cases h:l.getD k false=true
  ·rcases Y6 (l:=l) r (k+1)with J|⟨i,fv,J,U,ar,a6⟩
   ·left;simp only[rem,h,if_true,J]
   ·refine .inr ⟨i+1,fv,by simp;omega,by simpa using U,by rw[show k+(i+1)=k+1+i from by omega];exact ar,fun j ae=>?_⟩;cases j with
    |zero=>simpa using h
    |succ j=>rw[show k+(j+1)=k+1+j from by omega];exact a6 j Ω
  ·exact .inr ⟨0,g,Ψ,Ψ,by simpa using h,fun j ae=>Ω⟩
theorem abL{P:cI}{bG:List (Nat×dN)}(aJ:fY P bG=true){C:fu}{q:Bool}{n0:Nat}{ops:Array Oper}{gs:List de}(kR:kO C.N bG ops.toList gs ops.toList=true)(GH:CG gs ops.toList=true){K:dq->Prop}{Q:Exit->Act->World->Prop}
  (h4:∀A a w,K A->x6 C A a w->Q .normal a w):∀(fuel:Nat) (hX:Array Bool) (A:dq) (a:Act) (w:World),hX.size=ops.size->P9 ops hX->(rem hX 0 gs).length<=fuel->wC P q n0 K (rem hX 0 gs) A->x6 C A a w->wpAny P .any ops Q fuel hX a w:=by
 simp only[CG,cy]at GH;obtain⟨LI,aiK⟩:=GH;have hlen:gs.length=ops.size:=by simpa using Lu kR
 have U3:∀(hX:Array Bool) (A:dq) (a:Act) (w:World),hX.size=ops.size->wC P q n0 K (rem hX 0 gs) A->x6 C A a w->Region.ready .any ops hX=[]->Q .normal a w:=by
  intro hX A a w eC tJ aO G8;rcases Y6 (l:=hX) gs 0 with h|⟨i,g,J,U,ar,a6⟩
  ·rw[h]at tJ;exact h4 A a w tJ aO
  ·exfalso;have hi:i<ops.size:=Ω
   have iW:i∈Region.ready .any ops hX:=by
    unfold Region.ready;simp only[oi,List.mem_range,cy,Bool.not_eq_true'];refine⟨hi,?_,?_⟩
    ·rw[Nat.zero_add]at ar;simp only[Array.getD_eq_getD_getElem?]at ar⊢;rw[Array.getElem?_eq_getElem Ω]at ar⊢;simpa using ar
    ·rw[Array.getElem?_eq_getElem hi];simp only[o0,jM];rw[<-Array.all_toList,jd];intro e he;by_cases af:Region.binds .any e=true
     ·have bE:=TB LI i ops[i] (by simp[hi]) e he af;have:=a6 e.on Ω;rw[Nat.zero_add]at this;simp[this]
     ·simp[af]
   rw[G8]at iW;simp at iW
 intro fuel;induction fuel with
 |zero=>
  intro hX A a w eC aR aK tJ aO;have aiD:rem hX 0 gs=[]:=List.eq_nil_of_length_eq_zero Ω;have G8:Region.ready .any ops hX=[]:=by
   rw[List.eq_nil_iff_forall_not_mem];intro i hi;unfold Region.ready at hi;simp only[oi,List.mem_range,cy,Bool.not_eq_true']at hi;obtain⟨J,U,_⟩:=hi;have ax:hX.getD i false=false:=by simp only[Array.getD_eq_getD_getElem?]at U⊢;rw[Array.getElem?_eq_getElem Ω]at U⊢;simpa using U
   obtain⟨o1,pT,g,_,aD,_⟩:=OQ Ω ax gs 0 Ω Ω;rw[aiD]at aD;simp at aD
  exact⟨G8,U3 hX A a w eC tJ aO G8⟩
 |succ fuel bR=>
  intro hX A a w eC aR aK tJ aO;refine⟨U3 hX A a w eC tJ aO,fun i hi=>?_⟩;unfold Region.ready at hi;simp only[oi,List.mem_range,cy,Bool.not_eq_true']at hi;obtain⟨J,U,ar⟩:=hi;have ax:hX.getD i false=false:=by simp only[Array.getD_eq_getD_getElem?]at U⊢;rw[Array.getElem?_eq_getElem Ω]at U⊢;simpa using U
  have ay:ops[i]? =some ops[i]:=Array.getElem?_eq_getElem J;have U5:∀e∈ops[i].after.toList,Region.binds .any e=true->hX.getD e.on false=true:=by rw[ay]at ar;simp only[o0,jM]at ar;rw[<-Array.all_toList,jd]at ar;intro e he af;simpa[af]using ar e he
  obtain⟨o1,pT,g,ak,aD,bh,dk⟩:=OQ Ω ax gs 0 Ω Ω;simp only[Nat.sub_zero]at ak dk;rw[aD]at tJ;obtain⟨x,ab,ahQ⟩:=QT o1 pT A (fun y aL=>by
   obtain⟨f1,f2,f3,f4⟩:=dk y aL;rcases X6 aiK i g ak y.1 y.2 (by simpa using f3) (by simpa using f1)with h|h
   ·have:=akq aR i ops[i] ay U5 y.1 h;rw[f4]at this;cases this
   ·exact h) tJ
  obtain⟨o',g1,g2⟩:=UG kR i g ak;have:o'=ops[i]:=by rw[uG,ay]at g1;exact(ed g1).symm
  subst this;refine abg aJ ay g2 ab aO fun bs w' dY=>?_;refine bR (hX.setIfInBounds i true) (A.do x) bs w' (by simpa using eC) ?_ ?_ (by rw[bh];exact ahQ) dY
  ·intro k o ad au e he af;rw[Gy Ω]at au⊢;split
   ·rfl
   ·by_cases wR:i=k
    ·subst wR;rw[ay]at ad;cases ad;exact U5 e he af
    ·rw[if_neg wR]at au;exact aR k o ad au e he af
  ·rw[bh];rw[aD]at aK;simp at aK⊢;omega
def yu(n0 d:Nat)(st:bu):Prop:= .loc (n0+d)∉st.o/\look (.loc (n0+d)) st.b=none/\look (.loc (n0+d)) st.e=none
def gk.loadO(q:Bool)(t:List (Nat×aj)):gk->Prop
 | .load _ _ x=>q=true\/y2 (cv t x)=true
 | .loadB _ _ _=>True
 | .mgetB _ _ _ _ _=>True
 | .mget _ _ _ _ _=>q=true
 | .ment _=>q=true
 | .mlen _=>q=true
 |_=>True
def mw(q:Bool)(nw:List Nat)(n0:Nat)(st:bu):eF->Prop
 | .v _ i=>i.loadO q st.t
 | .box d none _=>yu n0 d st
 | .alloc d none _=>yu n0 d st
 | .box _ (some _) _=>e8
 | .alloc _ (some _) _=>e8
 | .store _ x _=>match cv st.t x with| .ptr _ _=>True|_=>e8
 | .bslm _ _ _ _ _=>e8
 | .mks _ _ _ _ _ _=>e8
 | .appm _ _ _ _ x _=>match cv st.t x with| .row _ _ _=>True|_=>e8
 | .storeE _ _ _=>True
 | .mkmap _ none=>e8
 | .mkmap _ (some m)=>m∈nw/\look (.obj m) st.b=none/\look (.obj m) st.e=none
 | .mput _ _ _ _=>True
 | .range _ _ _=>e8
 | .bsl d _ _ _=>yu n0 d st
 | .app d _ _ x _=>match cv st.t x with
  | .slice _ .nil _=>yu n0 d st
  | .slice _ (.own k) _=>(look k st.e).bind (·.xs)=none
  |_=>True
def p1(n0:Nat):eF->aI
 | .mkmap _ (some m)=>.obj m
 | .v d _| .box d _ _| .alloc d _ _| .bsl d _ _ _| .app d _ _ _ _| .bslm d _ _ _ _| .appm d _ _ _ _ _| .mkmap d _| .range d _ _| .mks d _ _ _ _ _=>.loc (n0+d)
 | .store _ _ _| .mput _ _ _ _| .storeE _ _ _=>.loc n0
def ajS(nw:List Nat)(st:bu)(s ah:cL)(rm:Option aI):Prop:=(∀k,(look k ah.b).isSome->(look k s.b).isSome\/rm=some k)/\(∀k,(look k ah.e).isSome->(look k s.e).isSome\/rm=some k)/\(∀k,(look k s.b).isSome->(look k ah.b).isSome)/\(∀k,(look k s.e).isSome->(look k ah.e).isSome)/\
 (∀k,rm=some k->(∃j,j∈nw/\k= .obj j)/\look k st.b=none/\look k st.e=none/\((look k ah.b).isSome\/(look k ah.e).isSome))
def hJ(P:cI)(q:Bool)(nw:List Nat)(n:Nat)(args:List aj)(st:bu)(d:Option Nat)(K:bu->Prop):Prop:=
 (∃cQ r,d=some cQ/\yu st.n cQ st/\aC (fun _=>e8) args/\Jz P n (st.n+cQ) args ⟨[],[]⟩ (fun eZ da=>eZ=r/\da=⟨[],[]⟩)/\K {st with t:=put cQ r st.t,o:= .loc (st.n+cQ)::st.o})\/
 ∃s ah r rm,hc (inObs s) s.b st.b/\pH (inObs s) s.e st.e/\ju s/\ju ah/\ajS nw st s ah rm/\aC (inObs s) args/\bI P n args s (fun eZ da=>eZ=r/\da=ah)/\(q=true->ah.b=[]/\ah.e=[])/\K {after st s ah d r with o:=st.o}
def kN(P:cI)(q:Bool)(nw:List Nat)(n0:Nat)(st:bu)(K:bu->Prop):ey->Prop
 | .s i=>match eS (p1 n0 i) st.n (p1 n0 i::st.o) st i with
  |some (c,st')=>mw q nw n0 st i/\c/\K st'
  |none=>e8
 | .call d f xs=>match cv st.t f with
  | .func n di=>hJ P q nw n (c6 (xs.map (cv st.t)++di)) st d K
  |_=>e8
 | .next _ _=>e8
def h9(P:cI)(q:Bool)(nw:List Nat)(n0:Nat):List de->bu->(bu->Prop)->Prop
 |[],st,K=>K st
 |⟨none,i⟩::r,st,K=>kN P q nw n0 st (fun st'=>h9 P q nw n0 r st' K) i
 |⟨some (s,want),i⟩::r,st,K=>match get s st.t with
  | .bool b=>(b=want->kN P q nw n0 {st with t:=put s (.bool want) st.t} (fun st'=>h9 P q nw n0 r st' K) i)/\(b= !want->h9 P q nw n0 r {st with t:=e4 i.dst (.tuple []) (put s (.bool !want) st.t)} K)
  | .tuple []=>h9 P q nw n0 r {st with t:=e4 i.dst (.tuple []) st.t} K
  |_=>e8
structure tn (nw:List Nat) (n0 N:Nat) (qi:List aI) (st:bu) (A:dq):Prop where
 like:lT st A
 n:st.n=n0
 F:∀k,fresh n0 st.o k->(∀j∈nw,k≠ .obj j)->A.F k
 o:∀k∈st.o,k∈qi\/(∃d,d<N/\k= .loc (n0+d))\/ ∃j∈nw,k= .obj j
def Cz(nw:List Nat)(A:dq):Prop:= ∀j∈nw,A.b (.obj j)=none->A.e (.obj j)=none->A.F (.obj j)
theorem Cz.do{P:cI}{q:Bool}{n0:Nat}{nw:List Nat}{A:dq}(h:Cz nw A){g:de}{x:k3}(ab:k4 P q n0 g A x):Cz nw (A.do x):=by
 intro j ae af he;refine⟨h j ae (KD af) (KE he),fun re=>?_⟩;rcases(Pz ab).r _ re with⟨d,_,e⟩|⟨_,_,ag⟩
 ·cases e
 ·rcases ag with ag|ag
  ·obtain⟨y,aL⟩:=fL.1 ag;simp[dq.do,iT,aL]at af
  ·obtain⟨y,aL⟩:=fL.1 ag;simp[dq.do,iT,aL]at he
theorem TJ{P:cI}{q:Bool}{nw:List Nat}{n0 N:Nat}{qi:List aI}{i:ey}(aR:∀d,i.dst=some d->d<N){st:bu}{A:dq}(h:tn nw n0 N qi st A)(pg:Cz nw A){K:bu->Prop}(he:kN P q nw n0 st K i):∃x st',eJ P q n0 i A x/\K st'/\tn nw n0 N qi st' (A.do x):=by
 have au:=h.like;have yG:∀d,yu n0 d st->(A.F (.loc (n0+d))/\A.b (.loc (n0+d))=none/\A.e (.loc (n0+d))=none):=fun d aK=>⟨h.F _ ⟨Ψ,aK.1⟩ (fun _ _ e=>by cases e),by rw[<-au.b];exact aK.2.1,by rw[<-au.e];exact aK.2.2⟩;have nK:∀(d:Option Nat) (p:aj) (bw:List (aI×List aj)) (ew:List (aI×gg)) (κ:aI),∀k,fresh n0 (κ::st.o) k->(∀j∈nw,k≠ .obj j)->(A.do ⟨d,p,bw,ew,some κ⟩).F k:=fun d p bw ew κ k ad ae=>⟨h.F k (wH k ad).1 ae,fun e=>(wH k ad).2 (ed e).symm⟩;have yy:∀(d:Option Nat) (p:aj) (bw:List (aI×List aj)) (ew:List (aI×gg)),∀k,fresh n0 st.o k->(∀j∈nw,k≠ .obj j)->(A.do ⟨d,p,bw,ew,none⟩).F k:=fun d p bw ew k ad ae=>⟨h.F k ad ae,Ψ⟩;have l4:∀d,d<N->∀k∈aI.loc (n0+d)::st.o,k∈qi\/(∃d,d<N/\k= .loc (n0+d))\/ ∃j∈nw,k= .obj j:=fun d aR k ad=>by
  rcases fT.1 ad with rfl|ad
  ·exact .inr (.inl ⟨d,aR,rfl⟩)
  ·exact h.o k ad
 cases i with
 |s i=>
  cases i with
  |v d i=>
   simp only[kN,eS]at he;cases aF:hG st i with
   |none=>simp[aF]at he
   |some KA=>
    obtain⟨c,p⟩:=KA;simp only[aF]at he;obtain⟨J,U,ar⟩:=he;refine⟨⟨some d,p,[],[],none⟩,_,⟨c,p,by rw[<-Z7 au];exact aF,U,fun mX=>?_,rfl⟩,ar,M4 au d p,h.n,yy _ _ _ _,h.o⟩;cases i<;>simp only[gk.isLoad]at mX<;>try(cases mX;done)
    case mget=>exact .inr (.inl J)
    case ment=>exact .inr (.inl J)
    case mlen=>exact .inr (.inl J)
    case loadB=>exact .inl rfl
    case mgetB=>exact .inl rfl
    simp only[mw,gk.loadO,jl au]at J;exact .inr (by simpa only[gk.ptrOf]using J)
  |box d key v=>
   cases key with
   |some m=>simp only[kN,eS,mw,false_and]at he
   |none=>simp only[kN,eS,mw,p1]at he;obtain⟨J,U,ar⟩:=he;rw[jl au]at U;refine⟨_,_,⟨yG d J,U,rfl⟩,ar,?_,h.n,nK _ _ _ _ _,l4 d (aR d rfl)⟩;rw[jl au];exact Bw au d _ _ _ _ _ _
  |alloc d key z=>
   cases key with
   |some m=>simp only[kN,eS,mw,false_and]at he
   |none=>simp only[kN,eS,mw,p1]at he;obtain⟨J,U,ar⟩:=he;exact⟨_,_,⟨yG d J,rfl⟩,ar,Bw au d _ _ _ _ _ _,h.n,nK _ _ _ _ _,l4 d (aR d rfl)⟩
  |store sz u v=>
   simp only[kN,eS]at he;cases hu:cv st.t u with
   |ptr k off=>
    cases af:look k st.b with
    |none=>simp[hu,af]at he
    |some cs=>simp only[hu,af]at he;obtain⟨J,U,ar⟩:=he;rw[jl au]at U hu;refine⟨⟨none,.junk,[(k,oN cs off (cells (dP A.t v)))],[],none⟩,_,⟨k,off,cs,hu,by rw[<-au.b];exact af,U,rfl⟩,ar,?_,h.n,yy _ _ _ _,h.o⟩;rw[jl au];exact HD au k _ _
   |_=>
    exfalso;simp only[hu]at he;split at he
    ·have:=he.1;simp[mw,hu]at this
    ·exact he
  |bsl d sz el xs=>simp only[kN,eS,mw,p1]at he;obtain⟨J,U,ar⟩:=he;rw[u7 au]at U;refine⟨_,_,⟨yG d J,U,rfl⟩,ar,?_,h.n,nK _ _ _ _ _,l4 d (aR d rfl)⟩;rw[u7 au];exact xk au d _ _ _ _ _ _
  |app d sz el u v=>
   simp only[kN,eS]at he;cases hu:cv st.t u with
   |slice dZ tag xs=>
    cases aF:cv st.t v with
    |slice jK lp ys=>
     simp only[hu,aF]at he;by_cases fq:dZ=sz/\jK=sz
     ·obtain⟨rfl,rfl⟩:=fq;rw[jl au]at hu aF;cases tag with
      |no=>simp at he
      |tr k j=>simp at he
      |lo k=>simp at he
      |nil=>simp only[and_self,if_true,mw,jl au,hu,p1]at he;obtain⟨J,U,ar⟩:=he;exact⟨_,_,⟨.nil,xs,lp,ys,hu,aF,.inr ⟨rfl,U,yG d J,rfl⟩⟩,ar,xk au d _ _ _ _ _ _,h.n,nK _ _ _ _ _,l4 d (aR d rfl)⟩
      |own k=>
       cases ad:look k st.e with
       |none=>simp[ad]at he
       |some o=>simp only[and_self,if_true,ad]at he;obtain⟨J,U,ar⟩:=he;exact⟨_,_,⟨.own k,xs,lp,ys,hu,aF,.inl ⟨k,o,rfl,by rw[<-au.e];exact ad,⟨by simpa[mw,jl au,hu,ad]using J,U⟩,rfl⟩⟩,ar,xk au d _ _ _ _ _ _,h.n,yy _ _ _ _,h.o⟩
     ·simp[fq]at he
    |_=>simp[hu,aF]at he
   |_=>simp[hu]at he
  |bslm d key sz el xs=>simp only[kN,eS,mw,false_and]at he
  |mks d key sz el z x=>simp only[kN,eS,mw,false_and]at he;split at he<;>simp at he
  |appm d key sz el u v=>
   simp only[kN,eS]at he;cases hu:cv st.t u with
   |row dZ k n=>
    cases aF:cv st.t v with
    |slice jK lp ys=>
     simp only[hu,aF,tv]at he;by_cases fq:dZ=sz/\jK=sz
     ·obtain⟨rfl,rfl⟩:=fq;rw[jl au]at hu aF;simp only[and_self,if_true]at he;cases ad:look k st.e with
      |none=>simp[ad]at he
      |some o=>
       obtain⟨n',gm,xM,N6⟩:=o;cases N6 with
       |none=>simp[ad]at he
       |some xs=>
        simp only[ad]at he;by_cases yB:n'=n/\gm=el/\xM=jK
        ·obtain⟨rfl,rfl,rfl⟩:=yB;simp only[and_self,if_true]at he;obtain⟨J,U,ar⟩:=he;exact⟨_,_,⟨k,n',xs,lp,ys,hu,aF,by rw[<-au.e];exact ad,U,rfl⟩,ar,xk au d _ _ _ _ _ _,h.n,yy _ _ _ _,h.o⟩
        ·simp[yB]at he
     ·simp[fq]at he
    |_=>simp[hu,aF,tv]at he
   |slice dZ tag xs=>
    exfalso;simp only[hu]at he;split at he
    ·have:=he.1;simp[mw,hu]at this
    ·exact he
   |_=>simp[hu,tv]at he
  |storeE sz u v=>
   simp only[kN,eS]at he;cases hu:cv st.t u with
   |rptr dZ k n i f=>
    cases ad:look k st.e with
    |none=>simp[hu,rM,ad]at he
    |some o=>
     obtain⟨n',el,xM,N6⟩:=o;cases N6 with
     |none=>simp[hu,rM,ad]at he
     |some xs=>
      simp only[hu,rM,ad]at he;by_cases yB:n'=n/\xM=dZ
      ·obtain⟨rfl,rfl⟩:=yB;simp only[and_self,if_true]at he;cases bn:xs[i]? with
       |none=>simp[bn]at he
       |some q=>simp only[bn]at he;obtain⟨J,U,ar⟩:=he;rw[jl au]at U hu;refine⟨⟨none,.junk,[],[(k,⟨n',el,xM,some (xs.set i (nr q f (cells (dP A.t v))))⟩)],none⟩,_,⟨k,n',i,f,el,xM,xs,q,hu,by rw[<-au.e];exact ad,bn,U,rfl⟩,ar,?_,h.n,yy _ _ _ _,h.o⟩;rw[jl au];exact W1 au k _ _
      ·simp[yB]at he
   |_=>simp[hu,rM]at he
  |mkmap d key=>
   cases key with
   |none=>simp only[kN,eS,mw,false_and]at he
   |some m=>
    simp only[kN,eS,mw,p1]at he;obtain⟨⟨br,J,U⟩,_,ar⟩:=he;rw[au.b]at J;rw[au.e]at U;refine⟨_,_,⟨⟨pg m br J U,J,U⟩,rfl⟩,ar,Bw au d _ _ _ _ _ _,h.n,nK _ _ _ _ _,fun k ad=>?_⟩;rcases fT.1 ad with rfl|ad
    ·exact .inr (.inr ⟨m,br,rfl⟩)
    ·exact h.o k ad
  |mput ck u k v=>
   simp only[kN,eS,mw]at he;cases hu:cv st.t u with
   |gmap m=>
    cases af:look m st.b with
    |none=>simp[hu,af]at he
    |some cs=>
     cases hm:oK ck (cv st.t k) (cv st.t v) cs with
     |none=>simp[hu,af,hm]at he
     |some cs'=>simp only[hu,af,hm]at he;rw[jl au]at hu;rw[jl au,jl au]at hm;exact⟨⟨none,.junk,[(m,cs')],[],none⟩,_,⟨m,cs,cs',hu,by rw[<-au.b];exact af,hm,rfl⟩,he.2.2,HD au m _ _,h.n,yy _ _ _ _,h.o⟩
   |_=>simp[hu]at he
  |range d key x=>simp only[kN,mw,false_and]at he;split at he<;>exact he.elim
 |next d x=>simp only[kN]at he
 |call d f xs=>
  simp only[kN]at he;cases aK:cv st.t f with
  |func n di=>
   simp only[aK]at he;rw[jl au]at aK;rcases he with⟨cQ,r,rfl,bM,cp,dc,h2⟩|⟨s,ah,r,rm,bM,cp,dc,h2,kM,pZ,CN,acb,acd⟩
   ·rw[u7 au]at cp dc;have ax:=h.n;subst ax;refine⟨⟨some cQ,r,[],[],some (.loc (st.n+cQ))⟩,_,⟨n,di,aK,.inr ⟨cQ,r,rfl,yG cQ bM,cp,dc,rfl⟩⟩,h2,W2 au cQ r _ _,rfl,nK _ _ _ _ _,l4 cQ (aR cQ rfl)⟩
   rw[u7 au]at pZ CN;obtain⟨aS,be,b8,eg,dm⟩:=kM;refine⟨⟨d,r,ah.b,ah.e,rm⟩,_,⟨n,di,aK,.inl ⟨⟨s,ah,r,rm,fun k cs ad=>⟨by rw[<-au.b];exact(bM k cs ad).1,(bM k cs ad).2.2⟩,fun k o ad=>⟨by rw[<-au.e];exact(cp k o ad).1,(cp k o ad).2.2⟩,dc,h2,⟨aS,be,b8,eg,fun k ad=>?_⟩,pZ,CN,rfl⟩,acb⟩⟩,acd,⟨fun i=>?_,fun k=>?_,fun k=>?_⟩,h.n,fun k ad ae=>⟨h.F k ad ae,fun re=>?_⟩,h.o⟩
   ·obtain⟨⟨j,ae,rfl⟩,aD,bh,dk⟩:=dm k ad;rw[au.b]at aD;rw[au.e]at bh;exact⟨⟨j,rfl⟩,pg j ae aD bh,aD,bh,dk⟩
   ·simp only[after,dq.do];cases d with
    |none=>simpa[e4]using au.t i
    |some d=>simp only[e4,p7,ea,au.t]
   ·simp only[after,dq.do,iT,zc,vK];by_cases ag:(look k s.b).isSome
    ·have:=b8 k ag;obtain⟨y,aL⟩:=fL.1 this;simp[ag,aL]
    ·cases ax:look k ah.b with
     |none=>simp only[ag,au.b];cases A.b k<;>simp
     |some y=>
      rcases aS k (by simp[ax])with h|h
      ·exact absurd h ag
      ·have:=dm k h;simp[ag,this]
   ·simp only[after,dq.do,iT,zc,vK];by_cases ag:(look k s.e).isSome
    ·have:=eg k ag;obtain⟨y,aL⟩:=fL.1 this;simp[ag,aL]
    ·cases ax:look k ah.e with
     |none=>simp only[ag,au.e];cases A.e k<;>simp
     |some y=>
      rcases be k (by simp[ax])with h|h
      ·exact absurd h ag
      ·have:=dm k h;simp[ag,this]
   ·obtain⟨⟨j,gq,rfl⟩,_⟩:=dm k re;exact ae j gq rfl
  |_=>simp[aK]at he
def Av(N:Nat):List de->Bool
 |[]=>true
 |g::r=>jQ N g.i.dst&&Av N r
def zX:Nat->List de->List (Nat×de)
 |_,[]=>[]
 |k,g::r=>(k,g)::zX (k+1) r
theorem Qv{nw:List Nat}{n0 N:Nat}{qi:List aI}{st:bu}{A:dq}(h:tn nw n0 N qi st A){s:Nat}{p:aj}(ag:get s st.t=p):tn nw n0 N qi {st with t:=put s p st.t} A:=by
 refine⟨⟨fun i=>?_,h.like.b,h.like.e⟩,h.n,h.F,h.o⟩;simp only[p7];split
 ·rename_i e;subst e;rw[<-ag];exact h.like.t _
 ·exact h.like.t i
theorem Qw{nw:List Nat}{n0 N:Nat}{qi:List aI}{st:bu}{A:dq}(h:tn nw n0 N qi st A)(d:Option Nat):tn nw n0 N qi {st with t:=e4 d (.tuple []) st.t} (A.do (lN d)):=by
 refine⟨⟨fun i=>?_,fun k=>?_,fun k=>?_⟩,h.n,fun k ad ae=>⟨h.F k ad ae,by simp[lN]⟩,h.o⟩
 ·simp only[dq.do,lN];cases d with
  |none=>simpa[e4]using h.like.t i
  |some d=>simp only[e4,p7,ea,h.like.t]
 ·simpa[dq.do,iT,look,lN]using h.like.b k
 ·simpa[dq.do,iT,look,lN]using h.like.e k
theorem CW{P:cI}{q:Bool}{nw:List Nat}{n0 N:Nat}{qi:List aI}{K:bu->Prop}:∀(gs:List de) (k:Nat),Av N gs=true->∀(st:bu) (A:dq),tn nw n0 N qi st A->Cz nw A->h9 P q nw n0 gs st K->wC P q n0 (fun gz=> ∃st',K st'/\tn nw n0 N qi st' gz) (zX k gs) A
 |[],k,_,st,A,h,_,he=>⟨st,he,h⟩
 |⟨nJ,i⟩::r,k,aR,st,A,h,pg,he=>by
  simp only[Av,cy]at aR;have tK:∀d,i.dst=some d->d<N:=fun d e=>by have:=aR.1;rw[e]at this;simpa[jQ]using this
  simp only[zX,wC];cases nJ with
  |none=>simp only[h9]at he;obtain⟨x,st',J,U,ar⟩:=TJ tK h pg he;have a7:k4 P q n0 ⟨none,i⟩ A x:=J;exact⟨x,a7,CW r (k+1) aR.2 st' _ ar (pg.do a7) U⟩
  |some zN=>
   obtain⟨s,want⟩:=zN;simp only[h9]at he;split at he
   ·rename_i b af;by_cases e:b=want
    ·subst e;obtain⟨x,st',J,U,ar⟩:=TJ tK (Qv h af) pg (he.1 rfl);have a7:k4 P q n0 ⟨some (s,b),i⟩ A x:=by unfold k4;simp only[<-h.like.t,af];exact .inl ⟨trivial,J⟩
     exact⟨x,a7,CW r (k+1) aR.2 st' _ ar (pg.do a7) U⟩
    ·have gb:b= !want:=by cases b<;>cases want<;>simp at e⊢
     subst gb;have a7:k4 P q n0 ⟨some (s,want),i⟩ A (lN i.dst):=by unfold k4;simp only[<-h.like.t,af];exact .inr ⟨trivial,trivial⟩
     exact⟨lN i.dst,a7,CW r (k+1) aR.2 _ _ (Qw (Qv h af) i.dst) (pg.do a7) (he.2 rfl)⟩
   ·rename_i af;have a7:k4 P q n0 ⟨some (s,want),i⟩ A (lN i.dst):=by unfold k4;simp only[<-h.like.t,af]
    exact⟨lN i.dst,a7,CW r (k+1) aR.2 _ _ (Qw h i.dst) (pg.do a7) he⟩
   ·exact he.elim
theorem OP:∀(gs:List de) (l:Array Bool) (k:Nat),(∀j,l.getD j false=false)->rem l k gs=zX k gs
 |[],_,_,_=>rfl
 |g::r,l,k,h=>by simp only[rem,h k,zX,OP r l (k+1) h];simp
def uJ(n:Nat)(o:List aI)(K:bu->Prop)(st:bu):Prop:=K {st with n:=n,o:=o}
theorem Good.like{pr:Nat->Prop}{w:World}{Z:bg}{b b4:List (aI×List aj)}{e fj:List (aI×gg)}(h:Good pr w Z b e)(af:∀k,look k b4=look k b)(he:∀k,look k fj=look k e):Good pr w Z b4 fj:=
 ⟨h.alt,fun k cs ad=>h.box k cs (by rw[<-af];exact ad),fun k bJ bl J U=>h.inj k bJ bl (by rw[<-af];exact J) (by rw[<-af];exact U),fun g o a7=>h.own g o (by rw[<-he];exact a7),
  fun g fv n n' v v' bl J U=>h.oinj g fv n n' v v' bl (by rw[<-he];exact J) (by rw[<-he];exact U),fun g k n v bl J U=>h.obx g k n v bl (by rw[<-he];exact J) (by rw[<-af];exact U),h.one,
  fun bl aJ=>h.otr bl (aJ.imp (fun⟨k,bH,a2⟩=>⟨k,by rw[<-af];exact bH,a2⟩) (fun⟨g,n,v,bH,a2⟩=>⟨g,n,v,by rw[<-he];exact bH,a2⟩))⟩
theorem TK{P:cI}(hm:P.follows .mixedOrders=true){bG:List (Nat×dN)}(aJ:fY P bG=true){C:fu}{q:Bool}{nw:List Nat}{id:Nat}{ops:Array Oper}{gs:List de}(kR:kO C.N bG ops.toList gs ops.toList=true)(GH:CG gs ops.toList=true)(jm:Av C.N gs=true)
  {K:bu->Prop} {Q:Exit->Act->World->Prop} (h4:∀st' bs w' bt,K st'->c0 C st' bs w' bt->Q .normal bs w') {st:bu} {a:Act} {w:World} {Z:bg} (aiG:∀j∈nw,.obj j∉st.o) (he:h9 P q nw st.n gs st (uJ (st.n+C.N) (nw.map aI.obj++st.o) K)) (aO:c0 C st a w Z):(Code.region id ops true).wp P Q a w:=by
 refine wp_region_any hm ?_;have dY:c0 C st a {w with drawn:=w.drawn+1} Z:=aO.drawn _;let A:dq:=⟨fun i=>get i st.t,fun k=>look k st.b,fun k=>look k st.e,fresh st.n st.o⟩
 have sp:tn nw st.n C.N st.o st A:=⟨⟨fun _=>rfl,fun _=>rfl,fun _=>rfl⟩,rfl,fun k ad _=>ad,fun k ad=>.inl ad⟩;have tJ:=CW gs 0 jm st A sp (fun j ae _ _=>⟨trivial,aiG j ae⟩) he;have pq:∀j,(Array.replicate ops.size false).getD j false=false:=fun j=>by simp[Array.getD_eq_getD_getElem?,Array.getElem?_replicate];split<;>rfl
 refine abL aJ kR GH (q:=q) (n0:=st.n) (K:=fun gz=> ∃st',uJ (st.n+C.N) (nw.map aI.obj++st.o) K st'/\tn nw st.n C.N st.o st' gz) ?_ ops.size _ A a _ Ψ ?_ ?_ (by rw[OP gs _ 0 pq];exact tJ) ⟨st,Z,sp.like,fun k ad=>ad,dY⟩
 ·rintro gz bs w' ⟨st',ad,bD⟩ ⟨avL,bt,nR,De,mY⟩;refine h4 _ bs w' bt ad ⟨mY.good.like (fun k=>by rw[nR.b,<-bD.like.b]) (fun k=>by rw[nR.e,<-bD.like.e]),mY.fr,mY.defers,mY.size,fun i=>?_,fun k A3=>?_⟩
  ·have:=mY.slot i;rw[nR.t,<-bD.like.t]at this;exact this
  ·refine mY.new k (De k (bD.F k ?_ fun j ae e=>A3.2 (by subst e;exact List.mem_append_left _ (List.mem_map_of_mem ae))));simp only at A3;refine⟨(Lg (Nat.le_add_right st.n C.N) (fun _ h=>h) A3).1,fun iW=>?_⟩;rcases bD.o k iW with h|⟨d,aR,rfl⟩|⟨j,ae,rfl⟩;rotate_left 2
   ·exact A3.2 (List.mem_append_left _ (List.mem_map_of_mem ae))
   ·exact A3.2 (List.mem_append_right _ h)
   ·have:=A3.1;simp at this;omega
 ·intro k o ad au;rw[pq]at au;cases au
 ·rw[OP gs _ 0 pq];have:∀(gs:List de) k,(zX k gs).length=gs.length:=by
   intro gs;induction gs with
   |nil=>intro k;rfl
   |cons g r bR=>intro k;simp[zX,bR]
  rw[this];have:=Lu kR;simp at this;omega
def et:List aj->Prop
 |[]=>True
 |p::b1=>(match p with| .slice _ _ xs=>xs.length<=lim| .str s=>s.length<=lim|_=>True)/\et b1
def eo:aj->Prop
 | .slice _ _ xs=>xs.length<=lim
 | .str s=>s.length<=lim
 | .agg cs=>et cs
 |_=>True
def eA:List aj->Prop
 |[]=>True
 |p::r=>eo p/\eA r
theorem OS{w:World}{Z:bg}:∀{cs:List aj} {us:List Value},dd w Z cs us->et cs
 |[],_,_=>trivial
 |c::cs,us,h=>by
  simp only[dd]at h;obtain⟨u,ct,_,J,U⟩:=h;refine⟨?_,OS U⟩;cases c<;>simp only<;>have ar:=J.1<;>simp only[bd]at ar
  ·exact ar.2
  ·obtain⟨⟨a,cap,_,_,a6,_⟩,_⟩:=ar;exact a6.2
theorem Y7{w:World}{Z:bg}{cs:List aj}{us:List Value}(h:jJ w Z cs us):gr cs=true->et cs:=fun bF=>by rw[vR bF]at h;exact OS h
theorem Zj{w:World}{Z:bg}{p:aj}{v:Value}(h:bd w Z p v):eo p:=by
 cases p<;>simp only[eo]<;>simp only[bd]at h
 ·exact h.2
 ·obtain⟨⟨a,cap,_,_,a6,_⟩,_⟩:=h;exact a6.2
 ·obtain⟨us,_,U⟩:=h;exact OS U
theorem Zh{w:World}{Z:bg}:∀{cs:List aj} {us:List Value},cY w Z cs us->eA cs
 |[],_,_=>trivial
 |c::cs,us,h=>by simp only[cY]at h;obtain⟨u,ct,_,J,U⟩:=h;exact⟨Zj J,Zh U⟩
inductive C where
 |skip
 |region (gs:List de)
 |drawn (q:Bool) (N:Nat) (gs:List de)
 |drawnW (nw:List Nat) (N:Nat) (gs:List de)
 |seq (a b:C)
 |cond (x:dF) (t e:C)
 |block (id:Nat) (c:C)
 |loop (c:C)
 |exit (id:Nat)
 |ret
 |pub (s:Nat) (c:C)
 |pubB (s:Nat) (c:C)
 |fg (qf:Bool) (s:Nat) (c:C)
 |fz (agg:Bool) (s:Nat) (c:C)
 |no
def EB(st:bu):aj->Option (aj×List (aI×gg))
 | .row sz k n=>match look k st.e with
  |some ⟨n',el,dZ,some xs⟩=>if n'=n/\dZ=sz then some (.slice sz (.own k) xs,cA k ⟨n,el,sz,none⟩ st.e)else none
  |_=>none
 |_=>none
def xB(st:bu)(s:Nat):Option bu:=
 match EB st (get s st.t)with
 |some (p,e)=>some {st with t:=put s p st.t,e:=e}
 |none=>none
def xA(st:bu)(s:Nat):Option bu:=
 match get (s%1000) st.t with
 | .ptr k off=>match look k st.b with
  |some cs=>match cs[off+s/1000]? with
   |some p=>match EB st p with
    |some (BS,e)=>if gr cs then some {st with b:=cA k (cs.set (off+s/1000) BS) st.b,e:=e}else none
    |none=>none
   |none=>none
  |none=>none
 |_=>none
theorem OO{C:fu}{st:bu}{a:Act}{w:World}{Z:bg}(h:c0 C st a w Z){s:Nat}{p:aj}(ag:bd w Z p (a.tmps.getD s undef)):c0 C {st with t:=put s p st.t} a w Z:=by
 refine⟨h.good,h.fr,h.defers,h.size,fun i=>?_,h.new⟩;have:=h.slot i;simp only[p7];split
 ·rename_i e;subst e;exact ag
 ·exact this
theorem Yc{C:fu}{st:bu}{a:Act}{w:World}{Z:bg}(h:c0 C st a w Z){p BS:aj}{e:List (aI×gg)}{v:Value}(bF:bd w Z p v)(he:EB st p=some (BS,e)):
  ∃bt,c0 C {st with e:=e} a w bt/\bd w bt BS v/\lU w Z w bt:=by
 unfold EB at he;split at he
 ·rename_i sz k n;split at he
  ·rename_i n' el dZ xs ad;split at he
   ·rename_i aw;obtain⟨rfl,rfl⟩:=aw;cases he;simp only[bd]at bF;obtain⟨_,au,n0,u,J,U,ar⟩:=bF;obtain⟨v0,fJ,ba,bo,b3,c9⟩:=h.good.own k _ ad;rw[J]at ba;simp only[ea,jO]at ba;obtain⟨rfl,rfl⟩:=ba;have aF:v=u:=ar rfl;subst aF;obtain⟨dh,_,_⟩:=c9 xs rfl;simp only at dh;obtain⟨g1,g2⟩:=h.publish ad rfl J (by rw[dh];exact au);refine⟨_,g1,g2,⟨fun b o bm=>⟨.inl bm,rfl⟩,fun j b _ ae=>ae,fun g n u _ jo=>⟨n,u,?_,.inl ⟨rfl,rfl⟩⟩,fun _ _ _=>rfl,fun _ _ _ _ h=>h⟩⟩;simp only[bg.withRowOf];split
    ·rename_i e;subst e;rw[J]at jo;exact jo
    ·exact jo
   ·cases he
  ·cases he
 ·cases he
def AF(qf:Bool):aj->aj
 | .slice sz tag xs=>.slice sz (if qf then tag else .no) (c6 xs)
 |p=>dz p
theorem agi{w:World}{Z:bg}{qf:Bool}{p:aj}{v:Value}(h:bd w Z p v):bd w Z (AF qf p) v:=by
 have J:=zE p v h;cases p with
 |slice sz tag xs=>
  simp only[AF];cases qf with
  |false=>simpa only[ho,if_false,dz]using J
  |true=>
   simp only[if_true];simp only[bd,dz]at h J⊢;refine⟨J.1,fun e=>h.2.1 e,fun g e=>?_,fun k j e=>?_,fun k e=>?_⟩
   ·obtain⟨n,u,ak,aD,bh⟩:=h.2.2.1 g e;exact⟨n,u,ak,by rw[we];exact aD,by rw[we];exact bh⟩
   ·exact Uk _ _ (h.2.2.2.1 k j e)
   ·exact Uk _ _ (h.2.2.2.2 k e)
 |_=>exact J
theorem anu{C:fu}{st st':bu}{a:Act}{w:World}{Z:bg}(h:c0 C st a w Z){s:Nat}(he:xB st s=some st'):∃bt,c0 C st' a w bt:=by
 unfold xB at he;split at he
 ·rename_i p e bF;cases he;obtain⟨bt,J,U,_⟩:=Yc h (h.slot s) bF;exact⟨_,OO J U⟩
 ·cases he
theorem Ze{w:World}{Z:bg}:∀{cs:List aj} {us:List Value} {i:Nat} {p q:aj} {v:Value},dd w Z cs us->cs[i]? =some p->us[i]? =some v->bd w Z q v->dd w Z (cs.set i q) us
 |[],_,_,_,_,_,_,h,_,_=>by simp at h
 |c::cs,us,0,p,q,v,h,_,aF,bn=>by simp only[dd]at h;obtain⟨u,ct,rfl,J,U⟩:=h;simp only[List.getElem?_cons_zero,ea]at aF;subst aF;simp only[List.set_cons_zero,dd];exact⟨_,_,rfl,⟨bn,J.2⟩,U⟩
 |c::cs,us,i+1,p,q,v,h,bF,aF,bn=>by simp only[dd]at h;obtain⟨u,ct,rfl,J,U⟩:=h;simp only[List.set_cons_succ,dd];exact⟨_,_,rfl,J,Ze U (by simpa using bF) (by simpa using aF) bn⟩
theorem ant{C:fu}{st st':bu}{a:Act}{w:World}{Z:bg}(h:c0 C st a w Z){s:Nat}(he:xA st s=some st'):∃bt,c0 C st' a w bt:=by
 unfold xA at he;split at he
 ·rename_i k alc ad;generalize alc+s/1000=off at he;split at he
  ·rename_i cs dA;split at he
   ·rename_i p bF;split at he
    ·rename_i BS e G5;split at he
     ·rename_i tS;cases he;obtain⟨bl,us,el,g1,g2,g3,g4,g5⟩:=h.good.box k cs dA;rw[vR tS]at g5;have bE:off<us.toList.length:=by rw[qk g5];exact(eV.1 bF).1
      obtain⟨v,aF⟩:∃v,us.toList[off]? =some v:=⟨_,b6 bE⟩;have Ba:bd w Z p v:=by have:=B8 off g5;rw[lR (eV.1 bF).1,lR bE]at this;simp only[dd]at this;obtain⟨u,ct,ak,aD,_⟩:=this;rw[(eV.1 bF).2]at aD;rw[(eV.1 aF).2]at ak;cases ak;exact aD.1
      obtain⟨bt,J,U,ar⟩:=Yc h Ba G5;have w2:dd w bt (cs.set off BS) us.toList:=Ze (Zd ar g5) bF aF U;have Vz:=Ca w2;refine⟨bt,⟨J.good.alt,fun j e1 ae=>?_,fun j dT b ae gq=>J.good.inj j dT b ?_ ?_,J.good.own,J.good.oinj,fun g j n v b a7 ae=>J.good.obx g j n v b a7 ?_,J.good.one,fun bl af=>J.good.otr bl (af.imp (fun⟨bJ,bH,a2⟩=>⟨bJ,by rw[jt]at bH;split at bH;(rename_i e;subst e;simp[dA]);exact bH,a2⟩) id)⟩,J.fr,J.defers,J.size,J.slot,J.new⟩
      ·simp only at ae;rw[jt]at ae;split at ae
       ·rename_i e;subst e;cases ae;obtain⟨iS,ct,gm,f1,f2,f3,f4,f5⟩:=J.good.box k cs dA;have:iS=bl:=by have:=ar.bx k bl trivial g1;rw[this]at f1;cases f1;rfl
        subst this;rw[vQ tS]at g4 f4;rw[g4]at f4;injection f4 with f4;injection f4 with f4 f6 f7;refine⟨iS,us,el,f1,f2,f3,by rw[vQ Vz];exact g4,by rw[vR Vz];exact w2⟩
       ·exact J.good.box j e1 ae
      ·simp only at ae;rw[jt]at ae;split at ae
       ·rename_i e;subst e;simp[dA]
       ·exact ae
      ·simp only at gq;rw[jt]at gq;split at gq
       ·rename_i e;subst e;simp[dA]
       ·exact gq
      ·simp only at ae;rw[jt]at ae;split at ae
       ·rename_i e;subst e;simp[dA]
       ·exact ae
     ·cases he
    ·cases he
   ·cases he
  ·cases he
 ·cases he
def tA{α:Type}(k:aI)(l:List (aI×α)):List (aI×α):=match l with
 |[]=>[]
 |(i,x)::r=>if i=k then tA k r else(i,x)::tA k r
theorem M5{α:Type}(k j:aI):∀l:List (aI×α),look j (tA k l)=if j=k then none else look j l
 |[]=>by simp[tA,look]
 |(i,x)::r=>by
  simp only[tA];by_cases h:i=k
  ·subst h;rw[if_pos rfl,M5 i j r];by_cases U:j=i
   ·simp[U]
   ·have:¬i=j:=fun e=>U e.symm;simp[look,U,this]
  ·rw[if_neg h];simp only[look];by_cases U:i=j
   ·subst U;simp[h]
   ·simp only[U,if_false];exact M5 k j r
def Lj(agg:Bool):List aj->Option aj
 |[p]=>if agg then some (.agg [p])else some p
 |cs=>if agg then some (.agg cs)else none
def wI(st:bu)(agg:Bool)(s:Nat):Option bu:=
 match get s st.t with
 | .ptr k 0=>match look k st.b with
  |some cs=>if gr cs then match Lj agg cs with
    |some x=>some {st with t:=put s (.eptr x) st.t,b:=tA k st.b}
    |none=>none
   else none
  |none=>none
 |_=>none
theorem ani{u:Value}(h:u.oneCell'=true):u.cells.toList=[u]:=by cases u<;>first|rfl|(simp[Value.oneCell']at h)
theorem WS{w:World}{A:Nat->Nat->Prop}{b:Nat}{us:Array Value}{el:gu}(af:w.heap[b]? =some (.cells us el))(bm:∀o,o<us.size->A b o):∀(bf:List Value) (off:Nat),us.toList.drop off=bf->mf w A b off bf
 |[],_,_=>trivial
 |v::bf,off,h=>by
  have bE:off<us.toList.length:=by
   rcases Nat.lt_or_ge off us.toList.length with J|J
   ·exact J
   ·rw[List.drop_eq_nil_of_le J]at h;cases h
  have U:=lR bE;rw[h]at U;injection U with U ar;refine⟨⟨bm off (by simpa using bE),?_⟩,WS af bm bf (off+1) ar.symm⟩;have wW:off<us.size:=by simpa using bE
  simp only[World.cell?,af,jN,ho,if_false];rw[U];simp[wW]
theorem agy{C:fu}{st st':bu}{a:Act}{w:World}{Z:bg}(h:c0 C st a w Z){agg:Bool}{s:Nat}(he:wI st agg s=some st'):∃bt,c0 C st' a w bt:=by
 unfold wI at he;split at he
 ·rename_i k ad;split at he
  ·rename_i cs dA;split at he
   ·rename_i tS;split at he
    ·rename_i x ab;cases he;obtain⟨bl,us,el,g1,g2,g3,g4,g5⟩:=h.good.box k cs dA;rw[vR tS]at g5;rw[vQ tS]at g4;have bE:bl<w.heap.size:=by
      rcases Nat.lt_or_ge bl w.heap.size with J|J
      ·exact J
      ·rw[Array.getElem?_eq_none J]at g4;cases g4
     let bt:bg:={Z with A:=fun b o=>Z.A b o\/(b=bl/\o<us.size)}
     have ay:lU w Z w bt:=⟨fun b o bm=>⟨.inl bm,rfl⟩,fun j b _ ae=>ae,fun g n u _ jo=>⟨n,u,jo,.inl ⟨rfl,rfl⟩⟩,fun _ _ _=>rfl,fun _ _ _ _ h=>h⟩;have fE:∀j e1,look j (tA k st.b)=some e1->j≠k/\look j st.b=some e1:=fun j e1 ae=>by
      rw[M5]at ae;split at ae
      ·cases ae
      ·rename_i e;exact⟨e,ae⟩
     have GW:∀j,(look j (tA k st.b)).isSome->(look j st.b).isSome:=fun j ae=>by obtain⟨e1,jm⟩:=fL.1 ae;simp[(fE j e1 jm).2]
     have ri:∀(g:aI) (n:Nat) (v:Value),(look g st.e).isSome->Z.ow g=some (n,v)->v.ownBlock=some bl->e8:=fun g n v J U ar=>h.good.obx g k n v bl J (by simp[dA]) U ar g1;have na:bd w bt (.eptr x) (a.tmps.getD s undef):=by
      have ag:=h.slot s;rw[ad]at ag;simp only[bd]at ag⊢;obtain⟨b4,ba,bo⟩:=ag;rw[g1]at ba;cases ba;have au:mf w bt.A bl 0 us.toList:=WS g4 (fun o ay=>.inr ⟨rfl,ay⟩) _ 0 rfl;have g6:dd w bt cs us.toList:=Zd ay g5;unfold Lj at ab;split at ab
      ·rename_i p;simp only[dd]at g6;obtain⟨u,ct,ak,aD,bh⟩:=g6;subst bh;split at ab
       ·cases ab;exact⟨bl,0,.agg us,bo,by simp only[bd];exact⟨us,rfl,by rw[ak];simp only[dd];exact⟨u,[],rfl,aD,rfl⟩⟩,by simpa[pP]using au⟩
       ·cases ab;refine⟨bl,0,u,bo,aD.1,?_⟩;rw[ani aD.2,<-ak];exact au
      ·split at ab
       ·cases ab;exact⟨bl,0,.agg us,bo,by simp only[bd];exact⟨us,rfl,g6⟩,by simpa[pP]using au⟩
       ·cases ab
     refine⟨bt,OO (Z:=bt) (st:={st with b:=tA k st.b}) ⟨⟨fun b o bm=>?_,fun j e1 ae=>?_,fun j dT b J U=>h.good.inj j dT b (GW j J) (GW dT U),fun g o a7=>?_,h.good.oinj,fun g j n v b J U=>h.good.obx g j n v b J (GW j U),h.good.one,fun b aJ=>h.good.otr b (aJ.imp (fun⟨j,bH,a2⟩=>⟨j,GW j bH,a2⟩) id)⟩,⟨h.fr.os,h.fr.tape,h.fr.output,h.fr.size,h.fr.block,fun b o bm=>⟨.inl (h.fr.keep b o bm).1,(h.fr.keep b o bm).2⟩,fun b o bm=>?_,h.fr.obj,h.fr.obn,h.fr.row,h.fr.obr,h.fr.trd,h.fr.trb,h.fr.trn,h.fr.sh⟩,h.defers,h.size,fun i=>zD ay (h.slot i),h.new⟩ na⟩
     ·rcases bm with bm|⟨rfl,_⟩
      ·exact h.good.alt b o bm
      ·exact bE
     ·obtain⟨cM,gq⟩:=fE j e1 ae;obtain⟨iS,ct,gm,f1,f2,f3,f4,f5⟩:=h.good.box j e1 gq;refine⟨iS,ct,gm,f1,f2,fun o bm=>?_,f4,qP ay f5⟩;rcases bm with bm|⟨rfl,_⟩
      ·exact f3 o bm
      ·exact cM (h.good.inj j k _ (by simp[gq]) (by simp[dA]) f1 g1)
     ·obtain⟨v0,fJ,ak,aD,bh,dk⟩:=h.good.own g o a7;have wL:∀b,v0.ownBlock=some b->∀j,bt.A b j->Z.A b j:=fun b af j bm=>by
       rcases bm with bm|⟨rfl,_⟩
       ·exact bm
       ·exact(ri g _ v0 (by simp[a7]) ak af).elim
      exact⟨v0,fJ,ak,aD,fun b af=>⟨(bh b af).1,fun j bm=>(bh b af).2 j (wL b af j bm)⟩,s6 ay wL dk⟩
     ·rcases bm with bm|⟨rfl,_⟩
      ·exact h.fr.fresh b o bm
      ·exact .inr g2
    ·cases he
   ·cases he
  ·cases he
 ·cases he
def s5(st:bu)(x:dF)(b:Bool):bu:=match x with
 | .t i=>{st with t:=put i (.bool b) st.t}
 | .c _=>st
def c8(P:cI)(ob:List aI):C->(Exit->bu->Prop)->bu->Prop
 | .skip,Q,st=>Q .normal st
 | .region gs,Q,st=>ix P gs st (Q .normal)
 | .drawn q N gs,Q,st=>h9 P q [] st.n gs st (uJ (st.n+N) st.o (Q .normal))
 | .drawnW nw N gs,Q,st=>(∀j∈nw,.obj j∉st.o)/\h9 P false nw st.n gs st (uJ (st.n+N) (nw.map aI.obj++st.o) (Q .normal))
 | .seq a b,Q,st=>c8 P ob a (fun e st'=>match e with| .normal=>c8 P ob b Q st'|e=>Q e st') st
 | .cond x t e,Q,st=>match cv st.t x with
  | .bool b=>(b=true->c8 P ob t Q (s5 st x true))/\(b=false->c8 P ob e Q (s5 st x false))
  |_=>e8
 | .block id c,Q,st=>c8 P ob c (fun e st'=>match e with| .exit j=>if j=id then Q .normal st' else Q (.exit j) st'|e=>Q e st') st
 | .loop c,Q,st=> ∃(hv:Nat->bu->Prop) (m:Nat) (xK:bu),jj ob st xK/\hv m xK/\
   ∀k s,hv k s->(∀i,eo (get i s.t))->(∀j cs,look j s.b=some cs->gr cs=true->et cs)->c8 P ob c (fun e ah=>match e with| .normal=> ∃bJ pE,bJ<k/\jj ob ah pE/\hv bJ pE|e=>Q e ah) s
 | .exit id,Q,st=>Q (.exit id) st
 | .ret,Q,st=>Q .ret st
 | .pub s c,Q,st=>match xB st s with
  |some st'=>c8 P ob c Q st'
  |none=>e8
 | .pubB s c,Q,st=>match xA st s with
  |some st'=>c8 P ob c Q st'
  |none=>e8
 | .fg qf s c,Q,st=>c8 P ob c Q {st with t:=put s (AF qf (get s st.t)) st.t}
 | .fz gG s c,Q,st=>match wI st gG s with
  |some st'=>c8 P ob c Q st'
  |none=>e8
 | .no,_,_=>e8
def hS(N:Nat)(bG:List (Nat×dN)):C->Code->Bool
 | .skip,.skip=>true
 | .region gs,.region _ ops false=>kO N bG ops.toList gs ops.toList
 | .drawn _ N' gs,.region _ ops true=>N'==N&&kO N bG ops.toList gs ops.toList&&CG gs ops.toList&&Av N gs
 | .drawnW _ N' gs,.region _ ops true=>N'==N&&kO N bG ops.toList gs ops.toList&&CG gs ops.toList&&Av N gs
 | .seq a b,.seq x y=>hS N bG a x&&hS N bG b y
 | .cond x t e,.cond o da fj=>eD x o&&hS N bG t da&&hS N bG e fj
 | .block id c,.block DW cw=>id==DW&&hS N bG c cw
 | .loop c,.loop cw=>hS N bG c cw
 | .exit id,.exit DW=>id==DW
 | .ret,.ret=>true
 | .pub _ c,cw=>hS N bG c cw
 | .pubB _ c,cw=>hS N bG c cw
 | .fg _ _ c,cw=>hS N bG c cw
 | .fz _ _ c,cw=>hS N bG c cw
 | .no,_=>true
 |_,_=>false
theorem UH{N:Nat}{bG:List (Nat×dN)}{ops:List Oper}:∀{gs:List de} {os:List Oper},kO N bG ops gs os=true->gs.length=os.length
 |[],[],_=>rfl
 |[],_::_,h=>by simp[kO]at h
 |_::_,[],h=>by simp[kO]at h
 |g::gs,o::os,h=>by simp only[kO,cy]at h;simp[UH h.2]
def abf(P:cI)(C:fu)(c:Code)(Q:Exit->bu->Prop)(st:bu):Prop:= ∀a w Z,c0 C st a w Z->c.wp P (fun e bs w'=> ∃st' bt,Q e st'/\c0 C st' bs w' bt) a w
theorem sa{P:cI}(hm:P.follows .mixedOrders=true){bG:List (Nat×dN)}(aJ:fY P bG=true){X:fu}:∀(c:C) (code:Code) (Q:Exit->bu->Prop) (st:bu),hS X.N bG c code=true->c8 P X.ob c Q st->abf P X code Q st
 | .skip,code,Q,st,ay,he=>by
  cases code<;>simp only[hS]at ay<;>try cases ay
  intro a w Z aO;exact wp_skip ⟨st,Z,he,aO⟩
 | .region gs,code,Q,st,ay,he=>by
  cases code<;>try(simp[hS]at ay;done)
  rename_i id ops draw;cases draw<;>simp only[hS]at ay
  ·intro a w Z aO;refine wp_region ?_;have au:gs.length=ops.size:=by simpa using UH ay
   rw[List.range_eq_range',<-au];exact TL aJ (K:=Q .normal) (fun st' bs w' bt J U=>⟨st',bt,J,U⟩) gs ops.toList 0 Ψ ay st a w Z he aO
  ·cases ay
 | .drawn q N gs,code,Q,st,ay,he=>by
  cases code<;>try(simp[hS]at ay;done)
  rename_i id ops draw;cases draw<;>simp only[hS]at ay
  ·cases ay
  ·simp only[cy,eb]at ay;obtain⟨⟨⟨rfl,J⟩,U⟩,ar⟩:=ay;intro a w Z aO;exact TK hm aJ J U ar (nw:=[]) (K:=Q .normal) (fun st' bs w' bt J U=>⟨st',bt,J,U⟩) Ψ he aO
 | .drawnW nw N gs,code,Q,st,ay,he=>by
  cases code<;>try(simp[hS]at ay;done)
  rename_i id ops draw;cases draw<;>simp only[hS]at ay
  ·cases ay
  ·simp only[cy,eb]at ay;obtain⟨⟨⟨rfl,J⟩,U⟩,ar⟩:=ay;intro a w Z aO;exact TK hm aJ J U ar (nw:=nw) (K:=Q .normal) (fun st' bs w' bt J U=>⟨st',bt,J,U⟩) he.1 he.2 aO
 | .seq x y,code,Q,st,ay,he=>by
  cases code<;>try(simp[hS]at ay;done)
  rename_i p0 lX;simp only[hS,cy]at ay;intro a w Z aO;refine wp_seq ?_;have J:=sa hm aJ x p0 _ st ay.1 he a w Z aO;refine wp_mono J fun e bs w' cZ=>?_;obtain⟨st',bt,bn,dY⟩:=cZ;cases e with
  |normal=>exact sa hm aJ y lX Q st' ay.2 bn bs w' bt dY
  |_=>exact⟨st',bt,bn,dY⟩
 | .cond x t e,code,Q,st,ay,he=>by
  cases code<;>try(simp[hS]at ay;done)
  rename_i o ac3 ce;simp only[hS,cy]at ay;intro a w Z aO;simp only[c8]at he;have ab:=eE aO ay.1.1;split at he
  ·rename_i b af;rw[af]at ab;simp only[bd]at ab;have DM:c0 X (s5 st x b) a w Z:=by
    unfold s5;split
    ·exact ON aO (by simpa[cv]using af)
    ·exact aO
   refine wp_cond ab ?_;cases b
   ·exact sa hm aJ e ce Q _ ay.2 (he.2 rfl) a w Z DM
   ·exact sa hm aJ t ac3 Q _ ay.1.2 (he.1 rfl) a w Z DM
  ·exact he.elim
 | .block id c,code,Q,st,ay,he=>by
  cases code<;>try(simp[hS]at ay;done)
  rename_i DW cw;simp only[hS,cy,eb]at ay;obtain⟨rfl,ay⟩:=ay;intro a w Z aO;refine wp_block ?_;refine wp_mono (sa hm aJ c cw _ st ay he a w Z aO) fun e bs w' cZ=>?_;obtain⟨st',bt,bn,dY⟩:=cZ;cases e with
  |exit j=>
   simp only[Exit.inBlock]at bn⊢;by_cases ae:j=id
   ·rw[if_pos ae]at bn⊢;exact⟨st',bt,bn,dY⟩
   ·rw[if_neg ae]at bn⊢;exact⟨st',bt,bn,dY⟩
  |_=>exact⟨st',bt,bn,dY⟩
 | .loop c,code,Q,st,ay,he=>by
  cases code<;>try(simp[hS]at ay;done)
  rename_i cw;simp only[hS]at ay;intro a w Z aO;simp only[c8]at he;obtain⟨hv,m,xK,hw,hi,j8⟩:=he;refine wp_loop_ghost (fun k a w=> ∃s Z,hv k s/\c0 X s a w Z) m ⟨xK,_,hi,aO.weaker hw⟩ ?_;intro k a w ahE;obtain⟨s,Z,ag,DN⟩:=ahE;have J:=j8 k s ag (fun i=>Zj (DN.slot i)) (fun j cs ae=>by obtain⟨bl,us,el,_,_,_,_,g5⟩:=DN.good.box j cs ae;exact Y7 g5);refine wp_mono (sa hm aJ c cw _ s ay J a w Z DN) fun e bs w' cZ=>?_;obtain⟨st',bt,bn,dY⟩:=cZ;cases e with
  |normal=>obtain⟨bJ,pE,ak,aD,bh⟩:=bn;exact⟨bJ,ak,pE,_,bh,dY.weaker aD⟩
  |_=>exact⟨st',bt,bn,dY⟩
 | .exit id,code,Q,st,ay,he=>by
  cases code<;>try(simp[hS]at ay;done)
  rename_i DW;simp only[hS,eb]at ay;subst ay;intro a w Z aO;exact wp_exit ⟨st,Z,he,aO⟩
 | .ret,code,Q,st,ay,he=>by
  cases code<;>try(simp[hS]at ay;done)
  intro a w Z aO;exact wp_ret ⟨st,Z,he,aO⟩
 | .pub s c,code,Q,st,ay,he=>by
  simp only[hS]at ay;simp only[c8]at he;split at he
  ·rename_i st' ag;intro a w Z aO;obtain⟨bt,J⟩:=anu aO ag;exact sa hm aJ c code Q st' ay he a w bt J
  ·exact he.elim
 | .pubB s c,code,Q,st,ay,he=>by
  simp only[hS]at ay;simp only[c8]at he;split at he
  ·rename_i st' ag;intro a w Z aO;obtain⟨bt,J⟩:=ant aO ag;exact sa hm aJ c code Q st' ay he a w bt J
  ·exact he.elim
 | .fg qf s c,code,Q,st,ay,he=>by simp only[hS]at ay;simp only[c8]at he;intro a w Z aO;exact sa hm aJ c code Q _ ay he a w Z (OO aO (agi (aO.slot s)))
 | .fz gG s c,code,Q,st,ay,he=>by
  simp only[hS]at ay;simp only[c8]at he;intro a w Z aO;split at he
  ·rename_i st' cF;obtain⟨bt,J⟩:=agy aO cF;exact sa hm aJ c code Q st' ay he a w bt J
  ·exact he.elim
 | .no,code,Q,st,ay,he=>by simp only[c8]at he
inductive bO where
 |tmp (i:Nat)
 |cell (i:Nat) (agg:Bool) (sz:Nat)
def aZ(st:bu):bO->Option (Prop×aj)
 | .tmp i=>some (True,get i st.t)
 | .cell i agg sz=>nl st.b st.e agg sz (get i st.t)
def aX(st:bu):List bO->Option (Prop×List aj)
 |[]=>some (True,[])
 |r::fx=>match aZ st r,aX st fx with
  |some (c,p),some (cw,b1)=>some (c/\cw,p::b1)
  |_,_=>none
def rG(bG:List (Nat×dN)):List bO->List ResultVar->Bool
 |[],[]=>true
 | .tmp i::fx,.tmp j::os=>i==j&&rG bG fx os
 | .cell i agg sz::fx,.cell j t::os=>i==j&&(match eu bG t with|some f=>f.size==sz&&f.kind.isAgg==agg|none=>false)&&rG bG fx os
 |_,_=>false
def aW:List aj->aj
 |[p]=>p
 |b1=>.tuple b1
def IT(tmps:Array Value):ResultVar->Sem Value
 | .tmp t=>pure (tmps.getD t undef)
 | .cell x t=>do loadVar t (<-asAddr (tmps.getD x undef))
theorem aoT(fn:Func)(tmps:Array Value):results fn tmps=(do let bf<-fn.results.mapM (IT tmps);pure (if h:bf.size=1 then bf[0]else .tuple bf)):=by unfold results;congr 2
theorem OV{P:cI}{bG:List (Nat×dN)}(aJ:fY P bG=true){X:fu}{st:bu}{a:Act}{w:World}{Z:bg}(aO:c0 X st a w Z):
  ∀(fx:List bO) (os:List ResultVar) (c:Prop) (b1:List aj),rG bG fx os=true->aX st fx=some (c,b1)->c->
  ∃bf,(os.mapM (IT a.tmps)).run P w= .ok bf w/\cY w Z b1 bf
 |[],[],c,b1,_,he,_=>by simp only[aX]at he;cases he;exact⟨[],Ψ,by simp[cY]⟩
 |[],_::_,_,_,ay,_,_=>by simp[rG]at ay
 | .tmp _::_,[],_,_,ay,_,_=>by simp[rG]at ay
 | .cell _ _ _::_,[],_,_,ay,_,_=>by simp[rG]at ay
 |r::fx,o::os,c,b1,ay,he,aw=>by
  simp only[aX]at he;split at he
  ·rename_i bM p cp mj J U;cases he;cases r with
   |tmp i=>
    cases o with
    |cell _ _=>simp[rG]at ay
    |tmp j=>simp only[rG,cy,eb]at ay;obtain⟨rfl,ay⟩:=ay;simp only[aZ]at J;cases J;obtain⟨bf,g1,g2⟩:=OV aJ aO fx os cp mj ay U aw.2;refine⟨a.tmps.getD i undef::bf,?_,by simp only[cY];exact⟨_,_,rfl,aO.slot i,g2⟩⟩;simp only[List.mapM_cons,fZ,IT,gL,gf,g1]
   |cell i agg sz=>
    cases o with
    |tmp _=>simp[rG]at ay
    |cell j t=>
     simp only[rG,cy,eb]at ay;obtain⟨⟨rfl,ar⟩,ay⟩:=ay;split at ar
     ·rename_i f aK;simp only[cy,eb]at ar;obtain⟨rfl,rfl⟩:=ar;simp only[aZ]at J;obtain⟨bf,g1,g2⟩:=OV aJ aO fx os cp mj ay U aw.2;obtain⟨v,f1,f2⟩:=HE aJ aO.good aK (aO.slot i) J aw.1;have DJ:∃tt,a.tmps.getD i undef= .pointer (some tt):=by
       have ag:=aO.slot i;unfold nl at J;split at J
       ·rename_i dZ k n xa sb ad;rw[ad]at ag;simp only[bd]at ag;obtain⟨⟨b,o,e⟩,_⟩:=ag;exact⟨_,e⟩
       ·rename_i k off ad;rw[ad]at ag;simp only[bd]at ag;obtain⟨b,_,e⟩:=ag;exact⟨_,e⟩
       ·rename_i q ad;rw[ad]at ag;simp only[bd]at ag;obtain⟨b,off,u,e,_⟩:=ag;exact⟨_,e⟩
       ·cases J
      obtain⟨tt,Dj⟩:=DJ;rw[Dj]at f1;simp only[Instr.loadAt,Instr.sureAddr,fZ,gL,gf]at f1;refine⟨v::bf,?_,by simp only[cY];exact⟨_,_,rfl,f2,g2⟩⟩;have ahJ:(asAddr (.pointer (some tt)):Sem Addr).run P w= .ok tt w:=rfl;simp only[List.mapM_cons,fZ,IT,gL,gf,g1,Dj,ahJ,f1]
     ·cases ar
  ·cases he
theorem EL{w:World}{Z:bg}:∀{b1:List aj} {bf:List Value},cY w Z b1 bf->bf.length=b1.length
 |[],bf,h=>by simp only[cY]at h;subst h;rfl
 |p::b1,bf,h=>by simp only[cY]at h;obtain⟨u,ct,rfl,_,U⟩:=h;simp[EL U]
def kH:Nat->List aj->List (Nat×aj)
 |_,[]=>[]
 |i,p::b1=>(i,p)::kH (i+1) b1
theorem Lt:∀(b1:List aj) (i j:Nat),get j (kH i b1)=if i<=j/\j<i+b1.length then b1.getD (j-i) .junk else .junk
 |[],i,j=>by simp[kH,get]
 |p::b1,i,j=>by
  simp only[kH,get];by_cases h:i=j
  ·subst h;simp
  ·rw[if_neg h,Lt b1 (i+1) j];by_cases U:i<=j/\j<i+(p::b1).length
   ·rw[if_pos U,if_pos (by simp at U⊢;omega)];have:j-i=(j-(i+1))+1:=Ω
    rw[this];simp
   ·rw[if_neg U,if_neg (by simp at U⊢;omega)]
def lG{α:Type}(ah:cL):List (aI×α)->Prop
 |[]=>True
 |(k,_)::r=>inObs ah k/\lG ah r
theorem Br{α:Type}{ah:cL}:∀{l:List (aI×α)},lG ah l->∀k,(look k l).isSome->inObs ah k
 |[],_,k,h=>by simp[look]at h
 |(i,x)::r,ad,k,h=>by
  simp only[lG]at ad;simp only[look]at h;split at h
  ·rename_i e;subst e;exact ad.1
  ·exact Br ad.2 k h
def cH(fx:List bO)(s:cL)(Q:aj->cL->Prop)(e:Exit)(st:bu):Prop:=
 (e= .ret\/e= .normal)/\match aX st fx with
  |some (c,b1)=>c/\∃ah,lG ah s.b/\lG ah s.e/\hc (inObs ah) ah.b st.b/\pH (inObs ah) ah.e st.e/\ju ah/\aB (inObs ah) (dz (aW b1))/\Q (dz (aW b1)) ah
  |none=>e8
theorem bI.of{P:cI}(hm:P.follows .mixedOrders=true){bG:List (Nat×dN)}(aJ:fY P bG=true){f:FuncId}{fn:Func}(aK:P.funcs[f]? =some fn){code:Code}(af:fn.body=some code)(DF:(fn.name== "runtime.NumGoroutine")=false){c:C}(aw:hS fn.ntmps bG c code=true){fx:List bO}(DN:rG bG fx fn.results.toList=true)
  {args:List aj} (au:args.length<=fn.ntmps) {s:cL} (qe:ju s) {Q:aj->cL->Prop} (he:eA args->(∀j cs,look j s.b=some cs->gr cs=true->et cs)->c8 P (c2 s) c (cH fx s Q) ⟨kH 0 args,s.b,s.e,0,c2 s⟩):bI P f args s Q:=by
 intro w Z bf a7 ab aO;refine .inl ⟨⟨fn,aK,by simp[af],DF⟩,?_⟩;have qD:=EL aO;have lh:bf.size=args.length:=by simpa using qD
 let X:fu:=⟨w,Z,fM Z s,fn.ntmps,c2 s⟩
 have pq:∀k,fresh 0 (c2 s) k->Z.bx k=none/\Z.ow k=none/\∀j b,¬Z.tr k j b:=by
  intro k ad;cases k with
  |loc m=>exact⟨(ab _).1 (qe.1 m),(ab _).2.1 (qe.2 m),(ab _).2.2⟩
  |obj m=>
   simp only[fresh,true_and]at ad;refine⟨?_,?_,(ab _).2.2⟩
   ·refine(ab _).1 ?_;cases h:look (.obj m) s.b with
    |none=>rfl
    |some x=>exact absurd (uh (.inl (by simp[h]))) ad
   ·refine(ab _).2.1 ?_;cases h:look (.obj m) s.e with
    |none=>rfl
    |some x=>exact absurd (uh (.inr (by simp[h]))) ad
 have jS:∀m,(Z.bx (.obj m)≠none\/Z.ow (.obj m)≠none)-> .obj m∈c2 s:=by
  intro m hm;refine Classical.byContradiction fun aw=>?_;obtain⟨J,U,_⟩:=pq (.obj m) ⟨trivial,aw⟩;rcases hm with hm|hm
  ·exact hm J
  ·exact hm U
 have qB:c0 X ⟨kH 0 args,s.b,s.e,0,c2 s⟩ {tmps:=bf++Array.replicate (fn.ntmps-bf.size) undef,defers:=[]} w Z:=by
  refine⟨⟨a7.alt,fun k cs ad=>?_,a7.inj,fun g o fa=>?_,a7.oinj,a7.obx,a7.one,a7.otr⟩,⟨rfl,rfl,rfl,fc _,fun _ _ _=>rfl,fun b o h=>⟨h,rfl⟩,fun b o h=>.inl h,fun n b h=>h,fun n b h=>jS n (.inl (by rw[h];simp)),fun m n u h=>⟨n,u,h,.inl ⟨rfl,rfl⟩⟩,fun m n u h=>jS m (.inr (by rw[h];simp)),fun k j _ _ b h=>absurd h ((ab k).2.2 j b),fun k j b h=>absurd h ((ab k).2.2 j b),fun k j b h=>absurd h ((ab k).2.2 j b),fun _ _ _=>rfl⟩,rfl,?_,fun i=>?_,pq⟩
  ·obtain⟨bl,us,el,g1,g2,g3⟩:=a7.box k cs ad;exact⟨bl,us,el,g1,.inl g2,g3⟩
  ·obtain⟨v,us,g1,g2,g3,g4⟩:=a7.own g o fa;exact⟨v,us,g1,g2,fun bl fw=>⟨.inl (g3 bl fw).1,(g3 bl fw).2⟩,g4⟩
  ·show(bf++Array.replicate (fn.ntmps-bf.size) undef).size=fn.ntmps;simp;omega
  ·rw[Lt];by_cases hi:i<args.length
   ·rw[if_pos Ω];have vp:args[i]? =some args[i]:=b6 hi;obtain⟨v,ak,aD⟩:=IF i aO vp;have aF:(bf++Array.replicate (fn.ntmps-bf.size) undef).getD i undef=v:=by
     have KH:bf[i]? =some v:=by simpa using ak
     rw[Array.getD_eq_getD_getElem?,Array.getElem?_append_left Ω,KH];rfl
    show bd w Z _ ((bf++Array.replicate (fn.ntmps-bf.size) undef).getD i undef);rw[aF];simpa[List.getD,vp]using aD
   ·rw[if_neg Ω];simp[bd]
 have vl:=he (Zh aO) (fun j cs ae=>by obtain⟨bl,us,el,_,_,_,_,g5⟩:=a7.box j cs ae;exact Y7 g5);have aje:=sa hm aJ (X:=X) c code (cH fx s Q) _ aw vl _ w Z qB;refine calls_of_wp aK af (wp_mono aje fun e bs w' cZ=>?_);obtain⟨st',bt,⟨vk,bn⟩,dY⟩:=cZ;cases yU:aX st' fx with
 |none=>simp[yU]at bn
 |some x=>
  obtain⟨cw,b1⟩:=x;simp only[yU]at bn;obtain⟨hT,ah,kb,ke,ba,bo,b3,c9,dh⟩:=bn;obtain⟨xI,g1,g2⟩:=OV aJ dY fx fn.results.toList cw b1 DN yU hT;have aiS:=EL g2;have dX:bs.defers=[]/\∃v,(results fn bs.tmps).run P w'= .ok v w'/\(fun(e:Ending) w'=> ∃v r ah bt,e= .returned v/\Q r ah/\bd w' bt r v/\Good (fun bl=>fM Z s bl\/w.heap.size<=bl) w' bt ah.b ah.e/\p5 bt ah/\ju ah/\q1 ⟨w,Z,fM Z s,0,c2 s⟩ w' bt) (.returned v) w':=by
   refine⟨dY.defers,?_⟩;have jr:(results fn bs.tmps).run P w'= .ok (if h:xI.toArray.size=1 then xI.toArray[0]else .tuple xI.toArray) w':=by rw[aoT];simp only[fZ,Array.mapM_eq_mapM_toList,Sem.run_map,g1,gf,gL]
   refine⟨_,jr,_,dz (aW b1),ah,bt.cut (inObs ah),rfl,dh,?_,dY.good.cut ba bo (fun bl h _=>h),?_,b3,?_⟩
   ·have mZ:bd w' bt (aW b1) (if h:xI.toArray.size=1 then xI.toArray[0]else .tuple xI.toArray):=by
     match b1,xI,g2,aiS with
     |[p],[v],g2,_=>simp only[cY]at g2;obtain⟨u,ct,ak,aD,_⟩:=g2;cases ak;simpa[aW]using aD
     |[],[],g2,_=>simp[aW,bd,cY]
     |p::dI::b1,v::v2::xI,g2,_=>rw[dif_neg Ψ];simp only[aW,bd];exact⟨_,rfl,by simpa using g2⟩
     |[_],[],_,h=>simp at h
     |[],_::_,_,h=>simp at h
     |[_],_::_::_,_,h=>simp at h
     |_::_::_,[],_,h=>simp at h
     |_::_::_,[_],_,h=>simp at h
    exact vY (pU.cut _ w' bt) _ _ c9 (zE _ _ mZ)
   ·intro k;refine⟨?_,?_,?_⟩;rotate_left 2
    ·rintro j b ⟨ag,af⟩;obtain⟨t1,t2⟩:=dY.fr.trn k j b af;rcases ag with ag|ag<;>obtain⟨x,iJ⟩:=fL.1 ag
     ·obtain⟨bl,ct,el,ak,_⟩:=dY.good.box k x (ba k x iJ).1;rw[t1]at ak;cases ak
     ·obtain⟨v',ct,ak,_⟩:=dY.good.own k x (bo k x iJ).1;rw[t2]at ak;cases ak
    ·intro ad;by_cases ag:inObs ah k
     ·rw[bg.cut_bx ag];rcases ag with ag|ag
      ·rw[ad]at ag;cases ag
      ·obtain⟨x,iJ⟩:=fL.1 ag;obtain⟨v',ct,ak,_⟩:=dY.good.own k x (bo k x iJ).1;rcases dY.good.one k with J|J
       ·exact J
       ·rw[J]at ak;cases ak
     ·exact(bg.cut_no ag).1
    ·intro ad;by_cases ag:inObs ah k
     ·rw[bg.cut_ow ag];rcases ag with ag|ag
      ·obtain⟨x,iJ⟩:=fL.1 ag;obtain⟨bl,ct,el,ak,_⟩:=dY.good.box k x (ba k x iJ).1;rcases dY.good.one k with J|J
       ·rw[J]at ak;cases ak
       ·exact J
      ·rw[ad]at ag;cases ag
     ·exact(bg.cut_no ag).2.1
   ·refine⟨dY.fr.os,dY.fr.tape,dY.fr.output,dY.fr.size,dY.fr.block,dY.fr.keep,dY.fr.fresh,fun n b h=>?_,fun n b h=>jS n (.inl (by rw[h];simp)),fun m n u h=>?_,fun m n u h=>jS m (.inr (by rw[h];simp)),fun k j bJ dT b J U=>dY.fr.trd k j bJ dT b J.2 U.2,fun k j b af=>dY.fr.trb k j b af.2,fun k j b af=>(by rw[bg.cut_bx af.1,bg.cut_ow af.1];exact dY.fr.trn k j b af.2),dY.fr.sh⟩
    ·have ag:inObs ah (.obj n):=by
      cases au:look (.obj n) s.b with
      |none=>rw[(ab _).1 au]at h;cases h
      |some x=>exact Br kb _ (by simp[au])
     rw[bg.cut_bx ag];exact dY.fr.obj n b h
    ·have ag:inObs ah (.obj m):=by
      cases au:look (.obj m) s.e with
      |none=>rw[(ab _).2.1 au]at h;cases h
      |some x=>exact Br ke _ (by simp[au])
     rw[bg.cut_ow ag];exact dY.fr.row m n u h
  rcases vk with rfl|rfl<;>exact dX
def bZ(bG:List (Nat×dN))(c:C)(fx:List bO)(ak5:Nat)(fn:Func):Bool:=
 match fn.body with
 |some code=>hS fn.ntmps bG c code&&rG bG fx fn.results.toList&& !(fn.name== "runtime.NumGoroutine")&&decide (ak5<=fn.ntmps)
 |none=>false
theorem bI.mk{P:cI}(hm:P.follows .mixedOrders=true){bG:List (Nat×dN)}(aJ:fY P bG=true){f:FuncId}{fn:Func}(aK:P.funcs[f]? =some fn){c:C}{fx:List bO}{n:Nat}(ef:bZ bG c fx n fn=true)
  {args:List aj} (au:args.length<=n) {s:cL} (qe:ju s) {Q:aj->cL->Prop} (he:eA args->(∀j cs,look j s.b=some cs->gr cs=true->et cs)->c8 P (c2 s) c (cH fx s Q) ⟨kH 0 args,s.b,s.e,0,c2 s⟩):bI P f args s Q:=by
 unfold bZ at ef;split at ef
 ·rename_i code af;simp only[cy,Bool.not_eq_true',eW]at ef;obtain⟨⟨⟨J,U⟩,ar⟩,a6⟩:=ef;exact bI.of hm aJ aK af ar J U (kJ au a6) qe he
 ·cases ef
theorem zk:ju ⟨[],[]⟩:=⟨fun _=>rfl,fun _=>rfl⟩
def bq(fx:List bO)(r:aj)(e:Exit)(st:bu):Prop:=
 (e= .ret\/e= .normal)/\match aX st fx with
  |some (c,b1)=>c/\dz (aW b1)=r
  |none=>e8
theorem bC.mk{P:cI}(hm:P.follows .mixedOrders=true){bG:List (Nat×dN)}(aJ:fY P bG=true){f:FuncId}{fn:Func}(aK:P.funcs[f]? =some fn){c:C}{fx:List bO}{n:Nat}(ef:bZ bG c fx n fn=true)
  {args:List aj} (au:args.length<=n) {r:aj} (aO:aB (fun _=>e8) r) (he:eA args->c8 P [] c (bq fx r) ⟨kH 0 args,[],[],0,[]⟩):bC P f args r:=by
 refine bI.mk hm aJ aK ef au zk fun J _=>?_;have:=he J;have h4:bq fx r=cH fx ⟨[],[]⟩ (fun eZ ah=>eZ=r/\ah=⟨[],[]⟩):=by
  funext e st;unfold bq cH;apply propext;refine and_congr_right fun _=>?_;cases aX st fx with
  |none=>exact Iff.rfl
  |some x=>
   obtain⟨c,b1⟩:=x;refine and_congr_right fun _=>?_;constructor
   ·intro h;refine⟨⟨[],[]⟩,trivial,trivial,fun k cs ad=>by simp[look]at ad,fun k cs ad=>by simp[look]at ad,zk,?_,h,rfl⟩;rw[h];exact xh (fun k ad=>ad.elim) r aO
   ·rintro⟨ah,_,_,_,_,_,_,h,_⟩;exact h
 rw[h4]at this;exact this
theorem P0{α:Type}{β:Type}:∀l:List (aI×α),cl ([]:List (aI×β)) l=l
 |[]=>rfl
 |(k,x)::r=>by simp[cl,look,P0 r]
theorem cV.val{P:cI}{n:Nat}{args:List aj}{st:bu}{d:Option Nat}{K:bu->Prop}{r:aj}(ad:aC (fun _=>e8) args)(aK:bC P n args r)(h:K {st with t:=e4 d r st.t}):cV P n args st d K:=by
 refine .inl ⟨⟨[],[]⟩,_,fun k cs ad=>by simp[look]at ad,fun k cs ad=>by simp[look]at ad,zk,km (fun _ h=>h.elim) _ ad,aK,?_⟩;rintro eZ ah ⟨rfl,rfl⟩;refine⟨⟨fun m h=>by simp[look]at h,fun m h=>by simp[look]at h⟩,?_⟩;have:after st ⟨[],[]⟩ ⟨[],[]⟩ d eZ={st with t:=e4 d eZ st.t}:=by simp[after,P0,c2]
 rw[this];exact h
@[reducible,simp] def gd(n:Int):dF:= .c (.int .i64 n)
@[reducible,simp] def I(a b:Nat):de:=⟨none,.s (.v a (.mov (.t b)))⟩
@[reducible,simp] def b5(a:Nat)(i:gk):de:=⟨none,.s (.v a i)⟩
@[reducible,simp] def cP(i:eF):de:=⟨none,.s i⟩
@[reducible,simp] def dn(a f:Nat)(l:List dF):de:=⟨none,.call (some a) (.c (.func f [])) l⟩
@[reducible,simp] def cb(j:Nat)(w:Bool)(a b:Nat):de:=⟨some (j,w),.s (.v a (.mov (.t b)))⟩
@[reducible,simp] def xZ(j:Nat)(w:Bool)(a:Nat)(i:gk):de:=⟨some (j,w),.s (.v a i)⟩
@[reducible,simp] def ys(j:Nat)(w:Bool)(i:eF):de:=⟨some (j,w),.s i⟩
@[reducible,simp] def cf(d s a b:Nat):de:=b5 d (.iaddr s (.t a) (.t b))
@[reducible,simp] def av(d s a:Nat):de:=b5 d (.load false s (.t a))
@[reducible,simp] def aY(d s a:Nat):de:=b5 d (.load true s (.t a))
@[reducible,simp] def aE(d o s a:Nat):de:=b5 d (.faddr o false s (.t a))
@[reducible,simp] def eO(d o s a:Nat):de:=b5 d (.faddr o true s (.t a))
@[reducible,simp] def bk(d:Nat)(o:BinOp)(a b:Nat):de:=b5 d (.bin o false (.t a) (.t b))
@[reducible,simp] def aV(d:Nat)(o:BinOp)(a:Nat)(n:Int):de:=b5 d (.bin o false (.t a) (gd n))
@[reducible,simp] def ca(d a:Nat):de:=b5 d (.len (.t a))
@[reducible,simp] def cj(d a:Nat):de:=b5 d (.notB (.t a))
@[reducible,simp] def cr(d i a:Nat):de:=b5 d (.ext i (.t a))
@[reducible,simp] def cW(d a b:Nat):de:=b5 d (.pick (.t a) (.c (.bool true)) (.t b))
@[reducible,simp] def dL(d a b:Nat):de:=b5 d (.pick (.t a) (.t b) (.c (.bool false)))
@[reducible,simp] def a8(d:Nat)(b:Bool):de:=b5 d (.mov (.c (.bool b)))
@[reducible,simp] def bS(d:Nat)(n:Int):de:=b5 d (.mov (gd n))
@[reducible,simp] def bB(s a b:Nat):de:=cP (.store s (.t a) (.t b))
@[reducible,simp] def aq(j:Nat)(w:Bool)(x:de):de:=⟨some (j,w),x.i⟩
@[reducible,simp] def aa(l:List de)(c:C):C:= .seq (.region l) c
@[reducible,simp] def aT(n:Nat)(a b:C):C:= .cond (.t n) a b
@[reducible,simp] def hd(d a:Nat)(l:List dF):de:=⟨none,.call (some d) (.t a) l⟩
@[reducible,simp] def cB(d f a:Nat):de:=dn d f [.t a]
@[reducible,simp] def b2(d f a b:Nat):de:=dn d f [.t a,.t b]
@[reducible,simp] def dH:List aj:=[.int .i64 0,.int .i64 0,.str [],.slice 4 .nil []]
@[reducible,simp] def jF:List aj:=[.int .i64 0,.int .i64 0,.int .i64 0,.str [],.slice 4 .nil []]
@[reducible,simp] def gJ:List aj:=[.int .i64 0,.slice 5 .nil [],.slice 1 .nil [],.slice 2 .nil [],.slice 2 .nil []]
@[reducible,simp] def cC(a b:Nat):de:=cP (.box a none (.t b))
@[reducible,simp] def c1(a:Nat)(l:List aj):de:=cP (.alloc a none (.agg l))
@[reducible,simp] def er(a n:Nat):de:=b5 a (.mov (.c (.slice n .nil [])))
@[reducible,simp] def h6(a b c d e:Nat):de:=cP (.app a b c (.t d) (.t e))
@[reducible,simp] def eI(a b c:Nat)(l:List dF):de:=cP (.bsl a b c l)
@[reducible,simp] def fK(a b:Nat):de:=b5 a (.nck (.t b))
@[reducible,simp] def jb(d s a:Nat)(n:Int):de:=b5 d (.iaddr s (.t a) (gd n))
@[reducible,simp] def iq(d:Nat)(l:List aj)(m:List (Nat×Nat×dF)):de:=b5 d (.build l m)
@[reducible,simp] def e0(a b c:Nat)(x:C):C:= .block 0 (.loop (aa [bk a .lss b c] (.seq (aT a .skip (.exit 0)) x)))
end
section
open Go Go.RowKit
theorem eh{α:Type}{l:List α}{i:Nat}(h:i<l.length):∃b,l[i]? =some b/\∀h,(l[i]'h)=b:=⟨l[i],b6 h,fun _=>rfl⟩
def O2(st:bu)(i:eF):Prop:=match mJ st i with|some (c,_)=>c|none=>e8
def O3(st:bu)(i:eF):bu:=match mJ st i with|some (_,s)=>s|none=>st
def Fu(P:cI)(r:List de)(K:bu->Prop)(st:bu):Prop:=ix P r st K
def z8(P:cI)(ob:List aI)(c:C)(Q:Exit->bu->Prop)(st:bu):Prop:=c8 P ob c Q st
def qy(P:cI)(v:aj)(s:Nat)(w:Bool)(i:ey)(r:List de)(st:bu)(K:bu->Prop):Prop:=
 match v with
 | .bool b=>(b=w->ix P (⟨none,i⟩::r) {st with t:=put s (.bool w) st.t} K)/\(b= !w->ix P r {st with t:=e4 i.dst (.tuple []) (put s (.bool !w) st.t)} K)
 | .tuple []=>ix P r {st with t:=e4 i.dst (.tuple []) st.t} K
 |_=>e8
def u6(P:cI)(ob:List aI)(v:aj)(x:dF)(t e:C)(Q:Exit->bu->Prop)(st:bu):Prop:=
 match v with
 | .bool b=>(b=true->c8 P ob t Q (s5 st x true))/\(b=false->c8 P ob e Q (s5 st x false))
 |_=>e8
def KR(P:cI)(v:aj)(d:Option Nat)(xs:List aj)(r:List de)(st:bu)(K:bu->Prop):Prop:=
 match v with
 | .func n di=>cV P n (c6 (xs++di)) st d (Fu P r K)
 |_=>e8
section
variable {P:cI} {ob:List aI} {st:bu} {K:bu->Prop} {r:List de} {Q:Exit->bu->Prop} {a b c t e:C}
theorem ad5:ix P [] st K=K st:=rfl
theorem ad6{i:eF}:ix P (⟨none,.s i⟩::r) st K=(O2 st i/\ix P r (O3 st i) K):=by
 simp only[ix,u4,O2,O3];cases mJ st i with
 |none=>simp
 |some x=>rfl
theorem ad2{d:Option Nat}{f:dF}{xs:List dF}:ix P (⟨none,.call d f xs⟩::r) st K=KR P (cv st.t f) d (xs.map (cv st.t)) r st K:=by simp only[ix,u4,KR];rfl
theorem ad4{d:Nat}{x:dF}:ix P (⟨none,.next d x⟩::r) st K=r9 st d (cv st.t x) (Fu P r K):=by simp only[ix,u4];rfl
def x5(P:cI)(ob:List aI)(c:C)(Q:Exit->bu->Prop):Option bu->Prop
 |some st=>c8 P ob c Q st
 |none=>e8
theorem abp:x5 P ob c Q (some st)=c8 P ob c Q st:=rfl
theorem adH{s:Nat}:c8 P ob (.pub s c) Q st=x5 P ob c Q (xB st s):=by simp only[c8];cases xB st s<;>rfl
theorem adD{qf:Bool}{s:Nat}:c8 P ob (.fg qf s c) Q st=c8 P ob c Q {st with t:=put s (AF qf (get s st.t)) st.t}:=rfl
theorem adE{qf:Bool}{s:Nat}{d:C}:c8 P ob (.seq (.fg qf s c) d) Q st=c8 P ob (.seq c d) Q {st with t:=put s (AF qf (get s st.t)) st.t}:=rfl
theorem adF{gG:Bool}{s:Nat}:c8 P ob (.fz gG s c) Q st=x5 P ob c Q (wI st gG s):=by simp only[c8];cases wI st gG s<;>rfl
theorem adG{gG:Bool}{s:Nat}{d:C}:c8 P ob (.seq (.fz gG s c) d) Q st=x5 P ob (.seq c d) Q (wI st gG s):=by simp only[c8];cases wI st gG s<;>rfl
theorem adI{s:Nat}:c8 P ob (.pubB s c) Q st=x5 P ob c Q (xA st s):=by simp only[c8];cases xA st s<;>rfl
theorem ad1{n:Nat}{di:List aj}{d:Option Nat}{xs:List aj}:KR P (.func n di) d xs r st K=cV P n (c6 (xs++di)) st d (Fu P r K):=rfl
theorem ad3{s:Nat}{w:Bool}{i:ey}:ix P (⟨some (s,w),i⟩::r) st K=qy P (get s st.t) s w i r st K:=by simp only[ix,qy];try rfl
theorem aeb{s:Nat}{i:ey}:qy P (.bool true) s true i r st K=ix P (⟨none,i⟩::r) {st with t:=put s (.bool true) st.t} K:=by simp[qy]
theorem ad7{s:Nat}{i:ey}:qy P (.bool false) s false i r st K=ix P (⟨none,i⟩::r) {st with t:=put s (.bool false) st.t} K:=by simp[qy]
theorem aea{s:Nat}{i:ey}:qy P (.bool true) s false i r st K=ix P r {st with t:=e4 i.dst (.tuple []) (put s (.bool true) st.t)} K:=by simp[qy]
theorem ad8{s:Nat}{i:ey}:qy P (.bool false) s true i r st K=ix P r {st with t:=e4 i.dst (.tuple []) (put s (.bool false) st.t)} K:=by simp[qy]
theorem ad9{s:Nat}{w:Bool}{i:ey}:qy P (.tuple []) s w i r st K=ix P r {st with t:=e4 i.dst (.tuple []) st.t} K:=by simp[qy]
theorem bY{x:Bool}{s:Nat}{w:Bool}{i:ey}(J:x=w->ix P (⟨none,i⟩::r) {st with t:=put s (.bool w) st.t} K)(U:x= !w->ix P r {st with t:=e4 i.dst (.tuple []) (put s (.bool !w) st.t)} K):qy P (.bool x) s w i r st K:=⟨J,U⟩
theorem ads:c8 P ob (.seq (.seq a b) c) Q st=c8 P ob (.seq a (.seq b c)) Q st:=by simp only[c8];congr 1;funext e st';cases e<;>rfl
theorem adN:c8 P ob (.seq .skip c) Q st=c8 P ob c Q st:=rfl
theorem adL:c8 P ob (.seq .ret c) Q st=Q .ret st:=rfl
theorem adB{n:Nat}:c8 P ob (.seq (.exit n) c) Q st=Q (.exit n) st:=rfl
theorem adO:c8 P ob .skip Q st=Q .normal st:=rfl
theorem adM:c8 P ob .ret Q st=Q .ret st:=rfl
theorem adC{n:Nat}:c8 P ob (.exit n) Q st=Q (.exit n) st:=rfl
theorem adJ{gs:List de}:c8 P ob (.seq (.region gs) c) Q st=ix P gs st (z8 P ob c Q):=rfl
theorem adK{gs:List de}:c8 P ob (.region gs) Q st=ix P gs st (Q .normal):=rfl
theorem adv{x:dF}:c8 P ob (.seq (.cond x t e) c) Q st=u6 P ob (cv st.t x) x (.seq t c) (.seq e c) Q st:=by simp only[c8,u6];try rfl
theorem adw{x:dF}:c8 P ob (.cond x t e) Q st=u6 P ob (cv st.t x) x t e Q st:=by simp only[c8,u6];try rfl
theorem adQ{x:dF}:u6 P ob (.bool true) x t e Q st=c8 P ob t Q (s5 st x true):=by simp[u6]
theorem adP{x:dF}:u6 P ob (.bool false) x t e Q st=c8 P ob e Q (s5 st x false):=by simp[u6]
theorem bU{v:Bool}{x:dF}(J:v=true->c8 P ob t Q (s5 st x true))(U:v=false->c8 P ob e Q (s5 st x false)):u6 P ob (.bool v) x t e Q st:=⟨J,U⟩
def zY(P:cI)(ob:List aI)(id:Nat)(c:C)(Q:Exit->bu->Prop)(e:Exit)(st:bu):Prop:=
 match e with
 | .normal=>c8 P ob c Q st
 | .exit j=>if j=id then c8 P ob c Q st else Q (.exit j) st
 |e=>Q e st
theorem adt{id:Nat}:c8 P ob (.seq (.block id a) c) Q st=c8 P ob a (zY P ob id c Q) st:=by
 simp only[c8];congr 1;funext e st';cases e with
 |exit j=>rfl
 |_=>rfl
theorem adu{id:Nat}:c8 P ob (.block id a) Q st=c8 P ob a (zY P ob id .skip Q) st:=by
 simp only[c8];congr 1;funext e st';cases e with
 |exit j=>simp only[zY];by_cases ae:j=id<;>simp[ae,c8]
 |_=>rfl
theorem abb{id:Nat}:zY P ob id c Q .normal st=z8 P ob c Q st:=rfl
theorem aba{id j:Nat}:zY P ob id c Q (.exit j) st=if j=id then z8 P ob c Q st else Q (.exit j) st:=rfl
theorem abc{id:Nat}:zY P ob id c Q .ret st=Q .ret st:=rfl
def bK(ob:List aI)(hv:Nat->bu->Prop)(k:Nat)(Q:Exit->bu->Prop)(e:Exit)(st:bu):Prop:=
 match e with
 | .normal=> ∃bJ pE,bJ<k/\jj ob st pE/\hv bJ pE
 |e=>Q e st
theorem Fs{hv:Nat->bu->Prop}{k:Nat}:bK ob hv k Q .normal st= ∃bJ pE,bJ<k/\jj ob st pE/\hv bJ pE:=rfl
theorem abk{hv:Nat->bu->Prop}{k n:Nat}:bK ob hv k Q (.exit n) st=Q (.exit n) st:=rfl
theorem abl{hv:Nat->bu->Prop}{k:Nat}:bK ob hv k Q .ret st=Q .ret st:=rfl
theorem tD(hv:Nat->bu->Prop)(m:Nat)(xK:bu)(hw:jj ob st xK)(br:hv m xK)(h:∀k s,hv k s->(∀i,eo (get i s.t))->(∀j cs,look j s.b=some cs->gr cs=true->et cs)->c8 P ob a (bK ob hv k Q) s):c8 P ob (.loop a) Q st:=by
 simp only[c8];refine⟨hv,m,xK,hw,br,fun k s J U ar=>?_⟩;have:=h k s J U ar;have bn:(bK ob hv k Q)=(fun e ah=>match e with| .normal=> ∃bJ pE,bJ<k/\jj ob ah pE/\hv bJ pE|e=>Q e ah):=by funext e ah;cases e<;>rfl
 rw[bn]at this;exact this
end
/-Regions cJ draw kf order. -/
def O0(n0:Nat)(st:bu)(i:eF):Prop:=match eS (p1 n0 i) st.n (p1 n0 i::st.o) st i with|some (c,_)=>c|none=>e8
def O1(n0:Nat)(st:bu)(i:eF):bu:=match eS (p1 n0 i) st.n (p1 n0 i::st.o) st i with|some (_,s)=>s|none=>st
def JA(P:cI)(q:Bool)(nw:List Nat)(n0:Nat)(r:List de)(K:bu->Prop)(st:bu):Prop:=h9 P q nw n0 r st K
def qx(P:cI)(q:Bool)(nw:List Nat)(n0:Nat)(v:aj)(s:Nat)(w:Bool)(i:ey)(r:List de)(st:bu)(K:bu->Prop):Prop:=
 match v with
 | .bool b=>(b=w->h9 P q nw n0 (⟨none,i⟩::r) {st with t:=put s (.bool w) st.t} K)/\(b= !w->h9 P q nw n0 r {st with t:=e4 i.dst (.tuple []) (put s (.bool !w) st.t)} K)
 | .tuple []=>h9 P q nw n0 r {st with t:=e4 i.dst (.tuple []) st.t} K
 |_=>e8
def KQ(P:cI)(q:Bool)(nw:List Nat)(n0:Nat)(v:aj)(d:Option Nat)(xs:List aj)(r:List de)(st:bu)(K:bu->Prop):Prop:=
 match v with
 | .func n di=>hJ P q nw n (c6 (xs++di)) st d (JA P q nw n0 r K)
 |_=>e8
section
variable {P:cI} {ob:List aI} {st:bu} {K:bu->Prop} {r:List de} {Q:Exit->bu->Prop} {c:C} {q:Bool} {nw:List Nat} {n0 N:Nat}
theorem adU:h9 P q nw n0 [] st K=K st:=rfl
theorem adV{i:eF}:h9 P q nw n0 (⟨none,.s i⟩::r) st K=(mw q nw n0 st i/\O0 n0 st i/\h9 P q nw n0 r (O1 n0 st i) K):=by
 simp only[h9,kN,O0,O1];cases eS (p1 n0 i) st.n (p1 n0 i::st.o) st i with
 |none=>simp
 |some x=>rfl
theorem adS{d:Option Nat}{f:dF}{xs:List dF}:h9 P q nw n0 (⟨none,.call d f xs⟩::r) st K=KQ P q nw n0 (cv st.t f) d (xs.map (cv st.t)) r st K:=by simp only[h9,kN,KQ];rfl
theorem adR{n:Nat}{di:List aj}{d:Option Nat}{xs:List aj}:KQ P q nw n0 (.func n di) d xs r st K=hJ P q nw n (c6 (xs++di)) st d (JA P q nw n0 r K):=rfl
theorem adT{s:Nat}{w:Bool}{i:ey}:h9 P q nw n0 (⟨some (s,w),i⟩::r) st K=qx P q nw n0 (get s st.t) s w i r st K:=by simp only[h9,qx];try rfl
theorem ad0{s:Nat}{i:ey}:qx P q nw n0 (.bool true) s true i r st K=h9 P q nw n0 (⟨none,i⟩::r) {st with t:=put s (.bool true) st.t} K:=by simp[qx]
theorem adW{s:Nat}{i:ey}:qx P q nw n0 (.bool false) s false i r st K=h9 P q nw n0 (⟨none,i⟩::r) {st with t:=put s (.bool false) st.t} K:=by simp[qx]
theorem adZ{s:Nat}{i:ey}:qx P q nw n0 (.bool true) s false i r st K=h9 P q nw n0 r {st with t:=e4 i.dst (.tuple []) (put s (.bool true) st.t)} K:=by simp[qx]
theorem adX{s:Nat}{i:ey}:qx P q nw n0 (.bool false) s true i r st K=h9 P q nw n0 r {st with t:=e4 i.dst (.tuple []) (put s (.bool false) st.t)} K:=by simp[qx]
theorem adY{s:Nat}{w:Bool}{i:ey}:qx P q nw n0 (.tuple []) s w i r st K=h9 P q nw n0 r {st with t:=e4 i.dst (.tuple []) st.t} K:=by simp[qx]
theorem bX{x:Bool}{s:Nat}{w:Bool}{i:ey}(J:x=w->h9 P q nw n0 (⟨none,i⟩::r) {st with t:=put s (.bool w) st.t} K)(U:x= !w->h9 P q nw n0 r {st with t:=e4 i.dst (.tuple []) (put s (.bool !w) st.t)} K):qx P q nw n0 (.bool x) s w i r st K:=⟨J,U⟩
theorem adx{gs:List de}:c8 P ob (.seq (.drawn q N gs) c) Q st=h9 P q [] st.n gs st (uJ (st.n+N) st.o (z8 P ob c Q)):=rfl
theorem ady{gs:List de}:c8 P ob (.drawn q N gs) Q st=h9 P q [] st.n gs st (uJ (st.n+N) st.o (Q .normal)):=rfl
theorem adz{gs:List de}:c8 P ob (.seq (.drawnW nw N gs) c) Q st=((∀j∈nw,.obj j∉st.o)/\h9 P false nw st.n gs st (uJ (st.n+N) (nw.map aI.obj++st.o) (z8 P ob c Q))):=rfl
theorem adA{gs:List de}:c8 P ob (.drawnW nw N gs) Q st=((∀j∈nw,.obj j∉st.o)/\h9 P false nw st.n gs st (uJ (st.n+N) (nw.map aI.obj++st.o) (Q .normal))):=rfl
theorem hJ.val{n:Nat}{args:List aj}{d:Option Nat}{r:aj}(ad:aC (fun _=>e8) args)(aK:bC P n args r)(h:K {st with t:=e4 d r st.t}):hJ P q nw n args st d K:=by
 refine .inr ⟨⟨[],[]⟩,⟨[],[]⟩,r,none,fun k cs ad=>by simp[look]at ad,fun k cs ad=>by simp[look]at ad,zk,zk,⟨fun k h=>.inl h,fun k h=>.inl h,fun k h=>h,fun k h=>h,fun k h=>by cases h⟩,km (fun _ h=>h.elim) _ ad,aK,fun _=>⟨rfl,rfl⟩,?_⟩;have:({after st ⟨[],[]⟩ ⟨[],[]⟩ d r with o:=st.o}:bu)={st with t:=e4 d r st.t}:=by simp[after,P0]
 rw[this];exact h
theorem aA{n:Nat}{args:List aj}{d:Option Nat}{r:aj}(aK:bC P n args r)(h:K {st with t:=e4 d r st.t})(ad:aC (fun _=>e8) args:=by simp):hJ P q nw n args st d K:=hJ.val ad aK h
end
section
variable {k:IntKind} {n:Int} {b:Bool} {s:List dw} {sz:Nat} {tag:z7} {xs:List aj} {key:aI} {off f:Nat} {x:aj}
@[simp]theorem avB:eT (.int k n)=true:=rfl
@[simp]theorem avo:eT (.bool b)=true:=rfl
@[simp]theorem avJ:eT (.str s)=true:=rfl
@[simp]theorem avI:eT (.slice sz tag xs)=true:=rfl
@[simp]theorem avk:eT (.agg xs)=true:=rfl
@[simp]theorem avG:eT (.ptr key off)=true:=rfl
@[simp]theorem avx:eT (.eptr x)=true:=rfl
@[simp]theorem avA{t:Nat}:eT (.iface t x)=true:=rfl
@[simp]theorem asp{t:Nat}:cells (.iface t x)=[.iface t x]:=rfl
@[simp]theorem avq{a:Option Addr}{n c:Nat}:eT (.cst (.slice a n c))=true:=rfl
@[simp]theorem avr{s}:eT (.cst (.string s))=true:=rfl
@[simp]theorem avF:eT .nilp=true:=rfl
@[simp]theorem avy:eT (.func f xs)=true:=rfl
@[simp]theorem avz:eT (.gmap key)=true:=rfl
@[simp]theorem avH{n:Nat}:eT (.row sz key n)=true:=rfl
@[simp]theorem asx{n:Nat}:cells (.row sz key n)=[.row sz key n]:=rfl
@[simp]theorem asq:cells (.int k n)=[.int k n]:=rfl
@[simp]theorem ase:cells (.bool b)=[.bool b]:=rfl
@[simp]theorem asz:cells (.str s)=[.str s]:=rfl
@[simp]theorem asy:cells (.slice sz tag xs)=[.slice sz tag xs]:=rfl
@[simp]theorem ar9:cells (.agg xs)=xs:=rfl
@[simp]theorem asw:cells (.ptr key off)=[.ptr key off]:=rfl
@[simp]theorem asm:cells (.eptr x)=[.eptr x]:=rfl
@[simp]theorem asv:cells .nilp=[.nilp]:=rfl
@[simp]theorem asn:cells (.func f xs)=[.func f xs]:=rfl
@[simp]theorem aso:cells (.gmap key)=[.gmap key]:=rfl
end
section
variable {b:List (aI×List aj)} {e:List (aI×gg)} {agg:Bool} {sz off:Nat} {k:aI} {p:aj} {cs xs bf:List aj} {eY:IntKind} {n i:Int} {m j:Nat} {tag:z7} {s:List dw} {QP:Bool} {lo hi:Option aj}
@[simp]theorem auu{dZ:Nat}{f:Nat}:nl b e agg sz (.rptr dZ k m j f)=zF agg sz dZ m j f (look k e):=rfl
@[simp]theorem aut:nl b e agg sz (.ptr k off)=(match look k b with
  |some cs=>if agg then some (gr cs=true/\off+sz<=cs.length,.agg ((cs.drop off).take sz))else(cs[off]?).map fun p=>(gr cs=true,p)
  |none=>none):=rfl
@[simp]theorem aus:nl b e agg sz (.eptr p)=if agg then some (isAgg sz p,p)else some (eT p=true/\cells p=[p],p):=rfl
@[simp]theorem asW:C8 agg sz (.eptr p)=if agg then some (isAgg sz p,p)else some (eT p=true/\cells p=[p],p):=rfl
@[simp]theorem asO{o:Nat}:sd off agg sz (.ptr k o)=some (True,.ptr k (o+off)):=rfl
@[simp]theorem asP{dZ f:Nat}:sd off agg sz (.rptr dZ k m j f)=some (True,.rptr dZ k m j (f+off)):=rfl
@[simp]theorem asJ:sd off agg sz (.eptr (.agg cs))=if agg then some (off+sz<=cs.length,.eptr (.agg ((cs.drop off).take sz)))else(cs[off]?).map fun p=>(eT p=true/\cells p=[p],.eptr p):=rfl
@[simp]theorem asR:vb off agg sz (.agg cs)=if agg then some (off+sz<=cs.length,.agg ((cs.drop off).take sz))else(cs[off]?).map fun p=>(True,p):=rfl
@[simp]theorem atv{dZ:Nat}:Bl sz (.slice dZ tag xs) (.int eY i)=if dZ=sz then some (0<=i/\i<xs.length,.eptr (xs.getD i.toNat .junk))else none:=rfl
@[simp]theorem atu{dZ:Nat}:Bl sz (.row dZ k m) (.int eY i)=if dZ=sz then some (0<=i/\i<m,.rptr dZ k m i.toNat 0)else none:=rfl
@[simp]theorem aur{dZ:Nat}:Bv (.slice dZ tag xs)=some (True,.int .i64 xs.length):=rfl
@[simp]theorem auq{dZ:Nat}:Bv (.row dZ k m)=some (True,.int .i64 m):=rfl
@[simp]theorem aup{a:Option Addr}{n c:Nat}:Bv (.cst (.slice a n c))=some (True,.int .i64 n):=rfl
@[simp]theorem avi{s}:EY (.cst (.string s))=some (True,.int .i64 s.size):=rfl
@[simp]theorem avj:EY (.str s)=some (True,.int .i64 s.length):=rfl
@[simp]theorem asI:Ax j (.tuple bf)=(bf[j]?).map fun p=>(True,p):=rfl
@[simp]theorem auU:BG (.ptr k off)=some (True,.ptr k off):=rfl
@[simp]theorem auS:BG (.eptr p)=some (True,.eptr p):=rfl
@[simp]theorem auT:BG (.func j cs)=some (True,.func j cs):=rfl
@[simp]theorem auV:HW (.bool QP)=some (True,.bool (!QP)):=rfl
@[simp]theorem avh:IZ (.str s) (.int eY i)=some (0<=i/\i<s.length,.int .u8 (s.getD i.toNat 0).toNat):=rfl
@[simp]theorem avK:I4 (.str s) lo hi=(match rC 0 lo,rC s.length hi with
  |some l,some h=>some (0<=l/\l<=h/\h<=s.length,.str ((s.take h.toNat).drop l.toNat))
  |_,_=>none):=rfl
@[simp]theorem auv{dZ:Nat}:HF sz (.slice dZ tag xs) lo hi=(if dZ=sz then match rC 0 lo,rC xs.length hi with
  |some l,some h=>some (0<=l/\l<=h/\h<=xs.length,.slice sz .no ((xs.take h.toNat).drop l.toNat))
  |_,_=>none else none):=rfl
theorem Xj{f:aI->Option (List aj)}{ck:jY}{z q:aj}{ok:Bool}:nn f ck z ok (.gmap k) q=(match f k with
  |some (.hdm _ _::kvs)=>if xf ck q=false then none else match xp ck q kvs with
   |some (some v)=>some (True,if ok then .tuple [v,.bool true]else v)
   |some none=>some (True,if ok then .tuple [z,.bool false]else z)
   |none=>none
  |_=>none):=rfl
theorem akP{f:aI->Option (List aj)}:sS f (.gmap k)=(match f k with
  |some (.hdm _ borns::_)=>some (True,.int .i64 borns.length)
  |_=>none):=rfl
theorem Xg{f:aI->Option (List aj)}:oJ f (.ptr k 0)=(match f k with
  |some [.hdi _ seen last,.gmap mk]=>match f mk with
   |some (.hdm clock borns::kvs)=>match seen.getLast? with
    |some n=>(nm n borns kvs).map fun p=>(clock=last,p)
    |none=>none
   |_=>none
  |_=>none):=rfl
@[simp]theorem ave{dZ f n' el jK:Nat}:zF agg sz dZ m j f (some ⟨n',el,jK,some xs⟩)=(if n'=m/\jK=dZ then
   (match xs[j]? with
    |some p=>if agg then some (eT p=true/\f+sz<=(cells p).length,.agg (((cells p).drop f).take sz))else((cells p)[f]?).map fun q=>(eT p=true,q)
    |none=>none)else none):=rfl
end
attribute [simp] ads adJ adt adv adN adL adB adO adM adC adK adu adw z8 abb aba abc abk abl ad5 ad6 ad2 ad1 ad3
 aeb ad7 aea ad8 ad9 adQ adP O2 O3 mJ hG kH cv get put ka qI nZ n1 cA rC CK Hg I5 oN uZ Ib HR Gd HO
 look e4 eF.dst ey.dst s5 Fu tu c6 dz aB aC
 adx ady adz adA adU adV adS adR adT ad0 adW adZ adX adY O0 O1 eS p1 mw yu gk.loadO uJ JA y2 gr tv ad4 adH adI adD adE adF adG wI Lj tA AF abp xB EB xA rM nr iR HJ
theorem az{P:cI}{n:Nat}{args:List aj}{st:bu}{d:Option Nat}{K:bu->Prop}{r:aj}(aK:bC P n args r)(h:K {st with t:=e4 d r st.t})(ad:aC (fun _=>e8) args:=by simp):cV P n args st d K:=cV.val ad aK h
theorem ai{a b:Prop}(af:b)(bD:a:=by first|omega|(unfold tV;omega)|(unfold lim;omega)):a/\b:=⟨bD,af⟩
theorem cz{p:Prop}(h:e8:=by first|contradiction|omega):p:=h.elim
theorem bQ{p:Prop}(h:p:=by(try simp[*]);(repeat' first|with_reducible refine ai ?_|with_reducible refine az (by assumption) ?_|with_reducible refine aA (by assumption) ?_|simp[*]);(all_goals first|done|(simp[bq,aX,aZ,aW, *];done))):p:=h
end
section
open Go Go.RowKit
structure dW (s:cL):Prop where
 obj:ju s
 kb:∀k cs,look k s.b=some cs->aC (inObs s) cs
 ke:∀k o,look k s.e=some o->dt (inObs s) o
structure Same (s ah:cL):Prop where
 b:∀k,(look k s.b).isSome=(look k ah.b).isSome
 e:∀k,(look k s.e).isSome=(look k ah.e).isSome
theorem Same.refl(s:cL):Same s s:=⟨fun _=>rfl,fun _=>rfl⟩
theorem Same.inObs{s ah:cL}(h:Same s ah)(k:aI):inObs s k↔inObs ah k:=by unfold Pv.inObs;rw[h.b,h.e]
theorem vJ{α:Type}{k:aI}{x:α}:∀{l:List (aI×α)},(k,x)∈l->(look k l).isSome
 |(i,y)::r,h=>by
  simp only[look];split
  ·rfl
  ·rename_i cM;rcases fT.1 h with h|h
   ·cases h;exact absurd rfl cM
   ·exact vJ h
theorem VX{s:cL}{k:aI}(h:k∈c2 s):inObs s k:=by
 unfold c2 at h;rcases kt.1 h with h|h
 ·obtain⟨⟨bJ,x⟩,J,rfl⟩:=iu.1 h;exact .inl (vJ J)
 ·obtain⟨⟨bJ,x⟩,J,rfl⟩:=iu.1 h;exact .inr (vJ J)
theorem j9{s:cL}(h:ju s)(m:Nat):aI.loc m∉c2 s:=fun hm=>by
 rcases VX hm with J|J
 ·rw[h.1 m]at J;cases J
 ·rw[h.2 m]at J;cases J
theorem im{α β:Type}(s:List (aI×β)):∀(a b:List (aI×α)),cl s (a++b)=cl s a++cl s b
 |[],b=>rfl
 |(k,x)::r,b=>by
  simp only[bW,cl];cases look k s with
  |none=>simp[im s r b]
  |some _=>exact im s r b
theorem P1{α β:Type}(s:List (aI×β)):∀(l:List (aI×α)),(∀k x,(k,x)∈l->(look k s).isSome)->cl s l=[]
 |[],_=>rfl
 |(k,x)::r,h=>by
  have J:=h k x Ψ;simp only[cl];cases au:look k s with
  |none=>rw[au]at J;cases J
  |some _=>exact P1 s r fun k x ab=>h k x (by simp[ab])
theorem gW{α:Type}(s:List (aI×α)):cl s s=[]:=P1 s s fun k x h=>vJ h
theorem kg{α:Type}{k:aI}{x:α}:∀{l:List (aI×α)},look k l=none->cA k x l=l++[(k,x)]
 |[],_=>rfl
 |(i,y)::r,h=>by
  simp only[look]at h;split at h
  ·cases h
  ·rename_i cM;simp[cA,cM,kg h]
theorem cK{α:Type}(k:aI):∀(a b:List (aI×α)),look k (a++b)=match look k a with|some x=>some x|none=>look k b
 |[],b=>rfl
 |(i,y)::r,b=>by
  simp only[bW,look];split
  ·rfl
  ·exact cK k r b
theorem cV.ob{P:cI}{n:Nat}{args:List aj}{st:bu}{d:Option Nat}{K:bu->Prop}{s:cL}{Q:aj->cL->Prop}(aK:bI P n args s Q)(ag:dW s)(af:∀k cs,look k s.b=some cs->look k st.b=some cs)(he:∀k o,look k s.e=some o->look k st.e=some o)
  (ad:aC (inObs s) args) (h:∀r ah,Q r ah->Same s ah/\K ⟨e4 d r st.t,cl s.b st.b++ah.b,cl s.e st.e++ah.e,st.n,st.o++c2 ah⟩):cV P n args st d K:=by
 refine .inl ⟨s,Q,fun k cs aw=>⟨af k cs aw,.inl (by simp[aw]),ag.kb k cs aw⟩,fun k o ay=>⟨he k o ay,.inr (by simp[ay]),ag.ke k o ay⟩,ag.obj,ad,aK,fun r ah bn=>?_⟩;obtain⟨J,U⟩:=h r ah bn;exact⟨⟨fun m hm=>.inl (by rw[J.b];exact hm),fun m hm=>.inl (by rw[J.e];exact hm)⟩,U⟩
theorem cH.ob{fx:List bO}{s ah:cL}{Q:aj->cL->Prop}{e:Exit}{st:bu}{c:Prop}{b1:List aj}(vk:e= .ret\/e= .normal)(yU:aX st fx=some (c,b1))(aw:c)(ag:dW ah)(fq:Same s ah)(af:∀k cs,look k ah.b=some cs->look k st.b=some cs)(dQ:∀k o,look k ah.e=some o->look k st.e=some o)
  (ad:aB (inObs ah) (dz (aW b1))) (bn:Q (dz (aW b1)) ah):cH fx s Q e st:=by
 refine⟨vk,?_⟩;rw[yU];have Vf:∀{α:Type} (l:List (aI×α)),(∀k x,(k,x)∈l->inObs ah k)->lG ah l:=by
  intro α l;induction l with
  |nil=>intro _;trivial
  |cons x r bR=>obtain⟨k,x⟩:=x;intro h;exact⟨h k x Ψ,bR fun k x ab=>h k x (by simp[ab])⟩
 exact⟨aw,ah,Vf _ fun k x ab=>.inl (by rw[<-fq.b];exact vJ ab),Vf _ fun k x ab=>.inr (by rw[<-fq.e];exact vJ ab),fun k cs dA=>⟨af k cs dA,.inl (by simp[dA]),ag.kb k cs dA⟩,fun k o ay=>⟨dQ k o ay,.inr (by simp[ay]),ag.ke k o ay⟩,ag.obj,ad,bn⟩
theorem bI.mono{P:cI}{f:FuncId}{args:List aj}{s:cL}{Q o2:aj->cL->Prop}(h:bI P f args s Q)(bn:∀r ah,Q r ah->o2 r ah):bI P f args s o2:=by
 intro w Z bf J U ar;have hm:∀(e:Ending) (w':World),(∃v r ah bt,e= .returned v/\Q r ah/\bd w' bt r v/\Good (fun bl=>fM Z s bl\/w.heap.size<=bl) w' bt ah.b ah.e/\p5 bt ah/\ju ah/\q1 ⟨w,Z,fM Z s,0,c2 s⟩ w' bt)->(∃v r ah bt,e= .returned v/\o2 r ah/\bd w' bt r v/\Good (fun bl=>fM Z s bl\/w.heap.size<=bl) w' bt ah.b ah.e/\p5 bt ah/\ju ah/\q1 ⟨w,Z,fM Z s,0,c2 s⟩ w' bt):=by rintro e w' ⟨v,r,ah,bt,bH,a2,a3⟩;exact⟨v,r,ah,bt,bH,bn _ _ a2,a3⟩
 rcases h w Z bf J U ar with⟨rk,aw⟩|⟨v,w',aw,aO⟩
 ·exact .inl ⟨rk,aw.mono hm⟩
 ·exact .inr ⟨v,w',aw,hm _ _ aO⟩
theorem Ej{s:cL}{k:aI}(h:inObs s k):¬fresh 0 (c2 s) k:=fun aK=>aK.2 (uh h)
theorem jj.ob{s:cL}(ag:dW s){st:bu}{da:List (Nat×aj)}(aJ:∀x∈da,get x.1 st.t=x.2/\aB (inObs s) x.2)(af:∀k cs,look k s.b=some cs->look k st.b=some cs)(he:∀k o,look k s.e=some o->look k st.e=some o):
  jj (c2 s) st ⟨da,s.b,s.e,0,c2 s⟩:=
 ⟨fun x ab=>⟨(aJ x ab).1,xh (fun k ad=>Ej ad) _ (aJ x ab).2⟩,fun k cs aw=>⟨af k cs aw,Ej (.inl (by simp[aw])),km (fun k ad=>Ej ad) _ (ag.kb k cs aw)⟩,
  fun k o ay=>⟨he k o ay,Ej (.inr (by simp[ay])),fun xs ab=>km (fun k ad=>Ej ad) _ (ag.ke k o ay xs ab)⟩,fun m hm=>hm⟩
def cN(st:bu)(fx:List bO)(R:aj->Prop):Prop:=match aX st fx with
 |some (c,b1)=>c/\R (dz (aW b1))
 |none=>e8
theorem cH.at{fx:List bO}{s:cL}{Q:aj->cL->Prop}{e:Exit}{st:bu}(ah:cL)(vk:e= .ret\/e= .normal)(ag:dW ah)(fq:Same s ah)(af:∀k cs,look k ah.b=some cs->look k st.b=some cs)(dQ:∀k o,look k ah.e=some o->look k st.e=some o)
  (h:cN st fx fun r=>aB (inObs ah) r/\Q r ah):cH fx s Q e st:=by
 unfold cN at h;split at h
 ·rename_i c b1 aO;exact cH.ob vk aO h.1 ag fq af dQ h.2.1 h.2.2
 ·exact h.elim
theorem hJ.ob{P:cI}{nw:List Nat}{n:Nat}{args:List aj}{st:bu}{d:Option Nat}{K:bu->Prop}{s ah:cL}{r:aj}(aK:bI P n args s fun eZ da=>eZ=r/\da=ah)(ag:dW s)(ep:dW ah)(fq:Same s ah)(af:∀k cs,look k s.b=some cs->look k st.b=some cs)(he:∀k o,look k s.e=some o->look k st.e=some o)
  (ad:aC (inObs s) args) (h:K ⟨e4 d r st.t,cl s.b st.b++ah.b,cl s.e st.e++ah.e,st.n,st.o⟩):hJ P false nw n args st d K:=
 .inr ⟨s,ah,r,none,fun k cs aw=>⟨af k cs aw,.inl (by simp[aw]),ag.kb k cs aw⟩,fun k o ay=>⟨he k o ay,.inr (by simp[ay]),ag.ke k o ay⟩,ag.obj,ep.obj,⟨fun k ad=>.inl (by rw[fq.b];exact ad),fun k ad=>.inl (by rw[fq.e];exact ad),fun k ad=>by rw[<-fq.b];exact ad,fun k ad=>by rw[<-fq.e];exact ad,fun k ad=>by cases ad⟩,ad,aK,(fun e=>by cases e),h⟩
theorem dW.of{s:cL}(ay:ju s)(af:∀x∈s.b,aC (inObs s) x.2)(he:∀x∈s.e,∀xs,x.2.xs=some xs->aC (inObs s) xs):dW s:=⟨ay,fun k cs ad=>af (k,cs) (uc ad),fun k o ad xs ab=>he (k,o) (uc ad) xs ab⟩
@[simp]theorem auW(b:List (aI×List aj))(e:List (aI×gg)):c2 ⟨b,e⟩=b.map (·.1)++e.map (·.1):=rfl
theorem Co{α:Type}{k:aI}{p:α}:∀{a r:List (aI×α)},look k a=none->cA k p (a++r)=a++cA k p r
 |[],_,_=>rfl
 |(i,y)::a,r,h=>by
  simp only[look]at h;split at h
  ·cases h
  ·rename_i cM;simp[cA,cM,Co h]
theorem aj6{α:Type}{s b:List (aI×α)}(h:∀p∈s,look p.1 b=some p.2):∀k x,look k s=some x->look k b=some x:=fun k x ab=>h (k,x) (uc ab)
theorem dD{S:aI->Prop}{b4 b:List (aI×List aj)}(h:∀p∈b4,look p.1 b=some p.2/\S p.1/\aC S p.2):hc S b4 b:=fun k x ab=>h (k,x) (uc ab)
theorem dE{S:aI->Prop}{b4 b:List (aI×gg)}(h:∀p∈b4,look p.1 b=some p.2/\S p.1/\dt S p.2):pH S b4 b:=fun k x ab=>h (k,x) (uc ab)
theorem aN{α:Type}{s b:List (aI×α)}(h:∀k x,look k s=some x->look k b=some x:=by first|(refine aj6 ?_;simp;done)|(intro k x ab;first|exact ab|(simp[ab,gW];done)|(simp[cK,gW,ab];done)|(cases k<;>simp_all[cK];done))):∀k x,look k s=some x->look k b=some x:=h
theorem bT{ob:List aI}{st st':bu}(J:∀x∈st'.t,get x.1 st.t=x.2/\aB (fun k=> ¬fresh st'.n st'.o k) x.2:=by simp[fresh,aC,aB,bP,inObs,Pv.look])(U:∀p∈st'.b,look p.1 st.b=some p.2/\(¬fresh st'.n st'.o p.1)/\aC (fun k=> ¬fresh st'.n st'.o k) p.2:=by simp[fresh,aC,aB,bP,inObs,Pv.look])(ar:∀p∈st'.e,look p.1 st.e=some p.2/\(¬fresh st'.n st'.o p.1)/\dt (fun k=> ¬fresh st'.n st'.o k) p.2:=by simp[fresh,aC,aB,dt,inObs,Pv.look])(a6:∀m∈ob,m∈st'.o:=by simp):jj ob st st':=⟨J,dD U,dE ar,a6⟩
theorem bK.next{ob:List aI}{hv:Nat->bu->Prop}{k:Nat}{Q:Exit->bu->Prop}{st:bu}(bJ:Nat){ah:bu}(ad:bJ<k)(hi:hv bJ ah)(hw:jj ob st ah):bK ob hv k Q .normal st:=⟨bJ,ah,ad,hw,hi⟩
def j3:List (Int×aj)->List aj
 |[]=>[]
 |(k,v)::r=>.int .i64 k::v::j3 r
def jG(l:List (Int×aj)):List aj:= .hdm l.length (List.range l.length)::j3 l
def uS(k:Int):List (Int×aj)->Option aj
 |[]=>none
 |(i,v)::r=>if k=i then some v else uS k r
def ot(k:Int)(v:aj):List (Int×aj)->Option (List (Int×aj))
 |[]=>none
 |(i,w)::r=>if k=i then some ((k,v)::r)else match ot k v r with|some eZ=>some ((i,w)::eZ)|none=>none
def CI(k:Int)(v:aj)(l:List (Int×aj)):List (Int×aj):=match ot k v l with|some a1=>a1|none=>l++[(k,v)]
@[simp]theorem auG:[aj.hdm 0 []]=jG []:=rfl
theorem Uc:∀a b,j3 (a++b)=j3 a++j3 b
 |[],_=>rfl
 |(k,v)::r,b=>by simp[j3,Uc r b]
theorem Xh(k:Int):∀l,xp .i (.int .i64 k) (j3 l)=some (uS k l)
 |[]=>rfl
 |(i,v)::r=>by
  simp only[j3,xp,tY,uS];by_cases h:k=i
  ·simp[h]
  ·have:(k==i)=false:=by simp[h]
   simp[h,Xh k r,this]
theorem QE{k:Int}{v:aj}:∀{l a1},ot k v l=some a1->a1.length=l.length
 |[],_,h=>by simp[ot]at h
 |(i,w)::r,a1,h=>by
  simp only[ot]at h;split at h
  ·cases h;rfl
  ·split at h
   ·rename_i eZ aO;cases h;simp[QE aO]
   ·cases h
theorem Xw(k:Int)(v:aj):∀l,vM .i (.int .i64 k) v (j3 l)=some ((ot k v l).map j3)
 |[]=>rfl
 |(i,w)::r=>by
  simp only[j3,vM,tY,ot];by_cases h:k=i
  ·subst h;simp[j3]
  ·simp only[and_self,if_true,h,if_false,eb,Xw k v r];have:(k==i)=false:=by simp[h]
   rw[this];cases ot k v r<;>simp[j3]
@[simp]theorem Xv(k:Int)(v:aj)(l:List (Int×aj)):oK .i (.int .i64 k) v (jG l)=some (jG (CI k v l)):=by
 simp only[jG,oK,Ws,Bool.true_eq_false,reduceCtorEq,if_false,Xw,CI];cases h:ot k v l with
 |some a1=>simp[QE h]
 |none=>simp[Uc,j3,List.range_succ]
@[simp]theorem Nq(f:aI->Option (List aj))(m:aI)(l:List (Int×aj))(z:aj)(ok:Bool)(k:Int)(hm:f m=some (jG l)):nn f .i z ok (.gmap m) (.int .i64 k)=(match uS k l with
  |some v=>some (True,if ok then .tuple [v,.bool true]else v)
  |none=>some (True,if ok then .tuple [z,.bool false]else z)):=by
 simp only[Xj,hm,jG,Ws,Bool.true_eq_false,reduceCtorEq,if_false,Xh];cases uS k l<;>rfl
@[simp]theorem akQ(f:aI->Option (List aj))(m:aI)(l:List (Int×aj))(hm:f m=some (jG l)):sS f (.gmap m)=some (True,.int .i64 l.length):=by simp[akP,hm,jG]
def bP(n:Nat)(seen:List Nat)(m:aI):List aj:=[.hdi n seen n,.gmap m]
@[simp]theorem avb(m:aI)(l:List (Int×aj)):xF m (jG l)=some (bP l.length [] m):=rfl
@[simp]theorem au5(l:List (Int×aj)):gr (jG l)=false:=rfl
theorem Ng(b:Nat):∀(n:Nat) (l:List (Int×aj)),nm b (List.range' n l.length) (j3 l)=(if n<=b then(l[b-n]?).map fun x=>.tuple [.int .i64 x.1,x.2]else none)
 |n,[]=>by simp[nm,j3]
 |n,(k,v)::r=>by
  simp only[oX,List.range'_succ,j3,nm];by_cases h:n=b
  ·subst h;simp
  ·rw[if_neg h,Ng b (n+1) r];by_cases U:n<=b
   ·rw[if_pos U,if_pos Ω];have:b-n=(b-(n+1))+1:=Ω
    rw[this];simp
   ·rw[if_neg U,if_neg Ω]
@[simp]theorem Nl(f:aI->Option (List aj))(eY mk:aI)(n:Nat)(seen:List Nat)(b:Nat)(l:List (Int×aj))(hi:f eY=some (bP n (seen++[b]) mk))(hm:f mk=some (jG l))(ax:n=l.length):oJ f (.ptr eY 0)=(l[b]?).map fun x=>(True,.tuple [.int .i64 x.1,x.2]):=by subst ax;simp only[Xg,hi,hm,bP,jG,List.getLast?_append,List.getLast?_singleton,Option.some_or,List.range_eq_range',Ng,Nat.zero_le,if_true,Nat.sub_zero,Option.map_map];cases l[b]?<;>simp
theorem KP{st:bu}{d:Nat}{K:bu->Prop}{eY mk:aI}{n:Nat}{seen:List Nat}{l:List (Int×aj)}(hi:look eY st.b=some (bP n seen mk))(hm:look mk st.b=some (jG l))(ax:n=l.length)
  (J:(∀b,b<n->b∈seen)->K {st with t:=put d (.tuple [.bool false]) st.t}) (U:∀b k v,l[b]? =some (k,v)->b∉seen->K {st with t:=put d (.tuple [.bool true,.int .i64 k,v]) st.t,b:=cA eY (bP n (seen++[b]) mk) st.b}):
  r9 st d (.ptr eY 0) K:=by
 subst ax;simp only[r9,hi,bP,hm,jG,NC,and_self,true_and];refine⟨fun h=>J fun b af=>h b (by simpa using af),fun b k v yQ af=>?_⟩;rw[List.range_eq_range',Ng]at yQ;simp only[Nat.zero_le,if_true,Nat.sub_zero,hf,aj.tuple.injEq,oW,and_true]at yQ;obtain⟨⟨bJ,v'⟩,ak,aD,bh⟩:=yQ;simp only at aD bh;subst aD bh;exact U b bJ v' ak af
theorem anr{n:Nat}{seen:List Nat}(aR:seen.Nodup)(bE:∀b∈seen,b<n)(k8:∀b,b<n->b∈seen):seen.Perm (List.range n):=(List.perm_ext_iff_of_nodup aR List.nodup_range).2 fun b=>⟨fun h=>by simpa using bE b h,fun h=>k8 b (by simpa using h)⟩
theorem ET{n:Nat}{seen:List Nat}(aR:seen.Nodup)(bE:∀b∈seen,b<n):seen.length<=n:=by have:=P7 aR (l₂:=List.range n) (fun b af=>by simpa using bE b af);simpa using this
theorem IW{n b:Nat}{seen:List Nat}(aR:seen.Nodup)(bE:∀b∈seen,b<n)(af:b<n)(ax:b∉seen):seen.length<n:=by have J:(b::seen).Nodup:=List.nodup_cons.2 ⟨ax,aR⟩;have:=ET J (n:=n) (by simp;exact⟨af,bE⟩);simp at this;omega
theorem YY{α:Type}:∀(l pre:List α),(List.range' pre.length l.length).filterMap (fun b=>(pre++l)[b]?)=l
 |[],_=>rfl
 |x::r,pre=>by have bR:=YY r (pre++[x]);simp only[pQ,List.length_singleton,List.append_assoc,List.singleton_append]at bR;simp[List.range'_succ,bR]
theorem IU{α:Type}{l:List α}{seen:List Nat}(aR:seen.Nodup)(bE:∀b∈seen,b<l.length)(k8:∀b,b<l.length->b∈seen):(seen.filterMap fun b=>l[b]?).Perm l:=by have J:=(anr aR bE k8).filterMap fun b=>l[b]?;have U:=YY l [];simp only[List.length_nil,b9,<-List.range_eq_range']at U;rwa[U]at J
theorem HV{b:Nat}{seen:List Nat}(aR:seen.Nodup)(ax:b∉seen):(seen++[b]).Nodup:=by rw[List.nodup_append];exact⟨aR,Ψ,by simp;intro a bD e;subst e;exact ax bD⟩
theorem c0.start{w:World}{Z:bg}{s:cL}{args:List aj}{bf:Array Value}(qe:ju s)(a7:Good (fM Z s) w Z s.b s.e)(ab:p5 Z s)(aO:cY w Z args bf.toList):
  c0 ⟨w,Z,fM Z s,bf.size,c2 s⟩ ⟨kH 0 args,s.b,s.e,0,c2 s⟩ {tmps:=bf,defers:=[]} w Z:=by
 have qD:=EL aO;have lh:bf.size=args.length:=by simpa using qD
 have pq:∀k,fresh 0 (c2 s) k->Z.bx k=none/\Z.ow k=none/\∀j b,¬Z.tr k j b:=by
  intro k ad;cases k with
  |loc m=>exact⟨(ab _).1 (qe.1 m),(ab _).2.1 (qe.2 m),(ab _).2.2⟩
  |obj m=>
   simp only[fresh,true_and]at ad;refine⟨?_,?_,(ab _).2.2⟩
   ·refine(ab _).1 ?_;cases h:look (.obj m) s.b with
    |none=>rfl
    |some x=>exact absurd (uh (.inl (by simp[h]))) ad
   ·refine(ab _).2.1 ?_;cases h:look (.obj m) s.e with
    |none=>rfl
    |some x=>exact absurd (uh (.inr (by simp[h]))) ad
 have jS:∀m,(Z.bx (.obj m)≠none\/Z.ow (.obj m)≠none)-> .obj m∈c2 s:=by
  intro m hm;refine Classical.byContradiction fun aw=>?_;obtain⟨J,U,_⟩:=pq (.obj m) ⟨trivial,aw⟩;rcases hm with hm|hm
  ·exact hm J
  ·exact hm U
 refine⟨⟨a7.alt,fun k cs ad=>?_,a7.inj,fun g o fa=>?_,a7.oinj,a7.obx,a7.one,a7.otr⟩,⟨rfl,rfl,rfl,fc _,fun _ _ _=>rfl,fun b o h=>⟨h,rfl⟩,fun b o h=>.inl h,fun n b h=>h,fun n b h=>jS n (.inl (by rw[h];simp)),fun m n u h=>⟨n,u,h,.inl ⟨rfl,rfl⟩⟩,fun m n u h=>jS m (.inr (by rw[h];simp)),fun k j _ _ b h=>absurd h ((ab k).2.2 j b),fun k j b h=>absurd h ((ab k).2.2 j b),fun k j b h=>absurd h ((ab k).2.2 j b),fun _ _ _=>rfl⟩,rfl,rfl,fun i=>?_,pq⟩
 ·obtain⟨bl,us,el,g1,g2,g3⟩:=a7.box k cs ad;exact⟨bl,us,el,g1,.inl g2,g3⟩
 ·obtain⟨v,us,g1,g2,g3,g4⟩:=a7.own g o fa;exact⟨v,us,g1,g2,fun bl fw=>⟨.inl (g3 bl fw).1,(g3 bl fw).2⟩,g4⟩
 ·rw[Lt];by_cases hi:i<args.length
  ·rw[if_pos Ω];have vp:args[i]? =some args[i]:=b6 hi;obtain⟨v,ak,aD⟩:=IF i aO vp;have KH:bf[i]? =some v:=by simpa using ak
   show bd w Z _ (bf.getD i undef);rw[Array.getD_eq_getD_getElem?,KH];simpa[List.getD,vp]using aD
  ·rw[if_neg Ω];simp[bd]
theorem bI.sem{P:cI}{f:FuncId}{args:List aj}{s:cL}{Q:aj->cL->Prop}(qe:ju s)
  (h:∀(w:World) (Z:bg) (bf:Array Value),bf.size=args.length->c0 ⟨w,Z,fM Z s,bf.size,c2 s⟩ ⟨kH 0 args,s.b,s.e,0,c2 s⟩ {tmps:=bf,defers:=[]} w Z->
   x0 P f bf w fun e w'=> ∃v st' bs bt r ah,e= .returned v/\c0 ⟨w,Z,fM Z s,bf.size,c2 s⟩ st' bs w' bt/\bd w' bt r v/\lG ah s.b/\lG ah s.e/\hc (inObs ah) ah.b st'.b/\pH (inObs ah) ah.e st'.e/\ju ah/\aB (inObs ah) r/\Q r ah):bI P f args s Q:=by
 intro w Z bf a7 ab aO;have lh:bf.size=args.length:=by simpa using EL aO
 have qB:=c0.start qe a7 ab aO;have hm:∀(e:Ending) (w':World),(∃v st' bs bt r ah,e= .returned v/\c0 ⟨w,Z,fM Z s,bf.size,c2 s⟩ st' bs w' bt/\bd w' bt r v/\lG ah s.b/\lG ah s.e/\hc (inObs ah) ah.b st'.b/\pH (inObs ah) ah.e st'.e/\ju ah/\aB (inObs ah) r/\Q r ah)->
   ∃v r ah bt,e= .returned v/\Q r ah/\bd w' bt r v/\Good (fun bl=>fM Z s bl\/w.heap.size<=bl) w' bt ah.b ah.e/\p5 bt ah/\ju ah/\q1 ⟨w,Z,fM Z s,0,c2 s⟩ w' bt:=by
  rintro e w' ⟨v,st',bs,bt,r,ah,rfl,dY,ko,kb,ke,ba,bo,b3,c9,dh⟩;refine⟨v,r,ah,bt.cut (inObs ah),rfl,dh,vY (pU.cut _ w' bt) _ _ c9 ko,dY.good.cut ba bo (fun bl h _=>h),?_,b3,?_⟩
  ·intro k;refine⟨?_,?_,?_⟩;rotate_left 2
   ·rintro j b ⟨ag,af⟩;obtain⟨t1,t2⟩:=dY.fr.trn k j b af;rcases ag with ag|ag<;>obtain⟨x,iJ⟩:=fL.1 ag
    ·obtain⟨bl,ct,el,ak,_⟩:=dY.good.box k x (ba k x iJ).1;rw[t1]at ak;cases ak
    ·obtain⟨v',ct,ak,_⟩:=dY.good.own k x (bo k x iJ).1;rw[t2]at ak;cases ak
   ·intro ad;by_cases ag:inObs ah k
    ·rw[bg.cut_bx ag];rcases ag with ag|ag
     ·rw[ad]at ag;cases ag
     ·obtain⟨x,iJ⟩:=fL.1 ag;obtain⟨v',ct,ak,_⟩:=dY.good.own k x (bo k x iJ).1;rcases dY.good.one k with J|J
      ·exact J
      ·rw[J]at ak;cases ak
    ·exact(bg.cut_no ag).1
   ·intro ad;by_cases ag:inObs ah k
    ·rw[bg.cut_ow ag];rcases ag with ag|ag
     ·obtain⟨x,iJ⟩:=fL.1 ag;obtain⟨bl,ct,el,ak,_⟩:=dY.good.box k x (ba k x iJ).1;rcases dY.good.one k with J|J
      ·rw[J]at ak;cases ak
      ·exact J
     ·rw[ad]at ag;cases ag
    ·exact(bg.cut_no ag).2.1
  ·refine⟨dY.fr.os,dY.fr.tape,dY.fr.output,dY.fr.size,dY.fr.block,dY.fr.keep,dY.fr.fresh,fun n b h=>?_,dY.fr.obn,fun m n u h=>?_,dY.fr.obr,fun k j bJ dT b J U=>dY.fr.trd k j bJ dT b J.2 U.2,fun k j b af=>dY.fr.trb k j b af.2,fun k j b af=>(by rw[bg.cut_bx af.1,bg.cut_ow af.1];exact dY.fr.trn k j b af.2),dY.fr.sh⟩
   ·have ag:inObs ah (.obj n):=by
     cases au:look (.obj n) s.b with
     |none=>rw[(ab _).1 au]at h;cases h
     |some x=>exact Br kb _ (by simp[au])
    rw[bg.cut_bx ag];exact dY.fr.obj n b h
   ·have ag:inObs ah (.obj m):=by
     cases au:look (.obj m) s.e with
     |none=>rw[(ab _).2.1 au]at h;cases h
     |some x=>exact Br ke _ (by simp[au])
    rw[bg.cut_ow ag];exact dY.fr.row m n u h
 rcases h w Z bf lh qB with⟨rk,aw⟩|⟨v,w',aw,yU⟩
 ·exact .inl ⟨rk,aw.mono hm⟩
 ·exact .inr ⟨v,w',aw,hm _ _ yU⟩
theorem c0.grown{C:fu}{st:bu}{a:Act}{w w':World}{Z:bg}(h:c0 C st a w Z)(a7:w.grownBy w' none):c0 C st a w' Z:=by
 have lf:lU w Z w' Z:=⟨fun b o bm=>⟨bm,Ga a7 (h.good.alt b o bm)⟩,fun _ _ _ h=>h,fun _ n u _ h=>⟨n,u,h,.inl ⟨rfl,rfl⟩⟩,fun b o bm=>xJ (a7.block b (h.good.alt b o bm) Ψ),fun _ _ _ _ h=>h⟩;refine h.over lf rfl ⟨fun b o bm=>Nat.lt_of_lt_of_le (h.good.alt b o bm) a7.size,fun k cs ad=>?_,h.good.inj,fun g o fa=>?_,h.good.oinj,h.good.obx,h.good.one,h.good.otr⟩
  ⟨a7.os.trans h.fr.os,a7.tape.trans h.fr.tape,a7.output.trans h.fr.output,kJ h.fr.size a7.size,fun k ad hm=>?_,fun b o bm=>?_,h.fr.fresh,h.fr.obj,h.fr.obn,h.fr.row,h.fr.obr,h.fr.trd,fun k j b af=>⟨(h.fr.trb k j b af).1,Nat.lt_of_lt_of_le (h.fr.trb k j b af).2 a7.size⟩,h.fr.trn,fun b o bm=>(lf.sh b o (h.fr.keep b o bm).1).trans (h.fr.sh b o bm)⟩ h.new
 ·obtain⟨bl,us,el,g1,g2,g3,g4,g5⟩:=h.good.box k cs ad;exact⟨bl,us,el,g1,g2,g3,by rw[a7.block bl (Array.getElem?_eq_some_iff.1 g4).1 Ψ];exact g4,qP lf g5⟩
 ·obtain⟨v,us,g1,g2,g3,g4⟩:=h.good.own g o fa;exact⟨v,us,g1,g2.kept a7 (by cases v.ownBlock<;>simp),g3,s6 lf (fun _ _ _ h=>h) g4⟩
 ·rw[a7.block k (Nat.lt_of_lt_of_le ad h.fr.size) Ψ];exact h.fr.block k ad hm
 ·obtain⟨aS,be⟩:=h.fr.keep b o bm;exact⟨aS,(lf.A b o aS).2.trans be⟩
theorem cV.new{P:cI}{n:Nat}{args:List aj}{st:bu}{d:Option Nat}{K:bu->Prop}{s:cL}{Q:aj->cL->Prop}(aK:bI P n args s Q)(ag:dW s)(af:∀k cs,look k s.b=some cs->look k st.b=some cs)(he:∀k o,look k s.e=some o->look k st.e=some o)
  (ad:aC (inObs s) args) (h:∀r ah,Q r ah->(∀m,inObs ah (.obj m)->inObs s (.obj m)/\Same s ah\/ .obj m∉st.o)/\K ⟨e4 d r st.t,cl s.b st.b++ah.b,cl s.e st.e++ah.e,st.n,st.o++c2 ah⟩):cV P n args st d K:=by
 refine .inl ⟨s,Q,fun k cs aw=>⟨af k cs aw,.inl (by simp[aw]),ag.kb k cs aw⟩,fun k o ay=>⟨he k o ay,.inr (by simp[ay]),ag.ke k o ay⟩,ag.obj,ad,aK,fun r ah bn=>?_⟩;obtain⟨J,U⟩:=h r ah bn;refine⟨⟨fun m hm=>?_,fun m hm=>?_⟩,U⟩
 ·rcases J m (.inl hm)with⟨_,ar⟩|ar
  ·exact .inl (by rw[ar.b];exact hm)
  ·exact .inr ar
 ·rcases J m (.inr hm)with⟨_,ar⟩|ar
  ·exact .inl (by rw[ar.e];exact hm)
  ·exact .inr ar
theorem cH.new{fx:List bO}{s:cL}{Q:aj->cL->Prop}{e:Exit}{st:bu}(ah:cL)(vk:e= .ret\/e= .normal)(ag:dW ah)(fq:lG ah s.b/\lG ah s.e)(af:∀k cs,look k ah.b=some cs->look k st.b=some cs)(dQ:∀k o,look k ah.e=some o->look k st.e=some o)
  (h:cN st fx fun r=>aB (inObs ah) r/\Q r ah):cH fx s Q e st:=by
 unfold cN at h;split at h
 ·rename_i c b1 aO;refine⟨vk,?_⟩;rw[aO];exact⟨h.1,ah,fq.1,fq.2,fun k cs dA=>⟨af k cs dA,.inl (by simp[dA]),ag.kb k cs dA⟩,fun k o ay=>⟨dQ k o ay,.inr (by simp[ay]),ag.ke k o ay⟩,ag.obj,h.2.1,h.2.2⟩
 ·exact h.elim
@[simp]theorem asF{P:cI}{ob:List aI}{c d:C}{Q:Exit->bu->Prop}{st:bu}{s:Nat}:c8 P ob (.seq (.pub s c) d) Q st=x5 P ob (.seq c d) Q (xB st s):=by simp only[c8];cases xB st s<;>rfl
@[simp]theorem asE{P:cI}{ob:List aI}{c d:C}{Q:Exit->bu->Prop}{st:bu}{s:Nat}:c8 P ob (.seq (.pubB s c) d) Q st=x5 P ob (.seq c d) Q (xA st s):=by simp only[c8];cases xA st s<;>rfl
end
section
open Go Go.RowKit
def vC(t:List (Nat×aj))(ck:List Nat):List (Nat×aj):=ck.map fun k=>(k,get k t)
@[simp]theorem atK(t:List (Nat×aj)):vC t []=[]:=rfl
@[simp]theorem atJ(t:List (Nat×aj))(k:Nat)(ck:List Nat):vC t (k::ck)=(k,get k t)::vC t ck:=rfl
def qh(st:bu)(ck:List Nat)(cs:List (Nat×aj)):bu:=⟨vC st.t ck++cs,st.b,st.e,st.n,st.o⟩
theorem akN(t:List (Nat×aj))(b:List (aI×List aj))(e:List (aI×gg))(n:Nat)(o:List aI)(ck:List Nat)(cs:List (Nat×aj)):qh ⟨t,b,e,n,o⟩ ck cs=⟨vC t ck++cs,b,e,n,o⟩:=rfl
def zZ{α:Type}(S:Nat->α->bu)(n:Nat)(fl:Nat->α->Prop)(k:Nat)(st:bu):Prop:= ∃i a,i<=n/\k=n-i/\fl i a/\st=S i a
section
variable {P:cI} {ob:List aI} {st:bu} {Q:Exit->bu->Prop} {c:C} {α:Type}
theorem gA(S:Nat->α->bu)(n:Nat)(fl:Nat->α->Prop)(a0:α)(hw:jj ob st (S 0 a0))(br:fl 0 a0)(wQ:∀a,fl n a->(∀i,eo (get i (S n a).t))->c8 P ob c (bK ob (zZ S n fl) 0 Q) (S n a))
  (j8:∀i a,i<n->fl i a->(∀j,eo (get j (S i a).t))->c8 P ob c (bK ob (zZ S n fl) (n-i) Q) (S i a)):c8 P ob (.loop c) Q st:=by
 refine tD (zZ S n fl) n _ hw ⟨0,a0,Ω,Ω,br,rfl⟩ ?_;rintro k s ⟨i,a,hi,rfl,ae,rfl⟩ af _;rcases Nat.lt_or_ge i n with h|h
 ·exact j8 i a h ae af
 ·obtain rfl:i=n:=Ω
  rw[Nat.sub_self];exact wQ a ae af
theorem bK.rng{S:Nat->α->bu}{n:Nat}{fl:Nat->α->Prop}{i:Nat}(bs:α)(hi:i<n)(ae:fl (i+1) bs)(hw:jj ob st (S (i+1) bs)):bK ob (zZ S n fl) (n-i) Q .normal st:=⟨n-(i+1),_,Ω,hw,i+1,bs,Ω,rfl,ae,rfl⟩
def Cx{α:Type}(S:α->bu)(nx:α->Nat)(fl:α->Prop)(k:Nat)(st:bu):Prop:= ∃a,k=nx a/\fl a/\st=S a
theorem pc(S:α->bu)(nx:α->Nat)(fl:α->Prop)(a0:α)(hw:jj ob st (S a0))(br:fl a0)
  (j8:∀a,fl a->(∀j,eo (get j (S a).t))->c8 P ob c (bK ob (Cx S nx fl) (nx a) Q) (S a)):c8 P ob (.loop c) Q st:=by
 refine tD (Cx S nx fl) (nx a0) _ hw ⟨a0,rfl,br,rfl⟩ ?_;rintro k s ⟨a,rfl,ae,rfl⟩ af _;exact j8 a ae af
theorem bK.whl{S:α->bu}{nx:α->Nat}{fl:α->Prop}{k:Nat}(bs:α)(hm:nx bs<k)(ae:fl bs)(hw:jj ob st (S bs)):bK ob (Cx S nx fl) k Q .normal st:=⟨nx bs,_,hm,hw,bs,rfl,ae,rfl⟩
end
theorem hE{p:Prop}(h:p:=by(try simp[*]);(repeat' first|with_reducible refine ai ?_|with_reducible refine az (by assumption) ?_|with_reducible refine aA (by assumption) ?_|simp[*]);(all_goals first|exact bK.rng () (by assumption) (by first|assumption|trivial) bT|exact bK.rng _ (by assumption) (by assumption) bT)):p:=h
end
section
open Go Go.RowKit
def mI(s:cL)(n:Nat)(k:aI):Prop:=inObs s k\/ ∃m,m<n/\k= .loc m
@[simp]theorem Xz(s:cL)(n m:Nat)(hm:m<n):mI s n (.loc m):= .inr ⟨m,hm,rfl⟩
theorem BH{s:cL}{n:Nat}{l:List aj}(h:aC (inObs s) l):aC (mI s n) l:=km (fun _ h=>.inl h) l h
theorem zj{s ah:cL}(fq:Same s ah){n:Nat}{k:aI}(h:mI ah n k):¬fresh n (c2 s) k:=by
 rcases h with h|⟨m,hm,rfl⟩
 ·exact fun aK=>aK.2 (uh ((fq.inObs k).2 h))
 ·intro aK;have:=aK.1;simp at this;omega
theorem jj.obL{s ah:cL}(ep:dW ah)(fq:Same s ah){st:bu}{da:List (Nat×aj)}{L:List (aI×List aj)}{n:Nat}(aJ:∀x∈da,get x.1 st.t=x.2/\aB (mI ah n) x.2)(j4:∀x∈L,look x.1 st.b=some x.2/\mI ah n x.1/\aC (mI ah n) x.2)
  (af:∀k cs,look k ah.b=some cs->look k st.b=some cs) (he:∀k o,look k ah.e=some o->look k st.e=some o):jj (c2 s) st ⟨da,L++ah.b,ah.e,n,c2 s⟩:=by
 refine⟨fun x ab=>⟨(aJ x ab).1,xh (fun k ad=>zj fq ad) _ (aJ x ab).2⟩,fun k cs ad=>?_,fun k o ay=>?_,fun m hm=>hm⟩
 ·simp only at ad;rw[cK]at ad;cases au:look k L with
  |some x=>rw[au]at ad;simp only[ea]at ad;subst ad;obtain⟨J,U,ar⟩:=j4 _ (uc au);exact⟨J,zj fq U,km (fun k ad=>zj fq ad) _ ar⟩
  |none=>rw[au]at ad;exact⟨af k cs ad,zj fq (.inl (.inl (by simp[ad]))),km (fun k ad=>zj fq (.inl ad)) _ (ep.kb k cs ad)⟩
 ·exact⟨he k o ay,zj fq (.inl (.inr (by simp at ay;simp[ay]))),fun xs ab=>km (fun k ad=>zj fq (.inl ad)) _ (ep.ke k o ay xs ab)⟩
def gZ{α:Type}(l:List α)(i j:Nat):List α:=match l[i]?,l[j]? with
 |some x,some y=>(l.set i y).set j x
 |_,_=>l
section
variable {α:Type}
@[simp]theorem akg(l:List α)(i j:Nat):(gZ l i j).length=l.length:=by unfold gZ;split<;>simp
theorem Bx(l:List α)(i j k:Nat)(hi:i<l.length)(ae:j<l.length):(gZ l i j)[k]? =if k=i then l[j]? else if k=j then l[i]? else l[k]?:=by
 unfold gZ;rw[b6 hi,b6 ae];simp only[List.getElem?_set,List.length_set];by_cases J:j=k
 ·subst J;by_cases U:j=i
  ·subst U;simp[hi]
  ·simp[U,ae]
 ·by_cases U:i=k
  ·subst U;simp[J,hi]
  ·simp[J,U,lv J,lv U]
theorem W4(l:List α)(i j:Nat):(gZ l i j).Perm l:=by
 unfold gZ;split
 ·rename_i x y ab aL;obtain⟨hi,rfl⟩:=eV.1 ab;obtain⟨ae,rfl⟩:=eV.1 aL;exact List.set_set_perm hi ae
 ·exact .refl _
inductive gF (a b:Nat):List α->List α->Prop
 |refl (l:List α):gF a b l l
 |step {l m:List α} {i j:Nat}:gF a b l m->a<=i->i<b->a<=j->j<b->i<m.length->j<m.length->gF a b l (gZ m i j)
theorem gF.length{a b:Nat}{l m:List α}(h:gF a b l m):m.length=l.length:=by
 induction h with
 |refl=>rfl
 |step _ _ _ _ _ _ _ bR=>rw[akg,bR]
theorem gF.perm{a b:Nat}{l m:List α}(h:gF a b l m):m.Perm l:=by
 induction h with
 |refl=>exact .refl _
 |step _ _ _ _ _ _ _ bR=>exact(W4 _ _ _).trans bR
theorem gF.out{a b:Nat}{l m:List α}(h:gF a b l m)(k:Nat)(ad:k<a\/b<=k):m[k]? =l[k]?:=by
 induction h with
 |refl=>rfl
 |step _ J U ar a6 b0 df bR=>rw[Bx _ _ _ _ b0 df,if_neg Ω,if_neg Ω];exact bR
theorem gF.all{a b:Nat}{l m:List α}(h:gF a b l m)(p:α->Prop)(bF:∀k x,a<=k->k<b->l[k]? =some x->p x):∀k x,a<=k->k<b->m[k]? =some x->p x:=by
 induction h with
 |refl=>exact bF
 |step _ J U ar a6 b0 df bR=>
  intro k x gI lB ab;rw[Bx _ _ _ _ b0 df]at ab;split at ab
  ·exact bR _ _ ar a6 ab
  ·split at ab
   ·exact bR _ _ J U ab
   ·exact bR _ _ gI lB ab
theorem gF.trans{a b:Nat}{l m r:List α}(h:gF a b l m)(cn:gF a b m r):gF a b l r:=by
 induction cn with
 |refl=>exact h
 |step _ J U ar a6 b0 df bR=>exact .step bR J U ar a6 b0 df
theorem gF.mono{a b bs b4:Nat}{l m:List α}(h:gF a b l m)(bD:bs<=a)(af:b<=b4):gF bs b4 l m:=by
 induction h with
 |refl=>exact .refl _
 |step _ J U ar a6 b0 df bR=>exact .step bR Ω Ω Ω Ω b0 df
def fo(lt:α->α->Bool)(a b:Nat)(l:List α):Prop:= ∀i j x y,a<=i->i<j->j<b->l[i]? =some x->l[j]? =some y->lt y x=false
structure q2 (lt:α->α->Bool):Prop where
 asym:∀x y,lt x y=true->lt y x=false
 ntr:∀x y z,lt y x=false->lt z y=false->lt z x=false
theorem fo.pairwise{lt:α->α->Bool}{l:List α}(h:fo lt 0 l.length l):l.Pairwise fun x y=>lt y x=false:=by rw[qo];intro i j hi ae mA;exact h i j _ _ Ω mA ae (b6 hi) (b6 ae)
def ih(a m b k:Nat):Nat:=if k<a then k else if k<a+(b-m)then k+(m-a)else if k<b then k-(b-m)else k
def s8(a b c k:Nat):Nat:=if a<=k/\k<a+c then b+(k-a)else if b<=k/\k<b+c then a+(k-b)else k
end
theorem GG(i j:Nat)(h:i+j<=1099511627776):IntKind.i64.wrap (Int.fdiv (hI.wrap ((i:Int)+j)) (2 ^ (min 1 hI.bits)))=((i+j)/2:Nat):=by
 have hw:hI.wrap ((i:Int)+j)=i+j:=by simp[ti,oU,th];omega
 have LH:hI.bits=64:=rfl;rw[hw,LH,show(2:Int) ^ (min 1 64)=2 from by decide,Int.fdiv_eq_ediv_of_nonneg _ Ω,pN]
 ·omega
 ·omega
end
section
open Go
inductive bL where
 |mk (kind n:Int) (name:List dw) (args:List bL)
def bL.kind:bL->Int| .mk k _ _ _=>k
def bL.num:bL->Int| .mk _ n _ _=>n
def bL.name:bL->List dw| .mk _ _ s _=>s
def bL.args:bL->List bL| .mk _ _ _ a=>a
mutual
def enc:bL->aj
 | .mk k n s a=>.agg [.int .i64 k,.int .i64 n,.str s,.slice 4 .no (p3 a)]
def p3:List bL->List aj
 |[]=>[]
 |x::xs=>enc x::p3 xs
end
theorem Gj:∀l,p3 l=l.map enc
 |[]=>rfl
 |x::xs=>by simp[p3,Gj xs]
theorem Aw(t:bL):enc t= .agg [.int .i64 t.kind,.int .i64 t.num,.str t.name,.slice 4 .no (t.args.map enc)]:=by cases t;simp[enc,Gj,bL.kind,bL.num,bL.name,bL.args]
mutual
theorem WL(S:aI->Prop):∀t:bL,aB S (enc t)
 | .mk k n s a=>by simp[enc,aB,aC,MU S a]
theorem MU(S:aI->Prop):∀l:List bL,aC S (p3 l)
 |[]=>by simp[p3,aC]
 |x::xs=>by simp[p3,aC,WL S x,MU S xs]
end
mutual
theorem ZG:∀t:bL,dz (enc t)=enc t
 | .mk k n s a=>by simp[enc,dz,c6,Pe a]
theorem Pe:∀l:List bL,c6 (p3 l)=p3 l
 |[]=>by simp[p3,c6]
 |x::xs=>by simp[p3,c6,ZG x,Pe xs]
end
@[simp]theorem aua(S:aI->Prop)(t:bL):aB S (enc t)=True:=eq_true (WL S t)
@[simp]theorem atV(S:aI->Prop)(l:List bL):aC S (l.map enc)=True:=by rw[<-Gj];exact eq_true (MU S l)
theorem apL(l:List bL):c6 (l.map enc)=l.map enc:=by rw[<-Gj];exact Pe l
attribute [simp] ZG apL
@[simp]theorem avw(t:bL):eT (enc t)=true:=by rw[Aw];rfl
@[simp]theorem asl(t:bL):cells (enc t)=[.int .i64 t.kind,.int .i64 t.num,.str t.name,.slice 4 .no (t.args.map enc)]:=by rw[Aw];rfl
@[simp]theorem arW(t:bL):aj.agg [.int .i64 t.kind,.int .i64 t.num,.str t.name,.slice 4 .no (t.args.map enc)]=enc t:=(Aw t).symm
@[simp]theorem atD(t:bL):Pv.isAgg 4 (enc t):=by rw[Aw];exact⟨_,rfl,rfl⟩
inductive T where
 |nil
 |var (n:Int)
 |sym (s:List dw)
 |num (n:Int)
 |pair (a b:T)
 deriving DecidableEq,Inhabited
def T.tm:T->bL
 | .nil=>.mk 0 0 [] []
 | .var n=>.mk 1 n [] []
 | .sym s=>.mk 2 0 s []
 | .num n=>.mk 3 n [] []
 | .pair a b=>.mk 4 0 [] [a.tm,b.tm]
def T.e:T->aj
 | .nil=>.agg [.int .i64 0,.int .i64 0,.str [],.slice 4 .no []]
 | .var n=>.agg [.int .i64 1,.int .i64 n,.str [],.slice 4 .no []]
 | .sym s=>.agg [.int .i64 2,.int .i64 0,.str s,.slice 4 .no []]
 | .num n=>.agg [.int .i64 3,.int .i64 n,.str [],.slice 4 .no []]
 | .pair a b=>.agg [.int .i64 4,.int .i64 0,.str [],.slice 4 .no [a.e,b.e]]
theorem r5:∀t:T,enc t.tm=t.e
 | .nil| .var _| .sym _| .num _=>rfl
 | .pair a b=>by simp[T.tm,enc,p3,T.e,r5 a,r5 b]
def T.kind:T->Int
 | .nil=>0| .var _=>1| .sym _=>2| .num _=>3| .pair _ _=>4
def T.int:T->Int
 | .var n=>n| .num n=>n|_=>0
def T.name:T->List dw
 | .sym s=>s|_=>[]
def T.args:T->List T
 | .pair a b=>[a,b]|_=>[]
theorem T.e_eq(t:T):t.e= .agg [.int .i64 t.kind,.int .i64 t.int,.str t.name,.slice 4 .no (t.args.map T.e)]:=by cases t<;>rfl
@[simp]theorem arV(t:T):aj.agg [.int .i64 t.kind,.int .i64 t.int,.str t.name,.slice 4 .no (t.args.map T.e)]=t.e:=(T.e_eq t).symm
@[simp]theorem arX:aj.agg [.int .i64 0,.int .i64 0,.str [],.slice 4 .no []]=T.nil.e:=rfl
@[simp]theorem ar1(n:Int):aj.agg [.int .i64 1,.int .i64 n,.str [],.slice 4 .no []]=(T.var n).e:=rfl
@[simp]theorem ar0(s:List dw):aj.agg [.int .i64 2,.int .i64 0,.str s,.slice 4 .no []]=(T.sym s).e:=rfl
@[simp]theorem arY(n:Int):aj.agg [.int .i64 3,.int .i64 n,.str [],.slice 4 .no []]=(T.num n).e:=rfl
@[simp]theorem arZ(a b:T):aj.agg [.int .i64 4,.int .i64 0,.str [],.slice 4 .no [a.e,b.e]]=(T.pair a b).e:=rfl
@[simp]theorem ajX:(T.nil).kind=0:=rfl
@[simp]theorem ajq:(T.nil).int=0:=rfl
@[simp]theorem akZ:(T.nil).name=[]:=rfl
@[simp]theorem abP:(T.nil).args=[]:=rfl
@[simp]theorem aj2(n:Int):(T.var n).kind=1:=rfl
@[simp]theorem aju(n:Int):(T.var n).int=n:=rfl
@[simp]theorem ak4(n:Int):(T.var n).name=[]:=rfl
@[simp]theorem abT(n:Int):(T.var n).args=[]:=rfl
@[simp]theorem aj1(s:List dw):(T.sym s).kind=2:=rfl
@[simp]theorem ajt(s:List dw):(T.sym s).int=0:=rfl
@[simp]theorem ak3(s:List dw):(T.sym s).name=s:=rfl
@[simp]theorem abS(s:List dw):(T.sym s).args=[]:=rfl
@[simp]theorem ajY(n:Int):(T.num n).kind=3:=rfl
@[simp]theorem ajr(n:Int):(T.num n).int=n:=rfl
@[simp]theorem ak0(n:Int):(T.num n).name=[]:=rfl
@[simp]theorem abQ(n:Int):(T.num n).args=[]:=rfl
@[simp]theorem ajZ(a b:T):(T.pair a b).kind=4:=rfl
@[simp]theorem ajs(a b:T):(T.pair a b).int=0:=rfl
@[simp]theorem ak1(a b:T):(T.pair a b).name=[]:=rfl
@[simp]theorem abR(a b:T):(T.pair a b).args=[a,b]:=rfl
@[simp]theorem at9(S:aI->Prop)(t:T):aB S t.e=True:=by rw[<-r5];simp
@[simp]theorem avU(t:T):dz t.e=t.e:=by rw[<-r5];simp
theorem WC(S:aI->Prop):∀l:List T,aC S (l.map T.e)
 |[]=>by simp[aC]
 |x::xs=>by simp[aC,WC S xs]
@[simp]theorem WB(S:aI->Prop)(l:List T):aC S (l.map T.e)=True:=eq_true (WC S l)
@[simp]theorem apK:∀l:List T,c6 (l.map T.e)=l.map T.e
 |[]=>rfl
 |x::xs=>by simp[c6,apK xs]
@[simp]theorem avv(t:T):eT t.e=true:=by rw[T.e_eq];rfl
@[simp]theorem asj(t:T):cells t.e=[.int .i64 t.kind,.int .i64 t.int,.str t.name,.slice 4 .no (t.args.map T.e)]:=by rw[T.e_eq];rfl
@[simp]theorem atC(t:T):Pv.isAgg 4 t.e:=by rw[T.e_eq];exact⟨_,rfl,rfl⟩
def T.size:T->Nat
 | .pair a b=>1+a.size+b.size
 |_=>1
theorem T.size_pos(t:T):1<=t.size:=by cases t<;>simp[T.size]<;>omega
def low(b:dw):Bool:=decide (97<=b.toNat/\b.toNat<=122)
def nb(b:dw):Bool:=low b||decide (48<=b.toNat/\b.toNat<=57)||b.toNat==45
def iX(s:List dw):Bool:=decide (1<=s.length/\s.length<=12)&&low (s.getD 0 0)&&(s.drop 1).all nb
def T.ok:T->Bool
 | .nil=>true
 | .var n=>decide (0<=n/\n<=100000)
 | .sym s=>iX s
 | .num n=>decide (-1000000000<=n/\n<=1000000000)
 | .pair a b=>a.ok&&b.ok
def lI(k n:Int)(s:List dw):Bool:=if k=0 then n==0&&s==[]else if k=1 then decide (0<=n/\n<=100000)&&s==[]else if k=2 then n==0&&iX s else if k=3 then decide (-1000000000<=n/\n<=1000000000)&&s==[]else false
def fH:bL->Int->Int
 | .mk k n s [a,b],room=>if room<1\/k≠4\/n≠0\/s≠[]then-1 else if fH a (room-1)<0 then-1 else if fH b (room-1-fH a (room-1))<0 then-1 else 1+fH a (room-1)+fH b (room-1-fH a (room-1))
 | .mk k n s args,room=>if room<1\/k=4\/args≠[]\/lI k n s=false then-1 else 1
theorem ND(k n:Int)(s:List dw)(args:List bL)(room:Int):fH (.mk k n s args) room=if room<1 then-1 else if k≠4 then(if args≠[]then-1 else if lI k n s then 1 else-1)else if n≠0\/s≠[]then-1 else match args with
  |[a,b]=>if fH a (room-1)<0 then-1 else if fH b (room-1-fH a (room-1))<0 then-1 else 1+fH a (room-1)+fH b (room-1-fH a (room-1))
  |_=> -1:=by
 match args with
 |[]=>simp only[fH];by_cases J:room<1<;>by_cases U:k=4<;>by_cases ar:lI k n s=true<;>simp[J,U,ar]
 |[a]=>simp[fH]
 |[a,b]=>simp only[fH];by_cases J:room<1<;>by_cases U:k=4<;>simp[J,U]
 |a::b::c::r=>simp[fH]
theorem HU:∀(t:T) (room:Int),fH t.tm room=if t.ok=true/\(t.size:Int)<=room then(t.size:Int)else-1
 | .nil,room=>by simp[T.tm,fH,T.ok,T.size,lI];split<;>rename_i h<;>simp_all<;>omega
 | .var n,room=>by simp[T.tm,fH,T.ok,T.size,lI];split<;>split<;>simp_all<;>omega
 | .sym s,room=>by simp[T.tm,fH,T.ok,T.size,lI];by_cases J:room<1<;>by_cases U:iX s=true<;>simp[J,U]<;>omega
 | .num n,room=>by simp[T.tm,fH,T.ok,T.size,lI];split<;>split<;>simp_all<;>omega
 | .pair a b,room=>by
  have bD:=a.size_pos;have af:=b.size_pos;simp only[T.tm,fH,HU a,HU b,T.ok,T.size,cy];by_cases J:room<1
  ·simp[J];omega
  ·by_cases U:a.ok=true/\(a.size:Int)<=room-1
   ·rw[if_pos U];by_cases ar:b.ok=true/\(b.size:Int)<=room-1-a.size
    ·rw[if_pos ar];simp[J,U.1,ar.1];split<;>omega
    ·rw[if_neg ar];simp[J,U.1];intro lZ;have:=ar;simp[lZ]at this;omega
   ·rw[if_neg U];simp[J];intro lA;have:=U;simp[lA]at this;omega
theorem Ei:∀(t:bL) (room:Int),fH t room= -1\/1<=fH t room
 | .mk k n s [a,b],room=>by
  simp only[fH];split
  ·exact .inl rfl
  ·split
   ·exact .inl rfl
   ·split
    ·exact .inl rfl
    ·right;omega
 | .mk k n s [],room=>by simp only[fH];split<;>simp
 | .mk k n s [a],room=>by simp[fH]
 | .mk k n s (a::b::c::r),room=>by simp[fH]
theorem NG:∀(t:bL) (room:Int),0<fH t room->∃x:T,x.tm=t
 | .mk k n s [a,b],room,h=>by
  simp only[fH]at h;split at h
  ·omega
  ·rename_i J;simp only[not_or,Int.not_lt,ne_eq,awa]at J;obtain⟨J,rfl,rfl,rfl⟩:=J;split at h
   ·omega
   ·split at h
    ·omega
    ·obtain⟨x,rfl⟩:=NG a (room-1) (by rcases Ei a (room-1)with h|h<;>omega);obtain⟨y,rfl⟩:=NG b (room-1-fH x.tm (room-1)) (by rcases Ei b (room-1-fH x.tm (room-1))with h|h<;>omega);exact⟨.pair x y,rfl⟩
 | .mk k n s [],room,h=>by
  simp only[fH]at h;split at h
  ·omega
  ·rename_i J;simp only[not_or,ne_eq,not_true_eq_false,not_false_eq_true,true_and,Bool.not_eq_false]at J;obtain⟨_,_,J⟩:=J;unfold lI at J;split at J
   ·rename_i e;subst e;simp at J;obtain⟨rfl,rfl⟩:=J;exact⟨.nil,rfl⟩
   ·split at J
    ·rename_i e;subst e;simp at J;obtain⟨_,rfl⟩:=J;exact⟨.var n,rfl⟩
    ·split at J
     ·rename_i e;subst e;simp at J;obtain⟨rfl,_⟩:=J;exact⟨.sym s,rfl⟩
     ·split at J
      ·rename_i e;subst e;simp at J;obtain⟨_,rfl⟩:=J;exact⟨.num n,rfl⟩
      ·cases J
 | .mk k n s [a],room,h=>by simp[fH]at h
 | .mk k n s (a::b::c::r),room,h=>by simp[fH]at h
theorem NF:∀(t:bL) (room:Int),fH t room<=room\/fH t room= -1
 | .mk k n s [a,b],room=>by
  simp only[fH];split
  ·exact .inr rfl
  ·split
   ·exact .inr rfl
   ·split
    ·exact .inr rfl
    ·rcases NF b (room-1-fH a (room-1))with h|h<;>omega
 | .mk k n s [],room=>by simp only[fH];split<;>simp;rename_i h;omega
 | .mk k n s [a],room=>by simp[fH]
 | .mk k n s (a::b::c::r),room=>by simp[fH]
mutual
def bL.sz:bL->Nat
 | .mk _ _ _ a=>1+bL.szL a
def bL.szL:List bL->Nat
 |[]=>0
 |x::xs=>x.sz+bL.szL xs
end
theorem szL_mem:∀{l:List bL} {x:bL},x∈l->x.sz<=bL.szL l
 |y::l,x,h=>by
  rcases fT.1 h with rfl|h
  ·simp[bL.szL]
  ·have:=szL_mem h;simp[bL.szL];omega
theorem Pq{t x:bL}(h:x∈t.args):x.sz<t.sz:=by cases t;simp[bL.args]at h;have:=szL_mem h;simp[bL.sz];omega
def T.fit(t:T):Bool:=t.ok&&decide (t.size<=5000)
def bL.fits(t:bL):Bool:=decide (0<fH t 5000)
theorem bL.fits_T(t:T):t.tm.fits=t.fit:=by
 unfold bL.fits T.fit;rw[HU];have:=t.size_pos;by_cases J:t.ok=true<;>by_cases U:t.size<=5000
 ·rw[if_pos ⟨J,Ω⟩];simp[J,U];omega
 ·rw[if_neg Ω];simp[U]
 ·rw[if_neg (by simp[J])];simp[J]
 ·rw[if_neg (by simp[J])];simp[J]
theorem bL.fits_ex{t:bL}(h:t.fits=true):∃x:T,x.tm=t/\x.fit=true:=by obtain⟨x,rfl⟩:=NG t 5000 (by simpa[bL.fits]using h);exact⟨x,rfl,by rw[<-bL.fits_T];exact h⟩
structure ao where
 v:Int
 t:T
 deriving DecidableEq,Inhabited
def ao.e(b:ao):aj:= .agg [.int .i64 b.v,.int .i64 b.t.kind,.int .i64 b.t.int,.str b.t.name,.slice 4 .no (b.t.args.map T.e)]
@[simp]theorem ao.eta(b:ao):ao.mk b.v b.t=b:=rfl
@[simp]theorem Qs(v:Int)(t:T):aj.agg [.int .i64 v,.int .i64 t.kind,.int .i64 t.int,.str t.name,.slice 4 .no (t.args.map T.e)]=(ao.mk v t).e:=rfl
@[simp]theorem arQ(v:Int):aj.agg [.int .i64 v,.int .i64 0,.int .i64 0,.str [],.slice 4 .no []]=(ao.mk v .nil).e:=rfl
@[simp]theorem arU(v n:Int):aj.agg [.int .i64 v,.int .i64 1,.int .i64 n,.str [],.slice 4 .no []]=(ao.mk v (.var n)).e:=rfl
@[simp]theorem arT(v:Int)(s:List dw):aj.agg [.int .i64 v,.int .i64 2,.int .i64 0,.str s,.slice 4 .no []]=(ao.mk v (.sym s)).e:=rfl
@[simp]theorem arR(v n:Int):aj.agg [.int .i64 v,.int .i64 3,.int .i64 n,.str [],.slice 4 .no []]=(ao.mk v (.num n)).e:=rfl
@[simp]theorem arS(v:Int)(a b:T):aj.agg [.int .i64 v,.int .i64 4,.int .i64 0,.str [],.slice 4 .no [a.e,b.e]]=(ao.mk v (.pair a b)).e:=rfl
@[simp]theorem at2(S:aI->Prop)(b:ao):aB S b.e=True:=by simp[ao.e,-Qs]
@[simp]theorem avN(b:ao):dz b.e=b.e:=by simp[ao.e,-Qs]
theorem Wy(S:aI->Prop):∀l:List ao,aC S (l.map ao.e)
 |[]=>by simp[aC]
 |x::xs=>by simp[aC,Wy S xs]
@[simp]theorem atQ(S:aI->Prop)(l:List ao):aC S (l.map ao.e)=True:=eq_true (Wy S l)
@[simp]theorem ZF:∀l:List ao,c6 (l.map ao.e)=l.map ao.e
 |[]=>rfl
 |x::xs=>by simp[c6,ZF xs]
@[simp]theorem avm(b:ao):eT b.e=true:=rfl
@[simp]theorem asb(b:ao):cells b.e=[.int .i64 b.v,.int .i64 b.t.kind,.int .i64 b.t.int,.str b.t.name,.slice 4 .no (b.t.args.map T.e)]:=rfl
@[simp]theorem atz(b:ao):Pv.isAgg 5 b.e:=⟨_,rfl,rfl⟩
@[simp]theorem asS(off:Nat)(gG:Bool)(sz:Nat)(b:ao):vb off gG sz b.e=if gG then some (off+sz<=5,.agg (([.int .i64 b.v,.int .i64 b.t.kind,.int .i64 b.t.int,.str b.t.name,.slice 4 .no (b.t.args.map T.e)].drop off).take sz))else(([.int .i64 b.v,.int .i64 b.t.kind,.int .i64 b.t.int,.str b.t.name,.slice 4 .no (b.t.args.map T.e)]:List aj)[off]?).map fun p=>(True,p):=rfl
@[simp]theorem asK(off:Nat)(gG:Bool)(sz:Nat)(b:ao):sd off gG sz (.eptr b.e)=if gG then some (off+sz<=5,.eptr (.agg (([.int .i64 b.v,.int .i64 b.t.kind,.int .i64 b.t.int,.str b.t.name,.slice 4 .no (b.t.args.map T.e)].drop off).take sz)))else(([.int .i64 b.v,.int .i64 b.t.kind,.int .i64 b.t.int,.str b.t.name,.slice 4 .no (b.t.args.map T.e)]:List aj)[off]?).map fun p=>(eT p=true/\cells p=[p],.eptr p):=rfl
def T.occ(v:Int):T->Bool
 | .var n=>n==v
 | .pair a b=>a.occ v||b.occ v
 |_=>false
def eN(a b:Int):Int:=if a<b then-1 else if b<a then 1 else 0
def k0(a b:List dw):Int:=if a=b then 0 else if hP a b then-1 else 1
def eK:T->T->Int
 | .pair a b,.pair c d=>if eK a c=0 then eK b d else eK a c
 |x,y=>if x.kind≠y.kind then eN x.kind y.kind else if x.int≠y.int then eN x.int y.int else k0 x.name y.name
structure c3 where
 v:Int
 t:bL
def c3.e(b:c3):aj:= .agg [.int .i64 b.v,.int .i64 b.t.kind,.int .i64 b.t.num,.str b.t.name,.slice 4 .no (b.t.args.map enc)]
def ao.b(b:ao):c3:=⟨b.v,b.t.tm⟩
theorem ao.b_e(b:ao):b.b.e=b.e:=by obtain⟨v,t⟩:=b;cases t<;>simp only[ao.b,c3.e,ao.e,T.tm,bL.kind,bL.num,bL.name,bL.args,r5,ajX,aj2,aj1,ajY,ajZ,ajq,aju,ajt,ajr,ajs,akZ,ak4,ak3,ak0,ak1,abP,abT,abS,abQ,abR,gM,mN]
@[simp]theorem c3.eta(b:c3):c3.mk b.v b.t=b:=rfl
@[simp]theorem Qt(v:Int)(t:bL):aj.agg [.int .i64 v,.int .i64 t.kind,.int .i64 t.num,.str t.name,.slice 4 .no (t.args.map enc)]=(c3.mk v t).e:=rfl
@[simp]theorem at4(S:aI->Prop)(b:c3):aB S b.e=True:=by simp[c3.e,-Qt]
@[simp]theorem avP(b:c3):dz b.e=b.e:=by simp[c3.e,-Qt]
theorem WA(S:aI->Prop):∀l:List c3,aC S (l.map c3.e)
 |[]=>by simp[aC]
 |x::xs=>by simp[aC,WA S xs]
@[simp]theorem atT(S:aI->Prop)(l:List c3):aC S (l.map c3.e)=True:=eq_true (WA S l)
@[simp]theorem apJ:∀l:List c3,c6 (l.map c3.e)=l.map c3.e
 |[]=>rfl
 |x::xs=>by simp[c6,apJ xs]
@[simp]theorem avp(b:c3):eT b.e=true:=rfl
@[simp]theorem asf(b:c3):cells b.e=[.int .i64 b.v,.int .i64 b.t.kind,.int .i64 b.t.num,.str b.t.name,.slice 4 .no (b.t.args.map enc)]:=rfl
@[simp]theorem atB(b:c3):Pv.isAgg 5 b.e:=⟨_,rfl,rfl⟩
@[simp]theorem asT(off:Nat)(gG:Bool)(sz:Nat)(b:c3):vb off gG sz b.e=if gG then some (off+sz<=5,.agg (([.int .i64 b.v,.int .i64 b.t.kind,.int .i64 b.t.num,.str b.t.name,.slice 4 .no (b.t.args.map enc)].drop off).take sz))else(([.int .i64 b.v,.int .i64 b.t.kind,.int .i64 b.t.num,.str b.t.name,.slice 4 .no (b.t.args.map enc)]:List aj)[off]?).map fun p=>(True,p):=rfl
@[simp]theorem asL(off:Nat)(gG:Bool)(sz:Nat)(b:c3):sd off gG sz (.eptr b.e)=if gG then some (off+sz<=5,.eptr (.agg (([.int .i64 b.v,.int .i64 b.t.kind,.int .i64 b.t.num,.str b.t.name,.slice 4 .no (b.t.args.map enc)].drop off).take sz)))else(([.int .i64 b.v,.int .i64 b.t.kind,.int .i64 b.t.num,.str b.t.name,.slice 4 .no (b.t.args.map enc)]:List aj)[off]?).map fun p=>(eT p=true/\cells p=[p],.eptr p):=rfl
def BK(l:List c3)(i:Nat):Prop:= ∀b,l[i]? =some b->(0<=b.v/\b.v<=100000)/\(∀c,0<i->l[i-1]? =some c->c.v<b.v)/\b.t.fits=true
def Aa(l:List c3):Prop:=l.length<=400/\∀i,i<l.length->BK l i
theorem rD:∀a b:T,eK a b=0↔a=b
 | .pair a b,.pair c d=>by
  simp only[eK,T.pair.injEq];split
  ·rename_i h;rw[rD b d,<-rD a c];simp[h]
  ·rename_i h;simp[h,<-rD a c]
 | .nil,y=>by cases y<;>simp[eK,eN,k0]
 | .var n,y=>by cases y<;>simp[eK,eN,k0]<;>omega
 | .sym s,y=>by cases y<;>simp[eK,eN,k0];rename_i ah;by_cases h:s=ah<;>simp[h];by_cases U:hP s ah=true<;>simp[U]
 | .num n,y=>by cases y<;>simp[eK,eN,k0]<;>omega
 | .pair a b,.nil| .pair a b,.var _| .pair a b,.sym _| .pair a b,.num _=>by simp[eK,eN]
def T.sub(f:Int->Option T):T->T
 | .var n=>match f n with|some x=>x|none=>.var n
 | .pair a b=>.pair (a.sub f) (b.sub f)
 |t=>t
def lM(f:Int->Int):T->Int
 | .var n=>if 5001<f n then 5001 else f n
 | .pair a b=>if 5000<lM f a then lM f a else if 5001<1+lM f a+lM f b then 5001 else 1+lM f a+lM f b
 |_=>1
theorem I0(f:Int->Int)(aK:∀v,-1<=f v):∀t,-1<=lM f t/\lM f t<=5001
 | .var n=>by have:=aK n;simp only[lM];split<;>omega
 | .pair a b=>by have:=I0 f aK a;have:=I0 f aK b;simp only[lM];split<;>(try split)<;>omega
 | .nil| .sym _| .num _=>by simp[lM]
def cS(l:List ao)(v:Int):Option T:=(l.find? fun b=>b.v==v).map (·.t)
end
section
open Go
structure jX {α:Type} (c:α->α->Int):Prop where
 neg:∀a b,c b a= -c a b
 tr:∀a b d,c a b<=0->c b d<=0->c a d<=0
 zero:∀a b,c a b=0↔a=b
section
variable {α:Type} {c:α->α->Int}
def h5(c:α->α->Int)(a b:α):Bool:=decide (c a b<0)
theorem jX.ltOk(h:jX c):q2 (h5 c):=by
 refine⟨fun x y ib=>?_,fun x y z J U=>?_⟩
 ·simp only[h5,eW,fC]at ib⊢;rw[h.neg x y];omega
 ·simp only[h5,fC]at J U⊢;have ak:=h.neg x y;have aD:=h.neg y z;have bh:=h.neg x z;have:=h.tr x y z Ω Ω;omega
theorem jX.refl(h:jX c)(a:α):c a a=0:=(h.zero a a).2 rfl
theorem jX.ltr(h:jX c){a b d:α}(J:c a b<0)(U:c b d<=0):c a d<0:=by
 have ar:=h.tr a b d Ω U;rcases(by omega:c a d<0\/c a d=0)with a6|a6
 ·exact a6
 ·obtain rfl:=(h.zero a d).1 a6;have:=h.neg a b;omega
def pG(c:α->α->Int)(l:List α):List α:=l.mergeSort fun x y=>decide (c x y<=0)
theorem zL(c:α->α->Int)(l:List α):(pG c l).Perm l:=List.mergeSort_perm l _
theorem Pc(h:jX c)(l:List α):(pG c l).Pairwise fun x y=>c x y<=0:=by have:=List.pairwise_mergeSort (le:=fun x y=>decide (c x y<=0)) (fun a b d J U=>by simp at J U⊢;exact h.tr a b d J U) (fun a b=>by simp;have:=h.neg a b;omega) l;exact this.imp Ψ
theorem ZC(h:jX c){l a1:List α}(bF:a1.Perm l)(ag:a1.Pairwise fun x y=>h5 c y x=false):a1=pG c l:=by refine P8 (le:=fun x y=>c x y<=0) (fun x y _ _ J U=>(h.zero x y).1 (by have:=h.neg x y;omega)) (ag.imp fun{x y} ib=>?_) (Pc h l) (bF.trans (zL c l).symm);simp only[h5,fC]at ib;have:=h.neg x y;omega
def cQ[DecidableEq α](p:Option α):List α->List α
 |[]=>[]
 |x::r=>if p=some x then cQ (some x) r else x::cQ (some x) r
def asc[DecidableEq α](c:α->α->Int)(l:List α):List α:=cQ none (pG c l)
def h7(c:α->α->Int)(l:List α):Prop:=l.Pairwise fun x y=>c x y<0
variable [DecidableEq α]
theorem KC:∀(l:List α) (p:Option α) (x:α),x∈cQ p l->x∈l
 |[],_,_,h=>by simp[cQ]at h
 |y::r,p,x,h=>by
  simp only[cQ]at h;split at h
  ·exact oY _ (KC r _ x h)
  ·rcases fT.1 h with rfl|h
   ·simp
   ·exact oY _ (KC r _ x h)
theorem Ni:∀(l:List α) (p:Option α) (x:α),x∈l->x∈cQ p l\/p=some x
 |y::r,p,x,h=>by
  simp only[cQ];rcases fT.1 h with rfl|h
  ·split
   ·rename_i U;exact .inr U
   ·simp
  ·split
   ·rename_i U;rcases Ni r (some y) x h with ar|ar
    ·exact .inl ar
    ·cases ar;exact .inr U
   ·rcases Ni r (some y) x h with ar|ar
    ·exact .inl (oY _ ar)
    ·cases ar;simp
theorem Ty(aw:jX c):∀(l:List α) (p:Option α),l.Pairwise (fun x y=>c x y<=0)->(∀y,p=some y->∀x∈l,c y x<=0)->h7 c (cQ p l)/\∀y,p=some y->∀x∈cQ p l,c y x<0
 |[],p,_,_=>⟨Jx,fun y _ x ab=>by simp[cQ]at ab⟩
 |z::r,p,h,bF=>by
  obtain⟨J,U⟩:=nz.1 h;have bR:=Ty aw r (some z) U (fun y aL x ab=>by cases aL;exact J x ab);simp only[cQ];split
  ·rename_i ar;subst ar;exact bR
  ·rename_i ar;refine⟨nz.2 ⟨fun x ab=>bR.2 z rfl x ab,bR.1⟩,fun y aL x ab=>?_⟩;subst aL;have sG:c y z<0:=by
    have a6:=bF y rfl z Ψ;rcases(by omega:c y z<0\/c y z=0)with b0|b0
    ·exact b0
    ·exact absurd (fh some ((aw.zero y z).1 b0)) ar
   rcases fT.1 ab with rfl|ab
   ·exact sG
   ·exact aw.ltr sG (by have:=bR.2 z rfl x ab;omega)
theorem JY(aw:jX c)(l:List α):h7 c (asc c l):=(Ty aw _ none (Pc aw l) (fun y h=>by cases h)).1
theorem Xe(l:List α)(x:α):x∈asc c l↔x∈l:=by
 constructor
 ·intro h;exact(zL c l).mem_iff.1 (KC _ _ _ h)
 ·intro h;rcases Ni (pG c l) none x ((zL c l).mem_iff.2 h)with h|h
  ·exact h
  ·cases h
omit [DecidableEq α]in
theorem h7.ext(aw:jX c){l a1:List α}(h:h7 c l)(cn:h7 c a1)(hm:∀x,x∈l↔x∈a1):l=a1:=by
 have aR:∀{l:List α},h7 c l->l.Nodup:=fun{l} h=>h.imp fun{a b} h e=>by subst e;have:=aw.refl a;omega
 refine P8 (le:=fun x y=>c x y<=0) (fun x y _ _ J U=>(aw.zero x y).1 (by have:=aw.neg x y;omega)) (h.imp fun h=>Ω) (cn.imp fun h=>Ω) ?_;exact(List.perm_ext_iff_of_nodup (aR h) (aR cn)).2 hm
omit [DecidableEq α]in
theorem h7.nodup(aw:jX c){l:List α}(h:h7 c l):l.Nodup:=h.imp fun{a b} h e=>by subst e;have:=aw.refl a;omega
end
theorem J3:∀a b:List dw,hP a b=true->hP b a=false
 |_,[],h=>by simp[hP]at h
 |[],_::_,_=>by simp[hP]
 |x::a,y::b,h=>by
  simp only[hP,lu,eW,cy,eb]at h;simp only[hP,Bool.or_eq_false_iff,fC,Bool.and_eq_false_iff];rcases h with h|⟨rfl,h⟩
  ·refine⟨fun U=>?_,.inl ?_⟩
   ·rw[UInt8.lt_iff_toNat_lt]at h U;omega
   ·simp;intro e;subst e;rw[UInt8.lt_iff_toNat_lt]at h;omega
  ·exact⟨fun U=>by rw[UInt8.lt_iff_toNat_lt]at U;omega,.inr (J3 a b h)⟩
theorem QO:∀a b:List dw,a≠b->hP a b=false->hP b a=true
 |[],[],h,_=>absurd rfl h
 |x::a,[],_,_=>by simp[hP]
 |[],_::_,_,h=>by simp[hP]at h
 |x::a,y::b,cM,h=>by
  simp only[hP,Bool.or_eq_false_iff,fC,Bool.and_eq_false_iff]at h;simp only[hP,lu,eW,cy,eb];by_cases e:x=y
  ·subst e;right;refine⟨rfl,QO a b (fun e=>cM (by rw[e])) ?_⟩;rcases h.2 with U|U
   ·simp at U
   ·exact U
  ·left;have J:=h.1;rw[UInt8.lt_iff_toNat_lt]at J⊢;have:x.toNat≠y.toNat:=fun h=>e (UInt8.toNat_inj.1 h);omega
theorem QN:∀a b d:List dw,hP a b=true->hP b d=true->hP a d=true
 |_,[],_,h,_=>by simp[hP]at h
 |_,_::_,[],_,h=>by simp[hP]at h
 |[],_::_,_::_,_,_=>by simp[hP]
 |x::a,y::b,z::d,J,U=>by
  simp only[hP,lu,eW,cy,eb,UInt8.lt_iff_toNat_lt]at J U⊢;rcases J with J|⟨rfl,J⟩<;>rcases U with U|⟨rfl,U⟩
  ·left;omega
  ·left;exact J
  ·left;exact U
  ·exact .inr ⟨rfl,QN a b d J U⟩
theorem kG:jX eN:=by
 refine⟨fun a b=>?_,fun a b d=>?_,fun a b=>?_⟩
 ·simp only[eN];repeat' split
  all_goals omega
 ·simp only[eN];repeat' split
  all_goals omega
 ·simp only[eN];repeat' split
  all_goals omega
theorem Eu:jX k0:=by
 have ax:∀a b,k0 b a= -k0 a b:=fun a b=>by
  simp only[k0];by_cases e:a=b
  ·subst e;simp
  ·rw[if_neg e,if_neg (lv e)];cases h:hP a b with
   |true=>simp[J3 a b h]
   |false=>simp[QO a b e h]
 refine⟨ax,fun a b d J U=>?_,fun a b=>?_⟩
 ·simp only[k0]at J U⊢;by_cases ak:a=b
  ·subst ak;exact U
  ·by_cases aD:b=d
   ·subst aD;exact J
   ·rw[if_neg ak]at J;rw[if_neg aD]at U;have g1:hP a b=true:=by cases h:hP a b<;>simp[h]at J⊢
    have g2:hP b d=true:=by cases h:hP b d<;>simp[h]at U⊢
    rw[QN a b d g1 g2];split<;>simp
 ·simp only[k0];by_cases e:a=b
  ·simp[e]
  ·rw[if_neg e];simp[e];split<;>omega
theorem sV{a b:T}(h:a.kind≠b.kind):eK a b=eN a.kind b.kind:=by cases a<;>cases b<;>simp at h<;>simp[eK]
theorem H5:∀a b:T,eK b a= -eK a b
 | .pair a b,.pair c d=>by
  simp only[eK];have J:=H5 a c;have U:=H5 b d;by_cases e:eK a c=0
  ·rw[if_pos e,if_pos Ω,U]
  ·rw[if_neg e,if_neg Ω,J]
 | .nil,y=>by
  by_cases ad:T.nil.kind=y.kind
  ·cases y<;>simp at ad;simp[eK,k0]
  ·rw[sV ad,sV (lv ad),kG.neg]
 | .var n,y=>by
  by_cases ad:(T.var n).kind=y.kind
  ·cases y<;>simp at ad;rename_i m;by_cases e:n=m
   ·subst e;simp[eK,k0]
   ·simp[eK,e,lv e,kG.neg n m]
  ·rw[sV ad,sV (lv ad),kG.neg]
 | .sym s,y=>by
  by_cases ad:(T.sym s).kind=y.kind
  ·cases y<;>simp at ad;rename_i m;simp[eK,Eu.neg s m]
  ·rw[sV ad,sV (lv ad),kG.neg]
 | .num n,y=>by
  by_cases ad:(T.num n).kind=y.kind
  ·cases y<;>simp at ad;rename_i m;by_cases e:n=m
   ·subst e;simp[eK,k0]
   ·simp[eK,e,lv e,kG.neg n m]
  ·rw[sV ad,sV (lv ad),kG.neg]
 | .pair a b,.nil| .pair a b,.var _| .pair a b,.sym _| .pair a b,.num _=>by simp[eK,eN]
theorem H4{a b:T}(h:eK a b<=0):a.kind<=b.kind:=by
 by_cases ad:a.kind=b.kind
 ·omega
 ·rw[sV ad]at h;simp only[eN]at h;repeat' split at h
  all_goals omega
theorem X2(n m:Int):eK (.var n) (.var m)=eN n m:=by
 simp only[eK,T.kind,T.int,T.name,k0];by_cases e:n=m
 ·subst e;simp[eN]
 ·simp[e]
theorem X1(n m:Int):eK (.num n) (.num m)=eN n m:=by
 simp only[eK,T.kind,T.int,T.name,k0];by_cases e:n=m
 ·subst e;simp[eN]
 ·simp[e]
theorem anl(n m:List dw):eK (.sym n) (.sym m)=k0 n m:=by simp[eK]
theorem H6(a b d:T)(bD:a.kind≠4)(J:eK a b<=0)(U:eK b d<=0):eK a d<=0:=by
 have aS:=H4 J;have be:=H4 U;by_cases ad:a.kind=d.kind
 ·cases a<;>cases d<;>simp at ad bD;all_goals(cases b<;>simp at aS be)
  ·simp[eK,k0]
  ·rw[X2]at J U⊢;exact kG.tr _ _ _ J U
  ·rw[anl]at J U⊢;exact Eu.tr _ _ _ J U
  ·rw[X1]at J U⊢;exact kG.tr _ _ _ J U
 ·rw[sV ad];simp only[eN];repeat' split
  all_goals omega
theorem anm:∀a b d:T,eK a b<=0->eK b d<=0->eK a d<=0:=by
 intro a;induction a with
 |pair bH a2 Hd He=>
  intro b d J U;have aS:=H4 J;have be:=H4 U;cases b<;>simp at aS;all_goals(cases d<;>simp at be)
  rename_i bV b7 d1 d2;simp only[eK]at J U⊢;by_cases ak:eK bH bV=0
  ·obtain rfl:=(rD bH bV).1 ak;rw[if_pos ak]at J;by_cases aD:eK bH d1=0
   ·rw[if_pos aD]at U⊢;exact He b7 d2 J U
   ·rw[if_neg aD]at U⊢;exact U
  ·rw[if_neg ak]at J;by_cases aD:eK bV d1=0
   ·obtain rfl:=(rD bV d1).1 aD;rw[if_neg ak];exact J
   ·rw[if_neg aD]at U;have ar:=Hd bV d1 J U;by_cases bh:eK bH d1=0
    ·obtain rfl:=(rD bH d1).1 bh;have:=H5 bH bV;omega
    ·rw[if_neg bh];exact ar
 |nil=>exact fun b d=>H6 _ b d Ψ
 |var n=>exact fun b d=>H6 _ b d Ψ
 |sym n=>exact fun b d=>H6 _ b d Ψ
 |num n=>exact fun b d=>H6 _ b d Ψ
theorem N2:jX eK:=⟨H5,anm,rD⟩
end
section
open Go
section
variable {α:Type} {c:α->α->Int}
def kn(c:α->α->Int):List α->List α->Int
 |[],[]=>0
 |[],_::_=> -1
 |_::_,[]=>1
 |x::xs,y::ys=>if c x y=0 then kn c xs ys else c x y
theorem WX(h:jX c):∀a b:List α,kn c b a= -kn c a b
 |[],[]=>rfl
 |[],_::_=>rfl
 |_::_,[]=>rfl
 |x::xs,y::ys=>by
  simp only[kn];have J:=h.neg x y;by_cases e:c x y=0
  ·rw[if_pos e,if_pos Ω,WX h xs ys]
  ·rw[if_neg e,if_neg Ω,J]
theorem WZ(h:jX c):∀a b:List α,kn c a b=0↔a=b
 |[],[]=>by simp[kn]
 |[],_::_=>by simp[kn]
 |_::_,[]=>by simp[kn]
 |x::xs,y::ys=>by
  simp only[kn,oW];by_cases e:c x y=0
  ·rw[if_pos e,WZ h xs ys];simp[(h.zero x y).1 e]
  ·rw[if_neg e];exact⟨fun cn=>absurd cn e,fun cn=>absurd ((h.zero x y).2 cn.1) e⟩
theorem WY(h:jX c):∀a b d:List α,kn c a b<=0->kn c b d<=0->kn c a d<=0
 |[],_,[],_,_=>by simp[kn]
 |[],_,_::_,_,_=>by simp[kn]
 |_::_,[],_,J,_=>by simp[kn]at J
 |_::_,_::_,[],_,U=>by simp[kn]at U
 |x::xs,y::ys,z::cP,J,U=>by
  simp only[kn]at J U⊢;by_cases ak:c x y=0
  ·have:=(h.zero x y).1 ak;subst this;rw[if_pos ak]at J;by_cases aD:c x z=0
   ·rw[if_pos aD]at U⊢;exact WY h xs ys cP J U
   ·rw[if_neg aD]at U⊢;exact U
  ·rw[if_neg ak]at J;have bE:c x y<0:=Ω
   by_cases aD:c y z=0
   ·have:=(h.zero y z).1 aD;subst this;rw[if_neg ak];omega
   ·rw[if_neg aD]at U;have:=h.ltr bE U;rw[if_neg Ω];omega
theorem akc(h:jX c):jX (kn c):=⟨WX h,WY h,WZ h⟩
end
def zs(x y:ao):Int:=if eN x.v y.v=0 then eK x.t y.t else eN x.v y.v
theorem anj:jX zs:=by
 refine⟨fun x y=>?_,fun x y z J U=>?_,fun x y=>?_⟩
 ·unfold zs;have:=kG.neg x.v y.v;have:=N2.neg x.t y.t;by_cases e:eN x.v y.v=0
  ·rw[if_pos e,if_pos Ω];omega
  ·rw[if_neg e,if_neg Ω];omega
 ·unfold zs at J U⊢;by_cases ak:eN x.v y.v=0
  ·rw[if_pos ak]at J;rw[(kG.zero _ _).1 ak];by_cases aD:eN y.v z.v=0
   ·rw[if_pos aD]at U⊢;exact N2.tr _ _ _ J U
   ·rw[if_neg aD]at U⊢;exact U
  ·rw[if_neg ak]at J;have bE:eN x.v y.v<0:=Ω
   by_cases aD:eN y.v z.v=0
   ·rw[<-(kG.zero _ _).1 aD,if_neg ak];exact J
   ·rw[if_neg aD]at U;have:=kG.ltr bE U;rw[if_neg Ω];omega
 ·unfold zs;by_cases e:eN x.v y.v=0
  ·rw[if_pos e,N2.zero];have:=(kG.zero _ _).1 e;cases x;cases y;simp_all
  ·rw[if_neg e];exact⟨fun h=>absurd h e,fun h=>by rw[h]at e;exact absurd (kG.refl _) e⟩
def eM:List ao->List ao->Int:=kn zs
theorem mh:jX eM:=akc anj
end
section
open Go
def T.ap(aQ:Int->T):T->T
 | .var n=>aQ n
 | .pair a b=>.pair (a.ap aQ) (b.ap aQ)
 |t=>t
theorem CH(f g:Int->T)(t:T):(t.ap f).ap g=t.ap fun v=>(f v).ap g:=by
 induction t with
 |pair a b dG dK=>simp[T.ap,dG,dK]
 |_=>simp[T.ap]
theorem uU{f g:Int->T}{t:T}(h:∀v,t.occ v=true->f v=g v):t.ap f=t.ap g:=by
 induction t with
 |var n=>exact h n (by simp[T.occ])
 |pair a b dG dK=>simp only[T.ap];rw[dG fun v aF=>h v (by simp[T.occ,aF]),dK fun v aF=>h v (by simp[T.occ,aF])]
 |_=>rfl
theorem abN(t:T):t.ap .var=t:=by induction t<;>simp_all[T.ap]
theorem QA{f:Int->T}{t:T}(h:∀v,t.occ v=true->f v= .var v):t.ap f=t:=(uU h).trans (abN t)
theorem ZJ(f:Int->Option T)(t:T):t.sub f=t.ap fun v=>(f v).getD (.var v):=by
 induction t with
 |var n=>simp only[T.sub,T.ap];cases f n<;>rfl
 |pair a b dG dK=>simp[T.sub,T.ap,dG,dK]
 |_=>rfl
theorem abM(aQ:Int->T)(t:T):t.size<=(t.ap aQ).size:=by
 induction t with
 |var n=>exact T.size_pos _
 |pair a b dG dK=>simp only[T.ap,T.size];omega
 |_=>exact fc _
theorem BJ(aQ:Int->T){v:Int}{t:T}(h:t.occ v=true):(aQ v).size<=(t.ap aQ).size/\(t.kind≠1->(aQ v).size<(t.ap aQ).size):=by
 induction t with
 |var n=>simp[T.occ]at h;subst h;simp[T.ap,T.kind]
 |pair a b dG dK=>
  simp only[T.occ,lu]at h;simp only[T.ap,T.size];rcases h with h|h
  ·have:=(dG h).1;exact⟨Ω,fun _=>Ω⟩
  ·have:=(dK h).1;exact⟨Ω,fun _=>Ω⟩
 |_=>simp[T.occ]at h
theorem BI{aQ:Int->T}{v:Int}{t:T}:(t.ap aQ).occ v=true↔∃w,t.occ w=true/\(aQ w).occ v=true:=by
 induction t with
 |var n=>simp[T.ap,T.occ]
 |pair a b dG dK=>
  simp only[T.ap,T.occ,lu,dG,dK];constructor
  ·rintro(⟨w,J,U⟩|⟨w,J,U⟩)
   ·exact⟨w,.inl J,U⟩
   ·exact⟨w,.inr J,U⟩
  ·rintro⟨w,J|J,U⟩
   ·exact .inl ⟨w,J,U⟩
   ·exact .inr ⟨w,J,U⟩
 |_=>simp[T.ap,T.occ]
def bp(s:List ao)(v:Int):T:=(cS s v).getD (.var v)
abbrev hg(s:List ao):Prop:=s.Pairwise fun x y=>x.v<y.v
def hq(s:List ao)(aQ:Int->T):Prop:= ∀b∈s,aQ b.v=b.t.ap aQ
structure fU (s:List ao):Prop where
 asc:hg s
 free:∀b∈s,∀w,b.t.occ w=true->cS s w=none
 ori:∀b∈s,∀w,b.t= .var w->w<b.v
theorem uX(b:ao)(s:List ao)(v:Int):cS (b::s) v=if b.v=v then some b.t else cS s v:=by
 unfold cS;by_cases h:b.v=v
 ·simp[h]
 ·have:(b.v==v)=false:=by simp[h]
  simp[this,h,List.find?_cons]
theorem j2{v:Int}{t:T}:∀{s:List ao},cS s v=some t->(⟨v,t⟩:ao)∈s
 |[],h=>by simp[cS]at h
 |b::s,h=>by
  rw[uX]at h;split at h
  ·rename_i e;cases h;subst e;simp
  ·exact oY _ (j2 h)
theorem nF{v:Int}:∀{s:List ao},cS s v=none↔∀b∈s,b.v≠v
 |[]=>by simp[cS]
 |b::s=>by
  rw[uX];by_cases h:b.v=v
  ·simp[h]
  ·simp[h,nF (s:=s)]
theorem pY{b:ao}:∀{s:List ao},hg s->b∈s->cS s b.v=some b.t
 |[],_,h=>by simp at h
 |c::s,bD,h=>by
  rw[uX];have nL:=nz.1 bD;rcases fT.1 h with rfl|h
  ·simp
  ·have:=nL.1 b h;rw[if_neg Ω];exact pY nL.2 h
theorem FI:∀{s ah:List ao},hg s->hg ah->(∀v,cS s v=cS ah v)->s=ah
 |[],[],_,_,_=>rfl
 |[],c::ah,_,_,h=>by have:=h c.v;rw[uX]at this;simp[cS]at this
 |c::s,[],_,_,h=>by have:=h c.v;rw[uX]at this;simp[cS]at this
 |b::s,c::ah,bD,af,h=>by
  have gb:=nz.1 af;have nL:=nz.1 bD;have J:(⟨b.v,b.t⟩:ao)∈c::ah:=j2 (by rw[<-h b.v,uX];simp);have U:(⟨c.v,c.t⟩:ao)∈b::s:=j2 (by rw[h c.v,uX];simp);have UT:b=c:=by
   rcases fT.1 J with e|e
   ·exact e
   ·rcases fT.1 U with aD|aD
    ·exact aD.symm
    ·have ba:=gb.1 _ e;have bo:=nL.1 _ aD;simp only at ba bo;omega
  subst UT;rw[FI nL.2 gb.2 fun v=>?_];have:=h v;rw[uX,uX]at this;by_cases e:b.v=v
  ·have lr:cS s v=none:=nF.2 fun x ab=>by have:=nL.1 x ab;omega
   have z2:cS ah v=none:=nF.2 fun x ab=>by have:=gb.1 x ab;omega
   rw[lr,z2]
  ·simpa[e]using this
theorem apx{s:List ao}(bD:hg s){aQ:Int->T}:hq s aQ↔∀v,aQ v=(bp s v).ap aQ:=by
 constructor
 ·intro h v;unfold bp;cases e:cS s v with
  |none=>rfl
  |some t=>exact h _ (j2 e)
 ·intro h b af;have:=h b.v;rw[bp,pY bD af]at this;exact this
theorem O9{s:List ao}{aQ:Int->T}(h:hq s aQ)(t:T):t.ap aQ=(t.ap (bp s)).ap aQ:=by
 rw[CH];refine uU fun v _=>?_;unfold bp;cases e:cS s v with
 |none=>rfl
 |some t=>exact h _ (j2 e)
theorem apc{s:List ao}(ag:fU s){t:T}(h:∀w,t.occ w=true->cS s w=none):t.ap (bp s)=t:=QA fun v aF=>by simp[bp,h v aF]
theorem zK{s:List ao}(ag:fU s):hq s (bp s):=fun b af=>by rw[apc ag (ag.free b af),bp,pY ag.asc af];rfl
theorem Nu{s ah:List ao}(ag:fU s)(ep:fU ah)(h:∀aQ,hq ah aQ->hq s aQ){v:Int}(aF:cS ah v=none):cS s v=none:=by
 cases e:cS s v with
 |none=>rfl
 |some t=>
  have J:=h _ (zK ep) _ (j2 e);simp only[bp,aF,kv]at J;cases t with
  |var w=>
   have U:w<v:=ag.ori _ (j2 e) w rfl;simp only[T.ap,bp]at J;cases bh:cS ah w with
   |none=>rw[bh]at J;simp at J;omega
   |some u=>rw[bh]at J;simp only[jM]at J;subst J;have:=ep.ori _ (j2 bh) v rfl;simp only at this;omega
  |_=>simp[T.ap]at J
theorem akR{s ah:List ao}(ep:fU ah)(h:∀aQ,hq ah aQ->hq s aQ){v:Int}:(bp s v).size<=(bp ah v).size:=by
 have J:=h _ (zK ep);unfold bp;cases e:cS s v with
 |none=>exact T.size_pos _
 |some t=>have:=J _ (j2 e);show t.size<=(bp ah v).size;simp only at this;rw[this];exact abM _ _
theorem apA{s ah:List ao}(ag:fU s)(ep:fU ah)(h:∀aQ,hq s aQ↔hq ah aQ):s=ah:=by
 refine FI ag.asc ep.asc fun v=>?_;have d1:∀w,cS s w=none↔cS ah w=none:=fun w=>⟨Nu ep ag (fun aQ=>(h aQ).1),Nu ag ep fun aQ=>(h aQ).2⟩;cases e:cS s v with
 |none=>exact((d1 v).1 e).symm
 |some t=>
  cases fj:cS ah v with
  |none=>rw[(d1 v).2 fj]at e;cases e
  |some da=>have J:=(h _).2 (zK ep) _ (j2 e);simp only[bp,fj,jM]at J;rw[J];exact fh some (QA fun w hw=>by have:=(d1 w).1 (ag.free _ (j2 e) w hw);simp[bp,this]).symm
def hR(s:List ao):Prop:=s.length<=400/\∀b∈s,b.t.size<=5000
theorem QC{s:List ao}(h:hg s):(s.map (·.v)).Nodup:=by rw[List.nodup_iff_pairwise_ne,List.pairwise_map];exact h.imp fun h=>Ω
theorem T8{s ah:List ao}(ag:fU s)(ep:fU ah)(h:∀aQ,hq ah aQ->hq s aQ)(aK:hR ah):hR s:=by
 have aR:∀x∈s.map (·.v),x∈ah.map (·.v):=by
  intro x ab;obtain⟨b,af,rfl⟩:=iu.1 ab;cases e:cS ah b.v with
  |none=>have:=Nu ag ep h e;rw[pY ag.asc af]at this;cases this
  |some t=>exact iu.2 ⟨_,j2 e,rfl⟩
 have au:=P7 (QC ag.asc) aR;simp only[oh]at au;refine⟨kJ au aK.1,fun b af=>?_⟩;have J:=akR (s:=s) ep h (v:=b.v);rw[bp,pY ag.asc af]at J;obtain⟨c,aw,e⟩:=iu.1 (aR b.v (iu.2 ⟨b,af,rfl⟩));have U:=aK.2 c aw;rw[bp,<-e,pY ep.asc aw]at J;exact kJ J U
def j0(E:List (T×T))(aQ:Int->T):Prop:= ∀e∈E,e.1.ap aQ=e.2.ap aQ
theorem E1(aQ:Int->T):j0 [] aQ:=fun _ h=>by simp at h
theorem rI{e:T×T}{E:List (T×T)}{aQ:Int->T}:j0 (e::E) aQ↔e.1.ap aQ=e.2.ap aQ/\j0 E aQ:=by simp[j0]
theorem E0{E x1:List (T×T)}{aQ:Int->T}:j0 (E++x1) aQ↔j0 E aQ/\j0 x1 aQ:=by simp only[j0,kt];exact⟨fun h=>⟨fun e he=>h e (.inl he),fun e he=>h e (.inr he)⟩,fun h e he=>he.elim (h.1 e) (h.2 e)⟩
def ji(s:List ao)(E:List (T×T)):Option (List ao)->Prop
 |some ah=>(fU ah/\hR ah)/\∀aQ,hq ah aQ↔hq s aQ/\j0 E aQ
 |none=> ∀ah,fU ah->(∀aQ,hq ah aQ->hq s aQ/\j0 E aQ)->¬hR ah
theorem abC{s:List ao}{E:List (T×T)}:∀{o o':Option (List ao)},ji s E o->ji s E o'->o=o'
 |none,none,_,_=>rfl
 |some s1,none,h,cn=>absurd h.1.2 (cn s1 h.1.1 fun aQ=>(h.2 aQ).1)
 |none,some s1,cn,h=>absurd h.1.2 (cn s1 h.1.1 fun aQ=>(h.2 aQ).1)
 |some s1,some s2,h,cn=>by rw[apA h.1.1 cn.1.1 fun aQ=>(h.2 aQ).trans (cn.2 aQ).symm]
theorem CF{s s2:List ao}{E Qa:List (T×T)}(h:∀aQ,(hq s aQ/\j0 E aQ)↔(hq s2 aQ/\j0 Qa aQ)):∀{o:Option (List ao)},ji s E o->ji s2 Qa o
 |none,aO=>fun ah J U=>aO ah J fun aQ hM=>(h aQ).2 (U aQ hM)
 |some s1,aO=>⟨aO.1,fun aQ=>(aO.2 aQ).trans (h aQ)⟩
theorem Qn{s s1:List ao}{E x1:List (T×T)}(h:ji s E (some s1)):∀{o:Option (List ao)},ji s1 x1 o->ji s (E++x1) o
 |none,aO=>fun ah J U=>aO ah J fun aQ hM=>⟨(h.2 aQ).2 ⟨(U aQ hM).1,(E0.1 (U aQ hM).2).1⟩,(E0.1 (U aQ hM).2).2⟩
 |some s2,aO=>⟨aO.1,fun aQ=>by rw[aO.2 aQ,h.2 aQ,E0,and_assoc]⟩
theorem JO{s:List ao}{E:List (T×T)}(x1:List (T×T))(h:ji s E none):ji s (E++x1) none:=fun ah J U=>h ah J fun aQ hM=>⟨(U aQ hM).1,(E0.1 (U aQ hM).2).1⟩
theorem FC{s:List ao}{E:List (T×T)}(h:∀aQ,hq s aQ->¬j0 E aQ):ji s E none:=fun ah J U=>absurd (U _ (zK J)).2 (h _ (U _ (zK J)).1)
theorem JP{s:List ao}(ag:fU s)(aK:hR s):ji s [] (some s):=⟨⟨ag,aK⟩,fun aQ=>⟨fun h=>⟨h,E1 aQ⟩,fun h=>h.1⟩⟩
def one(v:Int)(x:T)(w:Int):T:=if w=v then x else .var w
def l9(b:ao):List ao->List ao
 |[]=>[b]
 |c::s=>if b.v<c.v then b::c::s else c::l9 b s
def mQ(s:List ao)(v:Int)(x:T):List ao:=l9 ⟨v,x⟩ (s.map fun b=>⟨b.v,b.t.ap (one v x)⟩)
theorem zg{b x:ao}:∀{s:List ao},x∈l9 b s↔x=b\/x∈s
 |[]=>by simp[l9]
 |c::s=>by
  simp only[l9];split
  ·simp
  ·simp only[fT,zg (s:=s)];constructor
   ·rintro(h|h|h)
    ·exact .inr (.inl h)
    ·exact .inl h
    ·exact .inr (.inr h)
   ·rintro(h|h|h)
    ·exact .inr (.inl h)
    ·exact .inl h
    ·exact .inr (.inr h)
theorem WW{b:ao}:∀{s:List ao},(l9 b s).length=s.length+1
 |[]=>rfl
 |c::s=>by simp only[l9];split<;>simp[WW]
theorem Ad{b:ao}:∀{s:List ao},hg s->(∀c∈s,c.v≠b.v)->hg (l9 b s)
 |[],_,_=>by simp[l9]
 |c::s,bD,ax=>by
  have nL:=nz.1 bD;simp only[l9];split
  ·rename_i bE;refine nz.2 ⟨fun x ab=>?_,bD⟩;rcases fT.1 ab with rfl|ab
   ·exact bE
   ·have:=nL.1 x ab;omega
  ·rename_i vo;refine nz.2 ⟨fun x ab=>?_,Ad nL.2 fun c aw=>ax c (by simp[aw])⟩;rcases zg.1 ab with rfl|ab
   ·have:=ax c Ψ;omega
   ·exact nL.1 x ab
theorem qK{s:List ao}{v:Int}{x:T}{b:ao}:b∈mQ s v x↔b=⟨v,x⟩\/ ∃c∈s,b=⟨c.v,c.t.ap (one v x)⟩:=by unfold mQ;rw[zg,iu];refine or_congr Iff.rfl ⟨fun⟨c,J,U⟩=>⟨c,J,U.symm⟩,fun⟨c,J,U⟩=>⟨c,J,U.symm⟩⟩
theorem XX{v:Int}{x:T}{aQ:Int->T}(h:aQ v=x.ap aQ)(t:T):(t.ap (one v x)).ap aQ=t.ap aQ:=by
 rw[CH];refine uU fun w _=>?_;unfold one;split
 ·rename_i e;subst e;exact h.symm
 ·rfl
theorem FJ{s:List ao}{v w:Int}{x:T}:cS (mQ s v x) w=none↔w≠v/\cS s w=none:=by
 rw[nF,nF];constructor
 ·intro h;exact⟨fun e=>h ⟨v,x⟩ (qK.2 (.inl rfl)) e.symm,fun b af=>h ⟨b.v,b.t.ap (one v x)⟩ (qK.2 (.inr ⟨b,af,rfl⟩))⟩
 ·rintro⟨J,U⟩ b af;rcases qK.1 af with rfl|⟨c,aw,rfl⟩
  ·exact fun e=>J e.symm
  ·exact U c aw
theorem O7{s:List ao}(ag:fU s){t:T}{w:Int}(h:(t.ap (bp s)).occ w=true):cS s w=none:=by
 obtain⟨u,_,U⟩:=BI.1 h;unfold bp at U;cases e:cS s u with
 |none=>rw[e]at U;simp[T.occ]at U;subst U;exact e
 |some t=>rw[e]at U;exact ag.free _ (j2 e) w U
theorem apz{s:List ao}(ag:fU s){v:Int}{t:T}(aF:cS s v=none)(ay:(t.ap (bp s)).occ v=false)(tR:∀w,t.ap (bp s)= .var w->w<v):fU (mQ s v (t.ap (bp s))):=by
 have ab:∀w,(t.ap (bp s)).occ w=true->cS (mQ s v (t.ap (bp s))) w=none:=fun w hw=>FJ.2 ⟨fun e=>(by subst e;rw[ay]at hw;cases hw),O7 ag hw⟩;refine⟨Ad ?_ ?_,fun b af w hw=>?_,fun b af w hw=>?_⟩
 ·rw[hg,List.pairwise_map];exact ag.asc
 ·intro c aw;obtain⟨b,af,rfl⟩:=iu.1 aw;exact nF.1 aF b af
 ·rcases qK.1 af with rfl|⟨c,aw,rfl⟩
  ·exact ab w hw
  ·obtain⟨u,J,U⟩:=BI.1 hw;unfold one at U;split at U
   ·exact ab w U
   ·rename_i cM;simp[T.occ]at U;subst U;exact FJ.2 ⟨cM,ag.free c aw _ J⟩
 ·rcases qK.1 af with rfl|⟨c,aw,rfl⟩
  ·exact tR w hw
  ·simp only at hw⊢;cases e:c.t with
   |var u=>
    have:=ag.ori c aw u e;rw[e]at hw;simp only[T.ap,one]at hw;split at hw
    ·rename_i aD;subst aD;have:=tR w hw;omega
    ·cases hw;exact this
   |_=>rw[e]at hw;simp[T.ap]at hw
theorem Zw{s:List ao}{v:Int}{t:T}(aQ:Int->T):hq (mQ s v (t.ap (bp s))) aQ↔hq s aQ/\j0 [(.var v,t)] aQ:=by
 have ak:j0 [(.var v,t)] aQ↔aQ v=t.ap aQ:=by simp[j0,T.ap]
 rw[ak];constructor
 ·intro h;have br:aQ v=(t.ap (bp s)).ap aQ:=h _ (qK.2 (.inl rfl));have J:hq s aQ:=fun b af=>by have:=h _ (qK.2 (.inr ⟨b,af,rfl⟩));simp only at this;rw[XX br]at this;exact this
  exact⟨J,by rw[O9 J t];exact br⟩
 ·rintro⟨J,U⟩ b af;have br:aQ v=(t.ap (bp s)).ap aQ:=by rw[<-O9 J t];exact U
  rcases qK.1 af with rfl|⟨c,aw,rfl⟩
  ·exact br
  ·simp only;rw[XX br];exact J c aw
open Classical in
theorem abz{s:List ao}(ag:fU s){v:Int}{t:T}(aF:cS s v=none)(ay:(t.ap (bp s)).occ v=false)(tR:∀w,t.ap (bp s)= .var w->w<v):ji s [(.var v,t)] (if hR (mQ s v (t.ap (bp s)))then some (mQ s v (t.ap (bp s)))else none):=by
 have J:=apz ag aF ay tR;split
 ·rename_i aK;exact⟨⟨J,aK⟩,Zw⟩
 ·rename_i aK;exact fun ah U ar a6=>aK (T8 J U (fun aQ hM=>(Zw aQ).2 (ar aQ hM)) a6)
def hH(s:List ao):T->T
 | .var n=>bp s n
 |t=>t
def ox(s:List ao)(v:Int)(t:T):Option (List ao):=if(t.ap (bp s)).size<=5000/\(t.ap (bp s)).occ v=false/\s.length<400/\∀b∈s,(b.t.ap (one v (t.ap (bp s)))).size<=5000 then some (mQ s v (t.ap (bp s)))else none
def ks(rec:List ao->T->T->Option (Option (List ao)))(s:List ao):T->T->Option (Option (List ao))
 | .var i,.var j=>some (if i<j then ox s j (.var i)else if i=j then some s else ox s i (.var j))
 | .var i,y=>some (ox s i y)
 |x,.var j=>some (ox s j x)
 | .pair bH a2,.pair bV b7=>match rec s bH bV with
  |none=>none
  |some none=>some none
  |some (some s1)=>rec s1 a2 b7
 |x,y=>some (if x=y then some s else none)
def k1:Nat->List ao->T->T->Option (Option (List ao))
 |0,_,_,_=>none
 |n+1,s,a,b=>ks (k1 n) s (hH s a) (hH s b)
theorem aqd{rec OM:List ao->T->T->Option (Option (List ao))}(h:∀s a b o,rec s a b=some o->OM s a b=some o){s:List ao}{x y:T}{o:Option (List ao)}(he:ks rec s x y=some o):ks OM s x y=some o:=by
 cases x<;>cases y<;>simp only[ks]at he⊢ <;>try exact he
 rename_i bH a2 bV b7;cases e:rec s bH bV with
 |none=>rw[e]at he;cases he
 |some gU=>
  rw[e]at he;rw[h _ _ _ _ e];cases gU with
  |none=>exact he
  |some s1=>exact h _ _ _ _ he
theorem Fa:∀{n m:Nat} {s:List ao} {a b:T} {o:Option (List ao)},n<=m->k1 n s a b=some o->k1 m s a b=some o
 |0,_,_,_,_,_,_,h=>by simp[k1]at h
 |n+1,0,_,_,_,_,hm,_=>Ω
 |n+1,m+1,s,a,b,o,hm,h=>by simp only[k1]at h⊢;exact aqd (fun s a b o h=>Fa Ω h) h
theorem Le{s:List ao}{v:Int}{x:T}:hR (mQ s v x)↔(x.size<=5000/\s.length<400/\∀b∈s,(b.t.ap (one v x)).size<=5000):=by
 have au:(mQ s v x).length=s.length+1:=by simp[mQ,WW]
 unfold hR;rw[au];constructor
 ·rintro⟨J,U⟩;exact⟨U _ (qK.2 (.inl rfl)),Ω,fun b af=>U _ (qK.2 (.inr ⟨b,af,rfl⟩))⟩
 ·rintro⟨J,U,ar⟩;refine⟨Ω,fun b af=>?_⟩;rcases qK.1 af with rfl|⟨c,aw,rfl⟩
  ·exact J
  ·exact ar c aw
theorem abA{s:List ao}(ag:fU s){v:Int}{t:T}(aF:cS s v=none)(cM:t.ap (bp s)≠ .var v)(tR:∀w,t.ap (bp s)= .var w->w<v):ji s [(.var v,t)] (ox s v t):=by
 unfold ox;cases ay:(t.ap (bp s)).occ v with
 |true=>
  rw[if_neg Ψ];refine FC fun aQ J U=>?_;have ar:=(rI.1 U).1;simp only[T.ap]at ar;rw[O9 J t]at ar;have ad:(t.ap (bp s)).kind≠1:=by
   intro ad;cases e:t.ap (bp s)with
   |var w=>rw[e]at ay;simp[T.occ]at ay;subst ay;exact cM e
   |_=>rw[e]at ad;simp[T.kind]at ad
  have:=(BJ aQ ay).2 ad;rw[<-ar]at this;omega
 |false=>
  have J:=abz ag aF ay tR;by_cases aK:hR (mQ s v (t.ap (bp s)))
  ·rw[if_pos aK]at J;rw[if_pos ⟨(Le.1 aK).1,rfl,(Le.1 aK).2⟩];exact J
  ·rw[if_neg aK]at J;rw[if_neg fun h=>aK (Le.2 ⟨h.1,h.2.2⟩)];exact J
theorem aaV{s:List ao}(ag:fU s){t:T}{i:Int}(h:hH s t= .var i):cS s i=none:=by
 cases t with
 |var n=>
  simp only[hH,bp]at h;cases e:cS s n with
  |none=>rw[e]at h;simp at h;subst h;exact e
  |some u=>rw[e]at h;simp at h;subst h;exact ag.free _ (j2 e) i (by simp[T.occ])
 |_=>simp[hH]at h
theorem PY{s:List ao}{aQ:Int->T}(h:hq s aQ)(t:T):(hH s t).ap aQ=t.ap aQ:=by
 cases t with
 |var n=>
  simp only[hH,T.ap,bp];cases e:cS s n with
  |none=>rfl
  |some u=>exact(h _ (j2 e)).symm
 |_=>rfl
theorem aaX{s:List ao}(ag:fU s)(t:T):(hH s t).ap (bp s)=t.ap (bp s):=PY (zK ag) t
def qE(V:List Int)(t:T):Prop:= ∀w,t.occ w=true->w∈V
def y0(V:List Int)(s:List ao):Prop:= ∀b∈s,b.v∈V/\qE V b.t
def Ar(V:List Int)(s:List ao):Nat:=(V.filter fun v=>(cS s v).isNone).length
theorem T7{α:Type}{p q:α->Bool}{v:α}:∀{V:List α},(∀x∈V,q x=true->p x=true)->v∈V->p v=true->q v=false->(V.filter q).length<(V.filter p).length
 |[],_,h,_,_=>by simp at h
 |x::V,h,aF,bF,bn=>by
  have hle:∀W:List α,(∀x∈W,q x=true->p x=true)->(W.filter q).length<=(W.filter p).length:=by
   intro W;induction W with
   |nil=>intro _;simp
   |cons y W bR=>intro jR;have:=bR fun x ab=>jR x (by simp[ab]);have aL:=jR y Ψ;simp only[List.filter_cons];cases e:q y<;>cases aD:p y<;>simp_all<;>omega
  simp only[List.filter_cons];rcases fT.1 aF with rfl|aF
  ·have:=hle V fun x ab=>h x (by simp[ab]);simp[bF,bn];omega
  ·have:=T7 (fun x ab=>h x (oY _ ab)) aF bF bn;have ab:=h x Ψ;cases e:q x<;>cases aD:p x<;>simp_all<;>omega
theorem ac1{V:List Int}{s:List ao}{v:Int}{x:T}(aF:v∈V)(ax:cS s v=none):Ar V (mQ s v x)<Ar V s:=by
 unfold Ar;refine T7 (v:=v) (fun w _ h=>?_) aF (by simp[ax]) ?_
 ·rw[Option.isNone_iff_eq_none,FJ]at h;simp[h.2]
 ·cases e:cS (mQ s v x) v with
  |none=>exact absurd rfl (FJ.1 e).1
  |some _=>rfl
theorem VY{V:List Int}{s:List ao}(h:y0 V s){t:T}(aJ:qE V t):qE V (t.ap (bp s)):=fun w hw=>by
 obtain⟨u,J,U⟩:=BI.1 hw;unfold bp at U;cases e:cS s u with
 |none=>rw[e]at U;simp[T.occ]at U;subst U;exact aJ _ J
 |some x=>rw[e]at U;exact(h _ (j2 e)).2 w U
theorem ajo{V:List Int}{s:List ao}(h:y0 V s){v:Int}{x:T}(aF:v∈V)(ab:qE V x):y0 V (mQ s v x):=fun b af=>by
 rcases qK.1 af with rfl|⟨c,aw,rfl⟩
 ·exact⟨aF,ab⟩
 ·refine⟨(h c aw).1,fun w hw=>?_⟩;obtain⟨u,J,U⟩:=BI.1 hw;unfold one at U;split at U
  ·exact ab w U
  ·simp[T.occ]at U;subst U;exact(h c aw).2 _ J
theorem VZ{V:List Int}{s:List ao}(h:y0 V s){t:T}(aJ:qE V t):qE V (hH s t):=by
 cases t with
 |var n=>have:=VY h aJ;simpa[hH,T.ap]using this
 |_=>exact aJ
def CE(V:List Int)(s:List ao)(a b:T)(o:Option (List ao)):Prop:=ji s [(a,b)] o/\∀ah,o=some ah->y0 V ah/\(ah=s\/Ar V ah<Ar V s)
theorem Fb{V:List Int}{s:List ao}(ag:fU s)(kC:y0 V s){v:Int}{t a b:T}(aF:v∈V)(aJ:qE V t)(ax:cS s v=none)(cM:t.ap (bp s)≠ .var v)(tR:∀w,t.ap (bp s)= .var w->w<v)(aw:∀aQ,hq s aQ->(aQ v=t.ap aQ↔a.ap aQ=b.ap aQ)):CE V s a b (ox s v t):=by
 refine⟨CF (fun aQ=>?_) (abA ag ax cM tR),fun ah h=>?_⟩
 ·refine and_congr_right fun h=>?_;rw[rI,rI];simp only[T.ap,aw aQ h]
 ·unfold ox at h;split at h
  ·cases h;exact⟨ajo kC aF (VY kC aJ),.inr (ac1 aF ax)⟩
  ·cases h
theorem Cc{s:List ao}{i:Int}(h:cS s i=none):bp s i= .var i:=by simp[bp,h]
theorem Z5(V:List Int)(k:Nat):∀(m:Nat) (s:List ao) (a b:T),fU s->hR s->y0 V s->qE V a->qE V b->Ar V s=k->(a.ap (bp s)).size+(b.ap (bp s)).size=m->
  ∃n o,k1 n s a b=some o/\CE V s a b o:=by
 induction k using Nat.strongRecOn with
 |ind k Mz=>
 intro m;induction m using Nat.strongRecOn with
 |ind m Bm=>
 intro s a b ag aK kC bD af ad hm;have ab:=VZ kC bD;have aL:=VZ kC af;have Pk:=aaX ag a;have Pl:=aaX ag b;have uW:=fun aQ (h:hq s aQ)=>PY h a;have ou:=fun aQ (h:hq s aQ)=>PY h b;have rh:=fun i=>aaV ag (t:=a) (i:=i);have Li:=fun i=>aaV ag (t:=b) (i:=i);have key:∀(rec:List ao->T->T->Option (Option (List ao))) (o:Option (List ao)),ks rec s (hH s a) (hH s b)=some o->(∀bH a2 bV b7,hH s a= .pair bH a2->hH s b= .pair bV b7->CE V s a b o)->CE V s a b o:=by
  intro rec o he bF;cases ex:hH s a with
  |var i=>
   have Gq:=rh i ex;have q6:=fun aQ h=>(uW aQ h).symm.trans (by rw[ex]);cases iy:hH s b with
   |var j=>
    have yt:=Li j iy;have pX:=fun aQ h=>(ou aQ h).symm.trans (by rw[iy]);rw[ex,iy]at he;simp only[ks]at he;have hi:i∈V:=by rw[ex]at ab;exact ab i (by simp[T.occ])
    have ae:j∈V:=by rw[iy]at aL;exact aL j (by simp[T.occ])
    rcases Int.lt_trichotomy i j with h|h|h
    ·rw[if_pos h]at he;cases he;refine Fb ag kC ae (by rw[ex]at ab;exact ab) yt (by simp[T.ap,Cc Gq];omega) (fun w hw=>by simp[T.ap,Cc Gq]at hw;omega) fun aQ hM=>?_;rw[q6 aQ hM,pX aQ hM];simp only[T.ap];exact⟨Eq.symm,Eq.symm⟩
    ·subst h;rw[if_neg Ω,if_pos rfl]at he;cases he;refine⟨⟨⟨ag,aK⟩,fun aQ=>⟨fun h=>⟨h,rI.2 ⟨?_,E1 aQ⟩⟩,fun h=>h.1⟩⟩,fun ah e=>by cases e;exact⟨kC,.inl rfl⟩⟩;simp only;rw[q6 aQ h,pX aQ h]
    ·rw[if_neg Ω,if_neg Ω]at he;cases he;refine Fb ag kC hi (by rw[iy]at aL;exact aL) Gq (by simp[T.ap,Cc yt];omega) (fun w hw=>by simp[T.ap,Cc yt]at hw;omega) fun aQ hM=>?_;rw[q6 aQ hM,pX aQ hM];simp only[T.ap]
   |_=>have pX:=fun aQ h=>(ou aQ h).symm.trans (by rw[iy]);rw[ex,iy]at he;simp only[ks]at he;cases he;refine Fb ag kC (by rw[ex]at ab;exact ab i (by simp[T.occ])) (by rw[iy]at aL;exact aL) Gq (by simp[T.ap]) (fun w hw=>by simp[T.ap]at hw) fun aQ hM=>?_;rw[q6 aQ hM,pX aQ hM];simp only[T.ap]
  |pair bH a2=>
   cases iy:hH s b with
   |pair bV b7=>exact bF bH a2 bV b7 ex iy
   |var j=>have yt:=Li j iy;have q6:=fun aQ h=>(uW aQ h).symm.trans (by rw[ex]);have pX:=fun aQ h=>(ou aQ h).symm.trans (by rw[iy]);rw[ex,iy]at he;simp only[ks]at he;cases he;refine Fb ag kC (by rw[iy]at aL;exact aL j (by simp[T.occ])) (by rw[ex]at ab;exact ab) yt (by simp[T.ap]) (fun w hw=>by simp[T.ap]at hw) fun aQ hM=>?_;rw[q6 aQ hM,pX aQ hM];simp only[T.ap];exact⟨Eq.symm,Eq.symm⟩
   |_=>have q6:=fun aQ h=>(uW aQ h).symm.trans (by rw[ex]);have pX:=fun aQ h=>(ou aQ h).symm.trans (by rw[iy]);rw[ex,iy]at he;simp only[ks]at he;simp at he;subst he;refine⟨FC fun aQ J U=>?_,fun ah e=>by cases e⟩;have:=(rI.1 U).1;simp only at this;rw[q6 aQ J,pX aQ J]at this;simp[T.ap]at this
  |_=>
   have q6:=fun aQ h=>(uW aQ h).symm.trans (by rw[ex]);cases iy:hH s b with
   |var j=>have yt:=Li j iy;have pX:=fun aQ h=>(ou aQ h).symm.trans (by rw[iy]);rw[ex,iy]at he;simp only[ks]at he;cases he;refine Fb ag kC (by rw[iy]at aL;exact aL j (by simp[T.occ])) (by rw[ex]at ab;exact ab) yt (by simp[T.ap]) (fun w hw=>by simp[T.ap]at hw) fun aQ hM=>?_;rw[q6 aQ hM,pX aQ hM];simp only[T.ap];exact⟨Eq.symm,Eq.symm⟩
   |_=>
    have pX:=fun aQ h=>(ou aQ h).symm.trans (by rw[iy]);rw[ex,iy]at he;simp only[ks,ea]at he;split at he
    ·rename_i e;subst he;refine⟨⟨⟨ag,aK⟩,fun aQ=>⟨fun h=>⟨h,rI.2 ⟨?_,E1 aQ⟩⟩,fun h=>h.1⟩⟩,fun ah e=>by cases e;exact⟨kC,.inl rfl⟩⟩;simp only;rw[q6 aQ h,pX aQ h];try rw[e]
    ·rename_i e;subst he;refine⟨FC fun aQ J U=>?_,fun ah e=>by cases e⟩;have:=(rI.1 U).1;simp only at this;rw[q6 aQ J,pX aQ J]at this;simp[T.ap]at this e;try exact e this
 by_cases G5:∃bH a2 bV b7,hH s a= .pair bH a2/\hH s b= .pair bV b7
 ·obtain⟨bH,a2,bV,b7,ex,iy⟩:=G5;have eC:(bH.ap (bp s)).size+(bV.ap (bp s)).size<m/\(a2.ap (bp s)).size+(b7.ap (bp s)).size<m:=by rw[ex]at Pk;rw[iy]at Pl;simp only[T.ap]at Pk Pl;rw[<-hm,<-Pk,<-Pl];simp only[T.size];omega
  have lA:qE V bH:=fun w hw=>by rw[ex]at ab;exact ab w (by simp[T.occ,hw])
  have qz:qE V a2:=fun w hw=>by rw[ex]at ab;exact ab w (by simp[T.occ,hw])
  have lZ:qE V bV:=fun w hw=>by rw[iy]at aL;exact aL w (by simp[T.occ,hw])
  have nP:qE V b7:=fun w hw=>by rw[iy]at aL;exact aL w (by simp[T.occ,hw])
  have U1:∀aQ,(hq s aQ/\j0 ([(bH,bV)]++[(a2,b7)]) aQ)↔(hq s aQ/\j0 [(a,b)] aQ):=fun aQ=>and_congr_right fun h=>by simp only[List.singleton_append,rI,E1,and_true];rw[<-uW aQ h,<-ou aQ h,ex,iy];simp[T.ap]
  obtain⟨iA,gU,ak,cX⟩:=Bm _ eC.1 s bH bV ag aK kC lA lZ ad rfl;cases gU with
  |none=>refine⟨iA+1,none,?_,CF U1 (JO _ cX.1),fun ah e=>by cases e⟩;simp only[k1,ex,iy,ks,ak]
  |some s1=>
   obtain⟨v1,v2⟩:=cX.2 s1 rfl;have DL:∃gC fB,k1 gC s1 a2 b7=some fB/\CE V s1 a2 b7 fB:=by
    rcases v2 with rfl|v2
    ·exact Bm _ eC.2 _ a2 b7 ag aK kC qz nP ad rfl
    ·exact Mz _ Ω _ s1 a2 b7 cX.1.1.1 cX.1.1.2 v1 qz nP rfl rfl
   obtain⟨gC,fB,aD,dI⟩:=DL;refine⟨max iA gC+1,fB,?_,CF U1 (Qn cX.1 dI.1),fun ah e=>?_⟩
   ·simp only[k1,ex,iy,ks,Fa (Nat.le_max_left iA gC) ak];exact Fa (Nat.le_max_right iA gC) aD
   ·obtain⟨ej,dp⟩:=dI.2 ah e;refine⟨ej,?_⟩;rcases v2 with rfl|v2
    ·exact dp
    ·rcases dp with rfl|dp
     ·exact .inr v2
     ·exact .inr Ω
 ·have Vu:∀bH a2 bV b7,hH s a= .pair bH a2->hH s b= .pair bV b7->e8:=fun bH a2 bV b7 J U=>G5 ⟨bH,a2,bV,b7,J,U⟩;have:∃o,ks (k1 0) s (hH s a) (hH s b)=some o:=by cases ex:hH s a<;>cases iy:hH s b<;>simp only[ks]<;>first|exact⟨_,rfl⟩|exact(Vu _ _ _ _ ex iy).elim
  obtain⟨o,ay⟩:=this;exact⟨1,o,ay,key _ o ay fun bH a2 bV b7 J U=>(Vu bH a2 bV b7 J U).elim⟩
def c7{α:Type}(k:Int):List (Int×α)->Option α
 |[]=>none
 |(i,v)::r=>if k=i then some v else c7 k r
def eU{α:Type}(k:Int)(v:α):List (Int×α)->List (Int×α)
 |[]=>[(k,v)]
 |(i,w)::r=>if k=i then(i,v)::r else(i,w)::eU k v r
def cx{α:Type}(m:List (Int×α)):List Int:=m.map (·.1)
theorem n9{α:Type}(k:Int)(v:α)(j:Int):∀m:List (Int×α),c7 j (eU k v m)=if j=k then some v else c7 j m
 |[]=>by simp only[eU,c7]
 |(i,w)::r=>by
  simp only[eU];by_cases h:k=i
  ·subst h;by_cases U:j=k<;>simp[c7,U]
  ·by_cases U:j=i
   ·subst U;have:¬j=k:=fun e=>h e.symm;simp[c7,h,this]
   ·simp[c7,h,U,n9 k v j r]
theorem I9{α:Type}{k:Int}:∀{m:List (Int×α)},(c7 k m).isSome=true↔k∈cx m
 |[]=>by simp[c7,cx]
 |(i,w)::r=>by
  simp only[c7,cx,gM,fT];by_cases h:k=i
  ·simp[h]
  ·simp only[h,if_false,false_or];exact I9
theorem ap4{α:Type}{k:Int}{m:List (Int×α)}:c7 k m=none↔k∉cx m:=by rw[<-I9];cases c7 k m<;>simp
theorem D4{α:Type}{k:Int}{v:α}:∀{m:List (Int×α)},k∈cx m->cx (eU k v m)=cx m
 |[],h=>by simp[cx]at h
 |(i,w)::r,h=>by
  simp only[eU];by_cases e:k=i
  ·simp[e,cx]
  ·rw[if_neg e];have cn:k∈cx r:=by simpa[cx,e]using h
   have:=D4 (v:=v) cn;simp only[cx]at this⊢;simp[this]
theorem Wt{α:Type}{k:Int}{v:α}:∀{m:List (Int×α)},k∉cx m->cx (eU k v m)=cx m++[k]
 |[],h=>by simp[cx,eU]
 |(i,w)::r,h=>by have e:¬k=i:=fun e=>h (by simp[cx,e]);have cn:k∉cx r:=fun ad=>h (by simp[cx]at ad⊢;exact .inr ad);have:=Wt (v:=v) cn;simp only[eU,if_neg e];simp only[cx]at this⊢;simp[this]
structure bA where
 up:List (Int×Int)
 shape:List (Int×T)
 shaped:List (Int×Bool)
 color:List (Int×Int)
 size:List (Int×Int)
 full:List (Int×T)
def bA.shd(c:bA)(x:Int):Bool:=(c7 x c.shaped).getD false
def bA.shp(c:bA)(x:Int):T:=(c7 x c.shape).getD .nil
def bA.col(c:bA)(x:Int):Int:=(c7 x c.color).getD 0
def bA.sz(c:bA)(x:Int):Int:=(c7 x c.size).getD 0
def il(m:List (Int×Int))(v:Int):Int:=(c7 v m).getD 0
def xH:Nat->List (Int×Int)->Int->Option (Int×List (Int×Int))
 |0,_,_=>none
 |n+1,m,v=>if il m v=v then some (v,m)else xH n (eU v (il m (il m v)) m) (il (eU v (il m (il m v)) m) v)
def Ab(v:Int)(m:List (Int×Int)):List (Int×Int):=if(c7 v m).isSome then m else eU v v m
def rt(c:bA)(v:Int):Option (Int×bA):=(xH (v.toNat+1) (Ab v c.up) v).map fun p=>(p.1,{c with up:=p.2})
def T.foldO{α:Type}(f:Int->α->Option α):T->α->Option α
 | .var n,a=>f n a
 | .pair x y,a=>(x.foldO f a).bind (y.foldO f)
 |_,a=>some a
def T.mapO{α:Type}(f:Int->α->Option (T×α)):T->α->Option (T×α)
 | .var n,a=>f n a
 | .pair x y,a=>(x.mapO f a).bind fun p=>(y.mapO f p.2).map fun q=>(.pair p.1 q.1,q.2)
 |t,a=>some (t,a)
def T.sizeO{α:Type}(f:Int->α->Option (Int×α)):T->α->Option (Int×α)
 | .var n,a=>(f n a).map fun p=>(if 5001<p.1 then 5001 else p.1,p.2)
 | .pair x y,a=>(x.sizeO f a).bind fun p=>if 5000<p.1 then some p else(y.sizeO f p.2).map fun q=>(if 5001<1+p.1+q.1 then 5001 else 1+p.1+q.1,q.2)
 |_,a=>some (1,a)
def By(t:T)(c:bA):Option bA:=t.foldO (fun v c=>(rt c v).map (·.2)) c
structure uM where
 c:bA
 seen:List (Int×Bool)
 found:Bool
def xG(rec:T->bA->List (Int×Bool)->Option uM)(x:Int)(v:Int)(a:uM):Option uM:=
 (rt a.c v).bind fun p=>if a.found=true\/p.1=x then some ⟨p.2,a.seen,true⟩
  else if(c7 p.1 a.seen).getD false=false/\p.2.shd p.1=true then rec (p.2.shp p.1) p.2 (eU p.1 true a.seen)
  else some ⟨p.2,a.seen,a.found⟩
def qj:Nat->Int->T->bA->List (Int×Bool)->Option uM
 |0,_,_,_,_=>none
 |n+1,x,t,c,seen=>t.foldO (xG (qj n x) x) ⟨c,seen,false⟩
def bA.know(c:bA)(x:Int)(t:T):bA:={c with shape:=eU x t c.shape,shaped:=eU x true c.shaped}
def vF(n:Nat)(x:Int)(t:T)(c:bA):Option (Bool×bA):=(qj n x t (c.know x t) []).map fun a=>(!a.found,a.c)
def bA.join(c:bA)(x y:Int):bA:={c with up:=eU y x c.up}
def r8(rec:T->T->bA->Option (Bool×bA))(n:Nat)(x y:Int)(c:bA):Option (Bool×bA):=
 if c.shd y=false then
  (if c.shd x=false then some (true,c)else(qj n x (c.shp x) c []).map fun a=>(!a.found,a.c))
 else if c.shd x=false then vF n x (c.shp y) c
 else(qj n x (c.shp y) c []).bind fun a=>if a.found=true then some (false,a.c)else
  (qj n x (a.c.shp x) a.c []).bind fun b=>if b.found=true then some (false,b.c)else rec (b.c.shp x) (c.shp y) b.c
def gO:Nat->T->T->bA->Option (Bool×bA)
 |0,_,_,_=>none
 |n+1,.var i,.var j,c=>(rt c i).bind fun p=>(rt p.2 j).bind fun q=>if p.1=q.1 then some (true,q.2)else if q.1<p.1 then r8 (gO n) n q.1 p.1 (q.2.join q.1 p.1)else r8 (gO n) n p.1 q.1 (q.2.join p.1 q.1)
 |n+1,.var i,b,c=>(rt c i).bind fun p=>if p.2.shd p.1=false then vF n p.1 b p.2 else gO n (p.2.shp p.1) b p.2
 |n+1,a,.var j,c=>gO n (.var j) a c
 |n+1,.pair bH a2,.pair bV b7,c=>(gO n bH bV c).bind fun p=>if p.1=true then gO n a2 b7 p.2 else some (false,p.2)
 |_+1,a,b,c=>some (decide (a=b),c)
structure jZ (m:List (Int×Int)) (ρ:Int->Int):Prop where
 up:∀v u,c7 v m=some u->(0<=u/\u<=v/\u∈cx m)/\ρ u=ρ v/\(ρ v=v↔u=v)
 no:∀v,v∉cx m->ρ v=v
theorem jZ.get{m:List (Int×Int)}{ρ:Int->Int}(h:jZ m ρ){v:Int}(aF:v∈cx m):∃u,c7 v m=some u/\il m v=u:=by have:=I9.2 aF;obtain⟨u,hu⟩:=fL.1 this;exact⟨u,hu,by simp[il,hu]⟩
theorem jZ.root{m:List (Int×Int)}{ρ:Int->Int}(h:jZ m ρ):∀(n:Nat) (v:Int),v.toNat<=n->(ρ v<=v/\ρ (ρ v)=ρ v/\(v∈cx m->ρ v∈cx m/\0<=ρ v)):=by
 intro n;induction n using Nat.strongRecOn with
 |ind n bR=>
 intro v ax;by_cases aF:v∈cx m
 ·obtain⟨u,J,_⟩:=h.get aF;obtain⟨⟨bH,a2,a3⟩,a4,a5⟩:=h.up v u J;by_cases e:u=v
  ·have:=a5.2 e;subst e;rw[this];exact⟨Ω,this,fun _=>⟨a3,bH⟩⟩
  ·obtain⟨bV,b7,fV⟩:=bR (u.toNat) Ω u Ω;rw[<-a4];exact⟨Ω,b7,fun _=>fV a3⟩
 ·have:=h.no v aF;rw[this];exact⟨Ω,this,fun h=>absurd h aF⟩
theorem jZ.le{m:List (Int×Int)}{ρ:Int->Int}(h:jZ m ρ)(v:Int):ρ v<=v:=(h.root v.toNat v (fc _)).1
theorem jZ.idem{m:List (Int×Int)}{ρ:Int->Int}(h:jZ m ρ)(v:Int):ρ (ρ v)=ρ v:=(h.root v.toNat v (fc _)).2.1
theorem jZ.mem{m:List (Int×Int)}{ρ:Int->Int}(h:jZ m ρ){v:Int}(aF:v∈cx m):ρ v∈cx m/\0<=ρ v:=(h.root v.toNat v (fc _)).2.2 aF
theorem Zo{ρ:Int->Int}:∀(n:Nat) (m:List (Int×Int)) (v:Int),jZ m ρ->v∈cx m->v.toNat<n->∃ha,xH n m v=some (ρ v,ha)/\jZ ha ρ/\cx ha=cx m
 |0,_,_,_,_,ax=>Ω
 |n+1,m,v,h,aF,ax=>by
  obtain⟨u,J,U⟩:=h.get aF;obtain⟨⟨bH,a2,a3⟩,a4,a5⟩:=h.up v u J;simp only[xH,U];by_cases e:u=v
  ·rw[if_pos e];have:=a5.2 e;exact⟨m,by rw[this],h,rfl⟩
  ·rw[if_neg e];obtain⟨x,g1,g2⟩:=h.get a3;obtain⟨⟨bV,b7,fV⟩,o8,QH⟩:=h.up u x g1;rw[g2];have ad:=D4 (v:=x) aF;have mC:jZ (eU v x m) ρ:=by
    refine⟨fun w y hw=>?_,fun w hw=>h.no w (by rw[ad]at hw;exact hw)⟩;rw[n9]at hw;rw[ad];by_cases ew:w=v
    ·subst ew;rw[if_pos rfl]at hw;cases hw;refine⟨⟨bV,Ω,fV⟩,by rw[o8,a4],⟨fun aO=>absurd (a5.1 aO) e,fun ab=>?_⟩⟩;have:u=w:=Ω
     exact absurd this e
    ·rw[if_neg ew]at hw;exact h.up w y hw
   have ai3:il (eU v x m) v=x:=by simp[il,n9]
   rw[ai3];obtain⟨ha,bM,cp,dc⟩:=Zo n (eU v x m) x mC (by rw[ad];exact fV) Ω;exact⟨ha,by rw[bM,o8,a4],cp,by rw[dc,ad]⟩
structure jh (ρ:Int->Int) (c cw:bA):Prop where
 ru:jZ cw.up ρ
 keys:cx cw.up=cx c.up
 eq:cw={c with up:=cw.up}
theorem jh.refl{ρ:Int->Int}{c:bA}(h:jZ c.up ρ):jh ρ c c:=⟨h,rfl,rfl⟩
theorem jh.trans{ρ:Int->Int}{a b c:bA}(h:jh ρ a b)(k:jh ρ b c):jh ρ a c:=⟨k.ru,k.keys.trans h.keys,by rw[k.eq,h.eq]⟩
theorem jh.shd{ρ:Int->Int}{c cw:bA}(h:jh ρ c cw)(x:Int):cw.shd x=c.shd x:=by rw[h.eq];rfl
theorem jh.shp{ρ:Int->Int}{c cw:bA}(h:jh ρ c cw)(x:Int):cw.shp x=c.shp x:=by rw[h.eq];rfl
theorem ur{ρ:Int->Int}{c:bA}{v:Int}(h:jZ c.up ρ)(aF:v∈cx c.up):∃cw,rt c v=some (ρ v,cw)/\jh ρ c cw:=by
 have bD:Ab v c.up=c.up:=by simp[Ab,I9.2 aF]
 obtain⟨ha,J,U,ar⟩:=Zo (v.toNat+1) c.up v h aF Ω;exact⟨{c with up:=ha},by simp[rt,bD,J],⟨U,ar,rfl⟩⟩
theorem aoX{ρ:Int->Int}{c:bA}{v:Int}(h:jZ c.up ρ)(br:0<=v)(aF:v∉cx c.up):rt c v=some (v,{c with up:=eU v v c.up})/\jZ (eU v v c.up) ρ/\cx (eU v v c.up)=cx c.up++[v]:=by
 have ax:=ap4.2 aF;have ad:=Wt (v:=v) aF;refine⟨?_,⟨fun w u hw=>?_,fun w hw=>h.no w fun hm=>hw (by rw[ad];simp[hm])⟩,ad⟩
 ·simp[rt,Ab,ax,xH,il,n9]
 ·rw[n9]at hw;rw[ad];by_cases e:w=v
  ·subst e;rw[if_pos rfl]at hw;cases hw;exact⟨⟨br,Ω,Ψ⟩,rfl,⟨fun _=>rfl,fun _=>h.no _ aF⟩⟩
  ·rw[if_neg e]at hw;obtain⟨⟨bH,a2,a3⟩,a4⟩:=h.up w u hw;exact⟨⟨bH,a2,by simp[a3]⟩,a4⟩
def bA.ph(c:bA)(x:Int):Option T:=if c.shd x then some (c.shp x)else none
theorem jh.ph{ρ:Int->Int}{c cw:bA}(h:jh ρ c cw):cw.ph=c.ph:=by funext x;simp only[bA.ph,h.shd,h.shp]
def kx(ph:Int->Option T)(ρ:Int->Int)(aQ:Int->T):Prop:=(∀v,aQ v=aQ (ρ v))/\∀x t,ρ x=x->ph x=some t->aQ x=t.ap aQ
def jy(ph:Int->Option T)(ρ:Int->Int)(z u:Int):Prop:=ρ z=z/\∃t w,ph z=some t/\t.occ w=true/\ρ w=u
inductive nB (E:Int->Int->Prop):Int->Int->Prop
 |refl (a:Int):nB E a a
 |step {a b c:Int}:E a b->nB E b c->nB E a c
def o6(V:List Int)(ph:Int->Option T):Prop:= ∀x t,ph x=some t->t.kind≠1/\(∀w,t.occ w=true->w∈V)/\x∈V
def Jg(V:List Int)(ph:Int->Option T)(seen:List (Int×Bool)):Nat:=(V.filter fun v=>(ph v).isSome&& !((c7 v seen).getD false)).length
def nc(seen:List (Int×Bool))(z:Int):Prop:=(c7 z seen).getD false=true
structure abq (V:List Int) (ph:Int->Option T) (ρ:Int->Int) (x:Int) (occ:Int->Prop) (a bs:uM):Prop where
 sm:jh ρ a.c bs.c
 sub:∀z,nc a.seen z->nc bs.seen z
 yes:bs.found=true->a.found=true\/ ∃w,occ w/\nB (jy ph ρ) (ρ w) x
 kept:a.found=true->bs.found=true
 no:bs.found=false->(∀w,occ w->ρ w≠x/\((ph (ρ w)).isSome=true->nc bs.seen (ρ w)))/\∀r,nc bs.seen r->¬nc a.seen r->∀u,jy ph ρ r u->u≠x/\((ph u).isSome=true->nc bs.seen u)
theorem Gr{α:Type}{p q:α->Bool}:∀{V:List α},(∀x∈V,q x=true->p x=true)->(V.filter q).length<=(V.filter p).length
 |[],_=>by simp
 |y::V,h=>by have:=Gr (p:=p) (q:=q) (V:=V) fun x ab=>h x (by simp[ab]);have aL:=h y Ψ;simp only[List.filter_cons];cases e:q y<;>cases aD:p y<;>simp_all<;>omega
theorem Gs{α:Type}{p q:α->Bool}{v:α}:∀{V:List α},(∀x∈V,q x=true->p x=true)->v∈V->p v=true->q v=false->(V.filter q).length<(V.filter p).length
 |[],_,h,_,_=>by simp at h
 |x::V,h,aF,bF,bn=>by
  have hle:=Gr (p:=p) (q:=q) (V:=V) fun x ab=>h x (oY _ ab);simp only[List.filter_cons];rcases fT.1 aF with rfl|aF
  ·simp[bF,bn];omega
  ·have:=Gs (fun x ab=>h x (oY _ ab)) aF bF bn;have ab:=h x Ψ;cases e:q x<;>cases aD:p x<;>simp_all<;>omega
theorem aqf{V:List Int}{ph:Int->Option T}{s ah:List (Int×Bool)}(h:∀z,nc s z->nc ah z):Jg V ph ah<=Jg V ph s:=
 Gr fun x _ ab=>by
  simp only[cy,Bool.not_eq_true']at ab⊢;refine⟨ab.1,?_⟩;cases e:(c7 x s).getD false with
  |false=>rfl
  |true=>have:=h x e;unfold nc at this;rw[ab.2]at this;cases this
theorem MA{s:List (Int×Bool)}{r z:Int}:nc (eU r true s) z↔z=r\/nc s z:=by unfold nc;rw[n9];by_cases h:z=r<;>simp[h]
theorem aoN{V:List Int}{ph:Int->Option T}{ρ:Int->Int}{x:Int}(gX:o6 V ph)(k:Nat):∀(t:T) (a:uM),jZ a.c.up ρ->cx a.c.up=V->a.c.ph=ph->(∀w,t.occ w=true->w∈V)->Jg V ph a.seen<=k->
  ∃N bs,(∀n,N<=n->t.foldO (xG (qj n x) x) a=some bs)/\abq V ph ρ x (fun w=>t.occ w=true) a bs:=by
 induction k using Nat.strongRecOn with
 |ind k Mz=>
 intro t;induction t with
 |var v=>
  intro a mC ad jT aJ DR;obtain⟨bM,J,U⟩:=ur mC (by rw[ad];exact aJ v (by simp[T.occ]));have mD:bM.shd (ρ v)=(ph (ρ v)).isSome:=by rw[U.shd,<-jT];simp only[bA.ph];split<;>simp_all
  by_cases aK:a.found=true\/ρ v=x
  ·refine⟨0,⟨bM,a.seen,true⟩,fun n _=>by simp[T.foldO,xG,J,aK],U,fun z bz=>bz,fun _=>?_,fun _=>rfl,fun h=>by cases h⟩;rcases aK with aK|aK
   ·exact .inl aK
   ·exact .inr ⟨v,by simp[T.occ],by rw[aK];exact .refl _⟩
  ·by_cases ag:(c7 (ρ v) a.seen).getD false=false/\bM.shd (ρ v)=true
   ·have G4:ph (ρ v)=some (bM.shp (ρ v)):=by rw[<-jT];simp only[bA.ph,U.shp];rw[if_pos (by rw[<-U.shd];exact ag.2)]
    obtain⟨g1,g2,g3⟩:=gX _ _ G4;have bE:Jg V ph (eU (ρ v) true a.seen)<k:=by
     refine Nat.lt_of_lt_of_le (Gs (v:=ρ v) (fun z _ bz=>?_) g3 ?_ ?_) DR
     ·simp only[cy,Bool.not_eq_true']at bz⊢;refine⟨bz.1,?_⟩;rw[n9]at bz;by_cases e:z=ρ v
      ·subst e;exact ag.1
      ·rw[if_neg e]at bz;exact bz.2
     ·simp[G4,ag.1]
     ·simp[n9]
    obtain⟨N,bs,ak,cX⟩:=Mz _ bE (bM.shp (ρ v)) ⟨bM,eU (ρ v) true a.seen,false⟩ U.ru (by rw[U.keys];exact ad) (by rw[U.ph];exact jT) g2 (fc _);refine⟨N+1,bs,fun n ax=>?_,U.trans cX.sm,fun z bz=>cX.sub z (MA.2 (.inr bz)),fun aL=>?_,fun h=>absurd (.inl h) aK,fun cU=>?_⟩
    ·obtain⟨n',rfl⟩:∃n',n=n'+1:=⟨n-1,Ω⟩;simp only[T.foldO,xG,J,ki,if_neg aK,if_pos ag,qj];exact ak n' Ω
    ·rcases cX.yes aL with h|⟨w,ba,bo⟩
     ·cases h
     ·exact .inr ⟨v,by simp[T.occ],.step ⟨by rw[jZ.idem mC],_,w,G4,ba,rfl⟩ bo⟩
    ·obtain⟨ba,bo⟩:=cX.no cU;have jS:nc bs.seen (ρ v):=cX.sub _ (MA.2 (.inl rfl));refine⟨fun w hw=>?_,fun r aO dY u hu=>?_⟩
     ·simp[T.occ]at hw;subst hw;exact⟨fun e=>aK (.inr e),fun _=>jS⟩
     ·by_cases re:r=ρ v
      ·subst re;obtain⟨_,da,w,lr,z2,rfl⟩:=hu;rw[G4]at lr;cases lr;exact ba w z2
      ·exact bo r aO (fun h=>(MA.1 h).elim re dY) u hu
   ·have Dr:a.found=false:=by cases e:a.found with
     |false=>rfl
     |true=>exact absurd (.inl e) aK
    refine⟨0,⟨bM,a.seen,a.found⟩,fun n _=>by simp only[T.foldO,xG,J,ki,if_neg aK,if_neg ag],U,fun z bz=>bz,fun h=>.inl h,fun h=>h,fun _=>⟨fun w hw=>?_,fun r J U=>absurd J U⟩⟩;simp[T.occ]at hw;subst hw;refine⟨fun e=>aK (.inr e),fun bF=>?_⟩;unfold nc;cases e:(c7 (ρ v) a.seen).getD false with
    |true=>rfl
    |false=>exact absurd ⟨e,by rw[mD];exact bF⟩ ag
 |pair p q ajm ajn=>
  intro a mC ad jT aJ DR;obtain⟨h0,bH,ak,cX⟩:=ajm a mC ad jT (fun w hw=>aJ w (by simp[T.occ,hw])) DR;obtain⟨jA,a2,aD,dI⟩:=ajn bH cX.sm.ru (by rw[cX.sm.keys];exact ad) (by rw[cX.sm.ph];exact jT) (fun w hw=>aJ w (by simp[T.occ,hw])) (kJ (aqf cX.sub) DR);refine⟨max h0 jA,a2,fun n ax=>by simp only[T.foldO];rw[ak n Ω];exact aD n Ω,cX.sm.trans dI.sm,fun z bz=>dI.sub z (cX.sub z bz),fun aL=>?_,fun h=>dI.kept (cX.kept h),fun cU=>?_⟩
  ·rcases dI.yes aL with h|⟨w,ba,bo⟩
   ·rcases cX.yes h with h|⟨w,ba,bo⟩
    ·exact .inl h
    ·exact .inr ⟨w,by simp[T.occ,ba],bo⟩
   ·exact .inr ⟨w,by simp[T.occ,ba],bo⟩
  ·have aht:bH.found=false:=by cases e:bH.found with
    |false=>rfl
    |true=>have:=dI.kept e;rw[cU]at this;cases this
   obtain⟨dC,eH⟩:=cX.no aht;obtain⟨s1,s2⟩:=dI.no cU;refine⟨fun w hw=>?_,fun r aO dY u hu=>?_⟩
   ·simp only[T.occ,lu]at hw;rcases hw with hw|hw
    ·exact⟨(dC w hw).1,fun h=>dI.sub _ ((dC w hw).2 h)⟩
    ·exact s1 w hw
   ·by_cases h:nc bH.seen r
    ·exact⟨(eH r h dY u hu).1,fun cZ=>dI.sub _ ((eH r h dY u hu).2 cZ)⟩
    ·exact s2 r aO h u hu
 |_=>intro a mC ad jT aJ DR;exact⟨0,a,fun n _=>rfl,jh.refl mC,fun z bz=>bz,fun h=>.inl h,fun h=>h,fun _=>⟨fun w hw=>by simp[T.occ]at hw,fun r J U=>absurd J U⟩⟩
theorem Iw{ρ:Int->Int}{x:Int}{c:bA}{t:T}(mC:jZ c.up ρ)(gX:o6 (cx c.up) c.ph)(aJ:∀w,t.occ w=true->w∈cx c.up):
  ∃N a,(∀n,N<=n->qj n x t c []=some a)/\jh ρ c a.c/\(a.found=true↔∃w,t.occ w=true/\nB (jy c.ph ρ) (ρ w) x):=by
 obtain⟨N,a,J,U⟩:=aoN (x:=x) gX _ t ⟨c,[],false⟩ mC rfl rfl aJ (fc _);refine⟨N+1,a,fun n ax=>?_,U.sm,fun h=>?_,fun⟨w,hw,aO⟩=>?_⟩
 ·obtain⟨n',rfl⟩:∃n',n=n'+1:=⟨n-1,Ω⟩;exact J n' Ω
 ·rcases U.yes h with h|h
  ·cases h
  ·exact h
 ·cases e:a.found with
  |true=>rfl
  |false=>
   obtain⟨ba,bo⟩:=U.no e;have key:∀z,nB (jy c.ph ρ) z x->z≠x->((c.ph z).isSome=true->nc a.seen z)->e8:=by
    have:∀z y,nB (jy c.ph ρ) z y->y=x->z≠x->((c.ph z).isSome=true->nc a.seen z)->e8:=by
     intro z y aL;induction aL with
     |refl z=>intro h cn;exact absurd h cn
     | @step z b cw he _ bR=>intro ab cM jS;obtain⟨_,da,w',lr,_,_⟩:=id he;have ag:=jS (by simp[lr]);obtain⟨g1,g2⟩:=bo z ag (by simp[nc,c7]) b he;exact bR ab g1 g2
    exact fun z bz=>this z x bz rfl
   exact(key _ aO (ba w hw).1 (ba w hw).2).elim
end
section
open Go
theorem abE{E:Int->Int->Prop}{x:Int}{r:Int->Nat}{M:Nat}(h:∀z u,z≠x->E z u->r u<r z)(ei:∀u,E x u->r u<M)(ax:∀u,E x u->¬nB E u x):∃eZ:Int->Nat,∀z u,E z u->eZ u<eZ z:=by
 classical
 refine⟨fun z=>if nB E z x then r z+M else r z,fun z u he=>?_⟩;show(if nB E u x then r u+M else r u)<(if nB E z x then r z+M else r z);by_cases bz:z=x
 ·subst bz;have J:=ax u he;have U:=ei u he;rw[if_neg J,if_pos (nB.refl z)];omega
 ·have J:=h z u bz he;by_cases hu:nB E u x
  ·rw[if_pos hu,if_pos (nB.step he hu)];omega
  ·rw[if_neg hu];split<;>omega
def nH(ph:Int->Option T)(ρ:Int->Int):Nat->Int->T
 |0,v=>.var (ρ v)
 |n+1,v=>match ph (ρ v)with
  |none=>.var (ρ v)
  |some t=>t.ap (nH ph ρ n)
section
variable {ph:Int->Option T} {ρ:Int->Int} {r:Int->Nat}
theorem aee(fb:∀v,ρ (ρ v)=ρ v):∀(n:Nat) (v:Int),nH ph ρ n v=nH ph ρ n (ρ v)
 |0,v=>by simp[nH,fb]
 |n+1,v=>by simp[nH,fb]
theorem TN(fb:∀v,ρ (ρ v)=ρ v)(aO:∀z u,jy ph ρ z u->r u<r z):∀(n:Nat) (v:Int),r (ρ v)<n->nH ph ρ n v=nH ph ρ (n+1) v
 |0,_,h=>Ω
 |n+1,v,h=>by
  show(match ph (ρ v)with|none=>T.var (ρ v)|some t=>t.ap (nH ph ρ n))=(match ph (ρ v)with|none=>T.var (ρ v)|some t=>t.ap (nH ph ρ (n+1)));cases e:ph (ρ v)with
  |none=>rfl
  |some t=>refine uU fun w hw=>TN fb aO n w ?_;have:=aO (ρ v) (ρ w) ⟨fb v,t,w,e,hw,rfl⟩;omega
theorem TM(fb:∀v,ρ (ρ v)=ρ v)(aO:∀z u,jy ph ρ z u->r u<r z){n:Nat}{v:Int}(h:r (ρ v)<n):∀k,nH ph ρ (n+k) v=nH ph ρ n v
 |0=>rfl
 |k+1=>by rw[<-TM fb aO h k];exact(TN fb aO (n+k) v Ω).symm
def hr(ph:Int->Option T)(ρ:Int->Int)(r:Int->Nat)(v:Int):T:=nH ph ρ (r (ρ v)+1) v
theorem AJ(fb:∀v,ρ (ρ v)=ρ v)(v:Int):hr ph ρ r v=hr ph ρ r (ρ v):=by unfold hr;rw[aee fb,fb]
theorem Da{v:Int}(h:ph (ρ v)=none):hr ph ρ r v= .var (ρ v):=by simp[hr,nH,h]
theorem AK(fb:∀v,ρ (ρ v)=ρ v)(aO:∀z u,jy ph ρ z u->r u<r z){v:Int}{t:T}(h:ph (ρ v)=some t):hr ph ρ r v=t.ap (hr ph ρ r):=by show nH ph ρ (r (ρ v)+1) v=_;simp only[nH,h];refine uU fun w hw=>?_;have J:=aO (ρ v) (ρ w) ⟨fb v,t,w,h,hw,rfl⟩;have:=TM fb aO (n:=r (ρ w)+1) (v:=w) Ω (r (ρ v)-(r (ρ w)+1));rw[show r (ρ w)+1+(r (ρ v)-(r (ρ w)+1))=r (ρ v)from by omega]at this;exact this
theorem ahr(fb:∀v,ρ (ρ v)=ρ v)(aO:∀z u,jy ph ρ z u->r u<r z):kx ph ρ (hr ph ρ r):=⟨AJ fb,fun x t ab h=>AK fb aO (by rw[ab];exact h)⟩
theorem I2{V:List Int}(gX:o6 V ph){aQ:Int->T}(h:kx ph ρ aQ){z u:Int}(he:jy ph ρ z u):(aQ u).size<(aQ z).size:=by obtain⟨J,t,w,U,ar,rfl⟩:=he;rw[h.2 z t J U,<-h.1 w];exact(BJ aQ ar).2 (gX z t U).1
theorem I3{V:List Int}(gX:o6 V ph){aQ:Int->T}(h:kx ph ρ aQ){z u:Int}(he:nB (jy ph ρ) z u):(aQ u).size<=(aQ z).size:=by
 induction he with
 |refl=>exact fc _
 |step J _ bR=>have:=I2 gX h J;omega
end
theorem ab7(r:Int->Nat)(t:T):∃M,∀w,t.occ w=true->r w<M:=by
 induction t with
 |var n=>exact⟨r n+1,fun w hw=>by simp[T.occ]at hw;subst hw;omega⟩
 |pair a b dG dK=>
  obtain⟨abm,J⟩:=dG;obtain⟨abn,U⟩:=dK;refine⟨abm+abn,fun w hw=>?_⟩;simp only[T.occ,lu]at hw;rcases hw with hw|hw
  ·have:=J w hw;omega
  ·have:=U w hw;omega
 |_=>exact⟨0,fun w hw=>by simp[T.occ]at hw⟩
theorem ER{ph:Int->Option T}{ρ:Int->Int}(fb:∀v,ρ (ρ v)=ρ v){x:Int}{r:Int->Nat}(h:∀z u,z≠x->jy ph ρ z u->r u<r z)(ax:∀u,jy ph ρ x u->¬nB (jy ph ρ) u x):∃aQ,kx ph ρ aQ:=by
 have ei:∃M,∀u,jy ph ρ x u->r u<M:=by
  cases e:ph x with
  |none=>exact⟨0,fun u ⟨_,t,w,J,_⟩=>by rw[e]at J;cases J⟩
  |some t=>obtain⟨M,ei⟩:=ab7 (fun w=>r (ρ w)) t;refine⟨M,fun u ⟨_,da,w,J,U,ar⟩=>?_⟩;rw[e]at J;cases J;subst ar;exact ei w U
 obtain⟨M,ei⟩:=ei;obtain⟨eZ,dY⟩:=abE h ei ax;exact⟨_,ahr fb dY⟩
structure mr (c:bA) (ρ:Int->Int):Prop where
 ru:jZ c.up ρ
 sh:o6 (cx c.up) c.ph
 sat:∃aQ,kx c.ph ρ aQ
theorem mr.sm{c cw:bA}{ρ:Int->Int}(h:mr c ρ)(k:jh ρ c cw):mr cw ρ:=⟨k.ru,by rw[k.keys,k.ph];exact h.sh,by rw[k.ph];exact h.sat⟩
def iQ(c:bA)(ρ:Int->Int):Nat:=((cx c.up).filter fun v=>decide (ρ v=v)).length+((cx c.up).filter fun v=>decide (ρ v=v)&& !(c.ph v).isSome).length
theorem x2{c cw:bA}{ρ:Int->Int}(k:jh ρ c cw):iQ cw ρ=iQ c ρ:=by unfold iQ;rw[k.keys,k.ph]
structure jz (c:bA) (ρ:Int->Int) (p:(Int->T)->Prop) (o:Bool×bA):Prop where
 keys:cx o.2.up=cx c.up
 rest:o.2.color=c.color/\o.2.size=c.size/\o.2.full=c.full
 yes:o.1=true->∃ρ',mr o.2 ρ'/\(∀aQ,kx o.2.ph ρ' aQ↔kx c.ph ρ aQ/\p aQ)/\((ρ'=ρ/\o.2.ph=c.ph)\/iQ o.2 ρ'<iQ c ρ)
 no:o.1=false->∀aQ,kx c.ph ρ aQ->¬p aQ
theorem jh.rest{ρ:Int->Int}{c cw:bA}(h:jh ρ c cw):cw.color=c.color/\cw.size=c.size/\cw.full=c.full:=by rw[h.eq];exact⟨rfl,rfl,rfl⟩
theorem jz.sm{c cw:bA}{ρ:Int->Int}{p:(Int->T)->Prop}{o:Bool×bA}(k:jh ρ c cw)(h:jz cw ρ p o):jz c ρ p o:=⟨h.keys.trans k.keys,by rw[h.rest.1,h.rest.2.1,h.rest.2.2];exact k.rest,fun e=>by rw[<-x2 k,<-k.ph];exact h.yes e,by rw[<-k.ph];exact h.no⟩
theorem jz.congr{c:bA}{ρ:Int->Int}{p q:(Int->T)->Prop}{o:Bool×bA}(kT:∀aQ,kx c.ph ρ aQ->(p aQ↔q aQ))(h:jz c ρ p o):jz c ρ q o:=⟨h.keys,h.rest,fun e=>by obtain⟨ρ',J,U,ar⟩:=h.yes e;exact⟨ρ',J,fun aQ=>(U aQ).trans (and_congr_right fun ag=>kT aQ ag),ar⟩,fun e aQ ag bn=>h.no e aQ ag ((kT aQ ag).2 bn)⟩
theorem xz(c:bA)(x:Int)(t:T)(z:Int):(c.know x t).ph z=if z=x then some t else c.ph z:=by
 simp only[bA.ph,bA.know,bA.shd,bA.shp,n9];by_cases h:z=x
 ·simp[h]
 ·simp only[if_neg h];exact ite_congr rfl (fun _=>rfl) fun _=>rfl
theorem WN{c:bA}{ρ:Int->Int}(hi:mr c ρ){x:Int}(ab:ρ x=x)(ad:x∈cx c.up)(jT:c.ph x=none){t:T}(aJ:t.kind≠1)(aF:∀w,t.occ w=true->w∈cx c.up):
  ∃N o,(∀n,N<=n->vF n x t c=some o)/\jz c ρ (fun aQ=>aQ x=t.ap aQ) o:=by
 have gX:o6 (cx (c.know x t).up) (c.know x t).ph:=by
  intro z u bz;rw[xz]at bz;split at bz
  ·rename_i e;cases bz;subst e;exact⟨aJ,aF,ad⟩
  ·exact hi.sh z u bz
 have lE:∀aQ,kx (c.know x t).ph ρ aQ↔kx c.ph ρ aQ/\aQ x=t.ap aQ:=by
  intro aQ;constructor
  ·rintro⟨J,U⟩;refine⟨⟨J,fun z u bz hu=>U z u bz ?_⟩,U x t ab (by rw[xz];simp)⟩;rw[xz];split
   ·rename_i e;subst e;rw[jT]at hu;cases hu
   ·exact hu
  ·rintro⟨⟨J,U⟩,ar⟩;refine⟨J,fun z u bz hu=>?_⟩;rw[xz]at hu;split at hu
   ·rename_i e;subst e;cases hu;exact ar
   ·exact U z u bz hu
 obtain⟨N,a,J,U,ar⟩:=Iw (x:=x) (c:=c.know x t) (t:=t) hi.ru gX aF;refine⟨N,(!a.found,a.c),fun n ax=>by simp[vF,J n ax],U.keys,U.rest,fun aK=>?_,fun aK aQ ag he=>?_⟩
 ·simp only[Bool.not_eq_true']at aK;have aiF:∀u,jy (c.know x t).ph ρ x u->¬nB (jy (c.know x t).ph ρ) u x:=by rintro u ⟨_,da,w,ba,bo,rfl⟩ aO;rw[xz,if_pos rfl]at ba;cases ba;have:=ar.2 ⟨w,bo,aO⟩;rw[aK]at this;cases this
  obtain⟨ls,vA⟩:=hi.sat
  have aiV:=ER (ph:=(c.know x t).ph) (ρ:=ρ) hi.ru.idem (x:=x) (r:=fun z=>(ls z).size) (fun z u bz he=>by refine I2 hi.sh vA ?_;obtain⟨ak,da,w,aD,bh⟩:=he;rw[xz,if_neg bz]at aD;exact⟨ak,da,w,aD,bh⟩) aiF
  refine⟨ρ,⟨U.ru,?_,?_⟩,fun aQ=>?_,.inr ?_⟩
  ·simp only[U.keys,U.ph];exact gX
  ·simp only[U.ph];exact aiV
  ·simp only[U.ph];exact lE aQ
  ·simp only[x2 U];unfold iQ;have ak:cx (c.know x t).up=cx c.up:=rfl;rw[ak];have:=Gs (V:=cx c.up) (v:=x) (p:=fun v=>decide (ρ v=v)&& !(c.ph v).isSome) (q:=fun v=>decide (ρ v=v)&& !((c.know x t).ph v).isSome) (fun z _ bz=>by
    rw[xz]at bz;split at bz
    ·simp at bz
    ·exact bz) ad (by simp[ab,jT]) (by simp[xz])
   omega
 ·simp only[Bool.not_eq_false']at aK;obtain⟨w,ba,bo⟩:=ar.1 aK;have ep:=(lE aQ).2 ⟨ag,he⟩;have:=I3 gX ep bo;have a6:=(BJ aQ ba).2 aJ;rw[<-he]at a6;rw[<-ag.1 w]at this;omega
def jD(ρ:Int->Int)(x y:Int)(v:Int):Int:=if ρ v=y then x else ρ v
section
variable {c:bA} {ρ:Int->Int} {x y:Int}
theorem qH(ab:ρ x=x)(aL:ρ y=y)(ib:x≠y){z:Int}:jD ρ x y z=z↔ρ z=z/\z≠y:=by
 unfold jD;split
 ·rename_i e;constructor
  ·intro h;subst h;rw[ab]at e;exact absurd e ib
  ·rintro⟨J,U⟩;rw[J]at e;exact absurd e U
 ·rename_i e;constructor
  ·intro h;exact⟨h,fun aD=>e (by rw[aD,aL])⟩
  ·exact fun h=>h.1
theorem jZ.join(h:jZ c.up ρ)(ab:ρ x=x)(aL:ρ y=y)(ib:x<y)(y9:x∈cx c.up)(sL:y∈cx c.up):jZ (c.join x y).up (jD ρ x y):=by
 have ad:cx (c.join x y).up=cx c.up:=D4 sL;refine⟨fun v u aF=>?_,fun v aF=>?_⟩
 ·rw[ad];have mE:c7 v (eU y x c.up)=some u:=aF;rw[n9]at mE;by_cases e:v=y
  ·subst e;rw[if_pos rfl]at mE;cases mE;have br:=(h.mem y9).2;rw[ab]at br;refine⟨⟨br,Ω,y9⟩,?_,⟨fun e=>?_,fun e=>Ω⟩⟩
   ·unfold jD;rw[ab,aL,if_pos rfl,if_neg Ω]
   ·have:=((qH ab aL Ω).1 e).2;exact absurd rfl this
  ·rw[if_neg e]at mE;obtain⟨bH,a2,a3⟩:=h.up v u mE;refine⟨bH,by unfold jD;rw[a2],?_⟩;rw[qH ab aL Ω,a3];exact⟨fun h=>h.1,fun h=>⟨h,e⟩⟩
 ·rw[ad]at aF;have:=h.no v aF;unfold jD;rw[this,if_neg fun e=>aF (by rw[e];exact sL)]
theorem apv{ph:Int->Option T}(ab:ρ x=x)(aL:ρ y=y)(ib:x≠y)(aQ:Int->T):(kx ph (jD ρ x y) aQ/\∀t,ph y=some t->aQ x=t.ap aQ)↔(kx ph ρ aQ/\aQ x=aQ y):=by
 constructor
 ·rintro⟨⟨J,U⟩,ar⟩;have Mx:aQ y=aQ x:=by have:=J y;simpa[jD,aL]using this
  refine⟨⟨fun v=>?_,fun z t bz aJ=>?_⟩,Mx.symm⟩
  ·have:=J v;unfold jD at this;split at this
   ·rename_i e;rw[e,this,Mx]
   ·exact this
  ·by_cases e:z=y
   ·subst e;rw[Mx];exact ar t aJ
   ·exact U z t ((qH ab aL ib).2 ⟨bz,e⟩) aJ
 ·rintro⟨⟨J,U⟩,ar⟩;refine⟨⟨fun v=>?_,fun z t bz aJ=>U z t ((qH ab aL ib).1 bz).1 aJ⟩,fun t aJ=>by rw[ar];exact U y t aL aJ⟩;unfold jD;split
  ·rename_i e;rw[J v,e,ar]
  ·exact J v
theorem aoM{V:List Int}{ph:Int->Option T}(gX:o6 V ph)(ab:ρ x=x)(aL:ρ y=y)(ib:x≠y){aQ:Int->T}(h:kx ph ρ aQ){z u:Int}(bz:z≠x)(he:jy ph (jD ρ x y) z u):(if u=x then 0 else(aQ u).size)<(if z=x then 0 else(aQ z).size):=by
 obtain⟨J,t,w,U,ar,rfl⟩:=he;have aO:=(qH ab aL ib).1 J;rw[if_neg bz];split
 ·exact T.size_pos _
 ·rename_i cM;have:jD ρ x y w=ρ w:=by
   unfold jD at cM⊢;split
   ·rename_i e;rw[if_pos e]at cM;exact absurd rfl cM
   ·rfl
  rw[this];exact I2 gX h ⟨aO.1,t,w,U,ar,rfl⟩
theorem abj(ab:ρ x=x)(aL:ρ y=y)(ib:x≠y)(sL:y∈cx c.up):iQ (c.join x y) (jD ρ x y)<iQ c ρ:=by have ad:cx (c.join x y).up=cx c.up:=D4 sL;have bF:(c.join x y).ph=c.ph:=rfl;unfold iQ;rw[ad,bF];have J:=Gs (V:=cx c.up) (v:=y) (p:=fun v=>decide (ρ v=v)) (q:=fun v=>decide (jD ρ x y v=v)) (fun z _ bz=>by simp only[eW]at bz⊢;exact((qH ab aL ib).1 bz).1) sL (by simp[aL]) (by simp only[fC];exact fun h=>((qH ab aL ib).1 h).2 rfl);have U:=Gr (V:=cx c.up) (p:=fun v=>decide (ρ v=v)&& !(c.ph v).isSome) (q:=fun v=>decide (jD ρ x y v=v)&& !(c.ph v).isSome) (fun z _ bz=>by simp only[cy,eW]at bz⊢;exact⟨((qH ab aL ib).1 bz.1).1,bz.2⟩);omega
end
theorem BU{c:bA}{x:Int}(h:c.shd x=false):c.ph x=none:=by simp[bA.ph,h]
theorem BV{c:bA}{x:Int}(h:¬c.shd x=false):c.ph x=some (c.shp x):=by simp[bA.ph];simpa using h
theorem TG{c:bA}{ρ:Int->Int}(hi:mr c ρ){x y:Int}(ab:ρ x=x)(aL:ρ y=y)(ib:x<y)(y9:x∈cx c.up)(sL:y∈cx c.up)
  (rec:∀(bM:bA) (lQ:Int->Int),mr bM lQ->cx bM.up=cx c.up->iQ bM lQ<iQ c ρ->∀a b:T,(∀w,a.occ w=true->w∈cx c.up)->(∀w,b.occ w=true->w∈cx c.up)->∃N o,(∀n,N<=n->gO n a b bM=some o)/\jz bM lQ (fun aQ=>a.ap aQ=b.ap aQ) o):
  ∃N o,(∀n,N<=n->r8 (gO n) n x y (c.join x y)=some o)/\jz c ρ (fun aQ=>aQ x=aQ y) o:=by
 have cM:x≠y:=Ω
 have ad:cx (c.join x y).up=cx c.up:=D4 sL;have bF:(c.join x y).ph=c.ph:=rfl;have mC:=hi.ru.join ab aL ib y9 sL;have c5:=abj (c:=c) ab aL cM sL;have gX:o6 (cx (c.join x y).up) (c.join x y).ph:=by rw[ad,bF];exact hi.sh
 obtain⟨ls,vA⟩:=hi.sat
 have G7:∀z u,z≠x->jy c.ph (jD ρ x y) z u->(fun z=>if z=x then 0 else(ls z).size) u<(fun z=>if z=x then 0 else(ls z).size) z:=fun z u bz he=>aoM hi.sh ab aL cM vA bz he;have lE:=fun aQ=>apv (ph:=c.ph) ab aL cM aQ;have VJ:∀{cw:bA},jh (jD ρ x y) (c.join x y) cw->(∃aQ,kx c.ph (jD ρ x y) aQ)->c.ph y=none->jz c ρ (fun aQ=>aQ x=aQ y) (true,cw):=by intro cw k ag ax;refine⟨k.keys.trans ad,k.rest,fun _=>⟨jD ρ x y,⟨k.ru,by simp only[k.keys,k.ph];exact gX,by simp only[k.ph];exact ag⟩,fun aQ=>?_,.inr (by simp only[x2 k];exact c5)⟩,fun e=>by cases e⟩;simp only[k.ph,bF];rw[<-lE aQ];exact⟨fun h=>⟨h,fun t aJ=>by rw[ax]at aJ;cases aJ⟩,fun h=>h.1⟩
 by_cases J:(c.join x y).shd y=false
 ·have Vw:c.ph y=none:=BU J;by_cases U:(c.join x y).shd x=false
  ·have oF:c.ph x=none:=BU U;refine⟨0,(true,c.join x y),fun n _=>by simp only[r8,if_pos J,if_pos U],VJ (jh.refl mC) ?_ Vw⟩;exact ER mC.idem (x:=x) G7 fun u ⟨_,t,w,q,_⟩=>by rw[oF]at q;cases q
  ·have oG:c.ph x=some ((c.join x y).shp x):=BV U;obtain⟨N,a,ak,aD,bh⟩:=Iw (x:=x) (c:=c.join x y) (t:=(c.join x y).shp x) mC gX (by rw[ad];exact(hi.sh _ _ oG).2.1);refine⟨N,(!a.found,a.c),fun n ax=>by simp only[r8,if_pos J,if_neg U,ak n ax,o0],?_⟩;cases aK:a.found with
   |false=>refine VJ aD (ER mC.idem (x:=x) G7 fun u ⟨_,t,w,ba,bo,b3⟩ aO=>?_) Vw;rw[oG]at ba;cases ba;subst b3;have:=bh.2 ⟨w,bo,aO⟩;rw[aK]at this;cases this
   |true=>refine⟨aD.keys.trans ad,aD.rest,(fun e=>by cases e),fun _ aQ ag he=>?_⟩;obtain⟨w,ba,bo⟩:=bh.1 aK;have ep:=((lE aQ).2 ⟨ag,he⟩).1;have ar:=I3 hi.sh ep bo;have a6:=(BJ aQ ba).2 (hi.sh _ _ oG).1;rw[<-ep.2 x _ ((qH ab aL cM).2 ⟨ab,cM⟩) oG]at a6;rw[<-ep.1 w]at ar;omega
 ·have rp:c.ph y=some ((c.join x y).shp y):=BV J;by_cases U:(c.join x y).shd x=false
  ·have oF:c.ph x=none:=BU U;have la:mr (c.join x y) (jD ρ x y):=⟨mC,gX,ER mC.idem (x:=x) G7 fun u ⟨_,t,w,q,_⟩=>by rw[bF,oF]at q;cases q⟩;obtain⟨N,o,ak,aD⟩:=WN la (x:=x) ((qH ab aL cM).2 ⟨ab,cM⟩) (by rw[ad];exact y9) oF (t:=(c.join x y).shp y) (hi.sh _ _ rp).1 (by rw[ad];exact(hi.sh _ _ rp).2.1);refine⟨N,o,fun n ax=>by simp only[r8,if_neg J,if_pos U,ak n ax],aD.keys.trans ad,aD.rest,fun aK=>?_,fun aK aQ ag he=>?_⟩
   ·obtain⟨ρ',g1,g2,g3⟩:=aD.yes aK;refine⟨ρ',g1,fun aQ=>?_,.inr ?_⟩
    ·rw[g2 aQ,<-lE aQ];refine and_congr_right fun _=>⟨fun h t aJ=>by rw[rp]at aJ;cases aJ;exact h,fun h=>h _ rp⟩
    ·rcases g3 with⟨rfl,g3⟩|g3
     ·have:iQ o.2 (jD ρ x y)=iQ (c.join x y) (jD ρ x y):=by unfold iQ;rw[aD.keys,g3]
      omega
     ·omega
   ·obtain⟨s1,s2⟩:=(lE aQ).2 ⟨ag,he⟩;exact aD.no aK aQ s1 (s2 _ rp)
  ·have oG:c.ph x=some ((c.join x y).shp x):=BV U;obtain⟨h0,a,ak,aD,bh⟩:=Iw (x:=x) (c:=c.join x y) (t:=(c.join x y).shp y) mC gX (by rw[ad];exact(hi.sh _ _ rp).2.1);cases aK:a.found with
   |true=>refine⟨h0,(false,a.c),fun n ax=>by simp only[r8,if_neg J,if_neg U,ak n ax,ki,aK,if_true],aD.keys.trans ad,aD.rest,(fun e=>by cases e),fun _ aQ ag he=>?_⟩;obtain⟨w,ba,bo⟩:=bh.1 aK;obtain⟨ep,lg⟩:=(lE aQ).2 ⟨ag,he⟩;have ar:=I3 hi.sh ep bo;have a6:=(BJ aQ ba).2 (hi.sh _ _ rp).1;rw[<-lg _ rp]at a6;rw[<-ep.1 w]at ar;omega
   |false=>
    have VM:a.c.shp x=(c.join x y).shp x:=aD.shp x;obtain⟨jA,b,f1,f2,f3⟩:=Iw (x:=x) (c:=a.c) (t:=(c.join x y).shp x) aD.ru (by rw[aD.keys,aD.ph];exact gX) (by rw[aD.keys,ad];exact(hi.sh _ _ oG).2.1);have dr:=aD.trans f2;cases a7:b.found with
    |true=>refine⟨max h0 jA,(false,b.c),fun n ax=>by simp only[r8,if_neg J,if_neg U,ak n Ω,ki,aK,VM,f1 n Ω,a7,if_true,ho,if_false],dr.keys.trans ad,dr.rest,(fun e=>by cases e),fun _ aQ ag he=>?_⟩;obtain⟨w,ba,bo⟩:=f3.1 a7;obtain⟨ep,_⟩:=(lE aQ).2 ⟨ag,he⟩;rw[aD.ph]at bo;have ar:=I3 hi.sh ep bo;have a6:=(BJ aQ ba).2 (hi.sh _ _ oG).1;rw[<-ep.2 x _ ((qH ab aL cM).2 ⟨ab,cM⟩) oG]at a6;rw[<-ep.1 w]at ar;omega
    |false=>
     have A0:mr b.c (jD ρ x y):=by refine⟨dr.ru,by rw[dr.keys,dr.ph];exact gX,?_⟩;rw[dr.ph];refine ER mC.idem (x:=x) G7 fun u ⟨_,t,w,ba,bo,b3⟩ aO=>?_;rw[bF,oG]at ba;cases ba;subst b3;have:=f3.2 ⟨w,bo,by rw[aD.ph];exact aO⟩;rw[a7]at this;cases this
     obtain⟨z1,o,g1,g2⟩:=rec b.c (jD ρ x y) A0 (dr.keys.trans ad) (by rw[x2 dr];exact c5) ((c.join x y).shp x) ((c.join x y).shp y) (hi.sh _ _ oG).2.1 (hi.sh _ _ rp).2.1;refine⟨max (max h0 jA) z1,o,fun n ax=>?_,g2.keys.trans (dr.keys.trans ad),?_,fun cZ=>?_,fun cZ aQ ag he=>?_⟩
     ·simp only[r8,if_neg J,if_neg U,ak n Ω,ki,aK,VM,f1 n Ω,a7,ho,if_false,dr.shp];exact g1 n Ω
     ·rw[g2.rest.1,g2.rest.2.1,g2.rest.2.2];exact dr.rest
     ·obtain⟨ρ',ba,bo,b3⟩:=g2.yes cZ;refine⟨ρ',ba,fun aQ=>?_,.inr ?_⟩
      ·rw[bo aQ,dr.ph,bF,<-lE aQ];refine and_congr_right fun h=>?_;have:=h.2 x _ ((qH ab aL cM).2 ⟨ab,cM⟩) oG;rw[<-this];exact⟨fun h t aJ=>by rw[rp]at aJ;cases aJ;exact h,fun h=>h _ rp⟩
      ·have:iQ b.c (jD ρ x y)<iQ c ρ:=by rw[x2 dr];exact c5
       rcases b3 with⟨rfl,b3⟩|b3
       ·have:iQ o.2 (jD ρ x y)=iQ b.c (jD ρ x y):=by unfold iQ;rw[g2.keys,b3]
        omega
       ·omega
     ·obtain⟨s1,s2⟩:=(lE aQ).2 ⟨ag,he⟩;refine g2.no cZ aQ (by rw[dr.ph];exact s1) ?_;have:=s1.2 x _ ((qH ab aL cM).2 ⟨ab,cM⟩) oG;rw[<-this];exact s2 _ rp
def u3:T->T->Nat
 | .var _,_=>1
 |_,.var _=>2
 |_,_=>0
theorem adi(K:Nat):∀(m:Nat) (c:bA) (ρ:Int->Int) (a b:T) (ls:Int->T),mr c ρ->kx c.ph ρ ls->(∀w,a.occ w=true->w∈cx c.up)->(∀w,b.occ w=true->w∈cx c.up)->iQ c ρ=K->((a.ap ls).size+(b.ap ls).size)*3+u3 a b=m->
  ∃N o,(∀n,N<=n->gO n a b c=some o)/\jz c ρ (fun aQ=>a.ap aQ=b.ap aQ) o:=by
 induction K using Nat.strongRecOn with
 |ind K ajl=>
 have VW:∀(bM:bA) (lQ:Int->Int),mr bM lQ->iQ bM lQ<K->∀a b:T,(∀w,a.occ w=true->w∈cx bM.up)->(∀w,b.occ w=true->w∈cx bM.up)->∃N o,(∀n,N<=n->gO n a b bM=some o)/\jz bM lQ (fun aQ=>a.ap aQ=b.ap aQ) o:=by
  intro bM lQ J U a b bD af;obtain⟨aQ,hM⟩:=J.sat
  exact ajl _ U _ bM lQ a b aQ J hM bD af rfl rfl
 intro m;induction m using Nat.strongRecOn with
 |ind m Bm=>
 intro c ρ a b ls hi vA bD af c5 hm;have aio:∀{a b:T},(∀n,gO (n+1) a b c=some (decide (a=b),c))->(∀aQ,a.ap aQ=a)->(∀aQ,b.ap aQ=b)->∃N o,(∀n,N<=n->gO n a b c=some o)/\jz c ρ (fun aQ=>a.ap aQ=b.ap aQ) o:=by
  intro a b J U ar;refine⟨1,(decide (a=b),c),fun n ax=>?_,rfl,⟨rfl,rfl,rfl⟩,fun h=>?_,fun h aQ _ he=>?_⟩
  ·obtain⟨n',rfl⟩:∃n',n=n'+1:=⟨n-1,Ω⟩;exact J n'
  ·simp only[eW]at h;subst h;exact⟨ρ,hi,fun aQ=>⟨fun h=>⟨h,rfl⟩,fun h=>h.1⟩,.inl ⟨rfl,rfl⟩⟩
  ·simp only[fC]at h;rw[U,ar]at he;exact h he
 have UZ:∀{a b:T},(∀n,gO (n+1) a b c=some (decide (a=b),c))->(∀aQ,a.ap aQ≠b.ap aQ)->a≠b->∃N o,(∀n,N<=n->gO n a b c=some o)/\jz c ρ (fun aQ=>a.ap aQ=b.ap aQ) o:=by intro a b J U ar;refine⟨1,(false,c),fun n ax=>?_,rfl,⟨rfl,rfl,rfl⟩,(fun h=>by cases h),fun _ aQ _ he=>U aQ he⟩;obtain⟨n',rfl⟩:∃n',n=n'+1:=⟨n-1,Ω⟩;rw[J n',hQ ar]
 have w8:∀(i:Int) (b:T),b.kind≠1->(∀n,gO (n+1) (.var i) b c=(rt c i).bind fun p=>if p.2.shd p.1=false then vF n p.1 b p.2 else gO n (p.2.shp p.1) b p.2)->i∈cx c.up->(∀w,b.occ w=true->w∈cx c.up)->((ls i).size+(b.ap ls).size)*3<m->∃N o,(∀n,N<=n->gO n (.var i) b c=some o)/\jz c ρ (fun aQ=>aQ i=b.ap aQ) o:=by
  intro i b iU U2 xg af bE;obtain⟨bM,ak,aS⟩:=ur hi.ru xg;have la:=hi.sm aS;by_cases ag:bM.shd (ρ i)=false
  ·obtain⟨N,o,aD,dI⟩:=WN la (x:=ρ i) (hi.ru.idem i) (by rw[aS.keys];exact(hi.ru.mem xg).1) (BU ag) iU (by rw[aS.keys];exact af);refine⟨N+1,o,fun n ax=>?_,jz.sm aS (jz.congr (fun aQ h=>?_) dI)⟩
   ·obtain⟨n',rfl⟩:∃n',n=n'+1:=⟨n-1,Ω⟩;rw[U2,ak];simp only[ki,if_pos ag];exact aD n' Ω
   ·rw[<-h.1 i]
  ·have oG:bM.ph (ρ i)=some (bM.shp (ρ i)):=BV ag;have lE:∀aQ,kx bM.ph ρ aQ->aQ i=(bM.shp (ρ i)).ap aQ:=fun aQ h=>by rw[h.1 i];exact h.2 _ _ (hi.ru.idem i) oG
   have hL:=(la.sh _ _ oG).1;have ah2:u3 (bM.shp (ρ i)) b=0:=by cases e:bM.shp (ρ i)<;>cases b<;>simp_all[u3,T.kind]
   have VT:kx bM.ph ρ ls:=by rw[aS.ph];exact vA
   obtain⟨N,o,aD,dI⟩:=Bm (((bM.shp (ρ i)).ap ls).size*3+(b.ap ls).size*3) (by rw[<-lE ls VT];omega) bM ρ (bM.shp (ρ i)) b ls la VT (la.sh _ _ oG).2.1 (by rw[aS.keys];exact af) (by rw[x2 aS];exact c5) (by rw[ah2];omega);refine⟨N+1,o,fun n ax=>?_,jz.sm aS (jz.congr (fun aQ h=>?_) dI)⟩
   ·obtain⟨n',rfl⟩:∃n',n=n'+1:=⟨n-1,Ω⟩;rw[U2,ak];simp only[ki,if_neg ag];exact aD n' Ω
   ·rw[lE aQ h]
 have DT:∀(i j:Int),i∈cx c.up->j∈cx c.up->∃N o,(∀n,N<=n->gO n (.var i) (.var j) c=some o)/\jz c ρ (fun aQ=>aQ i=aQ j) o:=by
  intro i j xg Hw;obtain⟨bM,ak,aS⟩:=ur hi.ru xg;obtain⟨cp,aD,be⟩:=ur aS.ru (by rw[aS.keys];exact Hw:j∈cx bM.up);have tX:=aS.trans be;have fO:=hi.sm tX;have wT:ρ i∈cx cp.up:=by rw[tX.keys];exact(hi.ru.mem xg).1
  have Vg:ρ j∈cx cp.up:=by rw[tX.keys];exact(hi.ru.mem Hw).1
  have wZ:∀(bM:bA) (lQ:Int->Int),mr bM lQ->cx bM.up=cx cp.up->iQ bM lQ<iQ cp ρ->∀a b:T,(∀w,a.occ w=true->w∈cx cp.up)->(∀w,b.occ w=true->w∈cx cp.up)->∃N o,(∀n,N<=n->gO n a b bM=some o)/\jz bM lQ (fun aQ=>a.ap aQ=b.ap aQ) o:=fun dc ρ3 J U ar a b bD af=>VW dc ρ3 J (by rw[x2 tX,c5]at ar;exact ar) a b (by rw[U];exact bD) (by rw[U];exact af);rcases Int.lt_trichotomy (ρ i) (ρ j)with h|h|h
  ·obtain⟨N,o,bh,jv⟩:=TG fO (hi.ru.idem i) (hi.ru.idem j) h wT Vg wZ;refine⟨N+1,o,fun n ax=>?_,jz.sm tX (jz.congr (fun aQ h=>?_) jv)⟩
   ·obtain⟨n',rfl⟩:∃n',n=n'+1:=⟨n-1,Ω⟩;simp only[gO,ak,aD,ki];rw[if_neg Ω,if_neg Ω];exact bh n' Ω
   ·rw[h.1 i,h.1 j]
  ·refine⟨1,(true,cp),fun n ax=>?_,tX.keys,tX.rest,fun _=>⟨ρ,fO,fun aQ=>?_,.inl ⟨rfl,tX.ph⟩⟩,fun e=>by cases e⟩
   ·obtain⟨n',rfl⟩:∃n',n=n'+1:=⟨n-1,Ω⟩;simp only[gO,ak,aD,ki,if_pos h]
   ·simp only[tX.ph];exact⟨fun ag=>⟨ag,by rw[ag.1 i,ag.1 j,h]⟩,fun ag=>ag.1⟩
  ·obtain⟨N,o,bh,jv⟩:=TG fO (hi.ru.idem j) (hi.ru.idem i) h Vg wT wZ;refine⟨N+1,o,fun n ax=>?_,jz.sm tX (jz.congr (fun aQ h=>?_) jv)⟩
   ·obtain⟨n',rfl⟩:∃n',n=n'+1:=⟨n-1,Ω⟩;simp only[gO,ak,aD,ki];rw[if_neg Ω,if_pos h];exact bh n' Ω
   ·rw[h.1 i,h.1 j];exact⟨Eq.symm,Eq.symm⟩
 have Bg:∀(a:T) (j:Int),a.kind≠1->(∀n,gO (n+1) a (.var j) c=gO n (.var j) a c)->(∀n,gO (n+1) (.var j) a c=(rt c j).bind fun p=>if p.2.shd p.1=false then vF n p.1 a p.2 else gO n (p.2.shp p.1) a p.2)->j∈cx c.up->(∀w,a.occ w=true->w∈cx c.up)->((ls j).size+(a.ap ls).size)*3<m->∃N o,(∀n,N<=n->gO n a (.var j) c=some o)/\jz c ρ (fun aQ=>a.ap aQ=aQ j) o:=by intro a j J U ar Hw bD bE;obtain⟨N,o,ak,cX⟩:=w8 j a J ar Hw bD bE;refine⟨N+1,o,fun n ax=>?_,jz.congr (fun aQ _=>⟨Eq.symm,Eq.symm⟩) cX⟩;obtain⟨n',rfl⟩:∃n',n=n'+1:=⟨n-1,Ω⟩;rw[U];exact ak n' Ω
 cases a with
 |var i=>
  have xg:i∈cx c.up:=bD i (by simp[T.occ]);cases b with
  |var j=>exact DT i j xg (af j (by simp[T.occ]))
  |_=>exact w8 i _ (by simp[T.kind]) (fun n=>rfl) xg af (by simp only[T.ap,u3]at hm⊢;omega)
 |pair bH a2=>
  cases b with
  |var j=>exact Bg _ j (by simp[T.kind]) (fun n=>rfl) (fun n=>rfl) (af j (by simp[T.occ])) bD (by simp only[T.ap,u3]at hm⊢;omega)
  |pair bV b7=>
   have tL:∀p q:T,u3 p q<=2:=fun p q=>by cases p<;>cases q<;>simp[u3]
   have lA:∀w,bH.occ w=true->w∈cx c.up:=fun w hw=>bD w (by simp[T.occ,hw]);have qz:∀w,a2.occ w=true->w∈cx c.up:=fun w hw=>bD w (by simp[T.occ,hw]);have lZ:∀w,bV.occ w=true->w∈cx c.up:=fun w hw=>af w (by simp[T.occ,hw]);have nP:∀w,b7.occ w=true->w∈cx c.up:=fun w hw=>af w (by simp[T.occ,hw]);simp only[T.ap,T.size,u3]at hm;have f1:=tL bH bV;have f2:=tL a2 b7;obtain⟨h0,gU,ak,cX⟩:=Bm _ (by rw[<-hm];omega) c ρ bH bV ls hi vA lA lZ c5 rfl;obtain⟨alb,bM⟩:=gU;cases alb with
   |false=>refine⟨h0+1,(false,bM),fun n ax=>?_,cX.keys,cX.rest,(fun e=>by cases e),fun _ aQ ag he=>cX.no rfl aQ ag (by simp only[T.ap,T.pair.injEq]at he;exact he.1)⟩;obtain⟨n',rfl⟩:∃n',n=n'+1:=⟨n-1,Ω⟩;simp only[gO,ak n' Ω,ki,ho,if_false]
   |true=>
    obtain⟨lQ,ba,bo,b3⟩:=cX.yes rfl;simp only at ba bo b3;have yK:cx bM.up=cx c.up:=cX.keys;have DL:∃jA fB,(∀n,jA<=n->gO n a2 b7 bM=some fB)/\jz bM lQ (fun aQ=>a2.ap aQ=b7.ap aQ) fB:=by
     rcases b3 with⟨rfl,b3⟩|b3
     ·exact Bm _ (by rw[<-hm];omega) bM lQ a2 b7 ls ba (by rw[b3];exact vA) (by rw[yK];exact qz) (by rw[yK];exact nP) (by unfold iQ;rw[yK,b3];exact c5) rfl
     ·exact VW bM lQ ba Ω a2 b7 (by rw[yK];exact qz) (by rw[yK];exact nP)
    obtain⟨jA,fB,aD,dI⟩:=DL;refine⟨max h0 jA+1,fB,fun n ax=>?_,dI.keys.trans yK,?_,fun aK=>?_,fun aK aQ ag he=>?_⟩
    ·obtain⟨n',rfl⟩:∃n',n=n'+1:=⟨n-1,Ω⟩;simp only[gO,ak n' Ω,ki,if_true];exact aD n' Ω
    ·rw[dI.rest.1,dI.rest.2.1,dI.rest.2.2];exact cX.rest
    ·obtain⟨ρ2,s1,s2,s3⟩:=dI.yes aK;refine⟨ρ2,s1,fun aQ=>?_,?_⟩
     ·rw[s2 aQ,bo aQ];simp only[T.ap,T.pair.injEq,and_assoc]
     ·rcases b3 with⟨rfl,b3⟩|b3
      ·rcases s3 with⟨rfl,s3⟩|s3
       ·exact .inl ⟨rfl,s3.trans b3⟩
       ·have:iQ bM lQ=iQ c lQ:=by unfold iQ;rw[yK,b3]
        exact .inr Ω
      ·rcases s3 with⟨rfl,s3⟩|s3
       ·have:iQ fB.2 ρ2=iQ bM ρ2:=by unfold iQ;rw[dI.keys,s3]
        exact .inr Ω
       ·exact .inr Ω
    ·simp only[T.ap,T.pair.injEq]at he;exact dI.no aK aQ ((bo aQ).2 ⟨ag,he.1⟩) he.2
  |_=>exact UZ (fun n=>rfl) (fun aQ=>by simp[T.ap]) Ψ
 |_=>
  cases b with
  |var j=>exact Bg _ j (by simp[T.kind]) (fun n=>rfl) (fun n=>rfl) (af j (by simp[T.occ])) bD (by simp only[T.ap,u3]at hm⊢;omega)
  |_=>first|exact aio (fun n=>rfl) (fun aQ=>rfl) (fun aQ=>rfl)|exact UZ (fun n=>rfl) (fun aQ=>by simp[T.ap]) Ψ
end
section
open Go
def zT(rec:Int->bA->Option (Bool×bA))(v:Int)(a:bA×Bool):Option (bA×Bool):=if a.2=true then(rt a.1 v).bind fun p=>(rec p.1 p.2).map fun q=>(q.2,q.1)else some a
def zI(v:Int)(c:bA):Option (Int×bA):=(rt c v).map fun p=>(p.2.sz p.1,p.2)
def bA.grey(c:bA)(x:Int):bA:={c with color:=eU x 1 c.color,size:=eU x 1 c.size}
def bA.black(c:bA)(x:Int):bA:={c with color:=eU x 2 c.color}
def qW:Nat->Int->bA->Option (Bool×bA)
 |0,_,_=>none
 |n+1,x,c=>if c.col x=2 then some (true,c)else if c.col x=1 then some (false,c)else
   if(c.grey x).shd x=false then some (true,(c.grey x).black x)else
   (((c.grey x).shp x).foldO (zT (qW n)) (c.grey x,true)).bind fun a=>if a.2=false then some (false,a.1)else
   (((a.1.shp x).sizeO zI a.1).map fun p=>(true,{p.2 with size:=eU x p.1 p.2.size}.black x))
def Ct(rec:Int->bA->Option (T×bA))(v:Int)(c:bA):Option (T×bA):=(rt c v).bind fun p=>rec p.1 p.2
def qV:Nat->Int->bA->Option (T×bA)
 |0,_,_=>none
 |n+1,x,c=>match c7 x c.full with
  |some t=>some (t,c)
  |none=>if c.shd x=false then some (.var x,{c with full:=eU x (.var x) c.full})else
   ((c.shp x).mapO (Ct (qV n)) c).map fun p=>(p.1,{p.2 with full:=eU x p.1 p.2.full})
def s7(n:Nat):List Int->bA->List Int->Option (Option (List Int)×bA)
 |[],c,out=>some (some out,c)
 |v::bf,c,out=>(rt c v).bind fun p=>(qW n p.1 p.2).bind fun q=>if q.1=false then some (none,q.2)else
   if p.1=v/\q.2.shd p.1=false then s7 n bf q.2 out else
   if 5000<q.2.sz p.1\/400<out.length+1 then some (none,q.2)else s7 n bf q.2 (out++[v])
def zJ(n:Nat):List Int->bA->Option (List ao×bA)
 |[],c=>some ([],c)
 |v::bf,c=>(rt c v).bind fun p=>(qV n p.1 p.2).bind fun q=>(zJ n bf q.2).map fun r=>(⟨v,q.1⟩::r.1,r.2)
def EZ(n:Nat)(bf:List Int)(c:bA):Option (Option (List ao)):=(s7 n bf c []).bind fun a=>match a.1 with
 |none=>some none
 |some out=>(zJ n out a.2).map fun r=>some r.1
def qw(n:Nat):List (T×T)->bA->Option (Bool×bA)
 |[],c=>some (true,c)
 |e::es,c=>(By e.1 c).bind fun bM=>(By e.2 bM).bind fun cp=>(gO n e.1 e.2 cp).bind fun p=>if p.1=true then qw n es p.2 else some (false,p.2)
theorem mr.rank{c:bA}{ρ:Int->Int}(h:mr c ρ):∃r:Int->Nat,∀z u,jy c.ph ρ z u->r u<r z:=by
 obtain⟨aQ,hM⟩:=h.sat
 exact⟨fun z=>(aQ z).size,fun z u he=>I2 h.sh hM he⟩
structure uK (V:List Int) (ph:Int->Option T) (ρ:Int->Int) (c:bA):Prop where
 ru:jZ c.up ρ
 keys:cx c.up=V
 ph:c.ph=ph
theorem uK.sm{V:List Int}{ph:Int->Option T}{ρ:Int->Int}{c cw:bA}(h:uK V ph ρ c)(k:jh ρ c cw):uK V ph ρ cw:=⟨k.ru,k.keys.trans h.keys,k.ph.trans h.ph⟩
def cut(n:Nat):Int:=if 5001<(n:Int)then 5001 else n
section
variable {V:List Int} {ph:Int->Option T} {ρ:Int->Int} {r:Int->Nat}
theorem apj(Fq:Int->T):∀(t:T) (c:bA),uK V ph ρ c->(∀w,t.occ w=true->w∈V/\c.sz (ρ w)=cut (Fq w).size)->∃cw,t.sizeO zI c=some (cut (t.ap Fq).size,cw)/\jh ρ c cw:=by
 intro t;induction t with
 |var v=>
  intro c h aJ;obtain⟨aF,bz⟩:=aJ v (by simp[T.occ]);obtain⟨bM,J,U⟩:=ur h.ru (by rw[h.keys];exact aF:v∈cx c.up);refine⟨bM,?_,U⟩;have:bM.sz (ρ v)=cut (Fq v).size:=by rw[<-bz,U.eq];rfl
  simp only[T.sizeO,zI,J,o0,this,T.ap,ea,jO,and_true];unfold cut;split<;>omega
 |pair a b dG dK=>
  intro c h aJ;obtain⟨bM,J,aS⟩:=dG c h fun w hw=>aJ w (by simp[T.occ,hw]);obtain⟨cp,U,be⟩:=dK bM (h.sm aS) fun w hw=>⟨(aJ w (by simp[T.occ,hw])).1,by rw[<-(aJ w (by simp[T.occ,hw])).2,aS.eq];rfl⟩;have af:=T.size_pos (b.ap Fq);simp only[T.sizeO,J,ki,T.ap,T.size];by_cases aw:5000<cut (a.ap Fq).size
  ·rw[if_pos aw];refine⟨bM,?_,aS⟩;simp only[ea,jO,and_true];unfold cut at aw⊢;split at aw<;>split<;>(try split)<;>omega
  ·rw[if_neg aw,U];refine⟨cp,?_,aS.trans be⟩;simp only[o0,ea,jO,and_true];unfold cut at aw⊢;split at aw<;>(repeat' split)<;>omega
 |_=>intro c h aJ;exact⟨c,by simp[T.sizeO,T.ap,T.size,cut],jh.refl h.ru⟩
structure q4 (V:List Int) (ph:Int->Option T) (ρ:Int->Int) (r:Int->Nat) (d:Nat) (c:bA):Prop where
 fin:uK V ph ρ c
 col:∀z,r z<d->c.col z=0\/(c.col z=2/\c.sz z=cut (hr ph ρ r z).size)
structure nE (ph:Int->Option T) (ρ:Int->Int) (r:Int->Nat) (d:Nat) (c cw:bA):Prop where
 full:cw.full=c.full
 hi:∀z,d<=r z->cw.col z=c.col z/\cw.sz z=c.sz z
 lo:∀z,c.col z=2->cw.col z=2/\cw.sz z=c.sz z
theorem nE.refl{c:bA}{d:Nat}:nE ph ρ r d c c:=⟨rfl,fun _ _=>⟨rfl,rfl⟩,fun _ h=>⟨h,rfl⟩⟩
theorem nE.trans{a b c:bA}{d:Nat}(h:nE ph ρ r d a b)(k:nE ph ρ r d b c):nE ph ρ r d a c:=⟨k.full.trans h.full,fun z bz=>⟨(k.hi z bz).1.trans (h.hi z bz).1,(k.hi z bz).2.trans (h.hi z bz).2⟩,fun z bz=>⟨(k.lo z (h.lo z bz).1).1,(k.lo z (h.lo z bz).1).2.trans (h.lo z bz).2⟩⟩
theorem nE.mono{a b:bA}{d cd:Nat}(aR:d<=cd)(h:nE ph ρ r d a b):nE ph ρ r cd a b:=⟨h.full,fun z bz=>h.hi z Ω,h.lo⟩
theorem nE.sm{c cw:bA}{d:Nat}(k:jh ρ c cw):nE ph ρ r d c cw:=by
 have ak:∀z,cw.col z=c.col z:=fun z=>by rw[k.eq];rfl
 have aD:∀z,cw.sz z=c.sz z:=fun z=>by rw[k.eq];rfl
 exact⟨k.rest.2.2,fun z _=>⟨ak z,aD z⟩,fun z h=>⟨by rw[ak];exact h,aD z⟩⟩
theorem q4.sm{c cw:bA}{d:Nat}(h:q4 V ph ρ r d c)(k:jh ρ c cw):q4 V ph ρ r d cw:=by
 have ak:∀z,cw.col z=c.col z:=fun z=>by rw[k.eq];rfl
 have aD:∀z,cw.sz z=c.sz z:=fun z=>by rw[k.eq];rfl
 exact⟨h.fin.sm k,fun z bz=>by rw[ak,aD];exact h.col z bz⟩
theorem arD(gX:o6 V ph)(fb:∀v,ρ (ρ v)=ρ v)(aO:∀z u,jy ph ρ z u->r u<r z)(d:Nat):∀(x:Int) (c:bA),r x<d->ρ x=x->x∈V->q4 V ph ρ r d c->
  ∃N cw,(∀n,N<=n->qW n x c=some (true,cw))/\q4 V ph ρ r d cw/\nE ph ρ r (r x+1) c cw/\cw.col x=2/\cw.sz x=cut (hr ph ρ r x).size:=by
 induction d using Nat.strongRecOn with
 |ind d bR=>
 intro x c aR ab kC hw;rcases hw.col x aR with br|⟨U,ar⟩;rotate_left
 ·refine⟨1,c,fun n ax=>?_,hw,nE.refl,U,ar⟩;obtain⟨n',rfl⟩:∃n',n=n'+1:=⟨n-1,Ω⟩;simp only[qW,if_pos U]
 have yw:∀z,(c.grey x).col z=if z=x then 1 else c.col z:=fun z=>by simp only[bA.grey,bA.col,n9];split<;>rfl
 have Db:∀z,(c.grey x).sz z=if z=x then 1 else c.sz z:=fun z=>by simp only[bA.grey,bA.sz,n9];split<;>rfl
 have AI:uK V ph ρ (c.grey x):=⟨hw.fin.ru,hw.fin.keys,hw.fin.ph⟩;have ajc:q4 V ph ρ r (r x) (c.grey x):=⟨AI,fun z bz=>by
  have cM:z≠x:=fun e=>by subst e;omega
  rw[yw,Db,if_neg cM,if_neg cM];exact hw.col z Ω⟩
 have vu:¬c.col x=2:=Ω
 have po:¬c.col x=1:=Ω
 have fw:∀(e:bA) (z:Int),(e.black x).col z=(if z=x then 2 else e.col z):=fun e z=>by simp only[bA.black,bA.col,n9];split<;>rfl
 by_cases ag:(c.grey x).shd x=false
 ·have jT:ph x=none:=by rw[<-AI.ph];exact BU ag
  have a7:hr ph ρ r x= .var x:=by rw[Da (by rw[ab];exact jT),ab]
  have eC:∀z,((c.grey x).black x).sz z=if z=x then 1 else c.sz z:=Db
  refine⟨1,(c.grey x).black x,fun n ax=>?_,⟨⟨AI.ru,AI.keys,AI.ph⟩,fun z bz=>?_⟩,⟨rfl,fun z bz=>?_,fun z bz=>?_⟩,?_,?_⟩
  ·obtain⟨n',rfl⟩:∃n',n=n'+1:=⟨n-1,Ω⟩;simp only[qW,if_neg vu,if_neg po,if_pos ag]
  ·rw[fw,eC,yw];by_cases e:z=x
   ·subst e;simp only[if_true,a7];exact .inr ⟨trivial,by simp[T.size,cut]⟩
   ·simp only[if_neg e];exact hw.col z bz
  ·have e:z≠x:=fun e=>by subst e;omega
   rw[fw,eC,yw];simp only[if_neg e];exact⟨trivial,trivial⟩
  ·have e:z≠x:=fun e=>by subst e;omega
   rw[fw,eC,yw];simp only[if_neg e];exact⟨bz,trivial⟩
  ·rw[fw,if_pos rfl]
  ·rw[eC,if_pos rfl,a7];simp[T.size,cut]
 ·have jT:ph x=some ((c.grey x).shp x):=by rw[<-AI.ph];exact BV ag
  obtain⟨g1,g2,g3⟩:=gX _ _ jT;have ah4:∀(t:T) (e:bA),(∀w,t.occ w=true->((c.grey x).shp x).occ w=true)->q4 V ph ρ r (r x) e->∃N fj,(∀n,N<=n->t.foldO (zT (qW n)) (e,true)=some (fj,true))/\q4 V ph ρ r (r x) fj/\nE ph ρ r (r x) e fj/\∀w,t.occ w=true->fj.col (ρ w)=2/\fj.sz (ρ w)=cut (hr ph ρ r w).size:=by
   intro t;induction t with
   |var v=>intro e nU he;have aF:=g2 v (nU v (by simp[T.occ]));have w1:r (ρ v)<r x:=aO x (ρ v) ⟨ab,_,v,jT,nU v (by simp[T.occ]),rfl⟩;obtain⟨ak,ba,aS⟩:=ur he.fin.ru (by rw[he.fin.keys];exact aF:v∈cx e.up);obtain⟨N,aD,bo,dp,dI,cp,s2⟩:=bR (r x) aR (ρ v) ak w1 (fb v) (by rw[<-he.fin.keys];exact(he.fin.ru.mem (by rw[he.fin.keys];exact aF)).1) (he.sm aS);refine⟨N,aD,fun n ax=>by simp[T.foldO,zT,ba,bo n ax],dp,(nE.sm aS).trans (dI.mono Ω),fun w hw=>?_⟩;simp[T.occ]at hw;subst hw;exact⟨cp,by rw[s2,<-AJ fb]⟩
   |pair a b dG dK=>
    intro e nU he;obtain⟨h0,ak,ba,ej,cX,s1⟩:=dG e (fun w hw=>nU w (by simp[T.occ,hw])) he;obtain⟨jA,aD,bo,dp,dI,s2⟩:=dK ak (fun w hw=>nU w (by simp[T.occ,hw])) ej;refine⟨max h0 jA,aD,fun n ax=>by simp only[T.foldO];rw[ba n Ω];exact bo n Ω,dp,cX.trans dI,fun w hw=>?_⟩;simp only[T.occ,lu]at hw;rcases hw with hw|hw
    ·obtain⟨lr,z2⟩:=s1 w hw;exact⟨(dI.lo _ lr).1,by rw[(dI.lo _ lr).2];exact z2⟩
    ·exact s2 w hw
   |_=>intro e _ he;exact⟨0,e,fun n _=>rfl,he,nE.refl,fun w hw=>by simp[T.occ]at hw⟩
  obtain⟨N,e,ba,ej,cX,s1⟩:=ah4 ((c.grey x).shp x) (c.grey x) (fun w h=>h) ajc;have aiW:e.shp x=(c.grey x).shp x:=by
   have J:e.ph x=some ((c.grey x).shp x):=by rw[ej.fin.ph];exact jT
   unfold bA.ph at J;split at J
   ·exact ed J
   ·cases J
  obtain⟨aD,bo,be⟩:=apj (V:=V) (ph:=ph) (ρ:=ρ) (hr ph ρ r) ((c.grey x).shp x) e ej.fin (fun w hw=>⟨g2 w hw,(s1 w hw).2⟩);have na:hr ph ρ r x=((c.grey x).shp x).ap (hr ph ρ r):=AK fb aO (by rw[ab];exact jT);have G2:=cX.trans (nE.sm (ph:=ph) (r:=r) (d:=r x) be);have dp:=ej.sm be;let bh:bA:={aD with size:=eU x (cut (hr ph ρ r x).size) aD.size}.black x
  have dc:∀z,bh.col z=if z=x then 2 else aD.col z:=fun z=>fw _ z
  have s3:∀z,bh.sz z=if z=x then cut (hr ph ρ r x).size else aD.sz z:=fun z=>by show(c7 z (eU x _ aD.size)).getD 0=_;rw[n9];split<;>rfl
  refine⟨N+1,bh,fun n ax=>?_,⟨⟨dp.fin.ru,dp.fin.keys,dp.fin.ph⟩,fun z bz=>?_⟩,⟨G2.full,fun z bz=>?_,fun z bz=>?_⟩,by rw[dc,if_pos rfl],by rw[s3,if_pos rfl]⟩
  ·obtain⟨n',rfl⟩:∃n',n=n'+1:=⟨n-1,Ω⟩;simp only[qW,if_neg vu,if_neg po,if_neg ag,ba n' Ω,ki,Bool.true_eq_false,if_false,aiW,bo,o0,na,bh]
  ·rw[dc,s3];by_cases oz:z=x
   ·subst oz;simp only[if_true];exact .inr ⟨trivial,trivial⟩
   ·simp only[if_neg oz];by_cases bE:r z<r x
    ·exact dp.col z bE
    ·obtain⟨bH,a2⟩:=G2.hi z Ω;rw[bH,a2,yw,Db,if_neg oz,if_neg oz];exact hw.col z bz
  ·have oz:z≠x:=fun e=>by subst e;omega
   obtain⟨bH,a2⟩:=G2.hi z Ω;rw[dc,s3,if_neg oz,if_neg oz,bH,a2,yw,Db,if_neg oz,if_neg oz];exact⟨rfl,rfl⟩
  ·have oz:z≠x:=fun e=>by subst e;omega
   obtain⟨bH,a2⟩:=G2.lo z (by rw[yw,if_neg oz];exact bz);rw[dc,s3,if_neg oz,if_neg oz,bH,a2,Db,if_neg oz];exact⟨rfl,rfl⟩
structure r1 (V:List Int) (ph:Int->Option T) (ρ:Int->Int) (r:Int->Nat) (c:bA):Prop where
 fin:uK V ph ρ c
 full:∀x t,c7 x c.full=some t->t=hr ph ρ r x
theorem r1.sm{c cw:bA}(h:r1 V ph ρ r c)(k:jh ρ c cw):r1 V ph ρ r cw:=⟨h.fin.sm k,by rw[k.rest.2.2];exact h.full⟩
theorem arB(gX:o6 V ph)(fb:∀v,ρ (ρ v)=ρ v)(aO:∀z u,jy ph ρ z u->r u<r z)(d:Nat):∀(x:Int) (c:bA),r x<d->ρ x=x->x∈V->r1 V ph ρ r c->
  ∃N cw,(∀n,N<=n->qV n x c=some (hr ph ρ r x,cw))/\r1 V ph ρ r cw:=by
 induction d with
 |zero=>intro x c h;omega
 |succ d bR=>
 intro x c aR ab kC aF;cases aK:c7 x c.full with
 |some t=>refine⟨1,c,fun n ax=>?_,aF⟩;obtain⟨n',rfl⟩:∃n',n=n'+1:=⟨n-1,Ω⟩;simp only[qV,aK,aF.full x t aK]
 |none=>
  have VC:∀(e:bA),r1 V ph ρ r e->r1 V ph ρ r {e with full:=eU x (hr ph ρ r x) e.full}:=fun e he=>⟨⟨he.fin.ru,he.fin.keys,he.fin.ph⟩,fun z t bz=>by
   have sH:c7 z (eU x (hr ph ρ r x) e.full)=some t:=bz;rw[n9]at sH;split at sH
   ·rename_i e;subst e;cases sH;rfl
   ·exact he.full z t sH⟩
  by_cases ag:c.shd x=false
  ·have jT:ph x=none:=by rw[<-aF.fin.ph];exact BU ag
   have a7:hr ph ρ r x= .var x:=by rw[Da (by rw[ab];exact jT),ab]
   refine⟨1,_,fun n ax=>?_,VC c aF⟩;obtain⟨n',rfl⟩:∃n',n=n'+1:=⟨n-1,Ω⟩;simp only[qV,aK,if_pos ag,a7]
  ·have jT:ph x=some (c.shp x):=by rw[<-aF.fin.ph];exact BV ag
   obtain⟨g1,g2,g3⟩:=gX _ _ jT;have air:∀(t:T) (e:bA),(∀w,t.occ w=true->(c.shp x).occ w=true)->r1 V ph ρ r e->∃N fj,(∀n,N<=n->t.mapO (Ct (qV n)) e=some (t.ap (hr ph ρ r),fj))/\r1 V ph ρ r fj:=by
    intro t;induction t with
    |var v=>intro e nU he;have w7:=g2 v (nU v (by simp[T.occ]));have w1:r (ρ v)<r x:=aO x (ρ v) ⟨ab,_,v,jT,nU v (by simp[T.occ]),rfl⟩;obtain⟨ak,ba,aS⟩:=ur he.fin.ru (by rw[he.fin.keys];exact w7:v∈cx e.up);obtain⟨N,aD,bo,dp⟩:=bR (ρ v) ak Ω (fb v) (by rw[<-he.fin.keys];exact(he.fin.ru.mem (by rw[he.fin.keys];exact w7)).1) (he.sm aS);exact⟨N,aD,fun n ax=>by simp only[T.mapO,Ct,ba,ki,bo n ax,T.ap];rw[<-AJ fb],dp⟩
    |pair a b dG dK=>intro e nU he;obtain⟨h0,ak,ba,ej⟩:=dG e (fun w hw=>nU w (by simp[T.occ,hw])) he;obtain⟨jA,aD,bo,dp⟩:=dK ak (fun w hw=>nU w (by simp[T.occ,hw])) ej;exact⟨max h0 jA,aD,fun n ax=>by simp only[T.mapO,ba n Ω,ki,bo n Ω,o0,T.ap],dp⟩
    |_=>intro e _ he;exact⟨0,e,fun n _=>rfl,he⟩
   obtain⟨N,e,ba,ej⟩:=air (c.shp x) c (fun w h=>h) aF;have na:hr ph ρ r x=(c.shp x).ap (hr ph ρ r):=AK fb aO (by rw[ab];exact jT);refine⟨N+1,_,fun n ax=>?_,VC e ej⟩;obtain⟨n',rfl⟩:∃n',n=n'+1:=⟨n-1,Ω⟩;simp only[qV,aK,if_neg ag,ba n' Ω,o0,na]
def oy(ph:Int->Option T)(ρ:Int->Int)(v:Int):Bool:= !(decide (ρ v=v)&&(ph v).isNone)
theorem apm(gX:o6 V ph)(fb:∀v,ρ (ρ v)=ρ v)(aO:∀z u,jy ph ρ z u->r u<r z)(iW:∀v∈V,ρ v∈V):∀(bf:List Int) (c:bA) (out:List Int),(∀v∈bf,v∈V)->(∀d,q4 V ph ρ r d c)->out.length<=400->(∀v∈out,(hr ph ρ r v).size<=5000)->
  ∃N cw o,(∀n,N<=n->s7 n bf c out=some (o,cw))/\uK V ph ρ cw/\cw.full=c.full/\(∀l,o=some l->l=out++bf.filter (oy ph ρ)/\l.length<=400/\∀v∈l,(hr ph ρ r v).size<=5000)/\(o=none->¬((out++bf.filter (oy ph ρ)).length<=400/\∀v∈out++bf.filter (oy ph ρ),(hr ph ρ r v).size<=5000)):=by
 intro bf;induction bf with
 |nil=>intro c out _ hw J U;exact⟨0,c,some out,fun n _=>rfl,(hw 0).fin,rfl,fun l e=>by cases e;simp;exact⟨J,U⟩,fun e=>by cases e⟩
 |cons v bf bR=>
  intro c out aF hw J U;have w7:=aF v Ψ;obtain⟨bM,ba,aS⟩:=ur (hw 0).fin.ru (by rw[(hw 0).fin.keys];exact w7:v∈cx c.up);have Hb:∀d,q4 V ph ρ r d bM:=fun d=>(hw d).sm aS;obtain⟨h0,cp,bo,dp,dI,aD,s2⟩:=arD gX fb aO (r (ρ v)+1) (ρ v) bM Ω (fb v) (iW v w7) (Hb _);have pz:∀d,q4 V ph ρ r d cp:=fun d=>⟨dp.fin,fun z bz=>by
   by_cases bE:r z<r (ρ v)+1
   ·exact dp.col z bE
   ·obtain⟨bH,a2⟩:=dI.hi z Ω;rw[bH,a2];exact(Hb d).col z bz⟩
  have LV:cp.full=c.full:=dI.full.trans aS.rest.2.2;have VK:(cp.shd (ρ v)=false)=((ph (ρ v)).isNone=true):=by rw[<-dp.fin.ph];unfold bA.ph;cases cp.shd (ρ v)<;>simp
  have j8:∀n,h0<=n->s7 n (v::bf) c out=(if ρ v=v/\cp.shd (ρ v)=false then s7 n bf cp out else if 5000<cp.sz (ρ v)\/400<out.length+1 then some (none,cp)else s7 n bf cp (out++[v])):=fun n ax=>by simp only[s7,ba,ki,bo n ax,Bool.true_eq_false,if_false]
  have Vc:hr ph ρ r (ρ v)=hr ph ρ r v:=(AJ fb v).symm;by_cases aw:ρ v=v/\cp.shd (ρ v)=false
  ·have af:oy ph ρ v=false:=by have ar:=aw.2;rw[VK]at ar;rw[aw.1]at ar;simp[oy,aw.1,ar]
   obtain⟨jA,dc,o,b3,f3,qT,Jv,jH⟩:=bR cp out (fun w hw=>aF w (by simp[hw])) pz J U;refine⟨max h0 jA,dc,o,fun n ax=>by rw[j8 n Ω,if_pos aw];exact b3 n Ω,f3,qT.trans LV,?_,?_⟩
   ·simp only[List.filter_cons,af,ho,if_false];exact Jv
   ·simp only[List.filter_cons,af,ho,if_false];exact jH
  ·have af:oy ph ρ v=true:=by
    cases e:oy ph ρ v with
    |true=>rfl
    |false=>simp only[oy,Bool.not_eq_false',cy,eW]at e;exact absurd ⟨e.1,by rw[VK,e.1];exact e.2⟩ aw
   by_cases au:5000<cp.sz (ρ v)\/400<out.length+1
   ·refine⟨h0,cp,none,fun n ax=>by rw[j8 n ax,if_neg aw,if_pos au],dp.fin,LV,(fun l e=>by cases e),fun _=>?_⟩;simp only[List.filter_cons,af,if_true];rintro⟨bH,a2⟩;rcases au with au|au
    ·rw[s2,Vc]at au;have:=a2 v Ψ;unfold cut at au;split at au<;>omega
    ·simp at bH;omega
   ·have bz:(hr ph ρ r v).size<=5000:=by have:¬5000<cp.sz (ρ v):=fun h=>au (.inl h);rw[s2,Vc]at this;unfold cut at this;split at this<;>omega
    obtain⟨jA,dc,o,b3,f3,qT,Jv,jH⟩:=bR cp (out++[v]) (fun w hw=>aF w (by simp[hw])) pz d7 (fun w hw=>by
     rcases kt.1 hw with hw|hw
     ·exact U w hw
     ·simp at hw;subst hw;exact bz)
    refine⟨max h0 jA,dc,o,fun n ax=>by rw[j8 n Ω,if_neg aw,if_neg au];exact b3 n Ω,f3,qT.trans LV,?_,?_⟩
    ·simp only[List.filter_cons,af,if_true];simpa using Jv
    ·simp only[List.filter_cons,af,if_true];simpa using jH
theorem apn(gX:o6 V ph)(fb:∀v,ρ (ρ v)=ρ v)(aO:∀z u,jy ph ρ z u->r u<r z)(iW:∀v∈V,ρ v∈V):∀(bf:List Int) (c:bA),(∀v∈bf,v∈V)->r1 V ph ρ r c->∃N cw,∀n,N<=n->zJ n bf c=some (bf.map fun v=>⟨v,hr ph ρ r v⟩,cw):=by
 intro bf;induction bf with
 |nil=>intro c _ _;exact⟨0,c,fun n _=>rfl⟩
 |cons v bf bR=>intro c aF hw;have w7:=aF v Ψ;obtain⟨bM,ba,aS⟩:=ur hw.fin.ru (by rw[hw.fin.keys];exact w7:v∈cx c.up);obtain⟨h0,cp,bo,dp⟩:=arB gX fb aO (r (ρ v)+1) (ρ v) bM Ω (fb v) (iW v w7) (hw.sm aS);obtain⟨jA,dc,b3⟩:=bR cp (fun w hw=>aF w (by simp[hw])) dp;refine⟨max h0 jA,dc,fun n ax=>?_⟩;simp only[zJ,ba,ki,bo n Ω,b3 n Ω,o0,gM];rw[<-AJ fb]
end
end
section
open Go
def bA.new:bA:=⟨[],[],[],[],[],[]⟩
def rK(l:List Int):List Int:=l.mergeSort fun x y=>decide (x<=y)
def Cg(n:Nat)(E:List (T×T)):Option (Option (List ao)):=(qw n E bA.new).bind fun p=>if p.1=false then some none else EZ n (rK (cx p.2.up)) p.2
theorem E3(l:List Int):(rK l).Perm l:=List.mergeSort_perm l _
theorem apF{l:List Int}(h:l.Nodup):(rK l).Pairwise (· < ·):=by have J:(rK l).Pairwise fun x y=>decide (x<=y)=true:=List.pairwise_mergeSort (fun a b c=>by simp;omega) (fun a b=>by simp;omega) l;have U:(rK l).Pairwise (· ≠ ·):=List.nodup_iff_pairwise_ne.1 ((E3 l).nodup_iff.2 h);exact(J.and U).imp fun h=>by simp at h;omega
structure abo (c:bA) (ρ:Int->Int) (cw:bA) (XC:Int->Prop):Prop where
 inv:mr cw ρ
 ph:cw.ph=c.ph
 nd:(cx cw.up).Nodup
 sub:∀v∈cx c.up,v∈cx cw.up
 occ:∀v,XC v->v∈cx cw.up
 rest:cw.color=c.color/\cw.size=c.size/\cw.full=c.full
 new:∀v∈cx cw.up,v∈cx c.up\/XC v
theorem Xd{ρ:Int->Int}(t:T):∀(c:bA),mr c ρ->(cx c.up).Nodup->(∀v,t.occ v=true->0<=v)->∃cw,By t c=some cw/\abo c ρ cw fun v=>t.occ v=true:=by
 unfold By;induction t with
 |var v=>
  intro c hi ax br;by_cases aF:v∈cx c.up
  ·obtain⟨bM,ba,aS⟩:=ur hi.ru aF;refine⟨bM,by simp[T.foldO,ba],hi.sm aS,aS.ph,by rw[aS.keys];exact ax,fun w hw=>by rw[aS.keys];exact hw,fun w hw=>?_,aS.rest,fun w hw=>.inl (by rw[aS.keys]at hw;exact hw)⟩;simp[T.occ]at hw;subst hw;rw[aS.keys];exact aF
  ·obtain⟨ba,bo,b3⟩:=aoX hi.ru (br v (by simp[T.occ])) aF;refine⟨{c with up:=eU v v c.up},by simp only[T.foldO,ba,o0],⟨bo,?_,hi.sat⟩,rfl,?_,fun w hw=>by rw[b3];simp[hw],fun w hw=>?_,⟨rfl,rfl,rfl⟩,fun w hw=>?_⟩
   ·intro x u ab;obtain⟨bH,a2,a3⟩:=hi.sh x u ab;refine⟨bH,fun w hw=>?_,?_⟩
    ·show w∈cx (eU v v c.up);rw[b3];simp[a2 w hw]
    ·show x∈cx (eU v v c.up);rw[b3];simp[a3]
   ·rw[b3];rw[List.nodup_append];exact⟨ax,Ψ,fun a bD b af e=>by simp at af;subst af;subst e;exact aF bD⟩
   ·simp[T.occ]at hw;subst hw;rw[b3];simp
   ·rw[b3]at hw;simp at hw;rcases hw with hw|rfl;exact .inl hw;exact .inr (by simp[T.occ])
 |pair a b dG dK=>
  intro c hi ax br;obtain⟨bM,ba,m1⟩:=dG c hi ax fun v aF=>br v (by simp[T.occ,aF]);obtain⟨cp,bo,m2⟩:=dK bM m1.inv m1.nd fun v aF=>br v (by simp[T.occ,aF]);refine⟨cp,by simp only[T.foldO,ba,ki,bo],m2.inv,m2.ph.trans m1.ph,m2.nd,fun v aF=>m2.sub v (m1.sub v aF),fun v aF=>?_,?_,fun v aF=>?_⟩
  ·simp only[T.occ,lu]at aF;rcases aF with aF|aF
   ·exact m2.sub v (m1.occ v aF)
   ·exact m2.occ v aF
  ·rw[m2.rest.1,m2.rest.2.1,m2.rest.2.2];exact m1.rest
  ·rcases m2.new v aF with h|h
   ·rcases m1.new v h with h|h
    ·exact .inl h
    ·exact .inr (by simp[T.occ,h])
   ·exact .inr (by simp[T.occ,h])
 |_=>intro c hi ax br;exact⟨c,rfl,hi,rfl,ax,fun v aF=>aF,fun v aF=>by simp[T.occ]at aF,⟨rfl,rfl,rfl⟩,fun v aF=>.inl aF⟩
def NH(E:List (T×T)):Prop:= ∀e∈E,∀v,(e.1.occ v=true\/e.2.occ v=true)->0<=v
theorem CV:∀(E:List (T×T)) (c:bA) (ρ:Int->Int),mr c ρ->(cx c.up).Nodup->NH E->∃N o,(∀n,N<=n->qw n E c=some o)/\((o.2.color=c.color/\o.2.size=c.size/\o.2.full=c.full)/\∀v∈cx o.2.up,v∈cx c.up\/ ∃e∈E,e.1.occ v=true\/e.2.occ v=true)/\(o.1=true->∃ρ',mr o.2 ρ'/\(cx o.2.up).Nodup/\∀aQ,kx o.2.ph ρ' aQ↔kx c.ph ρ aQ/\j0 E aQ)/\(o.1=false->∀aQ,kx c.ph ρ aQ->¬j0 E aQ):=by
 intro E;induction E with
 |nil=>intro c ρ hi ax _;exact⟨0,(true,c),fun n _=>rfl,⟨⟨rfl,rfl,rfl⟩,fun v aF=>.inl aF⟩,fun _=>⟨ρ,hi,ax,fun aQ=>⟨fun h=>⟨h,E1 aQ⟩,fun h=>h.1⟩⟩,fun e=>by cases e⟩
 |cons e E bR=>
  intro c ρ hi ax br;obtain⟨bM,ba,m1⟩:=Xd e.1 c hi ax fun v aF=>br e Ψ v (.inl aF);obtain⟨cp,bo,m2⟩:=Xd e.2 bM m1.inv m1.nd fun v aF=>br e Ψ v (.inr aF);obtain⟨ls,vA⟩:=m2.inv.sat
  obtain⟨h0,gU,b3,jv⟩:=adi _ _ cp ρ e.1 e.2 ls m2.inv vA (fun w hw=>m2.sub w (m1.occ w hw)) (fun w hw=>m2.occ w hw) rfl rfl;have jT:cp.ph=c.ph:=m2.ph.trans m1.ph;have mY:gU.2.color=c.color/\gU.2.size=c.size/\gU.2.full=c.full:=by rw[jv.rest.1,jv.rest.2.1,jv.rest.2.2,m2.rest.1,m2.rest.2.1,m2.rest.2.2];exact m1.rest
  have GU:∀v∈cx gU.2.up,v∈cx c.up\/e.1.occ v=true\/e.2.occ v=true:=fun v aF=>by
   rw[jv.keys]at aF;rcases m2.new v aF with h|h
   ·rcases m1.new v h with h|h
    ·exact .inl h
    ·exact .inr (.inl h)
   ·exact .inr (.inr h)
  obtain⟨f,dc⟩:=gU;cases f with
  |false=>refine⟨h0,(false,dc),fun n ax=>?_,⟨mY,fun v aF=>(GU v aF).imp id fun h=>⟨e,Ψ,h⟩⟩,(fun e=>by cases e),fun _ aQ ag he=>jv.no rfl aQ (by rw[jT];exact ag) (rI.1 he).1⟩;simp only[qw,ba,bo,ki,b3 n ax,ho,if_false]
  |true=>
   obtain⟨lQ,bH,a2,_⟩:=jv.yes rfl;simp only at bH a2;obtain⟨jA,fB,bV,b7,fV,o8⟩:=bR dc lQ bH (by have:=jv.keys;simp only at this;rw[this];exact m2.nd) fun fj he=>br fj (by simp[he]);refine⟨max h0 jA,fB,fun n ax=>?_,?_,fun aK=>?_,fun aK aQ ag he=>?_⟩
   ·simp only[qw,ba,bo,ki,b3 n Ω,if_true];exact bV n Ω
   ·refine⟨by rw[b7.1.1,b7.1.2.1,b7.1.2.2];exact mY,fun v aF=>?_⟩;rcases b7.2 v aF with h|⟨fj,J,U⟩
    ·exact(GU v h).imp id fun h=>⟨e,Ψ,h⟩
    ·exact .inr ⟨fj,by simp[J],U⟩
   ·obtain⟨ρ2,d1,d2,d3⟩:=fV aK;exact⟨ρ2,d1,d2,fun aQ=>by rw[d3 aQ,a2 aQ,jT,rI,and_assoc]⟩
   ·exact o8 aK aQ ((a2 aQ).2 ⟨by rw[jT];exact ag,(rI.1 he).1⟩) (rI.1 he).2
theorem FK{ph:Int->Option T}{ρ:Int->Int}{v:Int}:oy ph ρ v=false↔ρ v=v/\ph v=none:=by simp[oy]
theorem UI{ph:Int->Option T}{ρ:Int->Int}{r:Int->Nat}(fb:∀v,ρ (ρ v)=ρ v):∀(n:Nat) (v w:Int),(nH ph ρ n v).occ w=true->(∀z u,jy ph ρ z u->r u<r z)->r (ρ v)<n->ρ w=w/\ph w=none
 |0,v,w,_,_,h=>Ω
 |n+1,v,w,h,aO,ax=>by
  simp only[nH]at h;cases e:ph (ρ v)with
  |none=>rw[e]at h;simp[T.occ]at h;subst h;exact⟨fb v,e⟩
  |some t=>rw[e]at h;obtain⟨u,J,U⟩:=BI.1 h;have:=aO (ρ v) (ρ u) ⟨fb v,t,u,e,J,rfl⟩;exact UI fb n u w U aO Ω
section
variable {V:List Int} {ph:Int->Option T} {ρ:Int->Int} {r:Int->Nat}
def uu(ph:Int->Option T)(ρ:Int->Int)(r:Int->Nat)(V:List Int):List ao:=((rK V).filter (oy ph ρ)).map fun v=>⟨v,hr ph ρ r v⟩
theorem O8(ax:V.Nodup):hg (uu ph ρ r V):=by unfold uu;rw[hg,List.pairwise_map];exact((apF ax).filter _)
theorem Zu(ax:V.Nodup)(gX:o6 V ph)(cU:∀v,v∉V->ρ v=v)(v:Int):cS (uu ph ρ r V) v=if oy ph ρ v then some (hr ph ρ r v)else none:=by
 by_cases af:oy ph ρ v=true
 ·rw[if_pos af];have aF:v∈V:=by
   refine Classical.byContradiction fun h=>?_;have J:=cU v h;have U:ph v=none:=by cases e:ph v with
    |none=>rfl
    |some t=>exact absurd (gX v t e).2.2 h
   rw[FK.2 ⟨J,U⟩]at af;cases af
  have:(⟨v,hr ph ρ r v⟩:ao)∈uu ph ρ r V:=iu.2 ⟨v,oi.2 ⟨(E3 V).mem_iff.2 aF,af⟩,rfl⟩;exact pY (O8 ax) this
 ·rw[if_neg af];refine nF.2 fun b gb e=>?_;obtain⟨u,J,rfl⟩:=iu.1 gb;simp only at e;subst e;exact af (oi.1 J).2
theorem apr(ax:V.Nodup)(gX:o6 V ph)(cU:∀v,v∉V->ρ v=v)(fb:∀v,ρ (ρ v)=ρ v)(hle:∀v,ρ v<=v)(aO:∀z u,jy ph ρ z u->r u<r z):fU (uu ph ρ r V):=by
 refine⟨O8 ax,fun b af w hw=>?_,fun b af w hw=>?_⟩
 ·obtain⟨u,J,rfl⟩:=iu.1 af;rw[Zu ax gX cU];have:=UI fb _ u w hw aO Ω;rw[FK.2 this];rfl
 ·obtain⟨u,J,rfl⟩:=iu.1 af;have nP:=(oi.1 J).2;simp only at hw⊢;cases e:ph (ρ u)with
  |none=>
   rw[Da e]at hw;cases hw;have U:=hle u;have ar:ρ u≠u:=fun h=>by rw[FK.2 ⟨h,by rw[h]at e;exact e⟩]at nP;cases nP
   omega
  |some t=>rw[AK fb aO e]at hw;have:=(gX _ _ e).1;cases t<;>simp[T.ap,T.kind]at hw this
theorem ahq(fb:∀v,ρ (ρ v)=ρ v)(aO:∀z u,jy ph ρ z u->r u<r z)(aQ:Int->T):kx ph ρ aQ↔∀v,aQ v=(hr ph ρ r v).ap aQ:=by
 constructor
 ·intro h;have:∀(n:Nat) (v:Int),r (ρ v)<n->aQ v=(hr ph ρ r v).ap aQ:=by
   intro n;induction n with
   |zero=>intro v h;omega
   |succ n bR=>
    intro v aF;cases e:ph (ρ v)with
    |none=>rw[Da e];exact h.1 v
    |some t=>rw[AK fb aO e,CH,h.1 v,h.2 _ t (fb v) e];refine uU fun w hw=>bR w ?_;have:=aO (ρ v) (ρ w) ⟨fb v,t,w,e,hw,rfl⟩;omega
  exact fun v=>this _ v (Nat.lt_succ_self _)
 ·intro h;refine⟨fun v=>by rw[h v,h (ρ v),<-AJ fb],fun x t ab aJ=>?_⟩;rw[h x,AK fb aO (by rw[ab];exact aJ),CH];exact uU fun w _=>(h w).symm
theorem apq(ax:V.Nodup)(gX:o6 V ph)(cU:∀v,v∉V->ρ v=v)(fb:∀v,ρ (ρ v)=ρ v)(aO:∀z u,jy ph ρ z u->r u<r z)(aQ:Int->T):hq (uu ph ρ r V) aQ↔kx ph ρ aQ:=by
 rw[ahq fb aO,apx (O8 ax)];refine forall_congr' fun v=>?_;rw[bp,Zu ax gX cU];cases e:oy ph ρ v with
 |true=>simp
 |false=>obtain⟨J,U⟩:=FK.1 e;rw[Da (by rw[J];exact U),J];simp
end
theorem apy(E:List (T×T))(br:NH E):∃n o,Cg n E=some o/\ji [] E o/\∀c,qw n E bA.new=some (true,c)->(cx c.up).Nodup/\(∀v∈cx c.up,∃e∈E,e.1.occ v=true\/e.2.occ v=true)/\c.size=[]:=by
 have hi:mr bA.new id:=⟨⟨fun v u h=>by simp[bA.new,c7]at h,fun v _=>rfl⟩,fun x t h=>by simp[bA.new,bA.ph,bA.shd,c7]at h,⟨.var,fun v=>rfl,fun x t _ h=>by simp[bA.new,bA.ph,bA.shd,c7]at h⟩⟩;have vi:∀aQ,kx bA.new.ph id aQ:=fun aQ=>⟨fun v=>rfl,fun x t _ h=>by simp[bA.new,bA.ph,bA.shd,c7]at h⟩;obtain⟨h0,gU,ba,cX,dI,jv⟩:=CV E bA.new id hi (by simp[bA.new,cx]) br;obtain⟨cX,X9⟩:=cX;obtain⟨f,c⟩:=gU;cases f with
 |false=>refine⟨h0,none,by simp[Cg,ba h0 (fc _)],FC fun aQ _ he=>jv rfl aQ (vi aQ) he,fun c h=>?_⟩;rw[ba h0 (fc _)]at h;cases h
 |true=>
  obtain⟨ρ,bH,a2,a3⟩:=dI rfl;simp only at bH a2 a3 cX X9;have U7:∀n,h0<=n->∀cw,qw n E bA.new=some (true,cw)->(cx cw.up).Nodup/\(∀v∈cx cw.up,∃e∈E,e.1.occ v=true\/e.2.occ v=true)/\cw.size=[]:=fun n ax cw h=>by rw[ba n ax]at h;cases h;exact⟨a2,fun v aF=>(X9 v aF).resolve_left (by simp[bA.new,cx]),cX.2.1⟩
  obtain⟨r,aO⟩:=bH.rank;have fb:=bH.ru.idem;have iW:∀v∈cx c.up,ρ v∈cx c.up:=fun v aF=>(bH.ru.mem aF).1;have dX:uK (cx c.up) c.ph ρ c:=⟨bH.ru,rfl,rfl⟩;have hw:∀d,q4 (cx c.up) c.ph ρ r d c:=fun d=>⟨dX,fun z _=>.inl (by simp[bA.col,cX.1,bA.new,c7])⟩;obtain⟨jA,cp,o,bV,b7,fV,o8,QH⟩:=apm bH.sh fb aO iW (rK (cx c.up)) c [] (fun v aF=>(E3 _).mem_iff.1 aF) hw Ψ (fun v aF=>by simp at aF);have dy:=apr (r:=r) a2 bH.sh bH.ru.no fb bH.ru.le aO;have lE:∀aQ,hq (uu c.ph ρ r (cx c.up)) aQ↔hq [] aQ/\j0 E aQ:=fun aQ=>by rw[apq a2 bH.sh bH.ru.no fb aO,a3 aQ];exact⟨fun h=>⟨fun b af=>by simp at af,h.2⟩,fun h=>⟨vi aQ,h.2⟩⟩
  have U9:hR (uu c.ph ρ r (cx c.up))↔(([]++(rK (cx c.up)).filter (oy c.ph ρ)).length<=400/\∀v∈[]++(rK (cx c.up)).filter (oy c.ph ρ),(hr c.ph ρ r v).size<=5000):=by unfold hR uu;simp only[oh,b9,iu,forall_exists_index,and_imp,forall_apply_eq_imp_iff₂]
  cases o with
  |none=>refine⟨max h0 jA,none,by simp[Cg,ba (max h0 jA) Ω,EZ,bV (max h0 jA) Ω],?_,U7 _ Ω⟩;exact fun ah J U ar=>QH rfl (U9.1 (T8 dy J (fun aQ hM=>(lE aQ).2 (U aQ hM)) ar))
  |some l=>
   obtain⟨ak,aD,bh⟩:=o8 l rfl;have ai9:r1 (cx c.up) c.ph ρ r cp:=⟨b7,fun x t h=>by rw[fV,cX.2.2]at h;simp[bA.new,c7]at h⟩;simp only[b9]at ak;obtain⟨z1,dc,d1⟩:=apn bH.sh fb aO iW l cp (fun v aF=>by rw[ak]at aF;exact(E3 _).mem_iff.1 (oi.1 aF).1) ai9;refine⟨max (max h0 jA) z1,some (uu c.ph ρ r (cx c.up)),?_,⟨⟨dy,U9.2 ?_⟩,lE⟩,U7 _ Ω⟩
   ·simp only[Cg,ba (max (max h0 jA) z1) Ω,ki,Bool.true_eq_false,if_false,EZ,bV (max (max h0 jA) z1) Ω,d1 (max (max h0 jA) z1) Ω,o0];rw[ak];rfl
   ·rw[b9,<-ak];exact⟨aD,bh⟩
def h3(s:List ao):List (T×T):=s.map fun b=>(.var b.v,b.t)
theorem apw{s:List ao}{aQ:Int->T}:j0 (h3 s) aQ↔hq s aQ:=by simp[j0,h3,hq,T.ap]
theorem abB{s:List ao}{E:List (T×T)}{o:Option (List ao)}:ji [] (h3 s++E) o↔ji s E o:=by
 have h:∀aQ,(hq [] aQ/\j0 (h3 s++E) aQ)↔(hq s aQ/\j0 E aQ):=fun aQ=>by rw[E0,apw];exact⟨fun h=>h.2,fun h=>⟨fun b af=>by simp at af,h⟩⟩
 exact⟨CF h,CF fun aQ=>(h aQ).symm⟩
end
section
open Go
open Classical in
noncomputable def mgu(s:List ao)(E:List (T×T)):Option (List ao):=if h:∃o,ji s E o then h.choose else none
theorem sQ{s:List ao}{E:List (T×T)}{o:Option (List ao)}(h:ji s E o):mgu s E=o:=by have ab:∃o,ji s E o:=⟨o,h⟩;unfold mgu;rw[dif_pos ab];exact abC ab.choose_spec h
def qO(s:List ao):Prop:= ∀b∈s,(0<=b.v/\b.v<=100000)/\b.t.ok=true
theorem JV{aQ:Int->T}{t:T}(aJ:t.ok=true)(h:∀v,t.occ v=true->(aQ v).ok=true):(t.ap aQ).ok=true:=by
 induction t with
 |var n=>exact h n (by simp[T.occ])
 |pair a b dG dK=>simp only[T.ok,cy]at aJ;simp only[T.ap,T.ok,cy];exact⟨dG aJ.1 fun v aF=>h v (by simp[T.occ,aF]),dK aJ.2 fun v aF=>h v (by simp[T.occ,aF])⟩
 |_=>exact aJ
theorem xW{t:T}(aJ:t.ok=true){v:Int}(h:t.occ v=true):0<=v/\v<=100000:=by
 induction t with
 |var n=>simp[T.occ]at h;subst h;simpa[T.ok]using aJ
 |pair a b dG dK=>
  simp only[T.ok,cy]at aJ;simp only[T.occ,lu]at h;rcases h with h|h
  ·exact dG aJ.1 h
  ·exact dK aJ.2 h
 |_=>simp[T.occ]at h
theorem EV{s:List ao}(ag:qO s){t:T}(aJ:t.ok=true):(t.ap (bp s)).ok=true:=JV aJ fun v aF=>by
 unfold bp;cases e:cS s v with
 |none=>have:=xW aJ aF;simpa[T.ok]using this
 |some x=>exact(ag _ (j2 e)).2
theorem CL{s:List ao}(ag:qO s){v:Int}{t:T}(aF:0<=v/\v<=100000)(aJ:t.ok=true){ah:List ao}(h:ox s v t=some ah):qO ah:=by
 unfold ox at h;split at h
 ·cases h;intro b af;rcases qK.1 af with rfl|⟨c,aw,rfl⟩
  ·exact⟨aF,EV ag aJ⟩
  ·refine⟨(ag c aw).1,JV (ag c aw).2 fun w hw=>?_⟩;unfold one;split
   ·exact EV ag aJ
   ·have:=xW (ag c aw).2 hw;simpa[T.ok]using this
 ·cases h
theorem aaW{s:List ao}(ag:qO s){t:T}(aJ:t.ok=true):(hH s t).ok=true:=by
 cases t with
 |var n=>have:=EV ag aJ;simpa[hH,T.ap]using this
 |_=>exact aJ
theorem PC:∀(n:Nat) (s:List ao) (a b:T) (ah:List ao),qO s->a.ok=true->b.ok=true->k1 n s a b=some (some ah)->qO ah
 |0,_,_,_,_,_,_,_,h=>by simp[k1]at h
 |n+1,s,a,b,ah,ag,bD,af,h=>by
  have ab:=aaW ag bD;have aL:=aaW ag af;simp only[k1]at h;generalize hH s a=x at h ab;generalize hH s b=y at h aL;have w8:∀{i:Int},(T.var i).ok=true->0<=i/\i<=100000:=fun h=>xW h (by simp[T.occ]);cases x with
  |var i=>
   cases y with
   |var j=>
    simp only[ks,ea]at h;split at h
    ·exact CL ag (w8 aL) ab h
    ·split at h
     ·cases h;exact ag
     ·exact CL ag (w8 ab) aL h
   |_=>simp only[ks,ea]at h;exact CL ag (w8 ab) aL h
  |pair bH a2=>
   cases y with
   |var j=>simp only[ks,ea]at h;exact CL ag (w8 aL) ab h
   |pair bV b7=>
    simp only[T.ok,cy]at ab aL;simp only[ks]at h;split at h
    ·cases h
    ·cases h
    ·rename_i s1 ak;exact PC n s1 a2 b7 ah (PC n s bH bV s1 ag ab.1 aL.1 ak) ab.2 aL.2 h
   |_=>simp[ks]at h
  |_=>
   cases y with
   |var j=>simp only[ks,ea]at h;exact CL ag (w8 aL) ab h
   |_=>
    simp only[ks,ea]at h;split at h
    ·cases h;exact ag
    ·cases h
def od:T->List Int
 | .var n=>[n]
 | .pair a b=>od a++od b
 |_=>[]
theorem zh{t:T}{v:Int}(h:t.occ v=true):v∈od t:=by
 induction t with
 |var n=>simp[T.occ]at h;subst h;simp[od]
 |pair a b dG dK=>simp only[T.occ,lu]at h;simp only[od,kt];exact h.imp dG dK
 |_=>simp[T.occ]at h
theorem Jf{s:List ao}(ag:fU s)(aK:hR s)(a b:T):∃n o,k1 n s a b=some o/\ji s [(a,b)] o:=by obtain⟨n,o,J,U⟩:=Z5 (s.flatMap (fun b=>b.v::od b.t)++od a++od b) _ _ s a b ag aK (fun c aw=>⟨by simp only[kt,List.mem_flatMap];exact .inl (.inl ⟨c,aw,Ψ⟩),fun w hw=>by simp only[kt,List.mem_flatMap];exact .inl (.inl ⟨c,aw,by simp[zh hw]⟩)⟩) (fun w hw=>by simp[zh hw]) (fun w hw=>by simp[zh hw]) rfl rfl;exact⟨n,o,J,U.1⟩
theorem Qo{s:List ao}{e:T×T}{E:List (T×T)}{s1:List ao}(h:ji s [e] (some s1)){o:Option (List ao)}(U:ji s1 E o):ji s (e::E) o:=Qn (E:=[e]) h U
theorem HN{s:List ao}(ag:fU s)(aK:hR s)(E:List (T×T)):ji s E (mgu s E):=by
 induction E generalizing s with
 |nil=>rw[sQ (JP ag aK)];exact JP ag aK
 |cons e E bR=>
  obtain⟨n,o,_,U⟩:=Jf ag aK e.1 e.2;cases o with
  |none=>have ar:ji s (e::E) none:=JO E U;rw[sQ ar];exact ar
  |some s1=>have ar:=Qo U (bR U.1.1 U.1.2);rw[sQ ar];exact ar
theorem Ns{s:List ao}(ag:fU s)(aK:hR s):mgu s []=some s:=sQ (JP ag aK)
theorem Nr{s:List ao}(ag:fU s)(aK:hR s)(e:T×T)(E:List (T×T)):mgu s (e::E)=match mgu s [e]with|some s1=>mgu s1 E|none=>none:=by
 have J:=HN ag aK [e];cases h:mgu s [e]with
 |none=>rw[h]at J;have ar:ji s (e::E) none:=JO E J;exact sQ ar
 |some s1=>rw[h]at J;exact sQ (Qo J (HN J.1.1 J.1.2 E))
theorem BA{s:List ao}(ag:fU s)(aK:hR s){E:List (T×T)}{ah:List ao}(h:mgu s E=some ah):fU ah/\hR ah:=by have J:=HN ag aK E;rw[h]at J;exact J.1
theorem akE{s:List ao}(ag:fU s)(aK:hR s)(ay:qO s){E:List (T×T)}(dQ:∀e∈E,e.1.ok=true/\e.2.ok=true){ah:List ao}(h:mgu s E=some ah):qO ah:=by
 induction E generalizing s with
 |nil=>rw[Ns ag aK]at h;cases h;exact ay
 |cons e E bR=>
  rw[Nr ag aK]at h;split at h
  ·rename_i s1 J;obtain⟨n,o,U,ar⟩:=Jf ag aK e.1 e.2;have a6:=sQ ar;rw[J]at a6;subst a6;exact bR ar.1.1 ar.1.2 (PC n s e.1 e.2 s1 ay (dQ e Ψ).1 (dQ e Ψ).2 U) (fun fj he=>dQ fj (by simp[he])) h
  ·cases h
theorem MS{l:List Int}(ax:l.Nodup)(h:∀v∈l,0<=v/\v<=100000):l.length<=100001:=by
 have J:(l.map Int.toNat).Nodup:=by rw[List.nodup_iff_pairwise_ne,List.pairwise_map];exact arP (fun{a b} bD af cM e=>cM (by have:=h a bD;have:=h b af;omega)) ax
 have:=P7 J (l₂:=List.range 100001) (fun x ab=>by obtain⟨v,aF,rfl⟩:=iu.1 ab;have:=h v aF;simp;omega)
 simpa using this
end
end Go.Pv
