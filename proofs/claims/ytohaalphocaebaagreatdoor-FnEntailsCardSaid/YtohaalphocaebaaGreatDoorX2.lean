/- Classes of variables, as the program keeps them: what its functions compute, and what it means. -/
import Derived.Deep.LoopGhost
import Derived.Test.YtohaalphocaebaaGreatDoorProg
import Derived.Test.YtohaalphocaebaaGreatDoorX1
set_option linter.all false
set_option maxHeartbeats 4000000
set_option maxRecDepth 4000
open Array renaming getElem?_toList->u7
open BitVec renaming ofInt->mF
open Bool renaming and_eq_true->cr,false_eq_true->hg,not_eq_true'->oG,or_eq_true->lP
open Decidable renaming not_not->avp
open Go renaming Program->cK,TypeId->hh
open Go.IntKind renaming bits->oH,i64->nT,signed->sc,u64->hG,wrap->tF
open Go.IntWalk renaming i64_in->nm
open Go.Op renaming bytesLess->hP
open Go.Proofs.Tryz renaming prog->aw
open Go.Region renaming wanted->pW
open Go.Result renaming andThen_ok->fZ
open Go.Sem renaming run_bind->fU,run_pure->gC
open Go.Value renaming cells->pX
open List renaming all_eq_true->fV,cons_append->bP,drop_eq_getElem_cons->lu,getElem?_eq_getElem->cg,getElem?_eq_none->rf,getElem?_eq_some_iff->fD,length_append->pc,length_cons->mG,map_cons->gZ,map_nil->nn,mem_append->hQ,mem_cons->fm,mem_cons_of_mem->pd,mem_filter->ia,mem_map->hR,mem_of_getElem?->eF,nil_append->bU,pairwise_cons->np,pairwise_iff_getElem->pY
open List.Nodup renaming length_le_of_subset->FW
open List.cons renaming injEq->yk
open Nat renaming le_refl->dZ,le_trans->ha,strongRecOn->qA
open Ne renaming symm->lR
open Option renaming bind_some->jy,getD_none->lv,getD_some->iB,isSome_iff_exists->fo,isSome_none->k1,map_eq_some_iff->gv,map_some->oK
open Option.some renaming inj->eZ,injEq->dE
open Prod.mk renaming injEq->j7
open _root_ renaming DecidableEq->nl,False->ey,beq_iff_eq->dM,congrArg->eW,decide_eq_false_iff_not->gD,decide_eq_true_eq->eN
namespace Go.Pv
section
open Go Go.RowKit
def akY(A:di)(s ah:cT)(rm:Option aL):Prop:=(∀k,(look k ah.b).isSome->(look k s.b).isSome\/rm=some k)/\(∀k,(look k ah.e).isSome->(look k s.e).isSome\/rm=some k)/\(∀k,(look k s.b).isSome->(look k ah.b).isSome)/\(∀k,(look k s.e).isSome->(look k ah.e).isSome)/\
 (∀k,rm=some k->(∃j,k= .obj j)/\A.F k/\A.b k=none/\A.e k=none/\((look k ah.b).isSome\/(look k ah.e).isSome))
def abN(P:cK)(n:Nat)(args:List aj)(A:di)(d:Option Nat)(x:lx):Prop:=
 ∃s ah r rm,(∀k cs,look k s.b=some cs->A.b k=some cs/\aO (inObs s) cs)/\(∀k o,look k s.e=some o->A.e k=some o/\dW (inObs s) o)/\je s/\je ah/\akY A s ah rm/\aO (inObs s) args/\
  bG P n args s (fun eQ du=>eQ=r/\du=ah)/\x=⟨d,r,ah.b,ah.e,rm⟩
def abO(P:cK)(n0 n:Nat)(args:List aj)(A:di)(d:Option Nat)(x:lx):Prop:=
 ∃cN r,d=some cN/\(A.F (.loc (n0+cN))/\A.b (.loc (n0+cN))=none/\A.e (.loc (n0+cN))=none)/\aO (fun _=>ey) args/\
  Kc P n (n0+cN) args ⟨[],[]⟩ (fun eQ du=>eQ=r/\du=⟨[],[]⟩)/\x=⟨d,r,[],[],some (.loc (n0+cN))⟩
def zf:aj->Bool
 | .ptr (.loc _) _=>true
 | .eptr _=>true
 |_=>false
def gh.isB:gh->Bool
 | .loadB _ _ _=>true
 | .mgetB _ _ _ _ _=>true
 |_=>false
def gh.ptrOf(t:Nat->aj):gh->aj
 | .load _ _ x=>dF t x
 | .loadB _ _ x=>dF t x
 |_=>.junk
def eG(P:cK)(q:Bool)(n0:Nat):eo->di->lx->Prop
 | .s (.v d i),A,x=> ∃c p,qy A.t A.b A.e i=some (c,p)/\c/\(i.isLoad=true->i.isB=true\/q=true\/zf (i.ptrOf A.t)=true)/\x=⟨some d,p,[],[],none⟩
 | .s (.box d none v),A,x=>(A.F (.loc (n0+d))/\A.b (.loc (n0+d))=none/\A.e (.loc (n0+d))=none)/\e4 (dF A.t v)=true/\x=⟨some d,.ptr (.loc (n0+d)) 0,[(.loc (n0+d),cells (dF A.t v))],[],some (.loc (n0+d))⟩
 | .s (.alloc d none z),A,x=>(A.F (.loc (n0+d))/\A.b (.loc (n0+d))=none/\A.e (.loc (n0+d))=none)/\x=⟨some d,.ptr (.loc (n0+d)) 0,[(.loc (n0+d),cells z)],[],some (.loc (n0+d))⟩
 | .s (.store sz u v),A,x=> ∃k off cs,dF A.t u= .ptr k off/\A.b k=some cs/\(h9 cs=true/\e4 (dF A.t v)=true/\(cells (dF A.t v)).length=sz/\off+sz<=cs.length)/\x=⟨none,.junk,[(k,o3 cs off (cells (dF A.t v)))],[],none⟩
 | .s (.bsl d sz el xs),A,x=>(A.F (.loc (n0+d))/\A.b (.loc (n0+d))=none/\A.e (.loc (n0+d))=none)/\tO sz (xs.map (dF A.t))/\x=⟨some d,.slice sz (.own (.loc (n0+d))) (xs.map (dF A.t)),[],[(.loc (n0+d),⟨xs.length,el,sz,none⟩)],some (.loc (n0+d))⟩
 | .s (.app d sz el u v),A,x=> ∃tag xs lL ys,dF A.t u= .slice sz tag xs/\dF A.t v= .slice sz lL ys/\
   ((∃k o,tag= .own k/\A.e k=some o/\(o.xs=none/\o.n=xs.length/\o.el=el/\o.sz=sz/\xs.length+ys.length<=lim)/\x=⟨some d,.slice sz (.own k) (xs++ys),[],[(k,⟨xs.length+ys.length,el,sz,none⟩)],none⟩)\/
    (tag= .nil/\ys.length<=lim/\(A.F (.loc (n0+d))/\A.b (.loc (n0+d))=none/\A.e (.loc (n0+d))=none)/\x=⟨some d,.slice sz (.own (.loc (n0+d))) ys,[],[(.loc (n0+d),⟨ys.length,el,sz,none⟩)],some (.loc (n0+d))⟩))
 | .s (.appm d _ sz el u v),A,x=> ∃k n xs lL ys,dF A.t u= .row sz k n/\dF A.t v= .slice sz lL ys/\A.e k=some ⟨n,el,sz,some xs⟩/\xs.length+ys.length<=lim/\x=⟨some d,.row sz k (xs.length+ys.length),[],[(k,⟨xs.length+ys.length,el,sz,some (xs++ys)⟩)],none⟩
 | .s (.storeE sz u v),A,x=> ∃k n i f el dL xs q,dF A.t u= .rptr dL k n i f/\A.e k=some ⟨n,el,dL,some xs⟩/\xs[i]? =some q/\(e4 q=true/\e4 (dF A.t v)=true/\(cells (dF A.t v)).length=sz/\f+sz<=(cells q).length/\0<sz)/\x=⟨none,.junk,[],[(k,⟨n,el,dL,some (xs.set i (qw q f (cells (dF A.t v))))⟩)],none⟩
 | .s (.mkmap d (some m)),A,x=>(A.F (.obj m)/\A.b (.obj m)=none/\A.e (.obj m)=none)/\x=⟨some d,.gmap (.obj m),[(.obj m,[.hdm 0 []])],[],some (.obj m)⟩
 | .s (.mput ch u k v),A,x=> ∃m cs cs',dF A.t u= .gmap m/\A.b m=some cs/\ot ch (dF A.t k) (dF A.t v) cs=some cs'/\x=⟨none,.junk,[(m,cs')],[],none⟩
 | .call d f xs,A,x=> ∃n dr,dF A.t f= .func n dr/\((abN P n (dq (xs.map (dF A.t)++dr)) A d x/\(q=true->x.bw=[]/\x.ew=[]))\/abO P n0 n (dq (xs.map (dF A.t)++dr)) A d x)
 |_,_,_=>ey
inductive CP where
 |v|l|n|s|w|a|c|m|r|k
 deriving nl
def eo.mode:eo->CP
 | .s (.v _ (.loadB _ _ _))=>.m
 | .s (.v _ (.mgetB _ _ _ _ _))=>.m
 | .s (.v _ i)=>if i.isLoad then .l else .v
 | .s (.storeE _ _ _)=>.r
 | .s (.box _ _ _)=>.n
 | .s (.alloc _ _ _)=>.n
 | .s (.store _ _ _)=>.w
 | .s (.bsl _ _ _ _)=>.s
 | .s (.app _ _ _ _ _)=>.a
 | .s (.bslm _ _ _ _ _)=>.w
 | .s (.mks _ _ _ _ _ _)=>.w
 | .s (.appm _ _ _ _ _ _)=>.r
 | .s (.mkmap _ _)=>.k
 | .s (.mput _ _ _ _)=>.w
 | .s (.range _ _ _)=>.w
 | .call _ _ _=>.c
 | .next _ _=>.w
structure Kn (q:Bool) (n0:Nat) (m:CP) (dst:Option Nat) (A:di) (x:lx):Prop where
 d:x.d=dst
 b:∀k,(look k x.bw).isSome->(m= .n/\∃d,dst=some d/\k= .loc (n0+d)/\A.b k=none/\A.e k=none)\/m= .w\/(m= .c/\(∃j,k= .obj j)/\q=false)\/(m= .k/\(∃j,k= .obj j)/\A.b k=none/\A.e k=none)
 e:∀k,(look k x.ew).isSome->(m= .s/\∃d,dst=some d/\k= .loc (n0+d)/\A.b k=none/\A.e k=none)\/(m= .a/\(A.e k≠none\/ ∃d,dst=some d/\k= .loc (n0+d)/\A.b k=none/\A.e k=none))\/(m= .c/\(∃j,k= .obj j)/\q=false)\/(m= .r/\∃o,A.e k=some o/\o.xs≠none)
 r:∀k,x.rm=some k->(∃d,dst=some d/\k= .loc (n0+d))\/((m= .c\/m= .k)/\(∃j,k= .obj j)/\((look k x.bw).isSome\/(look k x.ew).isSome))
 ex:m= .a->∀k o,(look k x.ew).isSome->A.e k=some o->o.xs=none
 xn:m= .a\/m= .s->∀k o,look k x.ew=some o->o.xs=none
theorem uI{α:Type}{k bI:aL}{x:α}(h:(look k [(bI,x)]).isSome):k=bI:=by
 simp only[look]at h;split at h
 ·rename_i e;exact e.symm
 ·cases h
theorem NK{k bI:aL}{n el sz:Nat}{o:fP}(h:look k [(bI,(⟨n,el,sz,none⟩:fP))]=some o):o.xs=none:=by
 simp only[look]at h;split at h
 ·cases h;rfl
 ·cases h
theorem aau{P:cK}{q:Bool}{n0:Nat}{i:eo}{A:di}{x:lx}(h:eG P q n0 i A x):Kn q n0 i.mode i.dst A x:=by
 cases i with
 |s i=>
  cases i with
  |v d i=>simp only[eG]at h;obtain⟨c,p,_,_,_,rfl⟩:=h;exact⟨rfl,fun k ae=>by simp[look]at ae,fun k ae=>by simp[look]at ae,fun k ae=>by simp at ae,fun _ k o ae=>by simp[look]at ae,fun _ k o ae=>by simp[look]at ae⟩
  |box d key v=>
   cases key with
   |some m=>simp only[eG]at h
   |none=>simp only[eG]at h;obtain⟨⟨_,U,h3⟩,_,rfl⟩:=h;exact⟨rfl,fun k ae=>by obtain rfl:=uI ae;exact .inl ⟨rfl,d,rfl,rfl,U,h3⟩,fun k ae=>by simp[look]at ae,fun k ae=>by simp at ae;exact .inl ⟨d,rfl,ae.symm⟩,fun _ k o ae=>by simp[look]at ae,fun _ k o ae=>by simp[look]at ae⟩
  |alloc d key z=>
   cases key with
   |some m=>simp only[eG]at h
   |none=>simp only[eG]at h;obtain⟨⟨_,U,h3⟩,rfl⟩:=h;exact⟨rfl,fun k ae=>by obtain rfl:=uI ae;exact .inl ⟨rfl,d,rfl,rfl,U,h3⟩,fun k ae=>by simp[look]at ae,fun k ae=>by simp at ae;exact .inl ⟨d,rfl,ae.symm⟩,fun _ k o ae=>by simp[look]at ae,fun _ k o ae=>by simp[look]at ae⟩
  |store sz u v=>simp only[eG]at h;obtain⟨k,off,cs,_,_,_,rfl⟩:=h;exact⟨rfl,fun k ae=>.inr (.inl rfl),fun k ae=>by simp[look]at ae,fun k ae=>by simp at ae,fun _ k o ae=>by simp[look]at ae,fun _ k o ae=>by simp[look]at ae⟩
  |bsl d sz el xs=>simp only[eG]at h;obtain⟨⟨_,U,h3⟩,_,rfl⟩:=h;exact⟨rfl,fun k ae=>by simp[look]at ae,fun k ae=>by obtain rfl:=uI ae;exact .inl ⟨rfl,d,rfl,rfl,U,h3⟩,fun k ae=>by simp at ae;exact .inl ⟨d,rfl,ae.symm⟩,fun e=>by simp[eo.mode]at e,fun _ k o ae=>NK ae⟩
  |app d sz el u v=>
   simp only[eG]at h;obtain⟨tag,xs,lL,ys,_,_,h⟩:=h;rcases h with⟨k,o,_,J,⟨gA,_⟩,rfl⟩|⟨_,_,⟨_,U,h3⟩,rfl⟩
   ·exact⟨rfl,fun k ae=>by simp[look]at ae,fun k ae=>by obtain rfl:=uI ae;exact .inr (.inl ⟨rfl,.inl (by rw[J];simp)⟩),fun k ae=>by simp at ae,fun _ bI o' ae ay=>by obtain rfl:=uI ae;rw[J]at ay;cases ay;exact gA,fun _ k o ae=>NK ae⟩
   ·exact⟨rfl,fun k ae=>by simp[look]at ae,fun k ae=>by obtain rfl:=uI ae;exact .inr (.inl ⟨rfl,.inr ⟨d,rfl,rfl,U,h3⟩⟩),fun k ae=>by simp at ae;exact .inl ⟨d,rfl,ae.symm⟩,fun _ bI o' ae ay=>(by obtain rfl:=uI ae;rw[h3]at ay;cases ay),fun _ k o ae=>NK ae⟩
  |bslm d key sz el xs=>simp only[eG]at h
  |mks d key sz el z x=>simp only[eG]at h
  |appm d key sz el u v=>simp only[eG]at h;obtain⟨k,n,xs,lL,ys,_,_,J,_,rfl⟩:=h;exact⟨rfl,fun k ae=>by simp[look]at ae,fun k ae=>by obtain rfl:=uI ae;exact .inr (.inr (.inr ⟨rfl,_,J,Ψ⟩)),fun k ae=>by simp at ae,fun e=>by simp[eo.mode]at e,fun e=>by simp[eo.mode]at e⟩
  |storeE sz u v=>simp only[eG]at h;obtain⟨k,n,i,f,el,dL,xs,q,_,J,_,_,rfl⟩:=h;exact⟨rfl,fun k ae=>by simp[look]at ae,fun k ae=>by obtain rfl:=uI ae;exact .inr (.inr (.inr ⟨rfl,_,J,Ψ⟩)),fun k ae=>by simp at ae,fun e=>by simp[eo.mode]at e,fun e=>by simp[eo.mode]at e⟩
  |mkmap d key=>
   cases key with
   |none=>simp only[eG]at h
   |some m=>simp only[eG]at h;obtain⟨⟨_,U,h3⟩,rfl⟩:=h;exact⟨rfl,fun k ae=>by obtain rfl:=uI ae;exact .inr (.inr (.inr ⟨rfl,⟨m,rfl⟩,U,h3⟩)),fun k ae=>by simp[look]at ae,fun k ae=>by simp at ae;subst ae;exact .inr ⟨.inr rfl,⟨m,rfl⟩,.inl (by simp[look])⟩,fun e=>by simp[eo.mode]at e,fun e=>by simp[eo.mode]at e⟩
  |mput ch x k v=>simp only[eG]at h;obtain⟨m,cs,cs',_,_,_,rfl⟩:=h;exact⟨rfl,fun k ae=>.inr (.inl rfl),fun k ae=>by simp[look]at ae,fun k ae=>by simp at ae,fun e=>by simp[eo.mode]at e,fun e=>by simp[eo.mode]at e⟩
  |range d key x=>simp only[eG]at h
 |next d x=>simp only[eG]at h
 |call d f xs=>
  simp only[eG]at h;obtain⟨n,dr,_,h⟩:=h;rcases h with⟨⟨s,ah,r,rm,_,_,_,ay,V0,_,_,rfl⟩,bE⟩|⟨cN,r,rfl,_,_,_,rfl⟩;rotate_left
  ·exact⟨rfl,fun k ae=>by simp[look]at ae,fun k ae=>by simp[look]at ae,fun k ae=>by simp at ae;exact .inl ⟨cN,rfl,ae.symm⟩,fun _ k o ae=>by simp[look]at ae,fun _ k o ae=>by simp[look]at ae⟩
  refine⟨rfl,fun k ae=>.inr (.inr (.inl ⟨rfl,?_,?_⟩)),fun k ae=>.inr (.inr (.inl ⟨rfl,?_,?_⟩)),fun k ae=>.inr ⟨.inl rfl,(V0.2.2.2.2 k ae).1,(V0.2.2.2.2 k ae).2.2.2.2⟩,fun e=>by simp[eo.mode]at e,fun e=>by simp[eo.mode]at e⟩
  ·cases k with
   |loc m=>rw[ay.1 m]at ae;cases ae
   |obj m=>exact⟨m,rfl⟩
  ·cases q with
   |false=>rfl
   |true=>rw[(bE rfl).1]at ae;simp[look]at ae
  ·cases k with
   |loc m=>rw[ay.2 m]at ae;cases ae
   |obj m=>exact⟨m,rfl⟩
  ·cases q with
   |false=>rfl
   |true=>rw[(bE rfl).2]at ae;simp[look]at ae
theorem QN{P:cK}{q:Bool}{n0:Nat}{i:eo}{A gw:di}{x:lx}(h:eG P q n0 i A x)(aI:rp i.looks A.t gw.t)
  (av:i.mode= .l->∀k,(q=true\/ ∃m,k= .loc m)->A.b k≠none->gw.b k=A.b k) (VR:i.mode= .m->∀k,A.b k≠none->gw.b k=A.b k)
  (l0:i.mode= .l->q=true->∀k o,A.e k=some o->o.xs≠none->gw.e k=some o)
  (au:∀d,i.dst=some d->(i.mode= .n\/i.mode= .s\/i.mode= .a\/i.mode= .c)->(A.F (.loc (n0+d))/\A.b (.loc (n0+d))=none/\A.e (.loc (n0+d))=none)->(gw.F (.loc (n0+d))/\gw.b (.loc (n0+d))=none/\gw.e (.loc (n0+d))=none))
  (bg:i.mode= .a->∀k o,A.e k=some o->gw.e k=some o) (hw:i.mode= .w->∀k,gw.b k=A.b k) (sV:i.mode= .k->∀m,(A.F (.obj m)/\A.b (.obj m)=none/\A.e (.obj m)=none)->(gw.F (.obj m)/\gw.b (.obj m)=none/\gw.e (.obj m)=none)) (D4:i.mode= .r->∀k o,A.e k=some o->o.xs≠none->gw.e k=some o)
  (ao:i.mode= .c->∀m,gw.b (.obj m)=A.b (.obj m)/\gw.e (.obj m)=A.e (.obj m)/\(A.F (.obj m)->gw.F (.obj m))):eG P q n0 i gw x:=by
 cases i with
 |s i=>
  cases i with
  |v d i=>
   simp only[eG]at h⊢;obtain⟨c,p,J,U,h3,h4⟩:=h;by_cases jE:∃agg sz y,i= .loadB agg sz y
   ·obtain⟨agg,sz,y,rfl⟩:=jE;simp only[eo.looks,ez.looks,gh.looks]at aI;have vC:=gI aI;refine⟨c,p,?_,U,fun _=>.inl rfl,h4⟩;rw[<-J];simp only[qy,<-vC];have hm:=VR (by simp[eo.mode]);simp only[qy]at J;cases bF:dF A.t y<;>simp only[ta];rename_i key off;rw[bF]at J;simp only[ta]at J;cases ad:A.b key with
    |none=>simp[ad]at J
    |some cs=>have:gw.b key=A.b key:=hm key (by rw[ad];simp);rw[this,ad]
   by_cases Hc:∃ch zero ok y z,i= .mgetB ch zero ok y z
   ·obtain⟨ch,zero,ok,y,z,rfl⟩:=Hc;simp only[eo.looks,ez.looks,gh.looks]at aI;obtain⟨t1,t2⟩:=k3 aI;refine⟨c,p,?_,U,fun _=>.inl rfl,h4⟩;simp only[qy]at J⊢;rw[<-gI t1,<-gI t2];exact XE (VR (by simp[eo.mode])) J
   replace h3:i.isLoad=true->q=true\/zf (i.ptrOf A.t)=true:=fun oV=>(h3 oV).resolve_left (fun ad=>by cases i<;>simp[gh.isB]at ad;exact jE ⟨_,_,_,rfl⟩;exact Hc ⟨_,_,_,_,_,rfl⟩);have aiA:i.isLoad=true->(eo.s (.v d i)).mode= .l:=by intro oV;cases i<;>simp only[gh.isLoad]at oV<;>first|(cases oV;done)|(simp[eo.mode,gh.isLoad];done)|exact absurd ⟨_,_,_,rfl⟩ jE|exact absurd ⟨_,_,_,_,_,rfl⟩ Hc
   by_cases oV:i.isLoad=true
   ·have bE:∀(bF:zf (i.ptrOf A.t)=false),∀k,A.b k≠none->gw.b k=A.b k:=fun bF k ae=>av (aiA oV) k (.inl ((h3 oV).resolve_right (by rw[bF];simp))) ae;cases i<;>simp only[gh.isLoad]at oV<;>try(cases oV;done)
    case mget ch zero ok y z=>simp only[eo.looks,ez.looks,gh.looks]at aI;obtain⟨t1,t2⟩:=k3 aI;refine⟨c,p,?_,U,fun _=>.inr (h3 rfl),h4⟩;simp only[qy]at J⊢;rw[<-gI t1,<-gI t2];exact XE (bE rfl) J
    case ment y=>simp only[eo.looks,ez.looks,gh.looks]at aI;refine⟨c,p,?_,U,fun _=>.inr (h3 rfl),h4⟩;simp only[qy]at J⊢;rw[<-gI aI];exact akw (bE rfl) J
    case mlen y=>simp only[eo.looks,ez.looks,gh.looks]at aI;refine⟨c,p,?_,U,fun _=>.inr (h3 rfl),h4⟩;simp only[qy]at J⊢;rw[<-gI aI];exact akP (bE rfl) J
    case loadB agg sz y=>exact absurd ⟨_,_,_,rfl⟩ jE
    case mgetB=>exact absurd ⟨_,_,_,_,_,rfl⟩ Hc
    rename_i agg sz y;simp only[eo.looks,ez.looks,gh.looks]at aI;have vC:=gI aI;refine⟨c,p,?_,U,fun _=>.inr (by have:=h3 rfl;simpa only[gh.ptrOf,<-vC]using this),h4⟩;rw[<-J];simp only[qy,<-vC];have hm:=av (by simp[eo.mode,gh.isLoad]);simp only[qy]at J;have tZ:=h3 rfl;simp only[gh.ptrOf]at tZ;cases bF:dF A.t y<;>simp only[ta]
    ·rename_i key off;rw[bF]at J tZ;simp only[ta]at J;cases ad:A.b key with
     |none=>simp[ad]at J
     |some cs=>have:gw.b key=A.b key:=hm key (by rcases tZ with h|h;exact .inl h;cases key;exact .inr ⟨_,rfl⟩;simp[zf]at h) (by rw[ad];simp);rw[this,ad]
    ·rename_i dL key n i f;rw[bF]at J tZ;simp only[ta]at J;have aiS:q=true:=tZ.resolve_right (by simp[zf]);unfold zQ at J;split at J
     ·rename_i n' el jQ xs he;rw[he,l0 (by simp[eo.mode,gh.isLoad]) aiS key _ he Ψ]
     ·cases J
   ·have oV:i.isLoad=false:=by simpa using oV
    refine⟨c,p,?_,U,(fun e=>by rw[oV]at e;cases e),h4⟩;rw[<-J];exact(apG (by simpa only[eo.looks,ez.looks]using aI) oV).symm
  |box d key v=>
   cases key with
   |some m=>simp only[eG]at h
   |none=>simp only[eG,eo.looks,ez.looks]at h aI⊢;obtain⟨J,U,h3⟩:=h;rw[<-gI aI];exact⟨au d rfl (.inl rfl) J,U,h3⟩
  |alloc d key z=>
   cases key with
   |some m=>simp only[eG]at h
   |none=>simp only[eG]at h⊢;exact⟨au d rfl (.inl rfl) h.1,h.2⟩
  |store sz u v=>simp only[eG,eo.looks,ez.looks]at h aI⊢;obtain⟨J,U⟩:=k3 aI;rw[<-gI J,<-gI U];obtain⟨k,off,cs,g1,g2,g3,g4⟩:=h;exact⟨k,off,cs,g1,by rw[hw rfl];exact g2,g3,g4⟩
  |bsl d sz el xs=>simp only[eG,eo.looks,ez.looks]at h aI⊢;rw[<-Il aI];exact⟨au d rfl (.inr (.inl rfl)) h.1,h.2⟩
  |app d sz el u v=>
   simp only[eG,eo.looks,ez.looks]at h aI⊢;obtain⟨J,U⟩:=k3 aI;rw[<-gI J,<-gI U];obtain⟨tag,xs,lL,ys,g1,g2,h⟩:=h;refine⟨tag,xs,lL,ys,g1,g2,?_⟩;rcases h with⟨k,o,aq,aF,bB⟩|⟨aq,aF,bB,ds⟩
   ·exact .inl ⟨k,o,aq,bg rfl k o aF,bB⟩
   ·exact .inr ⟨aq,aF,au d rfl (.inr (.inr (.inl rfl))) bB,ds⟩
  |bslm d key sz el xs=>simp only[eG]at h
  |mks d key sz el z x=>simp only[eG]at h
  |appm d key sz el u v=>simp only[eG,eo.looks,ez.looks]at h aI⊢;obtain⟨J,U⟩:=k3 aI;rw[<-gI J,<-gI U];obtain⟨k,n,xs,lL,ys,g1,g2,g3,g4,g5⟩:=h;exact⟨k,n,xs,lL,ys,g1,g2,D4 rfl k _ g3 Ψ,g4,g5⟩
  |storeE sz u v=>simp only[eG,eo.looks,ez.looks]at h aI⊢;obtain⟨J,U⟩:=k3 aI;rw[<-gI J,<-gI U];obtain⟨k,n,i,f,el,dL,xs,q,g1,g2,g3⟩:=h;exact⟨k,n,i,f,el,dL,xs,q,g1,D4 rfl k _ g2 Ψ,g3⟩
  |mkmap d key=>
   cases key with
   |none=>simp only[eG]at h
   |some m=>simp only[eG]at h⊢;exact⟨sV rfl m h.1,h.2⟩
  |mput ch u k v=>simp only[eG,eo.looks,ez.looks]at h aI⊢;obtain⟨t1,t3⟩:=k3 aI;obtain⟨t1,t2⟩:=k3 t1;obtain⟨m,cs,cs',g1,g2,g3,g4⟩:=h;rw[<-gI t1,<-gI t2,<-gI t3];exact⟨m,cs,cs',g1,by rw[hw rfl];exact g2,g3,g4⟩
  |range d key x=>simp only[eG]at h
 |next d x=>simp only[eG]at h
 |call d f xs=>
  simp only[eG,eo.looks]at h aI⊢;obtain⟨J,U⟩:=k3 aI;rw[<-gI J,<-Il U];obtain⟨n,dr,g1,h⟩:=h;rcases h with⟨⟨s,ah,r,rm,bY,cw,dC,kO,lB,oR⟩,g3⟩|⟨cN,r,rfl,bY,cw⟩;rotate_left
  ·exact⟨n,dr,g1,.inr ⟨cN,r,rfl,au cN rfl (.inr (.inr (.inr rfl))) bY,cw⟩⟩
  refine⟨n,dr,g1,.inl ⟨⟨s,ah,r,rm,fun k cs ae=>?_,fun k o ae=>?_,dC,kO,⟨lB.1,lB.2.1,lB.2.2.1,lB.2.2.2.1,fun k ae=>?_⟩,oR⟩,g3⟩⟩
  ·cases k with
   |loc m=>rw[dC.1 m]at ae;cases ae
   |obj m=>rw[(ao rfl m).1];exact bY _ _ ae
  ·cases k with
   |loc m=>rw[dC.2 m]at ae;cases ae
   |obj m=>rw[(ao rfl m).2.1];exact cw _ _ ae
  ·obtain⟨⟨j,rfl⟩,d2,d3,d4,d5⟩:=lB.2.2.2.2 k ae;exact⟨⟨j,rfl⟩,(ao rfl j).2.2 d2,by rw[(ao rfl j).1];exact d3,by rw[(ao rfl j).2.1];exact d4,d5⟩
def l4(d:Option Nat):lx:=⟨d,.tuple [],[],[],none⟩
def ly(P:cK)(q:Bool)(n0:Nat)(g:dc)(A:di)(x:lx):Prop:=
 match g.g with
 |none=>eG P q n0 g.i A x
 |some (s,w)=>match A.t s with
  | .bool b=>(b=w/\eG P q n0 g.i A x)\/(b= !w/\x=l4 g.i.dst)
  | .tuple []=>x=l4 g.i.dst
  |_=>ey
def fj:CP->CP->Bool
 | .v,_=>true
 |_,.v=>true
 | .l,.l| .l,.n| .l,.s| .l,.a| .l,.c=>true
 | .n,.n| .n,.s| .n,.a| .n,.c=>true
 | .s,.l| .s,.n| .s,.s| .s,.c=>true
 | .a,.l| .a,.n| .a,.s=>true
 | .c,.l| .c,.n| .c,.s=>true
 | .l,.m| .m,.l| .m,.m| .m,.n| .m,.s| .m,.a| .s,.m| .a,.m=>true
 | .l,.k| .m,.k| .n,.k| .s,.k=>true
 | .m,.r| .r,.m| .r,.n| .r,.s| .n,.r| .s,.r| .r,.w| .w,.r=>true
 |_,_=>false
def AW(g h:dc):Bool:=(match g.i.dst with|some d=> !(h.looks.contains d)&&h.i.dst !=some d|none=>true)&&(match h.i.dst with|some d=> !(g.looks.contains d)|none=>true)&&fj g.i.mode h.i.mode
theorem aav(q:Bool)(n0:Nat)(m:CP)(d:Option Nat)(A:di):Kn q n0 m d A (l4 d):=⟨rfl,fun k ae=>by simp[l4,look]at ae,fun k ae=>by simp[l4,look]at ae,fun k ae=>by simp[l4]at ae,fun _ k o ae=>by simp[l4,look]at ae,fun _ k o ae=>by simp[l4,look]at ae⟩
theorem P3{P:cK}{q:Bool}{n0:Nat}{g:dc}{A:di}{x:lx}(h:ly P q n0 g A x):Kn q n0 g.i.mode g.i.dst A x:=by
 unfold ly at h;split at h
 ·exact aau h
 ·split at h
  ·rcases h with⟨_,h⟩|⟨_,rfl⟩
   ·exact aau h
   ·exact aav _ _ _ _ _
  ·subst h;exact aav _ _ _ _ _
  ·exact h.elim
theorem tV{A:di}{x:lx}{k:aL}(h:look k x.bw=none):(A.do x).b k=A.b k:=by simp[di.do,iZ,h]
theorem tW{A:di}{x:lx}{k:aL}(h:look k x.ew=none):(A.do x).e k=A.e k:=by simp[di.do,iZ,h]
theorem Lk{A:di}{x:lx}{k:aL}(h:(A.do x).b k=none):A.b k=none:=by
 simp only[di.do,iZ]at h;split at h
 ·cases h
 ·exact h
theorem Ll{A:di}{x:lx}{k:aL}(h:(A.do x).e k=none):A.e k=none:=by
 simp only[di.do,iZ]at h;split at h
 ·cases h
 ·exact h
theorem my{α:Type}{o:Option α}(h:¬o.isSome):o=none:=by cases o<;>simp at h⊢
theorem QP{P:cK}{q:Bool}{n0:Nat}{g:dc}{A gw:di}{x:lx}(h:ly P q n0 g A x)(aI:rp g.looks A.t gw.t)(hm:eG P q n0 g.i A x->eG P q n0 g.i gw x):ly P q n0 g gw x:=by
 unfold ly at h⊢;cases aW:g.g with
 |none=>simp only[aW]at h⊢;exact hm h
 |some z6=>
  obtain⟨s,w⟩:=z6;have:A.t s=gw.t s:=aI s (by simp[dc.looks,aW]);simp only[aW,this]at h⊢;split at h
  ·rcases h with⟨J,U⟩|h
   ·exact .inl ⟨J,hm U⟩
   ·exact .inr h
  ·exact h
  ·exact h
theorem swap{P:cK}{q:Bool}{n0:Nat}{g h:dc}(VH:AW g h=true){A:di}{x y:lx}(ab:ly P q n0 g A x)(aC:ly P q n0 h (A.do x) y):
  ly P q n0 h A y/\ly P q n0 g (A.do y) x/\x.apart y:=by
 simp only[AW,cr]at VH;obtain⟨⟨fC,e3⟩,hm⟩:=VH;have z8:=P3 ab;have cA:∀d cm,g.i.dst=some d->h.i.dst=some cm->d≠cm:=by intro d cm aq aF e;simp only[aq,cr,bne_iff_ne]at fC;exact fC.2 (by rw[aF,e])
 have He:rp h.looks (A.do x).t A.t:=by intro i hi;simp only[di.do];rw[if_neg];intro e;rw[z8.d]at e;simp only[e,cr,oG,List.contains_eq_mem,gD]at fC;exact fC.1 hi
 have rI:∀k,(look k x.bw).isSome->_:=z8.b;have hle:∀k,(look k x.ew).isSome->_:=z8.e;have WX:ly P q n0 h A y:=by
  refine QP aC He fun iH=>QN iH (fun i hi=>He i (by simp[dc.looks,hi])) (fun e k ae ad=>?_) (fun e k ad=>?_) (fun e bE k o ay gA=>?_) (fun d aG y6 mi=>?_) (fun e k o ay=>?_) (fun e k=>?_) (fun e m mi=>⟨mi.1.1,Lk mi.2.1,Ll mi.2.2⟩) (fun e k o ay gA=>?_) (fun e m=>?_)
  ·rw[tV (my fun af=>?_)];rcases rI k af with⟨aq,_⟩|aq|⟨aq,⟨j,aF⟩,bB⟩|⟨aq,_⟩;rotate_left 3
   ·rw[e,aq]at hm;simp[fj]at hm
   ·rw[e,aq]at hm;simp[fj]at hm
   ·rw[e,aq]at hm;simp[fj]at hm
   ·rcases ae with ae|⟨m,ae⟩
    ·rw[ae]at bB;cases bB
    ·rw[ae]at aF;cases aF
  ·rw[tV (my fun af=>?_)];rcases rI k af with⟨aq,_⟩|aq|⟨aq,_⟩|⟨aq,_⟩<;>(rw[e,aq]at hm;simp[fj]at hm)
  ·rw[e]at hm;cases hY:look k x.ew with
   |none=>rw[tW hY]at ay;exact ay
   |some o'=>
    exfalso;have MJ:(A.do x).e k=some o':=by simp[di.do,iZ,hY]
    rw[MJ]at ay;cases ay;rcases hle k (by simp[hY])with⟨aq,_⟩|⟨aq,_⟩|⟨aq,_,bB⟩|⟨aq,_⟩
    ·exact gA (z8.xn (.inr aq) k _ hY)
    ·exact gA (z8.xn (.inl aq) k _ hY)
    ·rw[bE]at bB;cases bB
    ·rw[aq]at hm;simp[fj]at hm
  ·exact⟨mi.1.1,Lk mi.2.1,Ll mi.2.2⟩
  ·rw[tW (my fun af=>?_)]at ay
   ·exact ay
   ·rw[e]at hm;rcases hle k af with⟨aq,_⟩|⟨aq,_⟩|⟨aq,_⟩|⟨aq,_⟩<;>(rw[aq]at hm;simp[fj]at hm)
  ·rw[tV (my fun af=>?_)];rw[e]at hm;rcases rI k af with⟨aq,_⟩|aq|⟨aq,_⟩|⟨aq,_⟩<;>(rw[aq]at hm;simp[fj]at hm)
  ·rw[e]at hm;cases hY:look k x.ew with
   |none=>rw[tW hY]at ay;exact ay
   |some o'=>
    exfalso;have MJ:(A.do x).e k=some o':=by simp[di.do,iZ,hY]
    rw[MJ]at ay;cases ay;rcases hle k (by simp[hY])with⟨aq,_⟩|⟨aq,_⟩|⟨aq,_⟩|⟨aq,_⟩
    ·exact gA (z8.xn (.inr aq) k _ hY)
    ·rw[aq]at hm;simp[fj]at hm
    ·rw[aq]at hm;simp[fj]at hm
    ·rw[aq]at hm;simp[fj]at hm
  ·rw[e]at hm;refine⟨?_,?_,fun gy=>gy.1⟩
   ·rw[tV (my fun af=>?_)];rcases rI _ af with⟨aq,d,_,aF,_⟩|aq|⟨aq,_⟩|⟨aq,_⟩;rotate_left 3
    ·rw[aq]at hm;simp[fj]at hm
    ·cases aF
    ·rw[aq]at hm;simp[fj]at hm
    ·rw[aq]at hm;simp[fj]at hm
   ·rw[tW (my fun af=>?_)];rcases hle _ af with⟨aq,d,_,aF,_⟩|⟨aq,_⟩|⟨aq,_⟩|⟨aq,_⟩
    ·cases aF
    ·rw[aq]at hm;simp[fj]at hm
    ·rw[aq]at hm;simp[fj]at hm
    ·rw[aq]at hm;simp[fj]at hm
 have ty:=P3 WX;have Vp:rp g.looks A.t (A.do y).t:=by intro i hi;simp only[di.do];rw[if_neg];intro e;rw[ty.d]at e;simp only[e,oG,List.contains_eq_mem,gD]at e3;exact e3 hi
 refine⟨WX,?_,?_⟩
 ·refine QP ab Vp fun iH=>QN iH (fun i hi=>Vp i (by simp[dc.looks,hi])) (fun e k ae ad=>?_) (fun e k ad=>?_) (fun e bE k o ay gA=>?_) (fun d aG y6 mi=>?_) (fun e k o ay=>?_) (fun e k=>?_) (fun e m mi=>?_) (fun e k o ay gA=>?_) (fun e m=>?_)
  ·refine tV (my fun af=>?_);rcases ty.b k af with⟨aq,d,_,_,aF,_⟩|aq|⟨aq,⟨j,aF⟩,bB⟩|⟨_,_,aF,_⟩;rotate_left 3
   ·exact ad aF
   ·exact ad aF
   ·rw[e,aq]at hm;simp[fj]at hm
   ·rcases ae with ae|⟨m,ae⟩
    ·rw[ae]at bB;cases bB
    ·rw[ae]at aF;cases aF
  ·refine tV (my fun af=>?_);rcases ty.b k af with⟨aq,d,_,_,aF,_⟩|aq|⟨aq,_⟩|⟨_,_,aF,_⟩;rotate_left 3
   ·exact ad aF
   ·exact ad aF
   ·rw[e,aq]at hm;simp[fj]at hm
   ·rw[e,aq]at hm;simp[fj]at hm
  ·rw[tW (my fun af=>?_)]
   ·exact ay
   ·rcases ty.e k af with⟨aq,d,_,_,_,aF⟩|⟨aq,aF⟩|⟨aq,_,bB⟩|⟨aq,_⟩
    ·rw[aF]at ay;cases ay
    ·exact gA (ty.ex aq k o af ay)
    ·rw[bE]at bB;cases bB
    ·rw[e,aq]at hm;simp[fj]at hm
  ·refine⟨⟨mi.1,fun rC=>?_⟩,?_,?_⟩
   ·rcases ty.r _ rC with⟨cm,aq,aF⟩|⟨_,⟨j,aF⟩,_⟩
    ·simp only[aL.loc.injEq]at aF;exact cA d cm aG aq Ω
    ·cases aF
   ·rw[tV (my fun af=>?_)]
    ·exact mi.2.1
    ·rcases ty.b _ af with⟨aq,cm,aF,bB,_⟩|aq|⟨aq,⟨j,aF⟩,_⟩|⟨aq,⟨j,aF⟩,_⟩;rotate_left 3
     ·cases aF
     ·simp only[aL.loc.injEq]at bB;exact cA d cm aG aF Ω
     ·rcases y6 with aF|aF|aF|aF<;>(rw[aq,aF]at hm;simp[fj]at hm)
     ·cases aF
   ·rw[tW (my fun af=>?_)]
    ·exact mi.2.2
    ·rcases ty.e _ af with⟨aq,cm,aF,bB,_⟩|⟨aq,aF⟩|⟨aq,⟨j,aF⟩,_⟩|⟨aq,o,aF,_⟩
     ·simp only[aL.loc.injEq]at bB;exact cA d cm aG aF Ω
     ·rcases aF with aF|⟨cm,aF,bB,_⟩
      ·exact aF mi.2.2
      ·simp only[aL.loc.injEq]at bB;exact cA d cm aG aF Ω
     ·cases aF
     ·rw[mi.2.2]at aF;cases aF
  ·rw[tW (my fun af=>?_)]
   ·exact ay
   ·rw[e]at hm;rcases ty.e k af with⟨aq,d,_,_,_,aF⟩|⟨aq,_⟩|⟨aq,_⟩|⟨aq,_⟩
    ·rw[aF]at ay;cases ay
    ·rw[aq]at hm;simp[fj]at hm
    ·rw[aq]at hm;simp[fj]at hm
    ·rw[aq]at hm;simp[fj]at hm
  ·refine tV (my fun af=>?_);rw[e]at hm;rcases ty.b k af with⟨aq,_⟩|aq|⟨aq,_⟩|⟨aq,_⟩<;>(rw[aq]at hm;simp[fj]at hm)
  ·rw[e]at hm;refine⟨⟨mi.1,fun rC=>?_⟩,?_,?_⟩
   ·rcases ty.r _ rC with⟨cm,aq,aF⟩|⟨aq|aq,_⟩
    ·cases aF
    ·rw[aq]at hm;simp[fj]at hm
    ·rw[aq]at hm;simp[fj]at hm
   ·rw[tV (my fun af=>?_)]
    ·exact mi.2.1
    ·rcases ty.b _ af with⟨aq,_⟩|aq|⟨aq,_⟩|⟨aq,_⟩<;>(rw[aq]at hm;simp[fj]at hm)
   ·rw[tW (my fun af=>?_)]
    ·exact mi.2.2
    ·rcases ty.e _ af with⟨aq,_⟩|⟨aq,_⟩|⟨aq,_⟩|⟨aq,o,aF,_⟩
     ·rw[aq]at hm;simp[fj]at hm
     ·rw[aq]at hm;simp[fj]at hm
     ·rw[aq]at hm;simp[fj]at hm
     ·rw[mi.2.2]at aF;cases aF
  ·rw[tW (my fun af=>?_)]
   ·exact ay
   ·rw[e]at hm;rcases ty.e k af with⟨aq,d,_,_,_,aF⟩|⟨aq,_⟩|⟨aq,_⟩|⟨aq,_⟩
    ·rw[aF]at ay;cases ay
    ·rw[aq]at hm;simp[fj]at hm
    ·rw[aq]at hm;simp[fj]at hm
    ·rw[aq]at hm;simp[fj]at hm
  ·rw[e]at hm;refine⟨?_,?_,fun gy=>⟨gy,fun rC=>?_⟩⟩;rotate_left 2
   ·rcases ty.r _ rC with⟨cm,_,aF⟩|⟨aF|aF,_⟩
    ·cases aF
    ·rw[aF]at hm;simp[fj]at hm
    ·rw[aF]at hm;simp[fj]at hm
   ·refine tV (my fun af=>?_);rcases ty.b _ af with⟨aq,d,_,aF,_⟩|aq|⟨aq,_⟩|⟨aq,_⟩;rotate_left 3
    ·rw[aq]at hm;simp[fj]at hm
    ·cases aF
    ·rw[aq]at hm;simp[fj]at hm
    ·rw[aq]at hm;simp[fj]at hm
   ·refine tW (my fun af=>?_);rcases ty.e _ af with⟨aq,d,_,aF,_⟩|⟨aq,_⟩|⟨aq,_⟩|⟨aq,_⟩
    ·cases aF
    ·rw[aq]at hm;simp[fj]at hm
    ·rw[aq]at hm;simp[fj]at hm
    ·rw[aq]at hm;simp[fj]at hm
 ·refine⟨fun i hi e=>?_,fun k ae=>my fun af=>?_,fun k ae=>my fun af=>?_⟩
  ·rw[z8.d]at hi;rw[ty.d]at e;exact cA i i hi e rfl
  ·rcases rI k ae with⟨bA,d,a2,a3,_⟩|bA|⟨bA,⟨j,a2⟩,_⟩|⟨bA,_⟩<;>rcases ty.b k af with⟨b1,cm,b2,gp,_⟩|b1|⟨b1,⟨dJ,b2⟩,_⟩|⟨b1,⟨dJ,b2⟩,_⟩;all_goals first|(rw[bA,b1]at hm;simp[fj]at hm;done)|skip
   ·rw[a3]at gp;simp only[aL.loc.injEq]at gp;exact cA d cm a2 b2 Ω
   ·rw[a3]at b2;cases b2
   ·rw[a3]at b2;cases b2
   ·rw[a2]at gp;cases gp
  ·rcases hle k ae with⟨bA,d,a2,a3,_,a4⟩|⟨bA,a2⟩|⟨bA,⟨j,a2⟩,_⟩|⟨bA,ei,a2,_⟩<;>rcases ty.e k af with⟨b1,cm,b2,gp,_,vk⟩|⟨b1,b2⟩|⟨b1,⟨dJ,b2⟩,_⟩|⟨b1,ee,b2,_⟩
   ·rw[a3]at gp;simp only[aL.loc.injEq]at gp;exact cA d cm a2 b2 Ω
   ·rw[bA,b1]at hm;simp[fj]at hm
   ·rw[a3]at b2;cases b2
   ·rw[a4]at b2;cases b2
   ·rcases a2 with a2|⟨d,a2,a3,_⟩
    ·exact a2 vk
    ·rw[a3]at gp;simp only[aL.loc.injEq]at gp;exact cA d cm a2 b2 Ω
   ·rw[bA,b1]at hm;simp[fj]at hm
   ·rw[bA,b1]at hm;simp[fj]at hm
   ·rw[bA,b1]at hm;simp[fj]at hm
   ·rw[a2]at gp;cases gp
   ·rw[bA,b1]at hm;simp[fj]at hm
   ·rw[bA,b1]at hm;simp[fj]at hm
   ·rw[bA,b1]at hm;simp[fj]at hm
   ·rw[vk]at a2;cases a2
   ·rw[bA,b1]at hm;simp[fj]at hm
   ·rw[bA,b1]at hm;simp[fj]at hm
   ·rw[bA,b1]at hm;simp[fj]at hm
def yr(C:fp)(A:di)(a:Act)(w:World):Prop:= ∃st Z,l8 st A/\(∀k,A.F k->fresh st.n st.o k)/\c2 C st a w Z
theorem NH{st:bn}{A:di}(h:l8 st A)(d:Nat)(p:aj):l8 {st with t:=put d p st.t} (A.do ⟨some d,p,[],[],none⟩):=by
 refine⟨fun i=>?_,fun k=>?_,fun k=>?_⟩
 ·simp only[di.do,eX,dE,h.t]
 ·simpa[di.do,iZ,look]using h.b k
 ·simpa[di.do,iZ,look]using h.e k
theorem Xn{st:bn}{A:di}(h:l8 st A)(d:Nat)(p:aj)(o':List aL)(rm:Option aL):l8 {st with t:=put d p st.t,o:=o'} (A.do ⟨some d,p,[],[],rm⟩):=by have:=NH h d p;exact⟨this.t,this.b,this.e⟩
theorem abz{α:Type}{β:Type}:∀l:List (aL×α),cb ([]:List (aL×β)) l=l
 |[]=>rfl
 |(k,x)::r=>by simp[cb,look,abz r]
theorem BJ{st:bn}{A:di}(h:l8 st A)(d:Nat)(p:aj)(κ:aL)(cs:List aj)(n':Nat)(o':List aL)(rm:Option aL):l8 ⟨put d p st.t,cB κ cs st.b,st.e,n',o'⟩ (A.do ⟨some d,p,[(κ,cs)],[],rm⟩):=by
 refine⟨fun i=>?_,fun k=>?_,fun k=>?_⟩
 ·simp only[di.do,eX,dE,h.t]
 ·simp only[di.do,iZ,look,ju,h.b];by_cases e:κ=k<;>simp[e]
 ·simpa[di.do,iZ,look]using h.e k
theorem Ig{st:bn}{A:di}(h:l8 st A)(κ:aL)(cs:List aj)(p:aj):l8 {st with b:=cB κ cs st.b} (A.do ⟨none,p,[(κ,cs)],[],none⟩):=by
 refine⟨fun i=>?_,fun k=>?_,fun k=>?_⟩
 ·simpa[di.do]using h.t i
 ·simp only[di.do,iZ,look,ju,h.b];by_cases e:κ=k<;>simp[e]
 ·simpa[di.do,iZ,look]using h.e k
theorem xF{st:bn}{A:di}(h:l8 st A)(d:Nat)(p:aj)(κ:aL)(o:fP)(n':Nat)(o':List aL)(rm:Option aL):l8 ⟨put d p st.t,st.b,cB κ o st.e,n',o'⟩ (A.do ⟨some d,p,[],[(κ,o)],rm⟩):=by
 refine⟨fun i=>?_,fun k=>?_,fun k=>?_⟩
 ·simp only[di.do,eX,dE,h.t]
 ·simpa[di.do,iZ,look]using h.b k
 ·simp only[di.do,iZ,look,ju,h.e];by_cases e:κ=k<;>simp[e]
theorem Xm{st:bn}{A:di}(h:l8 st A)(κ:aL)(o:fP)(p:aj):l8 {st with e:=cB κ o st.e} (A.do ⟨none,p,[],[(κ,o)],none⟩):=by
 refine⟨fun i=>?_,fun k=>?_,fun k=>?_⟩
 ·simpa[di.do]using h.t i
 ·simpa[di.do,iZ,look]using h.b k
 ·simp only[di.do,iZ,look,ju];by_cases e:κ=k<;>simp[e,h.e]
theorem N0{α:Type}{k:aL}:∀{l:List (aL×α)},k∈l.map (·.1)->(look k l).isSome
 |[],h=>by simp at h
 |(i,x)::r,h=>by
  simp only[look];split
  ·rfl
  ·rename_i e;simp only[gZ,fm]at h;rcases h with h|h
   ·exact absurd h.symm e
   ·exact N0 h
theorem wZ{n:Nat}{o:List aL}{κ:aL}:∀j,fresh n (κ::o) j->fresh n o j/\j≠κ:=by intro j ag;simp only[fresh,fm,not_or]at ag⊢;exact⟨⟨ag.1,ag.2.2⟩,ag.2.1⟩
theorem ags{n:Nat}{o:List aL}{κ j:aL}(h:fresh n o j)(ag:some κ≠some j):fresh n (κ::o) j:=by simp only[fresh,fm,not_or]at h⊢;exact⟨h.1,fun e=>ag (by rw[e]),h.2⟩
theorem QO{P:cK}{bC:List (Nat×dy)}(aI:fJ P bC=true){C:fp}{q:Bool}{n0:Nat}{i:eo}{o:Oper}(ay:wo C.N bC i o=true){A:di}{x:lx}(ab:eG P q n0 i A x){a:Act}{w:World}(aM:yr C A a w)
  {K:Act->World->Prop} {Q:Exit->Act->World->Prop} (c7:∀bk w',yr C (A.do x) bk w'->K bk w'):o.wp P a w K Q:=by
 obtain⟨st,Z,av,gy,aM⟩:=aM;have rF:∀(t:List (Nat×aj)) (b:List (aL×List aj)) (e:List (aL×fP)) (d:Option Nat) (p:aj) (bw:List (aL×List aj)) (ew:List (aL×fP)),∀k,(A.do ⟨d,p,bw,ew,none⟩).F k->fresh st.n st.o k:=fun t b e d p bw ew k ae=>gy k ae.1;have n5:∀(d:Option Nat) (p:aj) (bw:List (aL×List aj)) (ew:List (aL×fP)) (κ:aL),∀k,(A.do ⟨d,p,bw,ew,some κ⟩).F k->fresh st.n (κ::st.o) k:=fun d p bw ew κ k ae=>ags (gy k ae.1) ae.2;cases i with
 |s i=>
  have ik:Fl C.N bC i o=true:=by simpa only[wo]using ay
  cases i with
  |v d i=>simp only[eG]at ab;obtain⟨c,p,J,U,_,rfl⟩:=ab;rw[<-aaM av]at J;refine km (κ:= .loc 0) (n':=0) (o₁:=[]) aI aM ik (fun h=>by simp[ez.makes]at h) (fun h=>by simp[ez.makes]at h) (st':={st with t:=put d p st.t}) (by simp only[eR,J]) U fun bk w' bh b9=>c7 _ _ ⟨_,bh,NH av d p,fun k ae=>gy k ae.1,b9⟩
  |box d key v=>
   cases key with
   |some m=>simp only[eG]at ab
   |none=>simp only[eG]at ab;obtain⟨⟨J,_⟩,U,rfl⟩:=ab;rw[<-jo av]at U;refine km (κ:= .loc (n0+d)) (n':=st.n) (o₁:= .loc (n0+d)::st.o) aI aM ik (fun _=>gy _ J) (fun _=>wZ) (st':=⟨put d (.ptr (.loc (n0+d)) 0) st.t,cB (.loc (n0+d)) (cells (cu st.t v)) st.b,st.e,st.n,.loc (n0+d)::st.o⟩) (by simp only[eR]) U fun bk w' bh b9=>c7 _ _ ⟨_,bh,?_,n5 _ _ _ _ _,b9⟩;rw[jo av];exact BJ av d _ _ _ _ _ _
  |alloc d key z=>
   cases key with
   |some m=>simp only[eG]at ab
   |none=>simp only[eG]at ab;obtain⟨⟨J,_⟩,rfl⟩:=ab;refine km (κ:= .loc (n0+d)) (n':=st.n) (o₁:= .loc (n0+d)::st.o) aI aM ik (fun _=>gy _ J) (fun _=>wZ) (st':=⟨put d (.ptr (.loc (n0+d)) 0) st.t,cB (.loc (n0+d)) (cells z) st.b,st.e,st.n,.loc (n0+d)::st.o⟩) (by simp only[eR]) trivial fun bk w' bh b9=>c7 _ _ ⟨_,bh,BJ av d _ _ _ _ _ _,n5 _ _ _ _ _,b9⟩
  |store sz u v=>simp only[eG]at ab;obtain⟨k,off,cs,J,U,h3,rfl⟩:=ab;rw[<-jo av]at J h3;rw[<-av.b]at U;refine km (κ:= .loc 0) (n':=0) (o₁:=[]) aI aM ik (fun h=>by simp[ez.makes]at h) (fun h=>by simp[ez.makes]at h) (st':={st with b:=cB k (o3 cs off (cells (cu st.t v))) st.b}) (by simp only[eR,J,U]) h3 fun bk w' bh b9=>c7 _ _ ⟨{st with b:=cB k (o3 cs off (cells (cu st.t v))) st.b},bh,by rw[jo av];exact Ig av k _ _,fun k ae=>gy k ae.1,b9⟩
  |bsl d sz el xs=>simp only[eG]at ab;obtain⟨⟨J,_⟩,U,rfl⟩:=ab;rw[<-vr av]at U;refine km (κ:= .loc (n0+d)) (n':=st.n) (o₁:= .loc (n0+d)::st.o) aI aM ik (fun _=>gy _ J) (fun _=>wZ) (st':=⟨put d (.slice sz (.own (.loc (n0+d))) (xs.map (cu st.t))) st.t,st.b,cB (.loc (n0+d)) ⟨xs.length,el,sz,none⟩ st.e,st.n,.loc (n0+d)::st.o⟩) (by simp only[eR]) U fun bk w' bh b9=>c7 _ _ ⟨_,bh,?_,n5 _ _ _ _ _,b9⟩;rw[vr av];exact xF av d _ _ _ _ _ _
  |app d sz el u v=>
   simp only[eG]at ab;obtain⟨tag,xs,lL,ys,J,U,ab⟩:=ab;rw[<-jo av]at J U;rcases ab with⟨k,ow,rfl,h3,h4,rfl⟩|⟨rfl,h3,⟨h4,_⟩,rfl⟩
   ·rw[<-av.e]at h3;refine km (κ:= .loc 0) (n':=0) (o₁:=[]) aI aM ik (fun h=>by simp[ez.makes,J]at h) (fun h=>by simp[ez.makes,J]at h) (st':=⟨put d (.slice sz (.own k) (xs++ys)) st.t,st.b,cB k ⟨xs.length+ys.length,el,sz,none⟩ st.e,st.n,st.o⟩) (by simp only[eR,J,U,h3,and_self,if_true]) h4.2 fun bk w' bh b9=>c7 _ _ ⟨_,bh,xF av d _ _ _ _ _ _,fun k ae=>gy k ae.1,b9⟩
   ·refine km (κ:= .loc (n0+d)) (n':=st.n) (o₁:= .loc (n0+d)::st.o) aI aM ik (fun _=>gy _ h4) (fun _=>wZ) (st':=⟨put d (.slice sz (.own (.loc (n0+d))) ys) st.t,st.b,cB (.loc (n0+d)) ⟨ys.length,el,sz,none⟩ st.e,st.n,.loc (n0+d)::st.o⟩) (by simp only[eR,J,U,and_self,if_true]) h3 fun bk w' bh b9=>c7 _ _ ⟨_,bh,xF av d _ _ _ _ _ _,n5 _ _ _ _ _,b9⟩
  |bslm d key sz el xs=>simp only[eG]at ab
  |mks d key sz el z x=>simp only[eG]at ab
  |appm d key sz el u v=>simp only[eG]at ab;obtain⟨k,n,xs,lL,ys,J,U,h3,h4,rfl⟩:=ab;rw[<-jo av]at J U;rw[<-av.e]at h3;refine km (κ:= .loc 0) (n':=0) (o₁:=[]) aI aM ik (fun h=>by simp[ez.makes,J]at h) (fun h=>by simp[ez.makes,J]at h) (st':=⟨put d (.row sz k (xs.length+ys.length)) st.t,st.b,cB k ⟨xs.length+ys.length,el,sz,some (xs++ys)⟩ st.e,st.n,st.o⟩) (by simp only[eR,tQ,J,U,h3,and_self,if_true]) h4 fun bk w' bh b9=>c7 _ _ ⟨_,bh,xF av d _ _ _ _ _ _,fun k ae=>gy k ae.1,b9⟩
  |storeE sz u v=>simp only[eG]at ab;obtain⟨k,n,i,f,el,dL,xs,q,J,U,h3,h4,rfl⟩:=ab;rw[<-jo av]at J h4;rw[<-av.e]at U;refine km (κ:= .loc 0) (n':=0) (o₁:=[]) aI aM ik (fun h=>by simp[ez.makes]at h) (fun h=>by simp[ez.makes]at h) (st':={st with e:=cB k ⟨n,el,dL,some (xs.set i (qw q f (cells (cu st.t v))))⟩ st.e}) (by simp only[eR,r4,J,U,h3,and_self,if_true]) h4 fun bk w' bh b9=>c7 _ _ ⟨{st with e:=cB k ⟨n,el,dL,some (xs.set i (qw q f (cells (cu st.t v))))⟩ st.e},bh,by rw[jo av];exact Xm av k _ _,fun k ae=>gy k ae.1,b9⟩
  |mkmap d key=>
   cases key with
   |none=>simp only[eG]at ab
   |some m=>simp only[eG]at ab;obtain⟨⟨J,_⟩,rfl⟩:=ab;exact km (κ:= .obj m) (n':=st.n) (o₁:= .obj m::st.o) aI aM ik (fun _=>gy _ J) (fun _=>wZ) (st':=⟨put d (.gmap (.obj m)) st.t,cB (.obj m) [.hdm 0 []] st.b,st.e,st.n,.obj m::st.o⟩) (by simp only[eR]) trivial fun bk w' bh b9=>c7 _ _ ⟨_,bh,BJ av d _ _ _ _ _ _,n5 _ _ _ _ _,b9⟩
  |mput ch u k v=>simp only[eG]at ab;obtain⟨m,cs,cs',J,U,h3,rfl⟩:=ab;rw[<-jo av]at J;rw[<-jo av,<-jo av]at h3;rw[<-av.b]at U;exact km (κ:= .loc 0) (n':=0) (o₁:=[]) aI aM ik (fun h=>by simp[ez.makes]at h) (fun h=>by simp[ez.makes]at h) (st':={st with b:=cB m cs' st.b}) (by simp only[eR,J,U,h3]) trivial fun bk w' bh b9=>c7 _ _ ⟨{st with b:=cB m cs' st.b},bh,Ig av m _ _,fun k ae=>gy k ae.1,b9⟩
  |range d key x=>simp only[eG]at ab
 |next d x=>simp only[eG]at ab
 |call d f xs=>
  simp only[eG]at ab;obtain⟨n,dr,J,ab⟩:=ab;rw[<-jo av]at J;rcases ab with⟨⟨s,ah,r,rm,bY,cw,dC,kO,lB,oR,C5,rfl⟩,_⟩|⟨cN,r,rfl,bY,cw,dC,rfl⟩;rotate_left
  ·rw[<-vr av]at cw dC;simp only[wo]at ay;split at ay
   ·rename_i sr args Cy og;simp only[cr,dM]at ay;obtain⟨⟨⟨aq,aF⟩,bB⟩,ds⟩:=ay;have mQ:=et aM bB;rw[J]at mQ;refine Tz aM og aq aF mQ (Fg aM ds) (K:=fun st'=>st'={st with t:=put cN r st.t,o:= .loc (n0+cN)::st.o}) ⟨⟨[],[]⟩,_,some (n0+cN),st.n,fun _=>.loc (n0+cN)::st.o,fun k cs ae=>by simp[look]at ae,fun k cs ae=>by simp[look]at ae,⟨fun _=>rfl,fun _=>rfl⟩,ki (fun _ h=>h.elim) _ cw,dC,fun m hm=>?_,fun k eQ ah bE ae=>?_,?_⟩ ?_
    ·cases hm;exact gy _ bY.1
    ·obtain⟨_,rfl⟩:=bE;have:=wZ k ae;exact⟨by simpa[c5]using this.1,fun m hm=>by cases hm;exact this.2⟩
    ·rintro eQ pP ⟨rfl,rfl⟩;refine⟨⟨fun m hm=>by simp[look]at hm,fun m hm=>by simp[look]at hm⟩,?_⟩;simp[after,abz,eS]
    ·rintro st' bk w' bh rfl b9;exact c7 _ _ ⟨_,bh,Xn av cN r _ _,n5 _ _ _ _ _,b9⟩
   ·cases ay
  rw[<-vr av]at oR C5;simp only[wo]at ay;split at ay
  ·rename_i sr args Cy og;simp only[cr,dM]at ay;obtain⟨⟨⟨aq,aF⟩,bB⟩,ds⟩:=ay;have mQ:=et aM bB;rw[J]at mQ;obtain⟨aS,bf,b4,ep,df⟩:=lB;refine Ty aM og aq aF mQ (Fg aM ds) (K:=fun st'=>st'=after st s ah d r) (.inl ⟨s,_,fun k cs ae=>⟨by rw[av.b];exact(bY k cs ae).1,.inl (by simp[ae]),(bY k cs ae).2⟩,fun k o' ae=>⟨by rw[av.e];exact(cw k o' ae).1,.inr (by simp[ae]),(cw k o' ae).2⟩,dC,oR,C5,?_⟩) ?_
   ·rintro eQ pP ⟨rfl,rfl⟩;refine⟨⟨fun m hm=>?_,fun m hm=>?_⟩,rfl⟩
    ·rcases aS _ hm with h|h
     ·exact .inl h
     ·exact .inr (gy _ (df _ h).2.1).2
    ·rcases bf _ hm with h|h
     ·exact .inl h
     ·exact .inr (gy _ (df _ h).2.1).2
   ·rintro st' bk w' bh rfl b9;refine c7 _ _ ⟨_,bh,⟨fun i=>?_,fun k=>?_,fun k=>?_⟩,fun k ae=>?_,b9⟩
    ·simp only[after,di.do];cases d with
     |none=>simpa[eS]using av.t i
     |some d=>simp only[eS,eX,dE,av.t]
    ·simp only[after,di.do,iZ,zn,wc];by_cases af:(look k s.b).isSome
     ·have:=b4 k af;obtain⟨y,aC⟩:=fo.1 this;simp[af,aC]
     ·cases au:look k ah.b with
      |none=>simp only[af,av.b];cases A.b k<;>simp
      |some y=>
       rcases aS k (by simp[au])with h|h
       ·exact absurd h af
       ·have:=df k h;simp[af,av.b,this]
    ·simp only[after,di.do,iZ,zn,wc];by_cases af:(look k s.e).isSome
     ·have:=ep k af;obtain⟨y,aC⟩:=fo.1 this;simp[af,aC]
     ·cases au:look k ah.e with
      |none=>simp only[af,av.e];cases A.e k<;>simp
      |some y=>
       rcases bf k (by simp[au])with h|h
       ·exact absurd h af
       ·have:=df k h;simp[af,av.e,this]
    ·have Mt:=gy k ae.1;have pD:=aM.lookNone Mt;simp only[after];refine⟨Mt.1,fun hL=>?_⟩;rcases hQ.1 hL with hL|hL
     ·exact Mt.2 hL
     ·rcases hQ.1 hL with hL|hL
      ·rcases aS k (N0 hL)with h|h
       ·obtain⟨y,aC⟩:=fo.1 h;have:=(bY k y aC).1;rw[<-av.b,pD.1]at this;cases this
       ·exact ae.2 h
      ·rcases bf k (N0 hL)with h|h
       ·obtain⟨y,aC⟩:=fo.1 h;have:=(cw k y aC).1;rw[<-av.e,pD.2]at this;cases this
       ·exact ae.2 h
  ·cases ay
theorem abS{P:cK}{bC:List (Nat×dy)}(aI:fJ P bC=true){C:fp}{q:Bool}{n0:Nat}{ops:Array Oper}{g:dc}{o:Oper}{j:Nat}(ag:ops[j]? =some o)(ay:Dt C.N bC ops.toList g o=true){A:di}{x:lx}(ab:ly P q n0 g A x){a:Act}{w:World}(aM:yr C A a w)
  {K:Act->World->Prop} {Q:Exit->Act->World->Prop} (c7:∀bk w',yr C (A.do x) bk w'->K bk w'):wpOp P ops Q j K a w:=by
 unfold wpOp;rw[ag];simp only;simp only[Dt,cr]at ay;obtain⟨rG,qQ⟩:=ay;unfold ly at ab;cases DO:g.g with
 |none=>
  cases eA:o.guard with
  |some x=>simp[eA,DO]at rG
  |none=>
   have hw:pW o (yielded ops a.tmps)=true:=by simp[pW,eA]
   rw[if_pos hw];simp only[DO]at ab;exact .inl (QO aI qQ ab aM c7)
 |some z6=>
  obtain⟨s,want⟩:=z6;cases eA:o.guard with
  |none=>simp[eA,DO]at rG
  |some aqW=>
   obtain⟨atf,b3⟩:=aqW;simp only[eA,DO,cr,dM,eN]at rG;obtain⟨⟨⟨⟨rfl,U⟩,h3⟩,h4⟩,h5⟩:=rG;obtain⟨st,Z,av,gy,dk⟩:=id aM;obtain⟨j6,nk⟩:=abG dk U h3;simp only[DO]at ab;have Wi:∀(h:x=l4 g.i.dst),K (a.put o.dst undef) w:=by
    rintro rfl;rw[h4];refine c7 _ _ ⟨_,Z,?_,fun k ae=>?_,dk.put h5 (p:= .tuple []) (by simp[a8,cX,undef])⟩
    ·refine⟨fun i=>?_,fun k=>?_,fun k=>?_⟩
     ·simp only[di.do,l4];cases g.i.dst with
      |none=>simpa[eS]using av.t i
      |some d=>simp only[eS,eX,dE,av.t]
     ·simpa[di.do,iZ,look,l4]using av.b k
     ·simpa[di.do,iZ,look,l4]using av.e k
    ·exact gy k ae.1
   split at ab
   ·rename_i b ad;have aC:=j6 b (by rw[av.t];exact ad);rcases ab with⟨rfl,ab⟩|⟨rfl,ab⟩
    ·have hw:pW o (yielded ops a.tmps)=true:=by simp[pW,eA,aC]
     rw[if_pos hw];exact .inl (QO aI qQ ab aM c7)
    ·have hw:¬(pW o (yielded ops a.tmps)=true):=by simp[pW,eA,aC]
     rw[if_neg hw];exact Wi ab
   ·rename_i ad;have aC:=nk (by rw[av.t];exact ad);have hw:¬(pW o (yielded ops a.tmps)=true):=by simp[pW,eA,aC]
    rw[if_neg hw];exact Wi ab
   ·exact ab.elim
def wU(P:cK)(q:Bool)(n0:Nat)(K:di->Prop):List (Nat×dc)->di->Prop
 |[],A=>K A
 |(_,g)::r,A=> ∃x,ly P q n0 g A x/\wU P q n0 K r (A.do x)
theorem Ro{P:cK}{q:Bool}{n0:Nat}{K:di->Prop}{i:Nat}{g:dc}:∀(pe p3:List (Nat×dc)) (A:di),(∀x∈pe,AW x.2 g=true)->wU P q n0 K (pe++(i,g)::p3) A->∃x,ly P q n0 g A x/\wU P q n0 K (pe++p3) (A.do x)
 |[],p3,A,_,h=>h
 |(j,Va)::pe,p3,A,ao,h=>by simp only[bP,wU]at h;obtain⟨y,aC,h⟩:=h;obtain⟨x,ab,h⟩:=Ro pe p3 (A.do y) (fun z bd=>ao z (pd _ bd)) h;obtain⟨s1,s2,s3⟩:=swap (ao _ (List.mem_cons_self ..)) aC ab;refine⟨x,s1,y,s2,?_⟩;rw[<-di.do_comm A s3];exact h
def rem(listed:Array Bool):Nat->List dc->List (Nat×dc)
 |_,[]=>[]
 |k,g::r=>if listed.getD k false then rem listed (k+1) r else(k,g)::rem listed (k+1) r
theorem ZJ{l a6:Array Bool}:∀(gs:List dc) (k:Nat),(∀j,k<=j->l.getD j false=a6.getD j false)->rem l k gs=rem a6 k gs
 |[],_,_=>rfl
 |g::r,k,h=>by simp only[rem,h k (dZ _),ZJ r (k+1) fun j ag=>h j Ω]
theorem G6{l:Array Bool}{i j:Nat}(h:i<l.size):(l.setIfInBounds i true).getD j false=if i=j then true else l.getD j false:=by
 simp only[Array.getD_eq_getD_getElem?];by_cases e:i=j
 ·subst e;simp[h]
 ·simp[e]
theorem Pg{l:Array Bool}{i:Nat}(hi:i<l.size)(au:l.getD i false=false):∀(gs:List dc) (k:Nat),k<=i->i<k+gs.length->∃pe p3 g,gs[i-k]? =some g/\rem l k gs=pe++(i,g)::p3/\rem (l.setIfInBounds i true) k gs=pe++p3/\
  ∀x∈pe,gs[x.1-k]? =some x.2/\k<=x.1/\x.1<i/\l.getD x.1 false=false
 |[],k,J,U=>by simp at U;omega
 |g::r,k,J,U=>by
  by_cases e:k=i
  ·subst e;refine⟨[],rem l (k+1) r,g,Ψ,by simp[rem,au],?_,fun x ab=>by simp at ab⟩;simp only[rem,G6 hi,if_true,bU];exact ZJ r (k+1) fun j ag=>by rw[G6 hi,if_neg Ω]
  ·obtain⟨pe,p3,fb,aq,aF,bB,ds⟩:=Pg hi au r (k+1) Ω (by simp at U;omega);have xg:i-k=(i-(k+1))+1:=Ω
   have h6:(l.setIfInBounds i true).getD k false=l.getD k false:=by rw[G6 hi,if_neg Ω]
   by_cases ae:l.getD k false=true
   ·refine⟨pe,p3,fb,by rw[xg];simpa using aq,by simp only[rem,ae,if_true,aF],by simp only[rem,h6,ae,if_true,bB],fun x ab=>?_⟩;obtain⟨f1,f2,f3,f4⟩:=ds x ab;refine⟨?_,Ω,f3,f4⟩;have:x.1-k=(x.1-(k+1))+1:=Ω
    rw[this];simpa using f1
   ·have ae:l.getD k false=false:=by simpa using ae
    refine⟨(k,g)::pe,p3,fb,by rw[xg];simpa using aq,by simp[rem,ae,aF],by simp[rem,h6,ae,bB],fun x ab=>?_⟩;rcases fm.1 ab with rfl|ab
    ·exact⟨Ψ,dZ _,by simp;omega,ae⟩
    ·obtain⟨f1,f2,f3,f4⟩:=ds x ab;refine⟨?_,Ω,f3,f4⟩;have:x.1-k=(x.1-(k+1))+1:=Ω
     rw[this];simpa using f1
def wg(acc:List Nat):List Edge->Nat
 |[]=>0
 |e::r=>if Region.binds .any e then(2 ^ e.on)|||(acc.getD e.on 0)|||wg acc r else wg acc r
def tc(acc:List Nat):List Oper->List Nat
 |[]=>acc
 |o::os=>tc (acc++[wg acc o.after.toList]) os
def Fi(m:Nat)(h:dc):Nat->List dc->Bool
 |_,[]=>true
 |i,g::r=>(m.testBit i||AW g h)&&Fi m h (i+1) r
def EZ:List dc->List dc->List Nat->Bool
 |_,[],_=>true
 |pre,h::r,m::ms=>Fi m h 0 pre&&EZ (pre++[h]) r ms
 |_,_,[]=>false
def Dc:Nat->List Oper->Bool
 |_,[]=>true
 |k,o::os=>o.after.toList.all (fun e=> !Region.binds .any e||decide (e.on<k))&&Dc (k+1) os
def CZ(gs:List dc)(ops:List Oper):Bool:=Dc 0 ops&&EZ [] gs (tc [] ops)
theorem NS{acc:List Nat}{j:Nat}:∀{es:List Edge},(wg acc es).testBit j=true->∃e∈es,Region.binds .any e=true/\(j=e.on\/(acc.getD e.on 0).testBit j=true)
 |[],h=>by simp[wg]at h
 |e::r,h=>by
  simp only[wg]at h;split at h
  ·rename_i ad;simp only[Nat.testBit_or,lP]at h;rcases h with(h|h)|h
   ·refine⟨e,Ψ,ad,.inl ?_⟩;rw[Nat.testBit_two_pow]at h;have b9:e.on=j:=by simpa using h
    exact b9.symm
   ·exact⟨e,Ψ,ad,.inr h⟩
   ·obtain⟨fE,J,U⟩:=NS h;exact⟨fE,by simp[J],U⟩
  ·obtain⟨fE,J,U⟩:=NS h;exact⟨fE,by simp[J],U⟩
theorem NT:∀(os:List Oper) (acc:List Nat) (k:Nat),k<acc.length->(tc acc os)[k]? =acc[k]?
 |[],acc,k,_=>rfl
 |o::os,acc,k,h=>by simp only[tc];rw[NT os _ k d7,List.getElem?_append_left h]
theorem Xv:∀(os:List Oper) (acc:List Nat) (k:Nat) (o:Oper),os[k]? =some o->∃vi,(tc acc os)[acc.length+k]? =some (wg vi o.after.toList)/\vi.length=acc.length+k/\∀i,i<vi.length->vi[i]? =(tc acc os)[i]?
 |[],acc,k,o,h=>by simp at h
 |o'::os,acc,0,o,h=>by
  simp only[List.getElem?_cons_zero,dE]at h;subst h;refine⟨acc,?_,Ψ,fun i hi=>?_⟩
  ·simp only[tc,Nat.add_zero];rw[NT os _ _ Ψ];simp
  ·simp only[tc];rw[NT os _ i d7,List.getElem?_append_left hi]
 |o'::os,acc,k+1,o,h=>by simp only[List.getElem?_cons_succ]at h;obtain⟨vi,J,U,h3⟩:=Xv os (acc++[wg acc o'.after.toList]) k o h;refine⟨vi,?_,by rw[U];simp;omega,fun i hi=>by rw[h3 i hi];rfl⟩;simp only[tc];rw[show acc.length+(k+1)=(acc++[wg acc o'.after.toList]).length+k from by simp;omega];exact J
def QJ(ops:Array Oper)(listed:Array Bool):Prop:= ∀k o,ops[k]? =some o->listed.getD k false=true->∀e∈o.after.toList,Region.binds .any e=true->listed.getD e.on false=true
theorem aks{ops:Array Oper}{listed:Array Bool}(aG:QJ ops listed):∀(k:Nat) (o:Oper),ops[k]? =some o->(∀e∈o.after.toList,Region.binds .any e=true->listed.getD e.on false=true)->∀j,((tc [] ops.toList).getD k 0).testBit j=true->listed.getD j false=true:=by
 intro k;induction k using qA with
 |_ k bN=>
  intro o ay av j ag;obtain⟨vi,J,U,h3⟩:=Xv ops.toList [] k o (by simpa using ay);simp only[List.length_nil,Nat.zero_add]at J U;rw[List.getD_eq_getElem?_getD,J]at ag;obtain⟨e,he,ad,cE⟩:=NS ag;rcases cE with rfl|cE
  ·exact av e he ad
  ·by_cases bs:e.on<vi.length
   ·have hm:vi.getD e.on 0=(tc [] ops.toList).getD e.on 0:=by rw[List.getD_eq_getElem?_getD,h3 _ bs,List.getD_eq_getElem?_getD]
    have ae:k<ops.size:=(Array.getElem?_eq_some_iff.1 ay).1;have ik:ops[e.on]? =some ops[e.on]:=Array.getElem?_eq_getElem Ω;rw[hm]at cE;exact bN e.on Ω _ ik (fun fE xd gd=>aG e.on _ ik (av e he ad) fE xd gd) j cE
   ·rw[List.getD_eq_getElem?_getD,rf Ω]at cE;simp at cE
theorem Z1{m:Nat}{h:dc}:∀{gs:List dc} {i0:Nat},Fi m h i0 gs=true->∀i g,gs[i]? =some g->m.testBit (i0+i)=true\/AW g h=true
 |[],i0,_,i,g,aW=>by simp at aW
 |fb::r,i0,aM,0,g,aW=>by simp only[Fi,cr,lP]at aM;simp only[List.getElem?_cons_zero,dE]at aW;subst aW;simpa using aM.1
 |fb::r,i0,aM,i+1,g,aW=>by simp only[Fi,cr]at aM;have:=Z1 aM.2 i g (by simpa using aW);rwa[show i0+1+i=i0+(i+1)from by omega]at this
theorem YD:∀{gs pre:List dc} {ms:List Nat},EZ pre gs ms=true->∀j h,gs[j]? =some h->∀i g,i<pre.length+j->(pre++gs)[i]? =some g->(ms.getD j 0).testBit i=true\/AW g h=true
 |[],pre,ms,_,j,h,ag,_,_,_,_=>by simp at ag
 |b9::r,pre,[],bF,j,h,ag,_,_,_,_=>by simp[EZ]at bF
 |b9::r,pre,m::ms,bF,j,h,ag,i,g,hi,aW=>by
  simp only[EZ,cr]at bF;cases j with
  |zero=>simp only[List.getElem?_cons_zero,dE]at ag;subst ag;rw[List.getElem?_append_left Ω]at aW;simpa using Z1 bF.1 i g aW
  |succ j=>have:=YD bF.2 j h (by simpa using ag) i g d7 (by simpa using aW);simpa using this
theorem TZ:∀{os:List Oper} {k:Nat},Dc k os=true->∀i o,os[i]? =some o->∀e∈o.after.toList,Region.binds .any e=true->e.on<k+i
 |[],k,_,i,o,ay,_,_,_=>by simp at ay
 |o'::os,k,h,0,o,ay,e,he,ad=>by simp only[Dc,cr,fV]at h;simp only[List.getElem?_cons_zero,dE]at ay;subst ay;have:=h.1 e he;simpa[ad]using this
 |o'::os,k,h,i+1,o,ay,e,he,ad=>by simp only[Dc,cr]at h;have:=TZ h.2 i o (by simpa using ay) e he ad;omega
theorem Vc{N:Nat}{bC:List (Nat×dy)}{ops:List Oper}:∀{gs:List dc} {os:List Oper},k7 N bC ops gs os=true->∀(i:Nat) (g:dc),gs[i]? =some g->∃o,os[i]? =some o/\Dt N bC ops g o=true
 |[],[],_,i,g,h=>by simp at h
 |[],_::_,h,_,_,_=>by simp[k7]at h
 |_::_,[],h,_,_,_=>by simp[k7]at h
 |fb::gs,o::os,h,0,g,aW=>by simp only[k7,cr]at h;simp only[List.getElem?_cons_zero,dE]at aW;subst aW;exact⟨o,Ψ,h.1⟩
 |fb::gs,o::os,h,i+1,g,aW=>by simp only[k7,cr]at h;obtain⟨o',J,U⟩:=Vc h.2 i g (by simpa using aW);exact⟨o',by simpa using J,U⟩
theorem L8{N:Nat}{bC:List (Nat×dy)}{ops:List Oper}:∀{gs:List dc} {os:List Oper},k7 N bC ops gs os=true->gs.length=os.length
 |[],[],_=>rfl
 |[],_::_,h=>by simp[k7]at h
 |_::_,[],h=>by simp[k7]at h
 |g::gs,o::os,h=>by simp only[k7,cr]at h;simp[L8 h.2]
theorem ZK{l:Array Bool}:∀(gs:List dc) (k:Nat),rem l k gs=[]\/ ∃i g,i<gs.length/\gs[i]? =some g/\l.getD (k+i) false=false/\∀j,j<i->l.getD (k+j) false=true
 |[],_=>.inl rfl
 |g::r,k=>by
  by_cases h:l.getD k false=true
  ·rcases ZK (l:=l) r (k+1)with J|⟨i,fb,J,U,h3,h4⟩
   ·left;simp only[rem,h,if_true,J]
   ·refine .inr ⟨i+1,fb,by simp;omega,by simpa using U,by rw[show k+(i+1)=k+1+i from by omega];exact h3,fun j ag=>?_⟩;cases j with
    |zero=>simpa using h
    |succ j=>rw[show k+(j+1)=k+1+j from by omega];exact h4 j Ω
  ·exact .inr ⟨0,g,Ψ,Ψ,by simpa using h,fun j ag=>Ω⟩
theorem acu{P:cK}{bC:List (Nat×dy)}(aI:fJ P bC=true){C:fp}{q:Bool}{n0:Nat}{ops:Array Oper}{gs:List dc}(kt:k7 C.N bC ops.toList gs ops.toList=true)(Hg:CZ gs ops.toList=true){K:di->Prop}{Q:Exit->Act->World->Prop}
  (ix:∀A a w,K A->yr C A a w->Q .normal a w):∀(fuel:Nat) (listed:Array Bool) (A:di) (a:Act) (w:World),listed.size=ops.size->QJ ops listed->(rem listed 0 gs).length<=fuel->wU P q n0 K (rem listed 0 gs) A->yr C A a w->wpAny P .any ops Q fuel listed a w:=by
 simp only[CZ,cr]at Hg;obtain⟨Mi,aiP⟩:=Hg;have hlen:gs.length=ops.size:=by simpa using L8 kt
 have VB:∀(listed:Array Bool) (A:di) (a:Act) (w:World),listed.size=ops.size->wU P q n0 K (rem listed 0 gs) A->yr C A a w->Region.ready .any ops listed=[]->Q .normal a w:=by
  intro listed A a w dS uc aM HH;rcases ZK (l:=listed) gs 0 with h|⟨i,g,J,U,h3,h4⟩
  ·rw[h]at uc;exact ix A a w uc aM
  ·exfalso;have hi:i<ops.size:=Ω
   have hL:i∈Region.ready .any ops listed:=by
    unfold Region.ready;simp only[ia,List.mem_range,cr,oG];refine⟨hi,?_,?_⟩
    ·rw[Nat.zero_add]at h3;simp only[Array.getD_eq_getD_getElem?]at h3⊢;rw[Array.getElem?_eq_getElem Ω]at h3⊢;simpa using h3
    ·rw[Array.getElem?_eq_getElem hi];simp only[oK,iB];rw[<-Array.all_toList,fV];intro e he;by_cases ad:Region.binds .any e=true
     ·have bs:=TZ Mi i ops[i] (by simp[hi]) e he ad;have:=h4 e.on Ω;rw[Nat.zero_add]at this;simp[this]
     ·simp[ad]
   rw[HH]at hL;simp at hL
 intro fuel;induction fuel with
 |zero=>
  intro listed A a w dS aG aN uc aM;have aiJ:rem listed 0 gs=[]:=List.eq_nil_of_length_eq_zero Ω;have HH:Region.ready .any ops listed=[]:=by
   rw[List.eq_nil_iff_forall_not_mem];intro i hi;unfold Region.ready at hi;simp only[ia,List.mem_range,cr,oG]at hi;obtain⟨J,U,_⟩:=hi;have au:listed.getD i false=false:=by simp only[Array.getD_eq_getD_getElem?]at U⊢;rw[Array.getElem?_eq_getElem Ω]at U⊢;simpa using U
   obtain⟨pe,p3,g,_,aF,_⟩:=Pg Ω au gs 0 Ω Ω;rw[aiJ]at aF;simp at aF
  exact⟨HH,VB listed A a w dS uc aM HH⟩
 |succ fuel bN=>
  intro listed A a w dS aG aN uc aM;refine⟨VB listed A a w dS uc aM,fun i hi=>?_⟩;unfold Region.ready at hi;simp only[ia,List.mem_range,cr,oG]at hi;obtain⟨J,U,h3⟩:=hi;have au:listed.getD i false=false:=by simp only[Array.getD_eq_getD_getElem?]at U⊢;rw[Array.getElem?_eq_getElem Ω]at U⊢;simpa using U
  have ay:ops[i]? =some ops[i]:=Array.getElem?_eq_getElem J;have VD:∀e∈ops[i].after.toList,Region.binds .any e=true->listed.getD e.on false=true:=by rw[ay]at h3;simp only[oK,iB]at h3;rw[<-Array.all_toList,fV]at h3;intro e he ad;simpa[ad]using h3 e he
  obtain⟨pe,p3,g,aq,aF,bB,ds⟩:=Pg Ω au gs 0 Ω Ω;simp only[Nat.sub_zero]at aq ds;rw[aF]at uc;obtain⟨x,ab,ahM⟩:=Ro pe p3 A (fun y aC=>by
   obtain⟨f1,f2,f3,f4⟩:=ds y aC;rcases YD aiP i g aq y.1 y.2 (by simpa using f3) (by simpa using f1)with h|h
   ·have:=aks aG i ops[i] ay VD y.1 h;rw[f4]at this;cases this
   ·exact h) uc
  obtain⟨o',g1,g2⟩:=Vc kt i g aq;have:o'=ops[i]:=by rw[u7,ay]at g1;exact(eZ g1).symm
  subst this;refine abS aI ay g2 ab aM fun bk w' dk=>?_;refine bN (listed.setIfInBounds i true) (A.do x) bk w' (by simpa using dS) ?_ ?_ (by rw[bB];exact ahM) dk
  ·intro k o ae av e he ad;rw[G6 Ω]at av⊢;split
   ·rfl
   ·by_cases xg:i=k
    ·subst xg;rw[ay]at ae;cases ae;exact VD e he ad
    ·rw[if_neg xg]at av;exact aG k o ae av e he ad
  ·rw[bB];rw[aF]at aN;simp at aN⊢;omega
def yL(n0 d:Nat)(st:bn):Prop:= .loc (n0+d)∉st.o/\look (.loc (n0+d)) st.b=none/\look (.loc (n0+d)) st.e=none
def gh.loadO(q:Bool)(t:List (Nat×aj)):gh->Prop
 | .load _ _ x=>q=true\/zf (cu t x)=true
 | .loadB _ _ _=>True
 | .mgetB _ _ _ _ _=>True
 | .mget _ _ _ _ _=>q=true
 | .ment _=>q=true
 | .mlen _=>q=true
 |_=>True
def mK(q:Bool)(nw:List Nat)(n0:Nat)(st:bn):ez->Prop
 | .v _ i=>i.loadO q st.t
 | .box d none _=>yL n0 d st
 | .alloc d none _=>yL n0 d st
 | .box _ (some _) _=>ey
 | .alloc _ (some _) _=>ey
 | .store _ x _=>match cu st.t x with| .ptr _ _=>True|_=>ey
 | .bslm _ _ _ _ _=>ey
 | .mks _ _ _ _ _ _=>ey
 | .appm _ _ _ _ x _=>match cu st.t x with| .row _ _ _=>True|_=>ey
 | .storeE _ _ _=>True
 | .mkmap _ none=>ey
 | .mkmap _ (some m)=>m∈nw/\look (.obj m) st.b=none/\look (.obj m) st.e=none
 | .mput _ _ _ _=>True
 | .range _ _ _=>ey
 | .bsl d _ _ _=>yL n0 d st
 | .app d _ _ x _=>match cu st.t x with
  | .slice _ .nil _=>yL n0 d st
  | .slice _ (.own k) _=>(look k st.e).bind (·.xs)=none
  |_=>True
def p9(n0:Nat):ez->aL
 | .mkmap _ (some m)=>.obj m
 | .v d _| .box d _ _| .alloc d _ _| .bsl d _ _ _| .app d _ _ _ _| .bslm d _ _ _ _| .appm d _ _ _ _ _| .mkmap d _| .range d _ _| .mks d _ _ _ _ _=>.loc (n0+d)
 | .store _ _ _| .mput _ _ _ _| .storeE _ _ _=>.loc n0
def aj0(nw:List Nat)(st:bn)(s ah:cT)(rm:Option aL):Prop:=(∀k,(look k ah.b).isSome->(look k s.b).isSome\/rm=some k)/\(∀k,(look k ah.e).isSome->(look k s.e).isSome\/rm=some k)/\(∀k,(look k s.b).isSome->(look k ah.b).isSome)/\(∀k,(look k s.e).isSome->(look k ah.e).isSome)/\
 (∀k,rm=some k->(∃j,j∈nw/\k= .obj j)/\look k st.b=none/\look k st.e=none/\((look k ah.b).isSome\/(look k ah.e).isSome))
def gx(P:cK)(q:Bool)(nw:List Nat)(n:Nat)(args:List aj)(st:bn)(d:Option Nat)(K:bn->Prop):Prop:=
 (∃cN r,d=some cN/\yL st.n cN st/\aO (fun _=>ey) args/\Kc P n (st.n+cN) args ⟨[],[]⟩ (fun eQ du=>eQ=r/\du=⟨[],[]⟩)/\K {st with t:=put cN r st.t,o:= .loc (st.n+cN)::st.o})\/
 ∃s ah r rm,gL (inObs s) s.b st.b/\oC (inObs s) s.e st.e/\je s/\je ah/\aj0 nw st s ah rm/\aO (inObs s) args/\bG P n args s (fun eQ du=>eQ=r/\du=ah)/\(q=true->ah.b=[]/\ah.e=[])/\K {after st s ah d r with o:=st.o}
def k5(P:cK)(q:Bool)(nw:List Nat)(n0:Nat)(st:bn)(K:bn->Prop):eo->Prop
 | .s i=>match eR (p9 n0 i) st.n (p9 n0 i::st.o) st i with
  |some (c,st')=>mK q nw n0 st i/\c/\K st'
  |none=>ey
 | .call d f xs=>match cu st.t f with
  | .func n dr=>gx P q nw n (dq (xs.map (cu st.t)++dr)) st d K
  |_=>ey
 | .next _ _=>ey
def ih(P:cK)(q:Bool)(nw:List Nat)(n0:Nat):List dc->bn->(bn->Prop)->Prop
 |[],st,K=>K st
 |⟨none,i⟩::r,st,K=>k5 P q nw n0 st (fun st'=>ih P q nw n0 r st' K) i
 |⟨some (s,want),i⟩::r,st,K=>match get s st.t with
  | .bool b=>(b=want->k5 P q nw n0 {st with t:=put s (.bool want) st.t} (fun st'=>ih P q nw n0 r st' K) i)/\(b= !want->ih P q nw n0 r {st with t:=eS i.dst (.tuple []) (put s (.bool !want) st.t)} K)
  | .tuple []=>ih P q nw n0 r {st with t:=eS i.dst (.tuple []) st.t} K
  |_=>ey
structure tH (nw:List Nat) (n0 N:Nat) (qq:List aL) (st:bn) (A:di):Prop where
 like:l8 st A
 n:st.n=n0
 F:∀k,fresh n0 st.o k->(∀j∈nw,k≠ .obj j)->A.F k
 o:∀k∈st.o,k∈qq\/(∃d,d<N/\k= .loc (n0+d))\/ ∃j∈nw,k= .obj j
def CQ(nw:List Nat)(A:di):Prop:= ∀j∈nw,A.b (.obj j)=none->A.e (.obj j)=none->A.F (.obj j)
theorem CQ.do{P:cK}{q:Bool}{n0:Nat}{nw:List Nat}{A:di}(h:CQ nw A){g:dc}{x:lx}(ab:ly P q n0 g A x):CQ nw (A.do x):=by
 intro j ag ad he;refine⟨h j ag (Lk ad) (Ll he),fun rC=>?_⟩;rcases(P3 ab).r _ rC with⟨d,_,e⟩|⟨_,_,af⟩
 ·cases e
 ·rcases af with af|af
  ·obtain⟨y,aC⟩:=fo.1 af;simp[di.do,iZ,aC]at ad
  ·obtain⟨y,aC⟩:=fo.1 af;simp[di.do,iZ,aC]at he
theorem T9{P:cK}{q:Bool}{nw:List Nat}{n0 N:Nat}{qq:List aL}{i:eo}(aG:∀d,i.dst=some d->d<N){st:bn}{A:di}(h:tH nw n0 N qq st A)(kc:CQ nw A){K:bn->Prop}(he:k5 P q nw n0 st K i):∃x st',eG P q n0 i A x/\K st'/\tH nw n0 N qq st' (A.do x):=by
 have av:=h.like;have qO:∀d,yL n0 d st->(A.F (.loc (n0+d))/\A.b (.loc (n0+d))=none/\A.e (.loc (n0+d))=none):=fun d aN=>⟨h.F _ ⟨Ψ,aN.1⟩ (fun _ _ e=>by cases e),by rw[<-av.b];exact aN.2.1,by rw[<-av.e];exact aN.2.2⟩;have n5:∀(d:Option Nat) (p:aj) (bw:List (aL×List aj)) (ew:List (aL×fP)) (κ:aL),∀k,fresh n0 (κ::st.o) k->(∀j∈nw,k≠ .obj j)->(A.do ⟨d,p,bw,ew,some κ⟩).F k:=fun d p bw ew κ k ae ag=>⟨h.F k (wZ k ae).1 ag,fun e=>(wZ k ae).2 (eZ e).symm⟩;have rF:∀(d:Option Nat) (p:aj) (bw:List (aL×List aj)) (ew:List (aL×fP)),∀k,fresh n0 st.o k->(∀j∈nw,k≠ .obj j)->(A.do ⟨d,p,bw,ew,none⟩).F k:=fun d p bw ew k ae ag=>⟨h.F k ae ag,Ψ⟩;have mn:∀d,d<N->∀k∈aL.loc (n0+d)::st.o,k∈qq\/(∃d,d<N/\k= .loc (n0+d))\/ ∃j∈nw,k= .obj j:=fun d aG k ae=>by
  rcases fm.1 ae with rfl|ae
  ·exact .inr (.inl ⟨d,aG,rfl⟩)
  ·exact h.o k ae
 cases i with
 |s i=>
  cases i with
  |v d i=>
   simp only[k5,eR]at he;cases az:hE st i with
   |none=>simp[az]at he
   |some Lg=>
    obtain⟨c,p⟩:=Lg;simp only[az]at he;obtain⟨J,U,h3⟩:=he;refine⟨⟨some d,p,[],[],none⟩,_,⟨c,p,by rw[<-aaM av];exact az,U,fun oV=>?_,rfl⟩,h3,NH av d p,h.n,rF _ _ _ _,h.o⟩;cases i<;>simp only[gh.isLoad]at oV<;>try(cases oV;done)
    case mget=>exact .inr (.inl J)
    case ment=>exact .inr (.inl J)
    case mlen=>exact .inr (.inl J)
    case loadB=>exact .inl rfl
    case mgetB=>exact .inl rfl
    simp only[mK,gh.loadO,jo av]at J;exact .inr (by simpa only[gh.ptrOf]using J)
  |box d key v=>
   cases key with
   |some m=>simp only[k5,eR,mK,false_and]at he
   |none=>simp only[k5,eR,mK,p9]at he;obtain⟨J,U,h3⟩:=he;rw[jo av]at U;refine⟨_,_,⟨qO d J,U,rfl⟩,h3,?_,h.n,n5 _ _ _ _ _,mn d (aG d rfl)⟩;rw[jo av];exact BJ av d _ _ _ _ _ _
  |alloc d key z=>
   cases key with
   |some m=>simp only[k5,eR,mK,false_and]at he
   |none=>simp only[k5,eR,mK,p9]at he;obtain⟨J,U,h3⟩:=he;exact⟨_,_,⟨qO d J,rfl⟩,h3,BJ av d _ _ _ _ _ _,h.n,n5 _ _ _ _ _,mn d (aG d rfl)⟩
  |store sz u v=>
   simp only[k5,eR]at he;cases hu:cu st.t u with
   |ptr k off=>
    cases ad:look k st.b with
    |none=>simp[hu,ad]at he
    |some cs=>simp only[hu,ad]at he;obtain⟨J,U,h3⟩:=he;rw[jo av]at U hu;refine⟨⟨none,.junk,[(k,o3 cs off (cells (dF A.t v)))],[],none⟩,_,⟨k,off,cs,hu,by rw[<-av.b];exact ad,U,rfl⟩,h3,?_,h.n,rF _ _ _ _,h.o⟩;rw[jo av];exact Ig av k _ _
   |_=>
    exfalso;simp only[hu]at he;split at he
    ·have:=he.1;simp[mK,hu]at this
    ·exact he
  |bsl d sz el xs=>simp only[k5,eR,mK,p9]at he;obtain⟨J,U,h3⟩:=he;rw[vr av]at U;refine⟨_,_,⟨qO d J,U,rfl⟩,h3,?_,h.n,n5 _ _ _ _ _,mn d (aG d rfl)⟩;rw[vr av];exact xF av d _ _ _ _ _ _
  |app d sz el u v=>
   simp only[k5,eR]at he;cases hu:cu st.t u with
   |slice dL tag xs=>
    cases az:cu st.t v with
    |slice jQ lL ys=>
     simp only[hu,az]at he;by_cases fv:dL=sz/\jQ=sz
     ·obtain⟨rfl,rfl⟩:=fv;rw[jo av]at hu az;cases tag with
      |no=>simp at he
      |tr k j=>simp at he
      |lo k=>simp at he
      |nil=>simp only[and_self,if_true,mK,jo av,hu,p9]at he;obtain⟨J,U,h3⟩:=he;exact⟨_,_,⟨.nil,xs,lL,ys,hu,az,.inr ⟨rfl,U,qO d J,rfl⟩⟩,h3,xF av d _ _ _ _ _ _,h.n,n5 _ _ _ _ _,mn d (aG d rfl)⟩
      |own k=>
       cases ae:look k st.e with
       |none=>simp[ae]at he
       |some o=>simp only[and_self,if_true,ae]at he;obtain⟨J,U,h3⟩:=he;exact⟨_,_,⟨.own k,xs,lL,ys,hu,az,.inl ⟨k,o,rfl,by rw[<-av.e];exact ae,⟨by simpa[mK,jo av,hu,ae]using J,U⟩,rfl⟩⟩,h3,xF av d _ _ _ _ _ _,h.n,rF _ _ _ _,h.o⟩
     ·simp[fv]at he
    |_=>simp[hu,az]at he
   |_=>simp[hu]at he
  |bslm d key sz el xs=>simp only[k5,eR,mK,false_and]at he
  |mks d key sz el z x=>simp only[k5,eR,mK,false_and]at he;split at he<;>simp at he
  |appm d key sz el u v=>
   simp only[k5,eR]at he;cases hu:cu st.t u with
   |row dL k n=>
    cases az:cu st.t v with
    |slice jQ lL ys=>
     simp only[hu,az,tQ]at he;by_cases fv:dL=sz/\jQ=sz
     ·obtain⟨rfl,rfl⟩:=fv;rw[jo av]at hu az;simp only[and_self,if_true]at he;cases ae:look k st.e with
      |none=>simp[ae]at he
      |some o=>
       obtain⟨n',gj,x3,OA⟩:=o;cases OA with
       |none=>simp[ae]at he
       |some xs=>
        simp only[ae]at he;by_cases ub:n'=n/\gj=el/\x3=jQ
        ·obtain⟨rfl,rfl,rfl⟩:=ub;simp only[and_self,if_true]at he;obtain⟨J,U,h3⟩:=he;exact⟨_,_,⟨k,n',xs,lL,ys,hu,az,by rw[<-av.e];exact ae,U,rfl⟩,h3,xF av d _ _ _ _ _ _,h.n,rF _ _ _ _,h.o⟩
        ·simp[ub]at he
     ·simp[fv]at he
    |_=>simp[hu,az,tQ]at he
   |slice dL tag xs=>
    exfalso;simp only[hu]at he;split at he
    ·have:=he.1;simp[mK,hu]at this
    ·exact he
   |_=>simp[hu,tQ]at he
  |storeE sz u v=>
   simp only[k5,eR]at he;cases hu:cu st.t u with
   |rptr dL k n i f=>
    cases ae:look k st.e with
    |none=>simp[hu,r4,ae]at he
    |some o=>
     obtain⟨n',el,x3,OA⟩:=o;cases OA with
     |none=>simp[hu,r4,ae]at he
     |some xs=>
      simp only[hu,r4,ae]at he;by_cases ub:n'=n/\x3=dL
      ·obtain⟨rfl,rfl⟩:=ub;simp only[and_self,if_true]at he;cases bE:xs[i]? with
       |none=>simp[bE]at he
       |some q=>simp only[bE]at he;obtain⟨J,U,h3⟩:=he;rw[jo av]at U hu;refine⟨⟨none,.junk,[],[(k,⟨n',el,x3,some (xs.set i (qw q f (cells (dF A.t v))))⟩)],none⟩,_,⟨k,n',i,f,el,x3,xs,q,hu,by rw[<-av.e];exact ae,bE,U,rfl⟩,h3,?_,h.n,rF _ _ _ _,h.o⟩;rw[jo av];exact Xm av k _ _
      ·simp[ub]at he
   |_=>simp[hu,r4]at he
  |mkmap d key=>
   cases key with
   |none=>simp only[k5,eR,mK,false_and]at he
   |some m=>
    simp only[k5,eR,mK,p9]at he;obtain⟨⟨bz,J,U⟩,_,h3⟩:=he;rw[av.b]at J;rw[av.e]at U;refine⟨_,_,⟨⟨kc m bz J U,J,U⟩,rfl⟩,h3,BJ av d _ _ _ _ _ _,h.n,n5 _ _ _ _ _,fun k ae=>?_⟩;rcases fm.1 ae with rfl|ae
    ·exact .inr (.inr ⟨m,bz,rfl⟩)
    ·exact h.o k ae
  |mput ch u k v=>
   simp only[k5,eR,mK]at he;cases hu:cu st.t u with
   |gmap m=>
    cases ad:look m st.b with
    |none=>simp[hu,ad]at he
    |some cs=>
     cases hm:ot ch (cu st.t k) (cu st.t v) cs with
     |none=>simp[hu,ad,hm]at he
     |some cs'=>simp only[hu,ad,hm]at he;rw[jo av]at hu;rw[jo av,jo av]at hm;exact⟨⟨none,.junk,[(m,cs')],[],none⟩,_,⟨m,cs,cs',hu,by rw[<-av.b];exact ad,hm,rfl⟩,he.2.2,Ig av m _ _,h.n,rF _ _ _ _,h.o⟩
   |_=>simp[hu]at he
  |range d key x=>simp only[k5,mK,false_and]at he;split at he<;>exact he.elim
 |next d x=>simp only[k5]at he
 |call d f xs=>
  simp only[k5]at he;cases aN:cu st.t f with
  |func n dr=>
   simp only[aN]at he;rw[jo av]at aN;rcases he with⟨cN,r,rfl,bY,cw,dC,kO⟩|⟨s,ah,r,rm,bY,cw,dC,kO,lB,oR,C5,acR,acS⟩
   ·rw[vr av]at cw dC;have au:=h.n;subst au;refine⟨⟨some cN,r,[],[],some (.loc (st.n+cN))⟩,_,⟨n,dr,aN,.inr ⟨cN,r,rfl,qO cN bY,cw,dC,rfl⟩⟩,kO,Xn av cN r _ _,rfl,n5 _ _ _ _ _,mn cN (aG cN rfl)⟩
   rw[vr av]at oR C5;obtain⟨aS,bf,b4,ep,df⟩:=lB;refine⟨⟨d,r,ah.b,ah.e,rm⟩,_,⟨n,dr,aN,.inl ⟨⟨s,ah,r,rm,fun k cs ae=>⟨by rw[<-av.b];exact(bY k cs ae).1,(bY k cs ae).2.2⟩,fun k o ae=>⟨by rw[<-av.e];exact(cw k o ae).1,(cw k o ae).2.2⟩,dC,kO,⟨aS,bf,b4,ep,fun k ae=>?_⟩,oR,C5,rfl⟩,acR⟩⟩,acS,⟨fun i=>?_,fun k=>?_,fun k=>?_⟩,h.n,fun k ae ag=>⟨h.F k ae ag,fun rC=>?_⟩,h.o⟩
   ·obtain⟨⟨j,ag,rfl⟩,aF,bB,ds⟩:=df k ae;rw[av.b]at aF;rw[av.e]at bB;exact⟨⟨j,rfl⟩,kc j ag aF bB,aF,bB,ds⟩
   ·simp only[after,di.do];cases d with
    |none=>simpa[eS]using av.t i
    |some d=>simp only[eS,eX,dE,av.t]
   ·simp only[after,di.do,iZ,zn,wc];by_cases af:(look k s.b).isSome
    ·have:=b4 k af;obtain⟨y,aC⟩:=fo.1 this;simp[af,aC]
    ·cases au:look k ah.b with
     |none=>simp only[af,av.b];cases A.b k<;>simp
     |some y=>
      rcases aS k (by simp[au])with h|h
      ·exact absurd h af
      ·have:=df k h;simp[af,this]
   ·simp only[after,di.do,iZ,zn,wc];by_cases af:(look k s.e).isSome
    ·have:=ep k af;obtain⟨y,aC⟩:=fo.1 this;simp[af,aC]
    ·cases au:look k ah.e with
     |none=>simp only[af,av.e];cases A.e k<;>simp
     |some y=>
      rcases bf k (by simp[au])with h|h
      ·exact absurd h af
      ·have:=df k h;simp[af,this]
   ·obtain⟨⟨j,jX,rfl⟩,_⟩:=df k rC;exact ag j jX rfl
  |_=>simp[aN]at he
def AL(N:Nat):List dc->Bool
 |[]=>true
 |g::r=>jW N g.i.dst&&AL N r
def Ai:Nat->List dc->List (Nat×dc)
 |_,[]=>[]
 |k,g::r=>(k,g)::Ai (k+1) r
theorem Q2{nw:List Nat}{n0 N:Nat}{qq:List aL}{st:bn}{A:di}(h:tH nw n0 N qq st A){s:Nat}{p:aj}(af:get s st.t=p):tH nw n0 N qq {st with t:=put s p st.t} A:=by
 refine⟨⟨fun i=>?_,h.like.b,h.like.e⟩,h.n,h.F,h.o⟩;simp only[eX];split
 ·rename_i e;subst e;rw[<-af];exact h.like.t _
 ·exact h.like.t i
theorem Q3{nw:List Nat}{n0 N:Nat}{qq:List aL}{st:bn}{A:di}(h:tH nw n0 N qq st A)(d:Option Nat):tH nw n0 N qq {st with t:=eS d (.tuple []) st.t} (A.do (l4 d)):=by
 refine⟨⟨fun i=>?_,fun k=>?_,fun k=>?_⟩,h.n,fun k ae ag=>⟨h.F k ae ag,by simp[l4]⟩,h.o⟩
 ·simp only[di.do,l4];cases d with
  |none=>simpa[eS]using h.like.t i
  |some d=>simp only[eS,eX,dE,h.like.t]
 ·simpa[di.do,iZ,look,l4]using h.like.b k
 ·simpa[di.do,iZ,look,l4]using h.like.e k
theorem Dg{P:cK}{q:Bool}{nw:List Nat}{n0 N:Nat}{qq:List aL}{K:bn->Prop}:∀(gs:List dc) (k:Nat),AL N gs=true->∀(st:bn) (A:di),tH nw n0 N qq st A->CQ nw A->ih P q nw n0 gs st K->wU P q n0 (fun gw=> ∃st',K st'/\tH nw n0 N qq st' gw) (Ai k gs) A
 |[],k,_,st,A,h,_,he=>⟨st,he,h⟩
 |⟨n4,i⟩::r,k,aG,st,A,h,kc,he=>by
  simp only[AL,cr]at aG;have ud:∀d,i.dst=some d->d<N:=fun d e=>by have:=aG.1;rw[e]at this;simpa[jW]using this
  simp only[Ai,wU];cases n4 with
  |none=>simp only[ih]at he;obtain⟨x,st',J,U,h3⟩:=T9 ud h kc he;have aW:ly P q n0 ⟨none,i⟩ A x:=J;exact⟨x,aW,Dg r (k+1) aG.2 st' _ h3 (kc.do aW) U⟩
  |some z6=>
   obtain⟨s,want⟩:=z6;simp only[ih]at he;split at he
   ·rename_i b ad;by_cases e:b=want
    ·subst e;obtain⟨x,st',J,U,h3⟩:=T9 ud (Q2 h ad) kc (he.1 rfl);have aW:ly P q n0 ⟨some (s,b),i⟩ A x:=by unfold ly;simp only[<-h.like.t,ad];exact .inl ⟨trivial,J⟩
     exact⟨x,aW,Dg r (k+1) aG.2 st' _ h3 (kc.do aW) U⟩
    ·have gd:b= !want:=by cases b<;>cases want<;>simp at e⊢
     subst gd;have aW:ly P q n0 ⟨some (s,want),i⟩ A (l4 i.dst):=by unfold ly;simp only[<-h.like.t,ad];exact .inr ⟨trivial,trivial⟩
     exact⟨l4 i.dst,aW,Dg r (k+1) aG.2 _ _ (Q3 (Q2 h ad) i.dst) (kc.do aW) (he.2 rfl)⟩
   ·rename_i ad;have aW:ly P q n0 ⟨some (s,want),i⟩ A (l4 i.dst):=by unfold ly;simp only[<-h.like.t,ad]
    exact⟨l4 i.dst,aW,Dg r (k+1) aG.2 _ _ (Q3 h i.dst) (kc.do aW) he⟩
   ·exact he.elim
theorem Pf:∀(gs:List dc) (l:Array Bool) (k:Nat),(∀j,l.getD j false=false)->rem l k gs=Ai k gs
 |[],_,_,_=>rfl
 |g::r,l,k,h=>by simp only[rem,h k,Ai,Pf r l (k+1) h];simp
def va(n:Nat)(o:List aL)(K:bn->Prop)(st:bn):Prop:=K {st with n:=n,o:=o}
theorem Good.like{pr:Nat->Prop}{w:World}{Z:bc}{b b3:List (aL×List aj)}{e fE:List (aL×fP)}(h:Good pr w Z b e)(ad:∀k,look k b3=look k b)(he:∀k,look k fE=look k e):Good pr w Z b3 fE:=
 ⟨h.alt,fun k cs ae=>h.box k cs (by rw[<-ad];exact ae),fun k bI bl J U=>h.inj k bI bl (by rw[<-ad];exact J) (by rw[<-ad];exact U),fun g o aW=>h.own g o (by rw[<-he];exact aW),
  fun g fb n n' v v' bl J U=>h.oinj g fb n n' v v' bl (by rw[<-he];exact J) (by rw[<-he];exact U),fun g k n v bl J U=>h.obx g k n v bl (by rw[<-he];exact J) (by rw[<-ad];exact U),h.one,
  fun bl aI=>h.otr bl (aI.imp (fun⟨k,bA,a2⟩=>⟨k,by rw[<-ad];exact bA,a2⟩) (fun⟨g,n,v,bA,a2⟩=>⟨g,n,v,by rw[<-he];exact bA,a2⟩))⟩
theorem Ub{P:cK}(hm:P.follows .mixedOrders=true){bC:List (Nat×dy)}(aI:fJ P bC=true){C:fp}{q:Bool}{nw:List Nat}{id:Nat}{ops:Array Oper}{gs:List dc}(kt:k7 C.N bC ops.toList gs ops.toList=true)(Hg:CZ gs ops.toList=true)(jr:AL C.N gs=true)
  {K:bn->Prop} {Q:Exit->Act->World->Prop} (ix:∀st' bk w' bh,K st'->c2 C st' bk w' bh->Q .normal bk w') {st:bn} {a:Act} {w:World} {Z:bc} (aiM:∀j∈nw,.obj j∉st.o) (he:ih P q nw st.n gs st (va (st.n+C.N) (nw.map aL.obj++st.o) K)) (aM:c2 C st a w Z):(Code.region id ops true).wp P Q a w:=by
 refine wp_region_any hm ?_;have dk:c2 C st a {w with drawn:=w.drawn+1} Z:=aM.drawn _;let A:di:=⟨fun i=>get i st.t,fun k=>look k st.b,fun k=>look k st.e,fresh st.n st.o⟩
 have mM:tH nw st.n C.N st.o st A:=⟨⟨fun _=>rfl,fun _=>rfl,fun _=>rfl⟩,rfl,fun k ae _=>ae,fun k ae=>.inl ae⟩;have uc:=Dg gs 0 jr st A mM (fun j ag _ _=>⟨trivial,aiM j ag⟩) he;have pD:∀j,(Array.replicate ops.size false).getD j false=false:=fun j=>by simp[Array.getD_eq_getD_getElem?,Array.getElem?_replicate];split<;>rfl
 refine acu aI kt Hg (q:=q) (n0:=st.n) (K:=fun gw=> ∃st',va (st.n+C.N) (nw.map aL.obj++st.o) K st'/\tH nw st.n C.N st.o st' gw) ?_ ops.size _ A a _ Ψ ?_ ?_ (by rw[Pf gs _ 0 pD];exact uc) ⟨st,Z,mM.like,fun k ae=>ae,dk⟩
 ·rintro gw bk w' ⟨st',ae,bg⟩ ⟨ava,bh,ml,Dz,nF⟩;refine ix _ bk w' bh ae ⟨nF.good.like (fun k=>by rw[ml.b,<-bg.like.b]) (fun k=>by rw[ml.e,<-bg.like.e]),nF.fr,nF.defers,nF.size,fun i=>?_,fun k xi=>?_⟩
  ·have:=nF.slot i;rw[ml.t,<-bg.like.t]at this;exact this
  ·refine nF.new k (Dz k (bg.F k ?_ fun j ag e=>xi.2 (by subst e;exact List.mem_append_left _ (List.mem_map_of_mem ag))));simp only at xi;refine⟨(LW (Nat.le_add_right st.n C.N) (fun _ h=>h) xi).1,fun hL=>?_⟩;rcases bg.o k hL with h|⟨d,aG,rfl⟩|⟨j,ag,rfl⟩;rotate_left 2
   ·exact xi.2 (List.mem_append_left _ (List.mem_map_of_mem ag))
   ·exact xi.2 (List.mem_append_right _ h)
   ·have:=xi.1;simp at this;omega
 ·intro k o ae av;rw[pD]at av;cases av
 ·rw[Pf gs _ 0 pD];have:∀(gs:List dc) k,(Ai k gs).length=gs.length:=by
   intro gs;induction gs with
   |nil=>intro k;rfl
   |cons g r bN=>intro k;simp[Ai,bN]
  rw[this];have:=L8 kt;simp at this;omega
def gH:List aj->Prop
 |[]=>True
 |p::cy=>(match p with| .slice _ _ xs=>xs.length<=lim| .str s=>s.length<=lim|_=>True)/\gH cy
def gi:aj->Prop
 | .slice _ _ xs=>xs.length<=lim
 | .str s=>s.length<=lim
 | .agg cs=>gH cs
 |_=>True
def gQ:List aj->Prop
 |[]=>True
 |p::r=>gi p/\gQ r
theorem Pk{w:World}{Z:bc}:∀{cs:List aj} {us:List Value},dm w Z cs us->gH cs
 |[],_,_=>trivial
 |c::cs,us,h=>by
  simp only[dm]at h;obtain⟨u,cj,_,J,U⟩:=h;refine⟨?_,Pk U⟩;cases c<;>simp only<;>have h3:=J.1<;>simp only[a8]at h3
  ·exact h3.2
  ·obtain⟨⟨a,cap,_,_,h4,_⟩,_⟩:=h3;exact h4.2
theorem ZN{w:World}{Z:bc}{cs:List aj}{us:List Value}(h:jP w Z cs us):h9 cs=true->gH cs:=fun bF=>by rw[wk bF]at h;exact Pk h
theorem ZY{w:World}{Z:bc}{p:aj}{v:Value}(h:a8 w Z p v):gi p:=by
 cases p<;>simp only[gi]<;>simp only[a8]at h
 ·exact h.2
 ·obtain⟨⟨a,cap,_,_,h4,_⟩,_⟩:=h;exact h4.2
 ·obtain⟨us,_,U⟩:=h;exact Pk U
theorem Pm{w:World}{Z:bc}:∀{cs:List aj} {us:List Value},cX w Z cs us->gQ cs
 |[],_,_=>trivial
 |c::cs,us,h=>by simp only[cX]at h;obtain⟨u,cj,_,J,U⟩:=h;exact⟨ZY J,Pm U⟩
inductive C where
 |skip
 |region (gs:List dc)
 |drawn (q:Bool) (N:Nat) (gs:List dc)
 |drawnW (nw:List Nat) (N:Nat) (gs:List dc)
 |seq (a b:C)
 |cond (x:dv) (t e:C)
 |block (id:Nat) (c:C)
 |loop (c:C)
 |exit (id:Nat)
 |ret
 |pub (s:Nat) (c:C)
 |pubB (s:Nat) (c:C)
 |fg (ql:Bool) (s:Nat) (c:C)
 |fz (agg:Bool) (s:Nat) (c:C)
 |no
def E3(st:bn):aj->Option (aj×List (aL×fP))
 | .row sz k n=>match look k st.e with
  |some ⟨n',el,dL,some xs⟩=>if n'=n/\dL=sz then some (.slice sz (.own k) xs,cB k ⟨n,el,sz,none⟩ st.e)else none
  |_=>none
 |_=>none
def xS(st:bn)(s:Nat):Option bn:=
 match E3 st (get s st.t)with
 |some (p,e)=>some {st with t:=put s p st.t,e:=e}
 |none=>none
def xR(st:bn)(s:Nat):Option bn:=
 match get (s%1000) st.t with
 | .ptr k off=>match look k st.b with
  |some cs=>match cs[off+s/1000]? with
   |some p=>match E3 st p with
    |some (B6,e)=>if h9 cs then some {st with b:=cB k (cs.set (off+s/1000) B6) st.b,e:=e}else none
    |none=>none
   |none=>none
  |none=>none
 |_=>none
theorem Pe{C:fp}{st:bn}{a:Act}{w:World}{Z:bc}(h:c2 C st a w Z){s:Nat}{p:aj}(af:a8 w Z p (a.tmps.getD s undef)):c2 C {st with t:=put s p st.t} a w Z:=by
 refine⟨h.good,h.fr,h.defers,h.size,fun i=>?_,h.new⟩;have:=h.slot i;simp only[eX];split
 ·rename_i e;subst e;exact af
 ·exact this
theorem YJ{C:fp}{st:bn}{a:Act}{w:World}{Z:bc}(h:c2 C st a w Z){p B6:aj}{e:List (aL×fP)}{v:Value}(bF:a8 w Z p v)(he:E3 st p=some (B6,e)):
  ∃bh,c2 C {st with e:=e} a w bh/\a8 w bh B6 v/\ma w Z w bh:=by
 unfold E3 at he;split at he
 ·rename_i sz k n;split at he
  ·rename_i n' el dL xs ae;split at he
   ·rename_i ao;obtain⟨rfl,rfl⟩:=ao;cases he;simp only[a8]at bF;obtain⟨_,av,n0,u,J,U,h3⟩:=bF;obtain⟨v0,fO,a1,bm,bW,cZ⟩:=h.good.own k _ ae;rw[J]at a1;simp only[dE,j7]at a1;obtain⟨rfl,rfl⟩:=a1;have az:v=u:=h3 rfl;subst az;obtain⟨c6,_,_⟩:=cZ xs rfl;simp only at c6;obtain⟨g1,g2⟩:=h.publish ae rfl J (by rw[c6];exact av);refine⟨_,g1,g2,⟨fun b o be=>⟨.inl be,rfl⟩,fun j b _ ag=>ag,fun g n u _ js=>⟨n,u,?_,.inl ⟨rfl,rfl⟩⟩,fun _ _ _=>rfl,fun _ _ _ _ h=>h⟩⟩;simp only[bc.withRowOf];split
    ·rename_i e;subst e;rw[J]at js;exact js
    ·exact js
   ·cases he
  ·cases he
 ·cases he
def AS(ql:Bool):aj->aj
 | .slice sz tag xs=>.slice sz (if ql then tag else .no) (dq xs)
 |p=>eb p
theorem agf{w:World}{Z:bc}{ql:Bool}{p:aj}{v:Value}(h:a8 w Z p v):a8 w Z (AS ql p) v:=by
 have J:=lK p v h;cases p with
 |slice sz tag xs=>
  simp only[AS];cases ql with
  |false=>simpa only[hg,if_false,eb]using J
  |true=>
   simp only[if_true];simp only[a8,eb]at h J⊢;refine⟨J.1,fun e=>h.2.1 e,fun g e=>?_,fun k j e=>?_,fun k e=>?_⟩
   ·obtain⟨n,u,aq,aF,bB⟩:=h.2.2.1 g e;exact⟨n,u,aq,by rw[tw];exact aF,by rw[tw];exact bB⟩
   ·exact UO _ _ (h.2.2.2.1 k j e)
   ·exact UO _ _ (h.2.2.2.2 k e)
 |_=>exact J
theorem anm{C:fp}{st st':bn}{a:Act}{w:World}{Z:bc}(h:c2 C st a w Z){s:Nat}(he:xS st s=some st'):∃bh,c2 C st' a w bh:=by
 unfold xS at he;split at he
 ·rename_i p e bF;cases he;obtain⟨bh,J,U,_⟩:=YJ h (h.slot s) bF;exact⟨_,Pe J U⟩
 ·cases he
theorem ZU{w:World}{Z:bc}:∀{cs:List aj} {us:List Value} {i:Nat} {p q:aj} {v:Value},dm w Z cs us->cs[i]? =some p->us[i]? =some v->a8 w Z q v->dm w Z (cs.set i q) us
 |[],_,_,_,_,_,_,h,_,_=>by simp at h
 |c::cs,us,0,p,q,v,h,_,az,bE=>by simp only[dm]at h;obtain⟨u,cj,rfl,J,U⟩:=h;simp only[List.getElem?_cons_zero,dE]at az;subst az;simp only[List.set_cons_zero,dm];exact⟨_,_,rfl,⟨bE,J.2⟩,U⟩
 |c::cs,us,i+1,p,q,v,h,bF,az,bE=>by simp only[dm]at h;obtain⟨u,cj,rfl,J,U⟩:=h;simp only[List.set_cons_succ,dm];exact⟨_,_,rfl,J,ZU U (by simpa using bF) (by simpa using az) bE⟩
theorem anl{C:fp}{st st':bn}{a:Act}{w:World}{Z:bc}(h:c2 C st a w Z){s:Nat}(he:xR st s=some st'):∃bh,c2 C st' a w bh:=by
 unfold xR at he;split at he
 ·rename_i k ak5 ae;generalize ak5+s/1000=off at he;split at he
  ·rename_i cs dj;split at he
   ·rename_i p bF;split at he
    ·rename_i B6 e HD;split at he
     ·rename_i uq;cases he;obtain⟨bl,us,el,g1,g2,g3,g4,g5⟩:=h.good.box k cs dj;rw[wk uq]at g5;have bs:off<us.toList.length:=by rw[qu g5];exact(fD.1 bF).1
      obtain⟨v,az⟩:∃v,us.toList[off]? =some v:=⟨_,cg bs⟩;have Bl:a8 w Z p v:=by have:=Cm off g5;rw[lu (fD.1 bF).1,lu bs]at this;simp only[dm]at this;obtain⟨u,cj,aq,aF,_⟩:=this;rw[(fD.1 bF).2]at aF;rw[(fD.1 az).2]at aq;cases aq;exact aF.1
      obtain⟨bh,J,U,h3⟩:=YJ h Bl HD;have xt:dm w bh (cs.set off B6) us.toList:=ZU (ZT h3 g5) bF az U;have V8:=Co xt;refine⟨bh,⟨J.good.alt,fun j e2 ag=>?_,fun j dJ b ag jX=>J.good.inj j dJ b ?_ ?_,J.good.own,J.good.oinj,fun g j n v b aW ag=>J.good.obx g j n v b aW ?_,J.good.one,fun bl ad=>J.good.otr bl (ad.imp (fun⟨bI,bA,a2⟩=>⟨bI,by rw[ju]at bA;split at bA;(rename_i e;subst e;simp[dj]);exact bA,a2⟩) id)⟩,J.fr,J.defers,J.size,J.slot,J.new⟩
      ·simp only at ag;rw[ju]at ag;split at ag
       ·rename_i e;subst e;cases ag;obtain⟨iX,cj,gj,f1,f2,f3,f4,f5⟩:=J.good.box k cs dj;have:iX=bl:=by have:=h3.bx k bl trivial g1;rw[this]at f1;cases f1;rfl
        subst this;rw[wj uq]at g4 f4;rw[g4]at f4;injection f4 with f4;injection f4 with f4 f6 f7;refine⟨iX,us,el,f1,f2,f3,by rw[wj V8];exact g4,by rw[wk V8];exact xt⟩
       ·exact J.good.box j e2 ag
      ·simp only at ag;rw[ju]at ag;split at ag
       ·rename_i e;subst e;simp[dj]
       ·exact ag
      ·simp only at jX;rw[ju]at jX;split at jX
       ·rename_i e;subst e;simp[dj]
       ·exact jX
      ·simp only at ag;rw[ju]at ag;split at ag
       ·rename_i e;subst e;simp[dj]
       ·exact ag
     ·cases he
    ·cases he
   ·cases he
  ·cases he
 ·cases he
def tU{α:Type}(k:aL)(l:List (aL×α)):List (aL×α):=match l with
 |[]=>[]
 |(i,x)::r=>if i=k then tU k r else(i,x)::tU k r
theorem NI{α:Type}(k j:aL):∀l:List (aL×α),look j (tU k l)=if j=k then none else look j l
 |[]=>by simp[tU,look]
 |(i,x)::r=>by
  simp only[tU];by_cases h:i=k
  ·subst h;rw[if_pos rfl,NI i j r];by_cases U:j=i
   ·simp[U]
   ·have:¬i=j:=fun e=>U e.symm;simp[look,U,this]
  ·rw[if_neg h];simp only[look];by_cases U:i=j
   ·subst U;simp[h]
   ·simp only[U,if_false];exact NI k j r
def LZ(agg:Bool):List aj->Option aj
 |[p]=>if agg then some (.agg [p])else some p
 |cs=>if agg then some (.agg cs)else none
def w1(st:bn)(agg:Bool)(s:Nat):Option bn:=
 match get s st.t with
 | .ptr k 0=>match look k st.b with
  |some cs=>if h9 cs then match LZ agg cs with
    |some x=>some {st with t:=put s (.eptr x) st.t,b:=tU k st.b}
    |none=>none
   else none
  |none=>none
 |_=>none
theorem am5{u:Value}(h:u.oneCell'=true):u.cells.toList=[u]:=by cases u<;>first|rfl|(simp[Value.oneCell']at h)
theorem Xf{w:World}{A:Nat->Nat->Prop}{b:Nat}{us:Array Value}{el:hh}(ad:w.heap[b]? =some (.cells us el))(be:∀o,o<us.size->A b o):∀(a7:List Value) (off:Nat),us.toList.drop off=a7->mx w A b off a7
 |[],_,_=>trivial
 |v::a7,off,h=>by
  have bs:off<us.toList.length:=by
   rcases Nat.lt_or_ge off us.toList.length with J|J
   ·exact J
   ·rw[List.drop_eq_nil_of_le J]at h;cases h
  have U:=lu bs;rw[h]at U;injection U with U h3;refine⟨⟨be off (by simpa using bs),?_⟩,Xf ad be a7 (off+1) h3.symm⟩;have xm:off<us.size:=by simpa using bs
  simp only[World.cell?,ad,k1,hg,if_false];rw[U];simp[xm]
theorem agw{C:fp}{st st':bn}{a:Act}{w:World}{Z:bc}(h:c2 C st a w Z){agg:Bool}{s:Nat}(he:w1 st agg s=some st'):∃bh,c2 C st' a w bh:=by
 unfold w1 at he;split at he
 ·rename_i k ae;split at he
  ·rename_i cs dj;split at he
   ·rename_i uq;split at he
    ·rename_i x ab;cases he;obtain⟨bl,us,el,g1,g2,g3,g4,g5⟩:=h.good.box k cs dj;rw[wk uq]at g5;rw[wj uq]at g4;have bs:bl<w.heap.size:=by
      rcases Nat.lt_or_ge bl w.heap.size with J|J
      ·exact J
      ·rw[Array.getElem?_eq_none J]at g4;cases g4
     let bh:bc:={Z with A:=fun b o=>Z.A b o\/(b=bl/\o<us.size)}
     have ay:ma w Z w bh:=⟨fun b o be=>⟨.inl be,rfl⟩,fun j b _ ag=>ag,fun g n u _ js=>⟨n,u,js,.inl ⟨rfl,rfl⟩⟩,fun _ _ _=>rfl,fun _ _ _ _ h=>h⟩;have hY:∀j e2,look j (tU k st.b)=some e2->j≠k/\look j st.b=some e2:=fun j e2 ag=>by
      rw[NI]at ag;split at ag
      ·cases ag
      ·rename_i e;exact⟨e,ag⟩
     have Hu:∀j,(look j (tU k st.b)).isSome->(look j st.b).isSome:=fun j ag=>by obtain⟨e2,jr⟩:=fo.1 ag;simp[(hY j e2 jr).2]
     have qM:∀(g:aL) (n:Nat) (v:Value),(look g st.e).isSome->Z.ow g=some (n,v)->v.ownBlock=some bl->ey:=fun g n v J U h3=>h.good.obx g k n v bl J (by simp[dj]) U h3 g1;have oi:a8 w bh (.eptr x) (a.tmps.getD s undef):=by
      have af:=h.slot s;rw[ae]at af;simp only[a8]at af⊢;obtain⟨b3,a1,bm⟩:=af;rw[g1]at a1;cases a1;have av:mx w bh.A bl 0 us.toList:=Xf g4 (fun o ay=>.inr ⟨rfl,ay⟩) _ 0 rfl;have g6:dm w bh cs us.toList:=ZT ay g5;unfold LZ at ab;split at ab
      ·rename_i p;simp only[dm]at g6;obtain⟨u,cj,aq,aF,bB⟩:=g6;subst bB;split at ab
       ·cases ab;exact⟨bl,0,.agg us,bm,by simp only[a8];exact⟨us,rfl,by rw[aq];simp only[dm];exact⟨u,[],rfl,aF,rfl⟩⟩,by simpa[pX]using av⟩
       ·cases ab;refine⟨bl,0,u,bm,aF.1,?_⟩;rw[am5 aF.2,<-aq];exact av
      ·split at ab
       ·cases ab;exact⟨bl,0,.agg us,bm,by simp only[a8];exact⟨us,rfl,g6⟩,by simpa[pX]using av⟩
       ·cases ab
     refine⟨bh,Pe (Z:=bh) (st:={st with b:=tU k st.b}) ⟨⟨fun b o be=>?_,fun j e2 ag=>?_,fun j dJ b J U=>h.good.inj j dJ b (Hu j J) (Hu dJ U),fun g o aW=>?_,h.good.oinj,fun g j n v b J U=>h.good.obx g j n v b J (Hu j U),h.good.one,fun b aI=>h.good.otr b (aI.imp (fun⟨j,bA,a2⟩=>⟨j,Hu j bA,a2⟩) id)⟩,⟨h.fr.os,h.fr.tape,h.fr.output,h.fr.size,h.fr.block,fun b o be=>⟨.inl (h.fr.keep b o be).1,(h.fr.keep b o be).2⟩,fun b o be=>?_,h.fr.obj,h.fr.obn,h.fr.row,h.fr.obr,h.fr.trd,h.fr.trb,h.fr.trn,h.fr.sh⟩,h.defers,h.size,fun i=>zP ay (h.slot i),h.new⟩ oi⟩
     ·rcases be with be|⟨rfl,_⟩
      ·exact h.good.alt b o be
      ·exact bs
     ·obtain⟨cA,jX⟩:=hY j e2 ag;obtain⟨iX,cj,gj,f1,f2,f3,f4,f5⟩:=h.good.box j e2 jX;refine⟨iX,cj,gj,f1,f2,fun o be=>?_,f4,q8 ay f5⟩;rcases be with be|⟨rfl,_⟩
      ·exact f3 o be
      ·exact cA (h.good.inj j k _ (by simp[jX]) (by simp[dj]) f1 g1)
     ·obtain⟨v0,fO,aq,aF,bB,ds⟩:=h.good.own g o aW;have xa:∀b,v0.ownBlock=some b->∀j,bh.A b j->Z.A b j:=fun b ad j be=>by
       rcases be with be|⟨rfl,_⟩
       ·exact be
       ·exact(qM g _ v0 (by simp[aW]) aq ad).elim
      exact⟨v0,fO,aq,aF,fun b ad=>⟨(bB b ad).1,fun j be=>(bB b ad).2 j (xa b ad j be)⟩,tp ay xa ds⟩
     ·rcases be with be|⟨rfl,_⟩
      ·exact h.fr.fresh b o be
      ·exact .inr g2
    ·cases he
   ·cases he
  ·cases he
 ·cases he
def tn(st:bn)(x:dv)(b:Bool):bn:=match x with
 | .t i=>{st with t:=put i (.bool b) st.t}
 | .c _=>st
def c4(P:cK)(ob:List aL):C->(Exit->bn->Prop)->bn->Prop
 | .skip,Q,st=>Q .normal st
 | .region gs,Q,st=>iv P gs st (Q .normal)
 | .drawn q N gs,Q,st=>ih P q [] st.n gs st (va (st.n+N) st.o (Q .normal))
 | .drawnW nw N gs,Q,st=>(∀j∈nw,.obj j∉st.o)/\ih P false nw st.n gs st (va (st.n+N) (nw.map aL.obj++st.o) (Q .normal))
 | .seq a b,Q,st=>c4 P ob a (fun e st'=>match e with| .normal=>c4 P ob b Q st'|e=>Q e st') st
 | .cond x t e,Q,st=>match cu st.t x with
  | .bool b=>(b=true->c4 P ob t Q (tn st x true))/\(b=false->c4 P ob e Q (tn st x false))
  |_=>ey
 | .block id c,Q,st=>c4 P ob c (fun e st'=>match e with| .exit j=>if j=id then Q .normal st' else Q (.exit j) st'|e=>Q e st') st
 | .loop c,Q,st=> ∃(hv:Nat->bn->Prop) (m:Nat) (x0:bn),jn ob st x0/\hv m x0/\
   ∀k s,hv k s->(∀i,gi (get i s.t))->(∀j cs,look j s.b=some cs->h9 cs=true->gH cs)->c4 P ob c (fun e ah=>match e with| .normal=> ∃bI pP,bI<k/\jn ob ah pP/\hv bI pP|e=>Q e ah) s
 | .exit id,Q,st=>Q (.exit id) st
 | .ret,Q,st=>Q .ret st
 | .pub s c,Q,st=>match xS st s with
  |some st'=>c4 P ob c Q st'
  |none=>ey
 | .pubB s c,Q,st=>match xR st s with
  |some st'=>c4 P ob c Q st'
  |none=>ey
 | .fg ql s c,Q,st=>c4 P ob c Q {st with t:=put s (AS ql (get s st.t)) st.t}
 | .fz gG s c,Q,st=>match w1 st gG s with
  |some st'=>c4 P ob c Q st'
  |none=>ey
 | .no,_,_=>ey
def hT(N:Nat)(bC:List (Nat×dy)):C->Code->Bool
 | .skip,.skip=>true
 | .region gs,.region _ ops false=>k7 N bC ops.toList gs ops.toList
 | .drawn _ N' gs,.region _ ops true=>N'==N&&k7 N bC ops.toList gs ops.toList&&CZ gs ops.toList&&AL N gs
 | .drawnW _ N' gs,.region _ ops true=>N'==N&&k7 N bC ops.toList gs ops.toList&&CZ gs ops.toList&&AL N gs
 | .seq a b,.seq x y=>hT N bC a x&&hT N bC b y
 | .cond x t e,.cond o du fE=>er x o&&hT N bC t du&&hT N bC e fE
 | .block id c,.block Ea cq=>id==Ea&&hT N bC c cq
 | .loop c,.loop cq=>hT N bC c cq
 | .exit id,.exit Ea=>id==Ea
 | .ret,.ret=>true
 | .pub _ c,cq=>hT N bC c cq
 | .pubB _ c,cq=>hT N bC c cq
 | .fg _ _ c,cq=>hT N bC c cq
 | .fz _ _ c,cq=>hT N bC c cq
 | .no,_=>true
 |_,_=>false
theorem Vd{N:Nat}{bC:List (Nat×dy)}{ops:List Oper}:∀{gs:List dc} {os:List Oper},k7 N bC ops gs os=true->gs.length=os.length
 |[],[],_=>rfl
 |[],_::_,h=>by simp[k7]at h
 |_::_,[],h=>by simp[k7]at h
 |g::gs,o::os,h=>by simp only[k7,cr]at h;simp[Vd h.2]
def abP(P:cK)(C:fp)(c:Code)(Q:Exit->bn->Prop)(st:bn):Prop:= ∀a w Z,c2 C st a w Z->c.wp P (fun e bk w'=> ∃st' bh,Q e st'/\c2 C st' bk w' bh) a w
theorem rD{P:cK}(hm:P.follows .mixedOrders=true){bC:List (Nat×dy)}(aI:fJ P bC=true){X:fp}:∀(c:C) (code:Code) (Q:Exit->bn->Prop) (st:bn),hT X.N bC c code=true->c4 P X.ob c Q st->abP P X code Q st
 | .skip,code,Q,st,ay,he=>by
  cases code<;>simp only[hT]at ay<;>try cases ay
  intro a w Z aM;exact wp_skip ⟨st,Z,he,aM⟩
 | .region gs,code,Q,st,ay,he=>by
  cases code<;>try(simp[hT]at ay;done)
  rename_i id ops draw;cases draw<;>simp only[hT]at ay
  ·intro a w Z aM;refine wp_region ?_;have av:gs.length=ops.size:=by simpa using Vd ay
   rw[List.range_eq_range',<-av];exact Uc aI (K:=Q .normal) (fun st' bk w' bh J U=>⟨st',bh,J,U⟩) gs ops.toList 0 Ψ ay st a w Z he aM
  ·cases ay
 | .drawn q N gs,code,Q,st,ay,he=>by
  cases code<;>try(simp[hT]at ay;done)
  rename_i id ops draw;cases draw<;>simp only[hT]at ay
  ·cases ay
  ·simp only[cr,dM]at ay;obtain⟨⟨⟨rfl,J⟩,U⟩,h3⟩:=ay;intro a w Z aM;exact Ub hm aI J U h3 (nw:=[]) (K:=Q .normal) (fun st' bk w' bh J U=>⟨st',bh,J,U⟩) Ψ he aM
 | .drawnW nw N gs,code,Q,st,ay,he=>by
  cases code<;>try(simp[hT]at ay;done)
  rename_i id ops draw;cases draw<;>simp only[hT]at ay
  ·cases ay
  ·simp only[cr,dM]at ay;obtain⟨⟨⟨rfl,J⟩,U⟩,h3⟩:=ay;intro a w Z aM;exact Ub hm aI J U h3 (nw:=nw) (K:=Q .normal) (fun st' bk w' bh J U=>⟨st',bh,J,U⟩) he.1 he.2 aM
 | .seq x y,code,Q,st,ay,he=>by
  cases code<;>try(simp[hT]at ay;done)
  rename_i p7 mg;simp only[hT,cr]at ay;intro a w Z aM;refine wp_seq ?_;have J:=rD hm aI x p7 _ st ay.1 he a w Z aM;refine wp_mono J fun e bk w' cE=>?_;obtain⟨st',bh,bE,dk⟩:=cE;cases e with
  |normal=>exact rD hm aI y mg Q st' ay.2 bE bk w' bh dk
  |_=>exact⟨st',bh,bE,dk⟩
 | .cond x t e,code,Q,st,ay,he=>by
  cases code<;>try(simp[hT]at ay;done)
  rename_i o ac0 ce;simp only[hT,cr]at ay;intro a w Z aM;simp only[c4]at he;have ab:=et aM ay.1.1;split at he
  ·rename_i b ad;rw[ad]at ab;simp only[a8]at ab;have D4:c2 X (tn st x b) a w Z:=by
    unfold tn;split
    ·exact Pd aM (by simpa[cu]using ad)
    ·exact aM
   refine wp_cond ab ?_;cases b
   ·exact rD hm aI e ce Q _ ay.2 (he.2 rfl) a w Z D4
   ·exact rD hm aI t ac0 Q _ ay.1.2 (he.1 rfl) a w Z D4
  ·exact he.elim
 | .block id c,code,Q,st,ay,he=>by
  cases code<;>try(simp[hT]at ay;done)
  rename_i Ea cq;simp only[hT,cr,dM]at ay;obtain⟨rfl,ay⟩:=ay;intro a w Z aM;refine wp_block ?_;refine wp_mono (rD hm aI c cq _ st ay he a w Z aM) fun e bk w' cE=>?_;obtain⟨st',bh,bE,dk⟩:=cE;cases e with
  |exit j=>
   simp only[Exit.inBlock]at bE⊢;by_cases ag:j=id
   ·rw[if_pos ag]at bE⊢;exact⟨st',bh,bE,dk⟩
   ·rw[if_neg ag]at bE⊢;exact⟨st',bh,bE,dk⟩
  |_=>exact⟨st',bh,bE,dk⟩
 | .loop c,code,Q,st,ay,he=>by
  cases code<;>try(simp[hT]at ay;done)
  rename_i cq;simp only[hT]at ay;intro a w Z aM;simp only[c4]at he;obtain⟨hv,m,x0,hw,hi,kh⟩:=he;refine wp_loop_ghost (fun k a w=> ∃s Z,hv k s/\c2 X s a w Z) m ⟨x0,_,hi,aM.weaker hw⟩ ?_;intro k a w Md;obtain⟨s,Z,af,Bm⟩:=Md;have J:=kh k s af (fun i=>ZY (Bm.slot i)) (fun j cs ag=>by obtain⟨bl,us,el,_,_,_,_,g5⟩:=Bm.good.box j cs ag;exact ZN g5);refine wp_mono (rD hm aI c cq _ s ay J a w Z Bm) fun e bk w' cE=>?_;obtain⟨st',bh,bE,dk⟩:=cE;cases e with
  |normal=>obtain⟨bI,pP,aq,aF,bB⟩:=bE;exact⟨bI,aq,pP,_,bB,dk.weaker aF⟩
  |_=>exact⟨st',bh,bE,dk⟩
 | .exit id,code,Q,st,ay,he=>by
  cases code<;>try(simp[hT]at ay;done)
  rename_i Ea;simp only[hT,dM]at ay;subst ay;intro a w Z aM;exact wp_exit ⟨st,Z,he,aM⟩
 | .ret,code,Q,st,ay,he=>by
  cases code<;>try(simp[hT]at ay;done)
  intro a w Z aM;exact wp_ret ⟨st,Z,he,aM⟩
 | .pub s c,code,Q,st,ay,he=>by
  simp only[hT]at ay;simp only[c4]at he;split at he
  ·rename_i st' af;intro a w Z aM;obtain⟨bh,J⟩:=anm aM af;exact rD hm aI c code Q st' ay he a w bh J
  ·exact he.elim
 | .pubB s c,code,Q,st,ay,he=>by
  simp only[hT]at ay;simp only[c4]at he;split at he
  ·rename_i st' af;intro a w Z aM;obtain⟨bh,J⟩:=anl aM af;exact rD hm aI c code Q st' ay he a w bh J
  ·exact he.elim
 | .fg ql s c,code,Q,st,ay,he=>by simp only[hT]at ay;simp only[c4]at he;intro a w Z aM;exact rD hm aI c code Q _ ay he a w Z (Pe aM (agf (aM.slot s)))
 | .fz gG s c,code,Q,st,ay,he=>by
  simp only[hT]at ay;simp only[c4]at he;intro a w Z aM;split at he
  ·rename_i st' dd;obtain⟨bh,J⟩:=agw aM dd;exact rD hm aI c code Q st' ay he a w bh J
  ·exact he.elim
 | .no,code,Q,st,ay,he=>by simp only[c4]at he
inductive bV where
 |tmp (i:Nat)
 |cell (i:Nat) (agg:Bool) (sz:Nat)
def aY(st:bn):bV->Option (Prop×aj)
 | .tmp i=>some (True,get i st.t)
 | .cell i agg sz=>nM st.b st.e agg sz (get i st.t)
def aV(st:bn):List bV->Option (Prop×List aj)
 |[]=>some (True,[])
 |r::eT=>match aY st r,aV st eT with
  |some (c,p),some (cq,cy)=>some (c/\cq,p::cy)
  |_,_=>none
def rY(bC:List (Nat×dy)):List bV->List ResultVar->Bool
 |[],[]=>true
 | .tmp i::eT,.tmp j::os=>i==j&&rY bC eT os
 | .cell i agg sz::eT,.cell j t::os=>i==j&&(match ej bC t with|some f=>f.size==sz&&f.kind.isAgg==agg|none=>false)&&rY bC eT os
 |_,_=>false
def aU:List aj->aj
 |[p]=>p
 |cy=>.tuple cy
def Jz(tmps:Array Value):ResultVar->Sem Value
 | .tmp t=>pure (tmps.getD t undef)
 | .cell x t=>do loadVar t (<-asAddr (tmps.getD x undef))
theorem ZZ(fn:Func)(tmps:Array Value):results fn tmps=(do let a7<-fn.results.mapM (Jz tmps);pure (if h:a7.size=1 then a7[0]else .tuple a7)):=by unfold results;congr 2
theorem Js{P:cK}{bC:List (Nat×dy)}(aI:fJ P bC=true){X:fp}{st:bn}{a:Act}{w:World}{Z:bc}(aM:c2 X st a w Z):
  ∀(eT:List bV) (os:List ResultVar) (c:Prop) (cy:List aj),rY bC eT os=true->aV st eT=some (c,cy)->c->
  ∃a7,(os.mapM (Jz a.tmps)).run P w= .ok a7 w/\cX w Z cy a7
 |[],[],c,cy,_,he,_=>by simp only[aV]at he;cases he;exact⟨[],Ψ,by simp[cX]⟩
 |[],_::_,_,_,ay,_,_=>by simp[rY]at ay
 | .tmp _::_,[],_,_,ay,_,_=>by simp[rY]at ay
 | .cell _ _ _::_,[],_,_,ay,_,_=>by simp[rY]at ay
 |r::eT,o::os,c,cy,ay,he,ao=>by
  simp only[aV]at he;split at he
  ·rename_i bY p cw YI J U;cases he;cases r with
   |tmp i=>
    cases o with
    |cell _ _=>simp[rY]at ay
    |tmp j=>simp only[rY,cr,dM]at ay;obtain⟨rfl,ay⟩:=ay;simp only[aY]at J;cases J;obtain⟨a7,g1,g2⟩:=Js aI aM eT os cw YI ay U ao.2;refine⟨a.tmps.getD i undef::a7,?_,by simp only[cX];exact⟨_,_,rfl,aM.slot i,g2⟩⟩;simp only[List.mapM_cons,fU,Jz,gC,fZ,g1]
   |cell i agg sz=>
    cases o with
    |tmp _=>simp[rY]at ay
    |cell j t=>
     simp only[rY,cr,dM]at ay;obtain⟨⟨rfl,h3⟩,ay⟩:=ay;split at h3
     ·rename_i f aN;simp only[cr,dM]at h3;obtain⟨rfl,rfl⟩:=h3;simp only[aY]at J;obtain⟨a7,g1,g2⟩:=Js aI aM eT os cw YI ay U ao.2;obtain⟨v,f1,f2⟩:=Ih aI aM.good aN (aM.slot i) J ao.1;have D1:∃tM,a.tmps.getD i undef= .pointer (some tM):=by
       have af:=aM.slot i;unfold nM at J;split at J
       ·rename_i dL k n xx sr ae;rw[ae]at af;simp only[a8]at af;obtain⟨⟨b,o,e⟩,_⟩:=af;exact⟨_,e⟩
       ·rename_i k off ae;rw[ae]at af;simp only[a8]at af;obtain⟨b,_,e⟩:=af;exact⟨_,e⟩
       ·rename_i q ae;rw[ae]at af;simp only[a8]at af;obtain⟨b,off,u,e,_⟩:=af;exact⟨_,e⟩
       ·cases J
      obtain⟨tM,DD⟩:=D1;rw[DD]at f1;simp only[Instr.loadAt,Instr.sureAddr,fU,gC,fZ]at f1;refine⟨v::a7,?_,by simp only[cX];exact⟨_,_,rfl,f2,g2⟩⟩;have ahC:(asAddr (.pointer (some tM)):Sem Addr).run P w= .ok tM w:=rfl;simp only[List.mapM_cons,fU,Jz,gC,fZ,g1,DD,ahC,f1]
     ·cases h3
  ·cases he
theorem zN{w:World}{Z:bc}:∀{cy:List aj} {a7:List Value},cX w Z cy a7->a7.length=cy.length
 |[],a7,h=>by simp only[cX]at h;subst h;rfl
 |p::cy,a7,h=>by simp only[cX]at h;obtain⟨u,cj,rfl,_,U⟩:=h;simp[zN U]
def j2:Nat->List aj->List (Nat×aj)
 |_,[]=>[]
 |i,p::cy=>(i,p)::j2 (i+1) cy
theorem G7:∀(cy:List aj) (i j:Nat),get j (j2 i cy)=if i<=j/\j<i+cy.length then cy.getD (j-i) .junk else .junk
 |[],i,j=>by simp[j2,get]
 |p::cy,i,j=>by
  simp only[j2,get];by_cases h:i=j
  ·subst h;simp
  ·rw[if_neg h,G7 cy (i+1) j];by_cases U:i<=j/\j<i+(p::cy).length
   ·rw[if_pos U,if_pos (by simp at U⊢;omega)];have:j-i=(j-(i+1))+1:=Ω
    rw[this];simp
   ·rw[if_neg U,if_neg (by simp at U⊢;omega)]
def kx{α:Type}(ah:cT):List (aL×α)->Prop
 |[]=>True
 |(k,_)::r=>inObs ah k/\kx ah r
theorem BC{α:Type}{ah:cT}:∀{l:List (aL×α)},kx ah l->∀k,(look k l).isSome->inObs ah k
 |[],_,k,h=>by simp[look]at h
 |(i,x)::r,ae,k,h=>by
  simp only[kx]at ae;simp only[look]at h;split at h
  ·rename_i e;subst e;exact ae.1
  ·exact BC ae.2 k h
def cL(eT:List bV)(s:cT)(Q:aj->cT->Prop)(e:Exit)(st:bn):Prop:=
 (e= .ret\/e= .normal)/\match aV st eT with
  |some (c,cy)=>c/\∃ah,kx ah s.b/\kx ah s.e/\gL (inObs ah) ah.b st.b/\oC (inObs ah) ah.e st.e/\je ah/\aJ (inObs ah) (eb (aU cy))/\Q (eb (aU cy)) ah
  |none=>ey
theorem bG.of{P:cK}(hm:P.follows .mixedOrders=true){bC:List (Nat×dy)}(aI:fJ P bC=true){f:FuncId}{fn:Func}(aN:P.funcs[f]? =some fn){code:Code}(ad:fn.body=some code)(Bg:(fn.name== "runtime.NumGoroutine")=false){c:C}(ao:hT fn.ntmps bC c code=true){eT:List bV}(Bm:rY bC eT fn.results.toList=true)
  {args:List aj} (av:args.length<=fn.ntmps) {s:cT} (qi:je s) {Q:aj->cT->Prop} (he:gQ args->(∀j cs,look j s.b=some cs->h9 cs=true->gH cs)->c4 P (c5 s) c (cL eT s Q) ⟨j2 0 args,s.b,s.e,0,c5 s⟩):bG P f args s Q:=by
 intro w Z a7 aW ab aM;refine .inl ⟨⟨fn,aN,by simp[ad],Bg⟩,?_⟩;have kv:=zN aM;have lf:a7.size=args.length:=by simpa using kv
 let X:fp:=⟨w,Z,fA Z s,fn.ntmps,c5 s⟩
 have pD:∀k,fresh 0 (c5 s) k->Z.bx k=none/\Z.ow k=none/\∀j b,¬Z.tr k j b:=by
  intro k ae;cases k with
  |loc m=>exact⟨(ab _).1 (qi.1 m),(ab _).2.1 (qi.2 m),(ab _).2.2⟩
  |obj m=>
   simp only[fresh,true_and]at ae;refine⟨?_,?_,(ab _).2.2⟩
   ·refine(ab _).1 ?_;cases h:look (.obj m) s.b with
    |none=>rfl
    |some x=>exact absurd (uQ (.inl (by simp[h]))) ae
   ·refine(ab _).2.1 ?_;cases h:look (.obj m) s.e with
    |none=>rfl
    |some x=>exact absurd (uQ (.inr (by simp[h]))) ae
 have gU:∀m,(Z.bx (.obj m)≠none\/Z.ow (.obj m)≠none)-> .obj m∈c5 s:=by
  intro m hm;refine Classical.byContradiction fun ao=>?_;obtain⟨J,U,_⟩:=pD (.obj m) ⟨trivial,ao⟩;rcases hm with hm|hm
  ·exact hm J
  ·exact hm U
 have pF:c2 X ⟨j2 0 args,s.b,s.e,0,c5 s⟩ {tmps:=a7++Array.replicate (fn.ntmps-a7.size) undef,defers:=[]} w Z:=by
  refine⟨⟨aW.alt,fun k cs ae=>?_,aW.inj,fun g o eA=>?_,aW.oinj,aW.obx,aW.one,aW.otr⟩,⟨rfl,rfl,rfl,dZ _,fun _ _ _=>rfl,fun b o h=>⟨h,rfl⟩,fun b o h=>.inl h,fun n b h=>h,fun n b h=>gU n (.inl (by rw[h];simp)),fun m n u h=>⟨n,u,h,.inl ⟨rfl,rfl⟩⟩,fun m n u h=>gU m (.inr (by rw[h];simp)),fun k j _ _ b h=>absurd h ((ab k).2.2 j b),fun k j b h=>absurd h ((ab k).2.2 j b),fun k j b h=>absurd h ((ab k).2.2 j b),fun _ _ _=>rfl⟩,rfl,?_,fun i=>?_,pD⟩
  ·obtain⟨bl,us,el,g1,g2,g3⟩:=aW.box k cs ae;exact⟨bl,us,el,g1,.inl g2,g3⟩
  ·obtain⟨v,us,g1,g2,g3,g4⟩:=aW.own g o eA;exact⟨v,us,g1,g2,fun bl fB=>⟨.inl (g3 bl fB).1,(g3 bl fB).2⟩,g4⟩
  ·show(a7++Array.replicate (fn.ntmps-a7.size) undef).size=fn.ntmps;simp;omega
  ·rw[G7];by_cases hi:i<args.length
   ·rw[if_pos Ω];have rH:args[i]? =some args[i]:=cg hi;obtain⟨v,aq,aF⟩:=Fh i aM rH;have az:(a7++Array.replicate (fn.ntmps-a7.size) undef).getD i undef=v:=by
     have Db:a7[i]? =some v:=by simpa using aq
     rw[Array.getD_eq_getD_getElem?,Array.getElem?_append_left Ω,Db];rfl
    show a8 w Z _ ((a7++Array.replicate (fn.ntmps-a7.size) undef).getD i undef);rw[az];simpa[List.getD,rH]using aF
   ·rw[if_neg Ω];simp[a8]
 have vC:=he (Pm aM) (fun j cs ag=>by obtain⟨bl,us,el,_,_,_,_,g5⟩:=aW.box j cs ag;exact ZN g5);have M4:=rD hm aI (X:=X) c code (cL eT s Q) _ ao vC _ w Z pF;refine calls_of_wp aN ad (wp_mono M4 fun e bk w' cE=>?_);obtain⟨st',bh,⟨sJ,bE⟩,dk⟩:=cE;cases sQ:aV st' eT with
 |none=>simp[sQ]at bE
 |some x=>
  obtain⟨cq,cy⟩:=x;simp only[sQ]at bE;obtain⟨hx,ah,kb,ke,a1,bm,bW,cZ,c6⟩:=bE;obtain⟨oB,g1,g2⟩:=Js aI dk eT fn.results.toList cq cy Bm sQ hx;have MP:=zN g2;have dG:bk.defers=[]/\∃v,(results fn bk.tmps).run P w'= .ok v w'/\(fun(e:Ending) w'=> ∃v r ah bh,e= .returned v/\Q r ah/\a8 w' bh r v/\Good (fun bl=>fA Z s bl\/w.heap.size<=bl) w' bh ah.b ah.e/\pw bh ah/\je ah/\qB ⟨w,Z,fA Z s,0,c5 s⟩ w' bh) (.returned v) w':=by
   refine⟨dk.defers,?_⟩;have iI:(results fn bk.tmps).run P w'= .ok (if h:oB.toArray.size=1 then oB.toArray[0]else .tuple oB.toArray) w':=by rw[ZZ];simp only[fU,Array.mapM_eq_mapM_toList,Sem.run_map,g1,fZ,gC]
   refine⟨_,iI,_,eb (aU cy),ah,bh.cut (inObs ah),rfl,c6,?_,dk.good.cut a1 bm (fun bl h _=>h),?_,bW,?_⟩
   ·have mq:a8 w' bh (aU cy) (if h:oB.toArray.size=1 then oB.toArray[0]else .tuple oB.toArray):=by
     match cy,oB,g2,MP with
     |[p],[v],g2,_=>simp only[cX]at g2;obtain⟨u,cj,aq,aF,_⟩:=g2;cases aq;simpa[aU]using aF
     |[],[],g2,_=>simp[aU,a8,cX]
     |p::c8::cy,v::v2::oB,g2,_=>rw[dif_neg Ψ];simp only[aU,a8];exact⟨_,rfl,by simpa using g2⟩
     |[_],[],_,h=>simp at h
     |[],_::_,_,h=>simp at h
     |[_],_::_::_,_,h=>simp at h
     |_::_::_,[],_,h=>simp at h
     |_::_::_,[_],_,h=>simp at h
    exact kY (pf.cut _ w' bh) _ _ cZ (lK _ _ mq)
   ·intro k;refine⟨?_,?_,?_⟩;rotate_left 2
    ·rintro j b ⟨af,ad⟩;obtain⟨t1,t2⟩:=dk.fr.trn k j b ad;rcases af with af|af<;>obtain⟨x,iJ⟩:=fo.1 af
     ·obtain⟨bl,cj,el,aq,_⟩:=dk.good.box k x (a1 k x iJ).1;rw[t1]at aq;cases aq
     ·obtain⟨v',cj,aq,_⟩:=dk.good.own k x (bm k x iJ).1;rw[t2]at aq;cases aq
    ·intro ae;by_cases af:inObs ah k
     ·rw[bc.cut_bx af];rcases af with af|af
      ·rw[ae]at af;cases af
      ·obtain⟨x,iJ⟩:=fo.1 af;obtain⟨v',cj,aq,_⟩:=dk.good.own k x (bm k x iJ).1;rcases dk.good.one k with J|J
       ·exact J
       ·rw[J]at aq;cases aq
     ·exact(bc.cut_no af).1
    ·intro ae;by_cases af:inObs ah k
     ·rw[bc.cut_ow af];rcases af with af|af
      ·obtain⟨x,iJ⟩:=fo.1 af;obtain⟨bl,cj,el,aq,_⟩:=dk.good.box k x (a1 k x iJ).1;rcases dk.good.one k with J|J
       ·rw[J]at aq;cases aq
       ·exact J
      ·rw[ae]at af;cases af
     ·exact(bc.cut_no af).2.1
   ·refine⟨dk.fr.os,dk.fr.tape,dk.fr.output,dk.fr.size,dk.fr.block,dk.fr.keep,dk.fr.fresh,fun n b h=>?_,fun n b h=>gU n (.inl (by rw[h];simp)),fun m n u h=>?_,fun m n u h=>gU m (.inr (by rw[h];simp)),fun k j bI dJ b J U=>dk.fr.trd k j bI dJ b J.2 U.2,fun k j b ad=>dk.fr.trb k j b ad.2,fun k j b ad=>(by rw[bc.cut_bx ad.1,bc.cut_ow ad.1];exact dk.fr.trn k j b ad.2),dk.fr.sh⟩
    ·have af:inObs ah (.obj n):=by
      cases av:look (.obj n) s.b with
      |none=>rw[(ab _).1 av]at h;cases h
      |some x=>exact BC kb _ (by simp[av])
     rw[bc.cut_bx af];exact dk.fr.obj n b h
    ·have af:inObs ah (.obj m):=by
      cases av:look (.obj m) s.e with
      |none=>rw[(ab _).2.1 av]at h;cases h
      |some x=>exact BC ke _ (by simp[av])
     rw[bc.cut_ow af];exact dk.fr.row m n u h
  rcases sJ with rfl|rfl<;>exact dG
def b6(bC:List (Nat×dy))(c:C)(eT:List bV)(akX:Nat)(fn:Func):Bool:=
 match fn.body with
 |some code=>hT fn.ntmps bC c code&&rY bC eT fn.results.toList&& !(fn.name== "runtime.NumGoroutine")&&decide (akX<=fn.ntmps)
 |none=>false
theorem bG.mk{P:cK}(hm:P.follows .mixedOrders=true){bC:List (Nat×dy)}(aI:fJ P bC=true){f:FuncId}{fn:Func}(aN:P.funcs[f]? =some fn){c:C}{eT:List bV}{n:Nat}(eh:b6 bC c eT n fn=true)
  {args:List aj} (av:args.length<=n) {s:cT} (qi:je s) {Q:aj->cT->Prop} (he:gQ args->(∀j cs,look j s.b=some cs->h9 cs=true->gH cs)->c4 P (c5 s) c (cL eT s Q) ⟨j2 0 args,s.b,s.e,0,c5 s⟩):bG P f args s Q:=by
 unfold b6 at eh;split at eh
 ·rename_i code ad;simp only[cr,oG,eN]at eh;obtain⟨⟨⟨J,U⟩,h3⟩,h4⟩:=eh;exact bG.of hm aI aN ad h3 J U (ha av h4) qi he
 ·cases eh
theorem uP:je ⟨[],[]⟩:=⟨fun _=>rfl,fun _=>rfl⟩
def bp(eT:List bV)(r:aj)(e:Exit)(st:bn):Prop:=
 (e= .ret\/e= .normal)/\match aV st eT with
  |some (c,cy)=>c/\eb (aU cy)=r
  |none=>ey
theorem bK.mk{P:cK}(hm:P.follows .mixedOrders=true){bC:List (Nat×dy)}(aI:fJ P bC=true){f:FuncId}{fn:Func}(aN:P.funcs[f]? =some fn){c:C}{eT:List bV}{n:Nat}(eh:b6 bC c eT n fn=true)
  {args:List aj} (av:args.length<=n) {r:aj} (aM:aJ (fun _=>ey) r) (he:gQ args->c4 P [] c (bp eT r) ⟨j2 0 args,[],[],0,[]⟩):bK P f args r:=by
 refine bG.mk hm aI aN eh av uP fun J _=>?_;have:=he J;have ix:bp eT r=cL eT ⟨[],[]⟩ (fun eQ ah=>eQ=r/\ah=⟨[],[]⟩):=by
  funext e st;unfold bp cL;apply propext;refine and_congr_right fun _=>?_;cases aV st eT with
  |none=>exact Iff.rfl
  |some x=>
   obtain⟨c,cy⟩:=x;refine and_congr_right fun _=>?_;constructor
   ·intro h;refine⟨⟨[],[]⟩,trivial,trivial,fun k cs ae=>by simp[look]at ae,fun k cs ae=>by simp[look]at ae,uP,?_,h,rfl⟩;rw[h];exact xC (fun k ae=>ae.elim) r aM
   ·rintro⟨ah,_,_,_,_,_,_,h,_⟩;exact h
 rw[ix]at this;exact this
theorem J4{α:Type}{β:Type}:∀l:List (aL×α),cb ([]:List (aL×β)) l=l
 |[]=>rfl
 |(k,x)::r=>by simp[cb,look,J4 r]
theorem cQ.val{P:cK}{n:Nat}{args:List aj}{st:bn}{d:Option Nat}{K:bn->Prop}{r:aj}(ae:aO (fun _=>ey) args)(aN:bK P n args r)(h:K {st with t:=eS d r st.t}):cQ P n args st d K:=by
 refine .inl ⟨⟨[],[]⟩,_,fun k cs ae=>by simp[look]at ae,fun k cs ae=>by simp[look]at ae,uP,ki (fun _ h=>h.elim) _ ae,aN,?_⟩;rintro eQ ah ⟨rfl,rfl⟩;refine⟨⟨fun m h=>by simp[look]at h,fun m h=>by simp[look]at h⟩,?_⟩;have:after st ⟨[],[]⟩ ⟨[],[]⟩ d eQ={st with t:=eS d eQ st.t}:=by simp[after,J4,c5]
 rw[this];exact h
@[reducible,simp] def ef(n:Int):dv:= .c (.int .i64 n)
@[reducible,simp] def I(a b:Nat):dc:=⟨none,.s (.v a (.mov (.t b)))⟩
@[reducible,simp] def bS(a:Nat)(i:gh):dc:=⟨none,.s (.v a i)⟩
@[reducible,simp] def cS(i:ez):dc:=⟨none,.s i⟩
@[reducible,simp] def c0(a f:Nat)(l:List dv):dc:=⟨none,.call (some a) (.c (.func f [])) l⟩
@[reducible,simp] def bT(j:Nat)(w:Bool)(a b:Nat):dc:=⟨some (j,w),.s (.v a (.mov (.t b)))⟩
@[reducible,simp] def yj(j:Nat)(w:Bool)(a:Nat)(i:gh):dc:=⟨some (j,w),.s (.v a i)⟩
@[reducible,simp] def ys(j:Nat)(w:Bool)(i:ez):dc:=⟨some (j,w),.s i⟩
@[reducible,simp] def cC(d s a b:Nat):dc:=bS d (.iaddr s (.t a) (.t b))
@[reducible,simp] def ax(d s a:Nat):dc:=bS d (.load false s (.t a))
@[reducible,simp] def aX(d s a:Nat):dc:=bS d (.load true s (.t a))
@[reducible,simp] def aK(d o s a:Nat):dc:=bS d (.faddr o false s (.t a))
@[reducible,simp] def hZ(d o s a:Nat):dc:=bS d (.faddr o true s (.t a))
@[reducible,simp] def bt(d:Nat)(o:BinOp)(a b:Nat):dc:=bS d (.bin o false (.t a) (.t b))
@[reducible,simp] def aT(d:Nat)(o:BinOp)(a:Nat)(n:Int):dc:=bS d (.bin o false (.t a) (ef n))
@[reducible,simp] def cD(d a:Nat):dc:=bS d (.len (.t a))
@[reducible,simp] def cx(d a:Nat):dc:=bS d (.notB (.t a))
@[reducible,simp] def cp(d i a:Nat):dc:=bS d (.ext i (.t a))
@[reducible,simp] def c3(d a b:Nat):dc:=bS d (.pick (.t a) (.c (.bool true)) (.t b))
@[reducible,simp] def dh(d a b:Nat):dc:=bS d (.pick (.t a) (.t b) (.c (.bool false)))
@[reducible,simp] def bq(d:Nat)(b:Bool):dc:=bS d (.mov (.c (.bool b)))
@[reducible,simp] def cf(d:Nat)(n:Int):dc:=bS d (.mov (ef n))
@[reducible,simp] def bD(s a b:Nat):dc:=cS (.store s (.t a) (.t b))
@[reducible,simp] def ar(j:Nat)(w:Bool)(x:dc):dc:=⟨some (j,w),x.i⟩
@[reducible,simp] def aa(l:List dc)(c:C):C:= .seq (.region l) c
@[reducible,simp] def aZ(n:Nat)(a b:C):C:= .cond (.t n) a b
@[reducible,simp] def gu(d a:Nat)(l:List dv):dc:=⟨none,.call (some d) (.t a) l⟩
@[reducible,simp] def cH(d f a:Nat):dc:=c0 d f [.t a]
@[reducible,simp] def cc(d f a b:Nat):dc:=c0 d f [.t a,.t b]
@[reducible,simp] def da:List aj:=[.int .i64 0,.int .i64 0,.str [],.slice 4 .nil []]
@[reducible,simp] def iM:List aj:=[.int .i64 0,.int .i64 0,.int .i64 0,.str [],.slice 4 .nil []]
@[reducible,simp] def hf:List aj:=[.int .i64 0,.slice 5 .nil [],.slice 1 .nil [],.slice 2 .nil [],.slice 2 .nil []]
@[reducible,simp] def cW(a b:Nat):dc:=cS (.box a none (.t b))
@[reducible,simp] def cR(a:Nat)(l:List aj):dc:=cS (.alloc a none (.agg l))
@[reducible,simp] def eM(a n:Nat):dc:=bS a (.mov (.c (.slice n .nil [])))
@[reducible,simp] def gN(a b c d e:Nat):dc:=cS (.app a b c (.t d) (.t e))
@[reducible,simp] def dV(a b c:Nat)(l:List dv):dc:=cS (.bsl a b c l)
@[reducible,simp] def eV(a b:Nat):dc:=bS a (.nck (.t b))
@[reducible,simp] def jh(d s a:Nat)(n:Int):dc:=bS d (.iaddr s (.t a) (ef n))
@[reducible,simp] def gY(d:Nat)(l:List aj)(m:List (Nat×Nat×dv)):dc:=bS d (.build l m)
@[reducible,simp] def ff(a b c:Nat)(x:C):C:= .block 0 (.loop (aa [bt a .lss b c] (.seq (aZ a .skip (.exit 0)) x)))
end
end Go.Pv
namespace Go.Proofs.YtohaalphocaebaaGreatDoor
section
open Go Go.Pv
def R0:C:=(aa [cS (.box 2 (some 101) (.t 0)),cS (.box 3 (some 102) (.t 1)),cf 4 0] (aa [ax 6 1 2,cD 7 6,bS 8 (.mkf 58 [.t 2,.t 3]),cc 9 57 7 8,I 5 9] (.seq (.seq (.drawn true 24 [I 10 5,ax 11 1 2,cD 12 11,bt 13 .lss 10 12,I 14 13,ar 14 true (ax 15 1 2),bT 14 true 16 5,ar 14 true (cC 17 5 15 16),ar 14 true (aK 18 0 1 17),ar 14 true (ax 19 1 18),ar 14 true (ax 20 1 3),ar 14 true (bt 21 .eql 19 20),dh 22 14 21]) (aZ 22 (aa [I 23 5,I 4 23] .ret) .skip)) (aa [cf 4 (-1)] .ret))))
@[simp] def Y6:List bV:=[.tmp 4]
def Sb:C:=(aa [cS (.box 2 (some 201) (.t 0)),cW 3 1,cR 4 da,bq 5 false] (aa [aX 6 4 3,bS 7 (.mkf 61 [.t 2]),cc 8 60 6 7,cp 9 0 8,cp 10 1 8,bD 4 4 9,I 5 10] .ret))
@[simp] def Zb:List bV:=[.cell 4 true 4,.tmp 5]
def AD:C:=(aa [cW 1 0,cR 2 da] (aa [aK 6 0 1 1,ax 7 1 6,aK 8 1 1 1,ax 9 1 8,aK 10 2 1 1,ax 11 1 10,gY 12 da [(0,1,(.t 7)),(1,1,(.t 9)),(2,1,(.t 11))],cR 3 da,bD 4 3 12] (.seq (aa [aK 13 3 1 1,ax 14 1 13,cD 15 14,cf 16 0] (ff 17 16 15 (.seq (.block 1 (aa [cC 18 4 14 16,aX 19 4 18,cR 5 da,bD 4 5 19] (.drawn true 29 [aK 20 3 1 3,ax 21 1 20,aX 22 4 5,cH 23 37 22,dV 24 4 36 [.t 23],gN 25 4 36 21 24,aK 26 3 1 3,bD 1 26 25]))) (.region [aT 27 .add 16 1,I 16 27])))) (aa [aX 28 4 3,bD 4 2 28] .ret))))
@[simp] def an8:List bV:=[.cell 2 true 4]
def Sq:C:=(aa [cf 4 0] (aa [I 8 0,cf 5 0,I 6 8] (.seq (.block 0 (.loop (.seq (aa [I 9 5,I 10 6,bt 11 .lss 9 10] (aZ 11 .skip (.exit 0))) (.block 1 (aa [I 12 5,I 13 6,bt 14 .add 12 13,bS 15 (.conv .u64 (.t 14)),bS 16 (.bin .shr false (.t 15) (.c (.int .u64 1))),bS 17 (.conv .i64 (.t 16)),I 7 17] (aa [I 18 1,I 19 7,gu 20 18 [.t 19],cx 21 20] (aZ 21 (.region [I 22 7,aT 23 .add 22 1,I 5 23]) (.region [I 24 7,I 6 24])))))))) (aa [I 25 5,I 4 25] .ret))))
@[simp] def Ze:List bV:=[.tmp 4]
def R3:C:=(aa [bq 4 false] (.seq (.drawn true 12 [ax 5 1 1,I 6 0,cC 7 5 5 6,aK 8 0 1 7,ax 9 1 8,ax 10 1 2,bt 11 .geq 9 10,I 4 11]) .ret))
@[simp] def Y7:List bV:=[.tmp 4]
def Sd:C:=(aa [cW 2 0,cS (.box 3 (some 202) (.t 1)),cR 4 da,bq 5 false] (aa [aX 7 4 2,bS 8 (.mkf 113 [.t 3]),cc 9 112 7 8,I 6 9] (.seq (aa [I 10 6,aT 11 .gtr 10 5000] (aZ 11 (aa [gY 12 da [],bD 4 4 12,bq 5 false] .ret) .skip)) (aa [aX 13 4 2,ax 14 1 3,cc 15 115 13 14,bD 4 4 15,bq 5 true] .ret))))
@[simp] def OQ:List bV:=[.cell 4 true 4,.tmp 5]
def Sc:C:=(aa [cR 3 da,bq 4 false] (.seq (aa [ax 6 1 1,I 7 0,cc 8 24 6 7,I 5 8] (aa [I 9 5,aT 10 .geq 9 0] (aZ 10 (aa [ax 11 1 1,I 12 5,cC 13 5 11 12,hZ 14 1 4 13,aX 15 4 14,bD 4 3 15,bq 4 true] .ret) .skip))) (aa [gY 16 da [],bD 4 3 16,bq 4 false] .ret)))
@[simp] def OP:List bV:=[.cell 3 true 4,.tmp 4]
def RK:C:=(aa [bq 2 false] (.seq (aa [I 5 0,cD 6 5,aT 7 .gtr 6 400] (aZ 7 (aa [bq 2 false] .ret) .skip)) (.seq (aa [I 8 0,cD 9 8,cf 10 0] (ff 11 10 9 (.seq (.block 1 (aa [I 12 10,cC 13 5 8 10,aX 14 5 13,cR 4 iM,I 3 12,bD 5 4 14] (.seq (.drawn true 45 [aK 15 0 1 4,ax 16 1 15,aT 17 .lss 16 0,I 18 17,ar 18 false (aK 19 0 1 4),ar 18 false (ax 20 1 19),ar 18 false (aT 21 .gtr 20 100000),c3 22 18 21,I 23 22,bT 23 false 24 3,ar 23 false (aT 25 .gtr 24 0),bT 23 false 26 25,bT 26 true 27 0,bT 26 true 28 3,ar 26 true (aT 29 .sub 28 1),ar 26 true (cC 30 5 27 29),ar 26 true (aK 31 0 1 30),ar 26 true (ax 32 1 31),ar 26 true (aK 33 0 1 4),ar 26 true (ax 34 1 33),ar 26 true (bt 35 .geq 32 34),ar 23 false (dh 36 26 35),c3 37 23 36,I 38 37,ar 38 false (hZ 39 1 4 4),ar 38 false (aX 40 4 39),ar 38 false (cH 41 89 40),ar 38 false (cx 42 41),c3 43 38 42]) (aZ 43 (aa [bq 2 false] .ret) .skip)))) (.region [aT 44 .add 10 1,I 10 44])))) (aa [bq 2 true] .ret))))
@[simp] def IU:List bV:=[.tmp 2]
def RY:C:=(aa [cW 2 0,cW 3 1,bq 4 false] (aa [aX 5 4 2,aX 6 4 3,cc 7 117 5 6,aT 8 .eql 7 0,I 4 8] .ret))
@[simp] def Y4:List bV:=[.tmp 4]
def Ta:C:=(aa [cW 2 0,cW 3 1,cR 4 da] (aa [aX 5 4 2,aX 6 4 3,dV 7 4 36 [.t 5,.t 6],gY 8 da [(0,1,(ef 4)),(3,1,(.t 7))],bD 4 4 8] .ret))
@[simp] def Zw:List bV:=[.cell 4 true 4]
def K9:C:=(aa [cR 2 da] (aa [I 3 0,gY 4 da [(0,1,(ef 1)),(1,1,(.t 3))],bD 4 2 4] .ret))
@[simp] def ZA:List bV:=[.cell 2 true 4]
def KV:C:=(aa [bq 2 false] (.seq (aa [I 5 0,cD 6 5,cf 7 0] (ff 8 7 6 (.seq (.block 1 (aa [cC 9 4 5 7,aX 10 4 9,cR 4 da,bD 4 4 10] (aa [aX 11 4 4,cH 12 89 11,cx 13 12] (aZ 13 (aa [bq 2 false] .ret) .skip)))) (.region [aT 14 .add 7 1,I 7 14])))) (aa [bq 2 true] .ret)))
@[simp] def anN:List bV:=[.tmp 2]
def RI:C:=(aa [cW 1 0,bq 2 false] (aa [aX 3 4 1,c0 4 114 [.t 3,(ef 5000)],aT 5 .gtr 4 0,I 2 5] .ret))
@[simp] def YU:List bV:=[.tmp 2]
def yz:C:=(aa [cW 2 0] (.seq (aa [aK 4 0 1 2,ax 5 1 4,aT 6 .eql 5 1] (aZ 6 (.region [I 7 1,aK 8 1 1 2,ax 9 1 8,gu 10 7 [.t 9]]) .skip)) (aa [aK 11 0 1 2,ax 12 1 11,aT 13 .eql 12 4] (aZ 13 (aa [aK 14 3 1 2,ax 15 1 14,jh 16 4 15 0,aX 17 4 16,I 18 1,cc 19 107 17 18] (.region [aK 20 3 1 2,ax 21 1 20,jh 22 4 21 1,aX 23 4 22,I 24 1,cc 25 107 23 24])) .skip))))
@[simp] def zG:List bV:=[]
def Rz:C:=(aa [bq 2 false] (.seq (aa [I 4 0,bS 5 (.slen (.t 4)),aT 6 .lss 5 1,I 7 6,bT 7 false 8 0,ar 7 false (bS 9 (.slen (.t 8))),ar 7 false (aT 10 .gtr 9 12),c3 11 7 10,I 12 11,bT 12 false 13 0,ar 12 false (bS 14 (.sidx (.t 13) (ef 0))),ar 12 false (bS 15 (.bin .lss false (.t 14) (.c (.int .u8 97)))),c3 16 12 15,I 17 16,bT 17 false 18 0,ar 17 false (bS 19 (.sidx (.t 18) (ef 0))),ar 17 false (bS 20 (.bin .gtr false (.t 19) (.c (.int .u8 122)))),c3 21 17 20] (aZ 21 (aa [bq 2 false] .ret) .skip)) (.seq (aa [cf 3 1] (.block 0 (.loop (.seq (aa [I 22 3,I 23 0,bS 24 (.slen (.t 23)),bt 25 .lss 22 24] (aZ 25 .skip (.exit 0))) (.seq (.block 1 (aa [I 28 0,I 29 3,bS 30 (.sidx (.t 28) (.t 29)),bS 31 (.bin .geq false (.t 30) (.c (.int .u8 97))),I 32 31,bT 32 true 33 0,bT 32 true 34 3,ar 32 true (bS 35 (.sidx (.t 33) (.t 34))),ar 32 true (bS 36 (.bin .leq false (.t 35) (.c (.int .u8 122)))),dh 37 32 36,I 38 37,bT 38 false 39 0,bT 38 false 40 3,ar 38 false (bS 41 (.sidx (.t 39) (.t 40))),ar 38 false (bS 42 (.bin .geq false (.t 41) (.c (.int .u8 48)))),bT 38 false 43 42,bT 43 true 44 0,bT 43 true 45 3,ar 43 true (bS 46 (.sidx (.t 44) (.t 45))),ar 43 true (bS 47 (.bin .leq false (.t 46) (.c (.int .u8 57)))),ar 38 false (dh 48 43 47),c3 49 38 48,I 50 49,bT 50 false 51 0,bT 50 false 52 3,ar 50 false (bS 53 (.sidx (.t 51) (.t 52))),ar 50 false (bS 54 (.bin .eql false (.t 53) (.c (.int .u8 45)))),c3 55 50 54,cx 56 55] (aZ 56 (aa [bq 2 false] .ret) .skip))) (.region [I 26 3,aT 27 .add 26 1,I 3 27])))))) (aa [bq 2 true] .ret))))
@[simp] def IT:List bV:=[.tmp 2]
def wS:C:=(aa [cW 2 0,cf 4 0] (.seq (aa [aK 6 0 1 2,ax 7 1 6] (.block 0 (aa [aT 9 .eql 7 1,I 8 9] (aZ 8 (aa [I 10 1,aK 11 1 1 2,ax 12 1 11,gu 13 10 [.t 12],bS 14 (.min2 (.t 13) (ef 5001)),I 4 14] .ret) (aa [aT 16 .eql 7 4,I 15 16] (aZ 15 (aa [aK 17 3 1 2,ax 18 1 17,jh 19 4 18 0,aX 20 4 19,I 21 1,cc 22 112 20 21,I 5 22] (.seq (aa [I 23 5,aT 24 .gtr 23 5000] (aZ 24 (aa [I 25 5,I 4 25] .ret) .skip)) (aa [I 26 5,bS 27 (.bin .add false (ef 1) (.t 26)),aK 28 3 1 2,ax 29 1 28,jh 30 4 29 1,aX 31 4 30,I 32 1,cc 33 112 31 32,bt 34 .add 27 33,bS 35 (.min2 (.t 34) (ef 5001)),I 4 35] .ret))) .skip)))))) (aa [cf 4 1] .ret)))
@[simp] def wq:List bV:=[.tmp 4]
def Se:C:=(aa [cf 3 0] (.seq (aa [ax 7 1 1,I 8 0,gu 9 7 [.t 8],I 6 9,cp 10 0 6,cp 11 1 6,cR 4 da,bD 4 4 10,I 5 11] (aa [I 12 5] (aZ 12 (aa [aX 13 4 4,c0 14 114 [.t 13,(ef 5000)],I 3 14] .ret) .skip))) (aa [cf 3 1] .ret)))
@[simp] def Zc:List bV:=[.tmp 3]
def R6:C:=(aa [cW 2 0,cf 4 0] (.seq (aa [I 7 1,aT 8 .lss 7 1] (aZ 8 (aa [cf 4 (-1)] .ret) .skip)) (.seq (aa [aK 9 0 1 2,ax 10 1 9,aT 11 .neq 10 4] (aZ 11 (.seq (aa [aK 12 3 1 2,ax 13 1 12,cD 14 13,aT 15 .neq 14 0] (aZ 15 (aa [cf 4 (-1)] .ret) .skip)) (.seq (aa [aK 16 0 1 2,ax 17 1 16] (.block 0 (aa [aT 19 .eql 17 0,I 18 19] (aZ 18 (aa [aK 20 1 1 2,ax 21 1 20,aT 22 .neq 21 0,I 23 22,ar 23 false (aK 24 2 1 2),ar 23 false (ax 25 1 24),yj 23 false 26 (.bin .neq false (.t 25) (.c (.str []))),c3 27 23 26] (aZ 27 (aa [cf 4 (-1)] .ret) .skip)) (aa [aT 29 .eql 17 1,I 28 29] (aZ 28 (aa [aK 30 1 1 2,ax 31 1 30,aT 32 .lss 31 0,I 33 32,ar 33 false (aK 34 1 1 2),ar 33 false (ax 35 1 34),ar 33 false (aT 36 .gtr 35 100000),c3 37 33 36,I 38 37,ar 38 false (aK 39 2 1 2),ar 38 false (ax 40 1 39),yj 38 false 41 (.bin .neq false (.t 40) (.c (.str []))),c3 42 38 41] (aZ 42 (aa [cf 4 (-1)] .ret) .skip)) (aa [aT 44 .eql 17 2,I 43 44] (aZ 43 (aa [aK 45 1 1 2,ax 46 1 45,aT 47 .neq 46 0,I 48 47,ar 48 false (aK 49 2 1 2),ar 48 false (ax 50 1 49),ar 48 false (cH 51 109 50),ar 48 false (cx 52 51),c3 53 48 52] (aZ 53 (aa [cf 4 (-1)] .ret) .skip)) (aa [aT 55 .eql 17 3,I 54 55] (aZ 54 (aa [aK 56 1 1 2,ax 57 1 56,aT 58 .lss 57 (-1000000000),I 59 58,ar 59 false (aK 60 1 1 2),ar 59 false (ax 61 1 60),ar 59 false (aT 62 .gtr 61 1000000000),c3 63 59 62,I 64 63,ar 64 false (aK 65 2 1 2),ar 64 false (ax 66 1 65),yj 64 false 67 (.bin .neq false (.t 66) (.c (.str []))),c3 68 64 67] (aZ 68 (aa [cf 4 (-1)] .ret) .skip)) (aa [cf 4 (-1)] .ret))))))))))) (aa [cf 4 1] .ret))) .skip)) (.seq (aa [aK 69 1 1 2,ax 70 1 69,aT 71 .neq 70 0,I 72 71,ar 72 false (aK 73 2 1 2),ar 72 false (ax 74 1 73),yj 72 false 75 (.bin .neq false (.t 74) (.c (.str []))),c3 76 72 75,I 77 76,ar 77 false (aK 78 3 1 2),ar 77 false (ax 79 1 78),ar 77 false (cD 80 79),ar 77 false (aT 81 .neq 80 2),c3 82 77 81] (aZ 82 (aa [cf 4 (-1)] .ret) .skip)) (aa [aK 83 3 1 2,ax 84 1 83,jh 85 4 84 0,aX 86 4 85,I 87 1,aT 88 .sub 87 1,cc 89 114 86 88,I 5 89] (.seq (aa [I 90 5,aT 91 .lss 90 0] (aZ 91 (aa [cf 4 (-1)] .ret) .skip)) (aa [aK 92 3 1 2,ax 93 1 92,jh 94 4 93 1,aX 95 4 94,I 96 1,aT 97 .sub 96 1,I 98 5,bt 99 .sub 97 98,cc 100 114 95 99,I 6 100] (.seq (aa [I 101 6,aT 102 .lss 101 0] (aZ 102 (aa [cf 4 (-1)] .ret) .skip)) (aa [I 103 5,bS 104 (.bin .add false (ef 1) (.t 103)),I 105 6,bt 106 .add 104 105,I 4 106] .ret)))))))))
@[simp] def I0:List bV:=[.tmp 4]
def yA:C:=(aa [cW 2 0,cR 4 da] (.seq (aa [aK 7 0 1 2,ax 8 1 7] (.block 0 (aa [aT 10 .eql 8 1,I 9 10] (aZ 9 (.seq (aa [I 12 1,aK 13 1 1 2,ax 14 1 13,gu 15 12 [.t 14],I 11 15,cp 16 0 11,cp 17 1 11,cR 5 da,bD 4 5 16,I 6 17] (aa [I 18 6] (aZ 18 (aa [aX 19 4 5,cH 20 136 19,bD 4 4 20] .ret) .skip))) (aa [aX 21 4 2,bD 4 4 21] .ret)) (aa [aT 23 .eql 8 4,I 22 23] (aZ 22 (.seq (.drawn false 38 [aK 24 3 1 2,ax 25 1 24,jh 26 4 25 0,aX 27 4 26,I 28 1,cc 29 115 27 28,aK 30 3 1 2,ax 31 1 30,jh 32 4 31 1,aX 33 4 32,I 34 1,cc 35 115 33 34,cc 36 154 29 35,bD 4 4 36]) .ret) .skip)))))) (aa [aX 37 4 2,bD 4 4 37] .ret)))
@[simp] def zH:List bV:=[.cell 4 true 4]
def Gu:C:=(aa [cW 2 0,cW 3 1,cf 4 0] (.seq (aa [aK 6 0 1 2,ax 7 1 6,aK 8 0 1 3,ax 9 1 8,bt 10 .neq 7 9] (aZ 10 (aa [aK 11 0 1 2,ax 12 1 11,aK 13 0 1 3,ax 14 1 13,cc 15 155 12 14,I 4 15] .ret) .skip)) (.seq (aa [aK 16 1 1 2,ax 17 1 16,aK 18 1 1 3,ax 19 1 18,bt 20 .neq 17 19] (aZ 20 (aa [aK 21 1 1 2,ax 22 1 21,aK 23 1 1 3,ax 24 1 23,cc 25 155 22 24,I 4 25] .ret) .skip)) (.seq (aa [aK 26 2 1 2,ax 27 1 26,aK 28 2 1 3,ax 29 1 28,bt 30 .neq 27 29] (aZ 30 (.seq (aa [aK 31 2 1 2,ax 32 1 31,aK 33 2 1 3,ax 34 1 33,bt 35 .lss 32 34] (aZ 35 (aa [cf 4 (-1)] .ret) .skip)) (aa [cf 4 1] .ret)) .skip)) (.seq (aa [aK 36 0 1 2,ax 37 1 36,aT 38 .neq 37 4] (aZ 38 (aa [cf 4 0] .ret) .skip)) (.seq (.seq (.drawn true 60 [aK 39 3 1 2,ax 40 1 39,jh 41 4 40 0,aX 42 4 41,aK 43 3 1 3,ax 44 1 43,jh 45 4 44 0,aX 46 4 45,cc 47 117 42 46,I 5 47]) (aa [I 48 5,aT 49 .neq 48 0] (aZ 49 (aa [I 50 5,I 4 50] .ret) .skip))) (.seq (.drawn true 60 [aK 51 3 1 2,ax 52 1 51,jh 53 4 52 1,aX 54 4 53,aK 55 3 1 3,ax 56 1 55,jh 57 4 56 1,aX 58 4 57,cc 59 117 54 58,I 4 59]) .ret)))))))
@[simp] def I1:List bV:=[.tmp 4]
def KT:C:=(aa [cW 1 0,cR 2 da] (.seq (aa [aK 3 0 1 1,ax 4 1 3,aT 5 .neq 4 4] (aZ 5 (aa [aK 6 0 1 1,ax 7 1 6,aK 8 1 1 1,ax 9 1 8,aK 10 2 1 1,ax 11 1 10,gY 12 da [(0,1,(.t 7)),(1,1,(.t 9)),(2,1,(.t 11))],bD 4 2 12] .ret) .skip)) (.seq (.drawn true 25 [aK 13 3 1 1,ax 14 1 13,jh 15 4 14 0,aX 16 4 15,cH 17 136 16,aK 18 3 1 1,ax 19 1 18,jh 20 4 19 1,aX 21 4 20,cH 22 136 21,dV 23 4 36 [.t 17,.t 22],gY 24 da [(0,1,(ef 4)),(3,1,(.t 23))],bD 4 2 24]) .ret)))
@[simp] def anI:List bV:=[.cell 2 true 4]
def Sa:C:=(aa [cW 2 0,cW 3 1,cR 4 da] (aa [aX 5 4 2,aX 6 4 3,dV 7 4 36 [.t 5,.t 6],gY 8 da [(0,1,(ef 4)),(3,1,(.t 7))],bD 4 4 8] .ret))
@[simp] def Za:List bV:=[.cell 4 true 4]
def R9:C:=(aa [cf 4 0] (.seq (aa [I 5 0,I 6 1,bt 7 .lss 5 6] (aZ 7 (aa [cf 4 (-1)] .ret) .skip)) (.seq (aa [I 8 0,I 9 1,bt 10 .gtr 8 9] (aZ 10 (aa [cf 4 1] .ret) .skip)) (aa [cf 4 0] .ret))))
@[simp] def Y9:List bV:=[.tmp 4]
def Sg:C:=(aa [eM 2 1] (aa [cS (.bslm 5 (some 306) 1 3 []),I 3 5] (.seq (aa [I 6 0,cS (.range 7 none (.t 6))] (.block 0 (.loop (aa [⟨none,.next 8 (.t 7)⟩,cp 9 0 8] (.seq (aZ 9 .skip (.exit 0)) (.block 1 (aa [bS 10 (.ment (.t 7)),cp 11 0 10,I 4 11] (.region [I 12 3,I 13 4,dV 14 1 3 [.t 13],cS (.appm 15 none 1 3 (.t 12) (.t 14)),I 3 15])))))))) (aa [I 16 3,cH 17 190 16] (.seq (.pub 3 (.region [I 18 3,I 2 18])) .ret)))))
@[simp] def Zd:List bV:=[.tmp 2]
def bC:List (Nat×dy):=[
 (3,⟨1,8,.int .i64,.int .i64 0⟩),
 (9,⟨1,16,.str,.str []⟩),
 (23,⟨1,24,.slice 54,.slice 5 .nil []⟩),
 (34,⟨1,24,.slice 36,.slice 4 .nil []⟩),
 (36,⟨4,56,.struct [(0,3),(1,3),(2,9),(3,34)],.agg [.int .i64 0,.int .i64 0,.str [],.slice 4 .nil []]⟩),
 (51,⟨1,8,.map 3 4,.junk⟩),
 (54,⟨5,64,.struct [(0,3),(1,36)],.agg [.int .i64 0,.int .i64 0,.int .i64 0,.str [],.slice 4 .nil []]⟩),
 (92,⟨1,8,.other,.junk⟩),
 (97,⟨1,24,.slice 3,.slice 1 .nil []⟩),
 (117,⟨1,8,.int .u64,.int .u64 0⟩)]
theorem mixed:aw.follows .mixedOrders=true:=by kernel_rfl
theorem bo{bC:List (Nat×dy)}(aI:fJ aw bC=true){f:FuncId}{fn:Func}(aN:aw.funcs[f]? =some fn){c:C}{eT:List bV}{n:Nat}(eh:b6 bC c eT n fn=true){args:List aj}{r:aj}(he:gQ args->c4 aw [] c (bp eT r) ⟨j2 0 args,[],[],0,[]⟩)(av:args.length<=n:=by simp)(aM:aJ (fun _=>ey) r:=by simp[aJ]):bK aw f args r:=bK.mk mixed aI aN eh av aM he
theorem fT:fJ aw bC=true:=by kernel_rfl
theorem alD:b6 bC R0 Y6 2 Tryz.f24=true:=by kernel_rfl
theorem aeM:aw.funcs[(24:Nat)]? =some Tryz.f24:=Tryz.func24
theorem alM:b6 bC Sb Zb 2 Tryz.f29=true:=by kernel_rfl
theorem aeV:aw.funcs[(29:Nat)]? =some Tryz.f29:=Tryz.func29
theorem EP:b6 bC AD an8 1 Tryz.f37=true:=by kernel_rfl
theorem Dj:aw.funcs[(37:Nat)]? =some Tryz.f37:=Tryz.func37
theorem al0:b6 bC Sq Ze 2 Tryz.f57=true:=by kernel_rfl
theorem ae9:aw.funcs[(57:Nat)]? =some Tryz.f57:=Tryz.func57
theorem alE:b6 bC R3 Y7 3 Tryz.f58=true:=by kernel_rfl
theorem aeN:aw.funcs[(58:Nat)]? =some Tryz.f58:=Tryz.func58
theorem alO:b6 bC Sd OQ 2 Tryz.f60=true:=by kernel_rfl
theorem aeX:aw.funcs[(60:Nat)]? =some Tryz.f60:=Tryz.func60
theorem alN:b6 bC Sc OP 2 Tryz.f61=true:=by kernel_rfl
theorem aeW:aw.funcs[(61:Nat)]? =some Tryz.f61:=Tryz.func61
theorem alm:b6 bC RK IU 1 Tryz.f62=true:=by kernel_rfl
theorem aew:aw.funcs[(62:Nat)]? =some Tryz.f62:=Tryz.func62
theorem alB:b6 bC RY Y4 2 Tryz.f64=true:=by kernel_rfl
theorem aeK:aw.funcs[(64:Nat)]? =some Tryz.f64:=Tryz.func64
theorem amH:b6 bC Ta Zw 2 Tryz.f83=true:=by kernel_rfl
theorem afQ:aw.funcs[(83:Nat)]? =some Tryz.f83:=Tryz.func83
theorem Ys:b6 bC K9 ZA 1 Tryz.f84=true:=by kernel_rfl
theorem Ux:aw.funcs[(84:Nat)]? =some Tryz.f84:=Tryz.func84
theorem Yk:b6 bC KV anN 1 Tryz.f87=true:=by kernel_rfl
theorem Uq:aw.funcs[(87:Nat)]? =some Tryz.f87:=Tryz.func87
theorem alj:b6 bC RI YU 1 Tryz.f89=true:=by kernel_rfl
theorem aeu:aw.funcs[(89:Nat)]? =some Tryz.f89:=Tryz.func89
theorem B0:b6 bC yz zG 2 Tryz.f107=true:=by kernel_rfl
theorem AO:aw.funcs[(107:Nat)]? =some Tryz.f107:=Tryz.func107
theorem ala:b6 bC Rz IT 1 Tryz.f109=true:=by kernel_rfl
theorem ael:aw.funcs[(109:Nat)]? =some Tryz.f109:=Tryz.func109
theorem zA:b6 bC wS wq 2 Tryz.f112=true:=by kernel_rfl
theorem yH:aw.funcs[(112:Nat)]? =some Tryz.f112:=Tryz.func112
theorem alP:b6 bC Se Zc 2 Tryz.f113=true:=by kernel_rfl
theorem aeY:aw.funcs[(113:Nat)]? =some Tryz.f113:=Tryz.func113
theorem alH:b6 bC R6 I0 2 Tryz.f114=true:=by kernel_rfl
theorem aeQ:aw.funcs[(114:Nat)]? =some Tryz.f114:=Tryz.func114
theorem B1:b6 bC yA zH 2 Tryz.f115=true:=by kernel_rfl
theorem AP:aw.funcs[(115:Nat)]? =some Tryz.f115:=Tryz.func115
theorem On:b6 bC Gu I1 2 Tryz.f117=true:=by kernel_rfl
theorem LH:aw.funcs[(117:Nat)]? =some Tryz.f117:=Tryz.func117
theorem Yi:b6 bC KT anI 1 Tryz.f136=true:=by kernel_rfl
theorem Uo:aw.funcs[(136:Nat)]? =some Tryz.f136:=Tryz.func136
theorem alL:b6 bC Sa Za 2 Tryz.f154=true:=by kernel_rfl
theorem aeU:aw.funcs[(154:Nat)]? =some Tryz.f154:=Tryz.func154
theorem alK:b6 bC R9 Y9 2 Tryz.f155=true:=by kernel_rfl
theorem aeT:aw.funcs[(155:Nat)]? =some Tryz.f155:=Tryz.func155
theorem alR:b6 bC Sg Zd 1 Tryz.f166=true:=by kernel_rfl
theorem ae0:aw.funcs[(166:Nat)]? =some Tryz.f166:=Tryz.func166
end
end Go.Proofs.YtohaalphocaebaaGreatDoor
namespace Go.Pv
section
open Go Go.RowKit
theorem eI{α:Type}{l:List α}{i:Nat}(h:i<l.length):∃b,l[i]? =some b/\∀h,(l[i]'h)=b:=⟨l[i],cg h,fun _=>rfl⟩
def Pu(st:bn)(i:ez):Prop:=match nb st i with|some (c,_)=>c|none=>ey
def Pw(st:bn)(i:ez):bn:=match nb st i with|some (_,s)=>s|none=>st
def F3(P:cK)(r:List dc)(K:bn->Prop)(st:bn):Prop:=iv P r st K
def Ap(P:cK)(ob:List aL)(c:C)(Q:Exit->bn->Prop)(st:bn):Prop:=c4 P ob c Q st
def qH(P:cK)(v:aj)(s:Nat)(w:Bool)(i:eo)(r:List dc)(st:bn)(K:bn->Prop):Prop:=
 match v with
 | .bool b=>(b=w->iv P (⟨none,i⟩::r) {st with t:=put s (.bool w) st.t} K)/\(b= !w->iv P r {st with t:=eS i.dst (.tuple []) (put s (.bool !w) st.t)} K)
 | .tuple []=>iv P r {st with t:=eS i.dst (.tuple []) st.t} K
 |_=>ey
def vq(P:cK)(ob:List aL)(v:aj)(x:dv)(t e:C)(Q:Exit->bn->Prop)(st:bn):Prop:=
 match v with
 | .bool b=>(b=true->c4 P ob t Q (tn st x true))/\(b=false->c4 P ob e Q (tn st x false))
 |_=>ey
def Ly(P:cK)(v:aj)(d:Option Nat)(xs:List aj)(r:List dc)(st:bn)(K:bn->Prop):Prop:=
 match v with
 | .func n dr=>cQ P n (dq (xs++dr)) st d (F3 P r K)
 |_=>ey
section
variable {P:cK} {ob:List aL} {st:bn} {K:bn->Prop} {r:List dc} {Q:Exit->bn->Prop} {a b c t e:C}
theorem ad5:iv P [] st K=K st:=rfl
theorem ad6{i:ez}:iv P (⟨none,.s i⟩::r) st K=(Pu st i/\iv P r (Pw st i) K):=by
 simp only[iv,vp,Pu,Pw];cases nb st i with
 |none=>simp
 |some x=>rfl
theorem ad2{d:Option Nat}{f:dv}{xs:List dv}:iv P (⟨none,.call d f xs⟩::r) st K=Ly P (cu st.t f) d (xs.map (cu st.t)) r st K:=by simp only[iv,vp,Ly];rfl
theorem ad4{d:Nat}{x:dv}:iv P (⟨none,.next d x⟩::r) st K=tX st d (cu st.t x) (F3 P r K):=by simp only[iv,vp];rfl
def yq(P:cK)(ob:List aL)(c:C)(Q:Exit->bn->Prop):Option bn->Prop
 |some st=>c4 P ob c Q st
 |none=>ey
theorem abZ:yq P ob c Q (some st)=c4 P ob c Q st:=rfl
theorem adH{s:Nat}:c4 P ob (.pub s c) Q st=yq P ob c Q (xS st s):=by simp only[c4];cases xS st s<;>rfl
theorem adD{ql:Bool}{s:Nat}:c4 P ob (.fg ql s c) Q st=c4 P ob c Q {st with t:=put s (AS ql (get s st.t)) st.t}:=rfl
theorem adE{ql:Bool}{s:Nat}{d:C}:c4 P ob (.seq (.fg ql s c) d) Q st=c4 P ob (.seq c d) Q {st with t:=put s (AS ql (get s st.t)) st.t}:=rfl
theorem adF{gG:Bool}{s:Nat}:c4 P ob (.fz gG s c) Q st=yq P ob c Q (w1 st gG s):=by simp only[c4];cases w1 st gG s<;>rfl
theorem adG{gG:Bool}{s:Nat}{d:C}:c4 P ob (.seq (.fz gG s c) d) Q st=yq P ob (.seq c d) Q (w1 st gG s):=by simp only[c4];cases w1 st gG s<;>rfl
theorem adI{s:Nat}:c4 P ob (.pubB s c) Q st=yq P ob c Q (xR st s):=by simp only[c4];cases xR st s<;>rfl
theorem ad1{n:Nat}{dr:List aj}{d:Option Nat}{xs:List aj}:Ly P (.func n dr) d xs r st K=cQ P n (dq (xs++dr)) st d (F3 P r K):=rfl
theorem ad3{s:Nat}{w:Bool}{i:eo}:iv P (⟨some (s,w),i⟩::r) st K=qH P (get s st.t) s w i r st K:=by simp only[iv,qH];try rfl
theorem aeb{s:Nat}{i:eo}:qH P (.bool true) s true i r st K=iv P (⟨none,i⟩::r) {st with t:=put s (.bool true) st.t} K:=by simp[qH]
theorem ad7{s:Nat}{i:eo}:qH P (.bool false) s false i r st K=iv P (⟨none,i⟩::r) {st with t:=put s (.bool false) st.t} K:=by simp[qH]
theorem aea{s:Nat}{i:eo}:qH P (.bool true) s false i r st K=iv P r {st with t:=eS i.dst (.tuple []) (put s (.bool true) st.t)} K:=by simp[qH]
theorem ad8{s:Nat}{i:eo}:qH P (.bool false) s true i r st K=iv P r {st with t:=eS i.dst (.tuple []) (put s (.bool false) st.t)} K:=by simp[qH]
theorem ad9{s:Nat}{w:Bool}{i:eo}:qH P (.tuple []) s w i r st K=iv P r {st with t:=eS i.dst (.tuple []) st.t} K:=by simp[qH]
theorem bM{x:Bool}{s:Nat}{w:Bool}{i:eo}(J:x=w->iv P (⟨none,i⟩::r) {st with t:=put s (.bool w) st.t} K)(U:x= !w->iv P r {st with t:=eS i.dst (.tuple []) (put s (.bool !w) st.t)} K):qH P (.bool x) s w i r st K:=⟨J,U⟩
theorem ads:c4 P ob (.seq (.seq a b) c) Q st=c4 P ob (.seq a (.seq b c)) Q st:=by simp only[c4];congr 1;funext e st';cases e<;>rfl
theorem adN:c4 P ob (.seq .skip c) Q st=c4 P ob c Q st:=rfl
theorem adL:c4 P ob (.seq .ret c) Q st=Q .ret st:=rfl
theorem adB{n:Nat}:c4 P ob (.seq (.exit n) c) Q st=Q (.exit n) st:=rfl
theorem adO:c4 P ob .skip Q st=Q .normal st:=rfl
theorem adM:c4 P ob .ret Q st=Q .ret st:=rfl
theorem adC{n:Nat}:c4 P ob (.exit n) Q st=Q (.exit n) st:=rfl
theorem adJ{gs:List dc}:c4 P ob (.seq (.region gs) c) Q st=iv P gs st (Ap P ob c Q):=rfl
theorem adK{gs:List dc}:c4 P ob (.region gs) Q st=iv P gs st (Q .normal):=rfl
theorem adv{x:dv}:c4 P ob (.seq (.cond x t e) c) Q st=vq P ob (cu st.t x) x (.seq t c) (.seq e c) Q st:=by simp only[c4,vq];try rfl
theorem adw{x:dv}:c4 P ob (.cond x t e) Q st=vq P ob (cu st.t x) x t e Q st:=by simp only[c4,vq];try rfl
theorem adQ{x:dv}:vq P ob (.bool true) x t e Q st=c4 P ob t Q (tn st x true):=by simp[vq]
theorem adP{x:dv}:vq P ob (.bool false) x t e Q st=c4 P ob e Q (tn st x false):=by simp[vq]
theorem bJ{v:Bool}{x:dv}(J:v=true->c4 P ob t Q (tn st x true))(U:v=false->c4 P ob e Q (tn st x false)):vq P ob (.bool v) x t e Q st:=⟨J,U⟩
def Aj(P:cK)(ob:List aL)(id:Nat)(c:C)(Q:Exit->bn->Prop)(e:Exit)(st:bn):Prop:=
 match e with
 | .normal=>c4 P ob c Q st
 | .exit j=>if j=id then c4 P ob c Q st else Q (.exit j) st
 |e=>Q e st
theorem adt{id:Nat}:c4 P ob (.seq (.block id a) c) Q st=c4 P ob a (Aj P ob id c Q) st:=by
 simp only[c4];congr 1;funext e st';cases e with
 |exit j=>rfl
 |_=>rfl
theorem adu{id:Nat}:c4 P ob (.block id a) Q st=c4 P ob a (Aj P ob id .skip Q) st:=by
 simp only[c4];congr 1;funext e st';cases e with
 |exit j=>simp only[Aj];by_cases ag:j=id<;>simp[ag,c4]
 |_=>rfl
theorem abL{id:Nat}:Aj P ob id c Q .normal st=Ap P ob c Q st:=rfl
theorem abK{id j:Nat}:Aj P ob id c Q (.exit j) st=if j=id then Ap P ob c Q st else Q (.exit j) st:=rfl
theorem abM{id:Nat}:Aj P ob id c Q .ret st=Q .ret st:=rfl
def bR(ob:List aL)(hv:Nat->bn->Prop)(k:Nat)(Q:Exit->bn->Prop)(e:Exit)(st:bn):Prop:=
 match e with
 | .normal=> ∃bI pP,bI<k/\jn ob st pP/\hv bI pP
 |e=>Q e st
theorem F0{hv:Nat->bn->Prop}{k:Nat}:bR ob hv k Q .normal st= ∃bI pP,bI<k/\jn ob st pP/\hv bI pP:=rfl
theorem abU{hv:Nat->bn->Prop}{k n:Nat}:bR ob hv k Q (.exit n) st=Q (.exit n) st:=rfl
theorem abV{hv:Nat->bn->Prop}{k:Nat}:bR ob hv k Q .ret st=Q .ret st:=rfl
theorem n1(hv:Nat->bn->Prop)(m:Nat)(x0:bn)(hw:jn ob st x0)(bz:hv m x0)(h:∀k s,hv k s->(∀i,gi (get i s.t))->(∀j cs,look j s.b=some cs->h9 cs=true->gH cs)->c4 P ob a (bR ob hv k Q) s):c4 P ob (.loop a) Q st:=by
 simp only[c4];refine⟨hv,m,x0,hw,bz,fun k s J U h3=>?_⟩;have:=h k s J U h3;have bE:(bR ob hv k Q)=(fun e ah=>match e with| .normal=> ∃bI pP,bI<k/\jn ob ah pP/\hv bI pP|e=>Q e ah):=by funext e ah;cases e<;>rfl
 rw[bE]at this;exact this
end
/-Regions cG draw lM order. -/
def Ps(n0:Nat)(st:bn)(i:ez):Prop:=match eR (p9 n0 i) st.n (p9 n0 i::st.o) st i with|some (c,_)=>c|none=>ey
def Pt(n0:Nat)(st:bn)(i:ez):bn:=match eR (p9 n0 i) st.n (p9 n0 i::st.o) st i with|some (_,s)=>s|none=>st
def Ke(P:cK)(q:Bool)(nw:List Nat)(n0:Nat)(r:List dc)(K:bn->Prop)(st:bn):Prop:=ih P q nw n0 r st K
def qG(P:cK)(q:Bool)(nw:List Nat)(n0:Nat)(v:aj)(s:Nat)(w:Bool)(i:eo)(r:List dc)(st:bn)(K:bn->Prop):Prop:=
 match v with
 | .bool b=>(b=w->ih P q nw n0 (⟨none,i⟩::r) {st with t:=put s (.bool w) st.t} K)/\(b= !w->ih P q nw n0 r {st with t:=eS i.dst (.tuple []) (put s (.bool !w) st.t)} K)
 | .tuple []=>ih P q nw n0 r {st with t:=eS i.dst (.tuple []) st.t} K
 |_=>ey
def Lx(P:cK)(q:Bool)(nw:List Nat)(n0:Nat)(v:aj)(d:Option Nat)(xs:List aj)(r:List dc)(st:bn)(K:bn->Prop):Prop:=
 match v with
 | .func n dr=>gx P q nw n (dq (xs++dr)) st d (Ke P q nw n0 r K)
 |_=>ey
section
variable {P:cK} {ob:List aL} {st:bn} {K:bn->Prop} {r:List dc} {Q:Exit->bn->Prop} {c:C} {q:Bool} {nw:List Nat} {n0 N:Nat}
theorem adU:ih P q nw n0 [] st K=K st:=rfl
theorem adV{i:ez}:ih P q nw n0 (⟨none,.s i⟩::r) st K=(mK q nw n0 st i/\Ps n0 st i/\ih P q nw n0 r (Pt n0 st i) K):=by
 simp only[ih,k5,Ps,Pt];cases eR (p9 n0 i) st.n (p9 n0 i::st.o) st i with
 |none=>simp
 |some x=>rfl
theorem adS{d:Option Nat}{f:dv}{xs:List dv}:ih P q nw n0 (⟨none,.call d f xs⟩::r) st K=Lx P q nw n0 (cu st.t f) d (xs.map (cu st.t)) r st K:=by simp only[ih,k5,Lx];rfl
theorem adR{n:Nat}{dr:List aj}{d:Option Nat}{xs:List aj}:Lx P q nw n0 (.func n dr) d xs r st K=gx P q nw n (dq (xs++dr)) st d (Ke P q nw n0 r K):=rfl
theorem adT{s:Nat}{w:Bool}{i:eo}:ih P q nw n0 (⟨some (s,w),i⟩::r) st K=qG P q nw n0 (get s st.t) s w i r st K:=by simp only[ih,qG];try rfl
theorem ad0{s:Nat}{i:eo}:qG P q nw n0 (.bool true) s true i r st K=ih P q nw n0 (⟨none,i⟩::r) {st with t:=put s (.bool true) st.t} K:=by simp[qG]
theorem adW{s:Nat}{i:eo}:qG P q nw n0 (.bool false) s false i r st K=ih P q nw n0 (⟨none,i⟩::r) {st with t:=put s (.bool false) st.t} K:=by simp[qG]
theorem adZ{s:Nat}{i:eo}:qG P q nw n0 (.bool true) s false i r st K=ih P q nw n0 r {st with t:=eS i.dst (.tuple []) (put s (.bool true) st.t)} K:=by simp[qG]
theorem adX{s:Nat}{i:eo}:qG P q nw n0 (.bool false) s true i r st K=ih P q nw n0 r {st with t:=eS i.dst (.tuple []) (put s (.bool false) st.t)} K:=by simp[qG]
theorem adY{s:Nat}{w:Bool}{i:eo}:qG P q nw n0 (.tuple []) s w i r st K=ih P q nw n0 r {st with t:=eS i.dst (.tuple []) st.t} K:=by simp[qG]
theorem bL{x:Bool}{s:Nat}{w:Bool}{i:eo}(J:x=w->ih P q nw n0 (⟨none,i⟩::r) {st with t:=put s (.bool w) st.t} K)(U:x= !w->ih P q nw n0 r {st with t:=eS i.dst (.tuple []) (put s (.bool !w) st.t)} K):qG P q nw n0 (.bool x) s w i r st K:=⟨J,U⟩
theorem adx{gs:List dc}:c4 P ob (.seq (.drawn q N gs) c) Q st=ih P q [] st.n gs st (va (st.n+N) st.o (Ap P ob c Q)):=rfl
theorem ady{gs:List dc}:c4 P ob (.drawn q N gs) Q st=ih P q [] st.n gs st (va (st.n+N) st.o (Q .normal)):=rfl
theorem adz{gs:List dc}:c4 P ob (.seq (.drawnW nw N gs) c) Q st=((∀j∈nw,.obj j∉st.o)/\ih P false nw st.n gs st (va (st.n+N) (nw.map aL.obj++st.o) (Ap P ob c Q))):=rfl
theorem adA{gs:List dc}:c4 P ob (.drawnW nw N gs) Q st=((∀j∈nw,.obj j∉st.o)/\ih P false nw st.n gs st (va (st.n+N) (nw.map aL.obj++st.o) (Q .normal))):=rfl
theorem gx.val{n:Nat}{args:List aj}{d:Option Nat}{r:aj}(ae:aO (fun _=>ey) args)(aN:bK P n args r)(h:K {st with t:=eS d r st.t}):gx P q nw n args st d K:=by
 refine .inr ⟨⟨[],[]⟩,⟨[],[]⟩,r,none,fun k cs ae=>by simp[look]at ae,fun k cs ae=>by simp[look]at ae,uP,uP,⟨fun k h=>.inl h,fun k h=>.inl h,fun k h=>h,fun k h=>h,fun k h=>by cases h⟩,ki (fun _ h=>h.elim) _ ae,aN,fun _=>⟨rfl,rfl⟩,?_⟩;have:({after st ⟨[],[]⟩ ⟨[],[]⟩ d r with o:=st.o}:bn)={st with t:=eS d r st.t}:=by simp[after,J4]
 rw[this];exact h
theorem aB{n:Nat}{args:List aj}{d:Option Nat}{r:aj}(aN:bK P n args r)(h:K {st with t:=eS d r st.t})(ae:aO (fun _=>ey) args:=by simp):gx P q nw n args st d K:=gx.val ae aN h
end
section
variable {k:IntKind} {n:Int} {b:Bool} {s:List UInt8} {sz:Nat} {tag:CU} {xs:List aj} {key:aL} {off f:Nat} {x:aj}
@[simp]theorem au1:e4 (.int k n)=true:=rfl
@[simp]theorem auP:e4 (.bool b)=true:=rfl
@[simp]theorem au8:e4 (.str s)=true:=rfl
@[simp]theorem au7:e4 (.slice sz tag xs)=true:=rfl
@[simp]theorem auM:e4 (.agg xs)=true:=rfl
@[simp]theorem au5:e4 (.ptr key off)=true:=rfl
@[simp]theorem auX:e4 (.eptr x)=true:=rfl
@[simp]theorem au0{t:Nat}:e4 (.iface t x)=true:=rfl
@[simp]theorem arX{t:Nat}:cells (.iface t x)=[.iface t x]:=rfl
@[simp]theorem auR{a:Option Addr}{n c:Nat}:e4 (.cst (.slice a n c))=true:=rfl
@[simp]theorem auS{s}:e4 (.cst (.string s))=true:=rfl
@[simp]theorem au4:e4 .nilp=true:=rfl
@[simp]theorem auY:e4 (.func f xs)=true:=rfl
@[simp]theorem auZ:e4 (.gmap key)=true:=rfl
@[simp]theorem au6{n:Nat}:e4 (.row sz key n)=true:=rfl
@[simp]theorem ar4{n:Nat}:cells (.row sz key n)=[.row sz key n]:=rfl
@[simp]theorem arY:cells (.int k n)=[.int k n]:=rfl
@[simp]theorem arO:cells (.bool b)=[.bool b]:=rfl
@[simp]theorem ar6:cells (.str s)=[.str s]:=rfl
@[simp]theorem ar5:cells (.slice sz tag xs)=[.slice sz tag xs]:=rfl
@[simp]theorem arL:cells (.agg xs)=xs:=rfl
@[simp]theorem ar3:cells (.ptr key off)=[.ptr key off]:=rfl
@[simp]theorem arU:cells (.eptr x)=[.eptr x]:=rfl
@[simp]theorem ar2:cells .nilp=[.nilp]:=rfl
@[simp]theorem arV:cells (.func f xs)=[.func f xs]:=rfl
@[simp]theorem arW:cells (.gmap key)=[.gmap key]:=rfl
end
section
variable {b:List (aL×List aj)} {e:List (aL×fP)} {agg:Bool} {sz off:Nat} {k:aL} {p:aj} {cs xs a7:List aj} {fF:IntKind} {n i:Int} {m j:Nat} {tag:CU} {s:List UInt8} {Rk:Bool} {lo hi:Option aj}
@[simp]theorem atQ{dL:Nat}{f:Nat}:nM b e agg sz (.rptr dL k m j f)=zQ agg sz dL m j f (look k e):=rfl
@[simp]theorem atP:nM b e agg sz (.ptr k off)=(match look k b with
  |some cs=>if agg then some (h9 cs=true/\off+sz<=cs.length,.agg ((cs.drop off).take sz))else(cs[off]?).map fun p=>(h9 cs=true,p)
  |none=>none):=rfl
@[simp]theorem atO:nM b e agg sz (.eptr p)=if agg then some (isAgg sz p,p)else some (e4 p=true/\cells p=[p],p):=rfl
@[simp]theorem asv:Ds agg sz (.eptr p)=if agg then some (isAgg sz p,p)else some (e4 p=true/\cells p=[p],p):=rfl
@[simp]theorem asn{o:Nat}:sv off agg sz (.ptr k o)=some (True,.ptr k (o+off)):=rfl
@[simp]theorem aso{dL f:Nat}:sv off agg sz (.rptr dL k m j f)=some (True,.rptr dL k m j (f+off)):=rfl
@[simp]theorem ash:sv off agg sz (.eptr (.agg cs))=if agg then some (off+sz<=cs.length,.eptr (.agg ((cs.drop off).take sz)))else(cs[off]?).map fun p=>(e4 p=true/\cells p=[p],.eptr p):=rfl
@[simp]theorem asq:vt off agg sz (.agg cs)=if agg then some (off+sz<=cs.length,.agg ((cs.drop off).take sz))else(cs[off]?).map fun p=>(True,p):=rfl
@[simp]theorem as5{dL:Nat}:Bv sz (.slice dL tag xs) (.int fF i)=if dL=sz then some (0<=i/\i<xs.length,.eptr (xs.getD i.toNat .junk))else none:=rfl
@[simp]theorem as4{dL:Nat}:Bv sz (.row dL k m) (.int fF i)=if dL=sz then some (0<=i/\i<m,.rptr dL k m i.toNat 0)else none:=rfl
@[simp]theorem atN{dL:Nat}:BI (.slice dL tag xs)=some (True,.int .i64 xs.length):=rfl
@[simp]theorem atM{dL:Nat}:BI (.row dL k m)=some (True,.int .i64 m):=rfl
@[simp]theorem atL{a:Option Addr}{n c:Nat}:BI (.cst (.slice a n c))=some (True,.int .i64 n):=rfl
@[simp]theorem auK{s}:Fv (.cst (.string s))=some (True,.int .i64 s.size):=rfl
@[simp]theorem auL:Fv (.str s)=some (True,.int .i64 s.length):=rfl
@[simp]theorem asg:AN j (.tuple a7)=(a7[j]?).map fun p=>(True,p):=rfl
@[simp]theorem aul:BU (.ptr k off)=some (True,.ptr k off):=rfl
@[simp]theorem auj:BU (.eptr p)=some (True,.eptr p):=rfl
@[simp]theorem auk:BU (.func j cs)=some (True,.func j cs):=rfl
@[simp]theorem aum:Iy (.bool Rk)=some (True,.bool (!Rk)):=rfl
@[simp]theorem auJ:JD (.str s) (.int fF i)=some (0<=i/\i<s.length,.int .u8 (s.getD i.toNat 0).toNat):=rfl
@[simp]theorem au9:JI (.str s) lo hi=(match rV 0 lo,rV s.length hi with
  |some l,some h=>some (0<=l/\l<=h/\h<=s.length,.str ((s.take h.toNat).drop l.toNat))
  |_,_=>none):=rfl
@[simp]theorem atS{dL:Nat}:Ii sz (.slice dL tag xs) lo hi=(if dL=sz then match rV 0 lo,rV xs.length hi with
  |some l,some h=>some (0<=l/\l<=h/\h<=xs.length,.slice sz .no ((xs.take h.toNat).drop l.toNat))
  |_,_=>none else none):=rfl
theorem N3{f:aL->Option (List aj)}{ch:j9}{z q:aj}{ok:Bool}:nO f ch z ok (.gmap k) q=(match f k with
  |some (.hdm _ _::kvs)=>if vV ch q=false then none else match uL ch q kvs with
   |some (some v)=>some (True,if ok then .tuple [v,.bool true]else v)
   |some none=>some (True,if ok then .tuple [z,.bool false]else z)
   |none=>none
  |_=>none):=rfl
theorem XB{f:aL->Option (List aj)}:qn f (.ptr k 0)=(match f k with
  |some [.hdi _ seen last,.gmap mk]=>match f mk with
   |some (.hdm clock borns::kvs)=>match seen.getLast? with
    |some n=>(nN n borns kvs).map fun p=>(clock=last,p)
    |none=>none
   |_=>none
  |_=>none):=rfl
@[simp]theorem auH{dL f n' el jQ:Nat}:zQ agg sz dL m j f (some ⟨n',el,jQ,some xs⟩)=(if n'=m/\jQ=dL then
   (match xs[j]? with
    |some p=>if agg then some (e4 p=true/\f+sz<=(cells p).length,.agg (((cells p).drop f).take sz))else((cells p)[f]?).map fun q=>(e4 p=true,q)
    |none=>none)else none):=rfl
end
attribute [simp] ads adJ adt adv adN adL adB adO adM adC adK adu adw Ap abL abK abM abU abV ad5 ad6 ad2 ad1 ad3
 aeb ad7 aea ad8 ad9 adQ adP Pu Pw nb hE j2 cu get put kk q1 ov ox cB rV bO bZ JJ o3 vn IK Is GH Iq
 look eS ez.dst eo.dst tn F3 tO dq eb aJ aO
 adx ady adz adA adU adV adS adR adT ad0 adW adZ adX adY Ps Pt eR p9 mK yL gh.loadO va Ke zf h9 tQ ad4 adH adI adD adE adF adG w1 LZ tU AS abZ xS E3 xR r4 qw iW Im
theorem aA{P:cK}{n:Nat}{args:List aj}{st:bn}{d:Option Nat}{K:bn->Prop}{r:aj}(aN:bK P n args r)(h:K {st with t:=eS d r st.t})(ae:aO (fun _=>ey) args:=by simp):cQ P n args st d K:=cQ.val ae aN h
theorem ak{a b:Prop}(ad:b)(bg:a:=by first|omega|(unfold pJ;omega)|(unfold lim;omega)):a/\b:=⟨bg,ad⟩
theorem ck{p:Prop}(h:ey:=by first|contradiction|omega):p:=h.elim
theorem cz{p:Prop}(h:p:=by(try simp[*]);(repeat' first|with_reducible refine ak ?_|with_reducible refine aA (by assumption) ?_|with_reducible refine aB (by assumption) ?_|simp[*]);(all_goals first|done|(simp[bp,aV,aY,aU, *];done))):p:=h
end
section
open Go Go.RowKit
structure dP (s:cT):Prop where
 obj:je s
 kb:∀k cs,look k s.b=some cs->aO (inObs s) cs
 ke:∀k o,look k s.e=some o->dW (inObs s) o
structure Same (s ah:cT):Prop where
 b:∀k,(look k s.b).isSome=(look k ah.b).isSome
 e:∀k,(look k s.e).isSome=(look k ah.e).isSome
theorem Same.refl(s:cT):Same s s:=⟨fun _=>rfl,fun _=>rfl⟩
theorem Same.inObs{s ah:cT}(h:Same s ah)(k:aL):inObs s k↔inObs ah k:=by unfold Pv.inObs;rw[h.b,h.e]
theorem wb{α:Type}{k:aL}{x:α}:∀{l:List (aL×α)},(k,x)∈l->(look k l).isSome
 |(i,y)::r,h=>by
  simp only[look];split
  ·rfl
  ·rename_i cA;rcases fm.1 h with h|h
   ·cases h;exact absurd rfl cA
   ·exact wb h
theorem Wv{s:cT}{k:aL}(h:k∈c5 s):inObs s k:=by
 unfold c5 at h;rcases hQ.1 h with h|h
 ·obtain⟨⟨bI,x⟩,J,rfl⟩:=hR.1 h;exact .inl (wb J)
 ·obtain⟨⟨bI,x⟩,J,rfl⟩:=hR.1 h;exact .inr (wb J)
theorem kD{s:cT}(h:je s)(m:Nat):aL.loc m∉c5 s:=fun hm=>by
 rcases Wv hm with J|J
 ·rw[h.1 m]at J;cases J
 ·rw[h.2 m]at J;cases J
theorem jg{α β:Type}(s:List (aL×β)):∀(a b:List (aL×α)),cb s (a++b)=cb s a++cb s b
 |[],b=>rfl
 |(k,x)::r,b=>by
  simp only[bP,cb];cases look k s with
  |none=>simp[jg s r b]
  |some _=>exact jg s r b
theorem QA{α β:Type}(s:List (aL×β)):∀(l:List (aL×α)),(∀k x,(k,x)∈l->(look k s).isSome)->cb s l=[]
 |[],_=>rfl
 |(k,x)::r,h=>by
  have J:=h k x Ψ;simp only[cb];cases av:look k s with
  |none=>rw[av]at J;cases J
  |some _=>exact QA s r fun k x ab=>h k x (by simp[ab])
theorem ht{α:Type}(s:List (aL×α)):cb s s=[]:=QA s s fun k x h=>wb h
theorem kK{α:Type}{k:aL}{x:α}:∀{l:List (aL×α)},look k l=none->cB k x l=l++[(k,x)]
 |[],_=>rfl
 |(i,y)::r,h=>by
  simp only[look]at h;split at h
  ·cases h
  ·rename_i cA;simp[cB,cA,kK h]
theorem cV{α:Type}(k:aL):∀(a b:List (aL×α)),look k (a++b)=match look k a with|some x=>some x|none=>look k b
 |[],b=>rfl
 |(i,y)::r,b=>by
  simp only[bP,look];split
  ·rfl
  ·exact cV k r b
theorem cQ.ob{P:cK}{n:Nat}{args:List aj}{st:bn}{d:Option Nat}{K:bn->Prop}{s:cT}{Q:aj->cT->Prop}(aN:bG P n args s Q)(af:dP s)(ad:∀k cs,look k s.b=some cs->look k st.b=some cs)(he:∀k o,look k s.e=some o->look k st.e=some o)
  (ae:aO (inObs s) args) (h:∀r ah,Q r ah->Same s ah/\K ⟨eS d r st.t,cb s.b st.b++ah.b,cb s.e st.e++ah.e,st.n,st.o++c5 ah⟩):cQ P n args st d K:=by
 refine .inl ⟨s,Q,fun k cs ao=>⟨ad k cs ao,.inl (by simp[ao]),af.kb k cs ao⟩,fun k o ay=>⟨he k o ay,.inr (by simp[ay]),af.ke k o ay⟩,af.obj,ae,aN,fun r ah bE=>?_⟩;obtain⟨J,U⟩:=h r ah bE;exact⟨⟨fun m hm=>.inl (by rw[J.b];exact hm),fun m hm=>.inl (by rw[J.e];exact hm)⟩,U⟩
theorem cL.ob{eT:List bV}{s ah:cT}{Q:aj->cT->Prop}{e:Exit}{st:bn}{c:Prop}{cy:List aj}(sJ:e= .ret\/e= .normal)(sQ:aV st eT=some (c,cy))(ao:c)(af:dP ah)(fv:Same s ah)(ad:∀k cs,look k ah.b=some cs->look k st.b=some cs)(c1:∀k o,look k ah.e=some o->look k st.e=some o)
  (ae:aJ (inObs ah) (eb (aU cy))) (bE:Q (eb (aU cy)) ah):cL eT s Q e st:=by
 refine⟨sJ,?_⟩;rw[sQ];have VM:∀{α:Type} (l:List (aL×α)),(∀k x,(k,x)∈l->inObs ah k)->kx ah l:=by
  intro α l;induction l with
  |nil=>intro _;trivial
  |cons x r bN=>obtain⟨k,x⟩:=x;intro h;exact⟨h k x Ψ,bN fun k x ab=>h k x (by simp[ab])⟩
 exact⟨ao,ah,VM _ fun k x ab=>.inl (by rw[<-fv.b];exact wb ab),VM _ fun k x ab=>.inr (by rw[<-fv.e];exact wb ab),fun k cs dj=>⟨ad k cs dj,.inl (by simp[dj]),af.kb k cs dj⟩,fun k o ay=>⟨c1 k o ay,.inr (by simp[ay]),af.ke k o ay⟩,af.obj,ae,bE⟩
theorem bG.mono{P:cK}{f:FuncId}{args:List aj}{s:cT}{Q rk:aj->cT->Prop}(h:bG P f args s Q)(bE:∀r ah,Q r ah->rk r ah):bG P f args s rk:=by
 intro w Z a7 J U h3;have hm:∀(e:Ending) (w':World),(∃v r ah bh,e= .returned v/\Q r ah/\a8 w' bh r v/\Good (fun bl=>fA Z s bl\/w.heap.size<=bl) w' bh ah.b ah.e/\pw bh ah/\je ah/\qB ⟨w,Z,fA Z s,0,c5 s⟩ w' bh)->(∃v r ah bh,e= .returned v/\rk r ah/\a8 w' bh r v/\Good (fun bl=>fA Z s bl\/w.heap.size<=bl) w' bh ah.b ah.e/\pw bh ah/\je ah/\qB ⟨w,Z,fA Z s,0,c5 s⟩ w' bh):=by rintro e w' ⟨v,r,ah,bh,bA,a2,a3⟩;exact⟨v,r,ah,bh,bA,bE _ _ a2,a3⟩
 rcases h w Z a7 J U h3 with⟨qg,ao⟩|⟨v,w',ao,aM⟩
 ·exact .inl ⟨qg,ao.mono hm⟩
 ·exact .inr ⟨v,w',ao,hm _ _ aM⟩
theorem EL{s:cT}{k:aL}(h:inObs s k):¬fresh 0 (c5 s) k:=fun aN=>aN.2 (uQ h)
theorem jn.ob{s:cT}(af:dP s){st:bn}{du:List (Nat×aj)}(aI:∀x∈du,get x.1 st.t=x.2/\aJ (inObs s) x.2)(ad:∀k cs,look k s.b=some cs->look k st.b=some cs)(he:∀k o,look k s.e=some o->look k st.e=some o):
  jn (c5 s) st ⟨du,s.b,s.e,0,c5 s⟩:=
 ⟨fun x ab=>⟨(aI x ab).1,xC (fun k ae=>EL ae) _ (aI x ab).2⟩,fun k cs ao=>⟨ad k cs ao,EL (.inl (by simp[ao])),ki (fun k ae=>EL ae) _ (af.kb k cs ao)⟩,
  fun k o ay=>⟨he k o ay,EL (.inr (by simp[ay])),fun xs ab=>ki (fun k ae=>EL ae) _ (af.ke k o ay xs ab)⟩,fun m hm=>hm⟩
def cM(st:bn)(eT:List bV)(R:aj->Prop):Prop:=match aV st eT with
 |some (c,cy)=>c/\R (eb (aU cy))
 |none=>ey
theorem cL.at{eT:List bV}{s:cT}{Q:aj->cT->Prop}{e:Exit}{st:bn}(ah:cT)(sJ:e= .ret\/e= .normal)(af:dP ah)(fv:Same s ah)(ad:∀k cs,look k ah.b=some cs->look k st.b=some cs)(c1:∀k o,look k ah.e=some o->look k st.e=some o)
  (h:cM st eT fun r=>aJ (inObs ah) r/\Q r ah):cL eT s Q e st:=by
 unfold cM at h;split at h
 ·rename_i c cy aM;exact cL.ob sJ aM h.1 af fv ad c1 h.2.1 h.2.2
 ·exact h.elim
theorem gx.ob{P:cK}{nw:List Nat}{n:Nat}{args:List aj}{st:bn}{d:Option Nat}{K:bn->Prop}{s ah:cT}{r:aj}(aN:bG P n args s fun eQ du=>eQ=r/\du=ah)(af:dP s)(fX:dP ah)(fv:Same s ah)(ad:∀k cs,look k s.b=some cs->look k st.b=some cs)(he:∀k o,look k s.e=some o->look k st.e=some o)
  (ae:aO (inObs s) args) (h:K ⟨eS d r st.t,cb s.b st.b++ah.b,cb s.e st.e++ah.e,st.n,st.o⟩):gx P false nw n args st d K:=
 .inr ⟨s,ah,r,none,fun k cs ao=>⟨ad k cs ao,.inl (by simp[ao]),af.kb k cs ao⟩,fun k o ay=>⟨he k o ay,.inr (by simp[ay]),af.ke k o ay⟩,af.obj,fX.obj,⟨fun k ae=>.inl (by rw[fv.b];exact ae),fun k ae=>.inl (by rw[fv.e];exact ae),fun k ae=>by rw[<-fv.b];exact ae,fun k ae=>by rw[<-fv.e];exact ae,fun k ae=>by cases ae⟩,ae,aN,(fun e=>by cases e),h⟩
theorem gx.new{P:cK}{nw:List Nat}{n:Nat}{args:List aj}{st:bn}{d:Option Nat}{K:bn->Prop}{m:Nat}{cs:List aj}{r:aj}(aN:bG P n args ⟨[],[]⟩ fun eQ du=>eQ=r/\du=⟨[(.obj m,cs)],[]⟩)(hm:m∈nw)(ad:look (.obj m) st.b=none)(he:look (.obj m) st.e=none)
  (ae:aO (fun _=>ey) args) (h:K ⟨eS d r st.t,st.b++[(.obj m,cs)],st.e,st.n,st.o⟩):gx P false nw n args st d K:=by
 refine .inr ⟨⟨[],[]⟩,⟨[(.obj m,cs)],[]⟩,r,some (.obj m),fun k cs ae=>by simp[look]at ae,fun k cs ae=>by simp[look]at ae,uP,⟨fun j=>by simp[look],fun j=>by simp[look]⟩,⟨fun k ae=>?_,fun k ae=>by simp[look]at ae,fun k ae=>by simp[look]at ae,fun k ae=>by simp[look]at ae,fun k ae=>?_⟩,ki (fun _ h=>h.elim) _ ae,aN,(fun e=>by cases e),?_⟩
 ·simp only[look]at ae;split at ae
  ·rename_i e;subst e;exact .inr rfl
  ·cases ae
 ·simp only[dE]at ae;subst ae;exact⟨⟨m,hm,rfl⟩,ad,he,.inl (by simp[look])⟩
 ·have:({after st ⟨[],[]⟩ ⟨[(.obj m,cs)],[]⟩ d r with o:=st.o}:bn)=⟨eS d r st.t,st.b++[(.obj m,cs)],st.e,st.n,st.o⟩:=by simp[after,J4]
  rw[this];exact h
theorem dP.of{s:cT}(ay:je s)(ad:∀x∈s.b,aO (inObs s) x.2)(he:∀x∈s.e,∀xs,x.2.xs=some xs->aO (inObs s) xs):dP s:=⟨ay,fun k cs ae=>ad (k,cs) (uH ae),fun k o ae xs ab=>he (k,o) (uH ae) xs ab⟩
@[simp]theorem auo(b:List (aL×List aj))(e:List (aL×fP)):c5 ⟨b,e⟩=b.map (·.1)++e.map (·.1):=rfl
theorem CE{α:Type}{k:aL}{p:α}:∀{a r:List (aL×α)},look k a=none->cB k p (a++r)=a++cB k p r
 |[],_,_=>rfl
 |(i,y)::a,r,h=>by
  simp only[look]at h;split at h
  ·cases h
  ·rename_i cA;simp[cB,cA,CE h]
theorem akc{α:Type}{s b:List (aL×α)}(h:∀p∈s,look p.1 b=some p.2):∀k x,look k s=some x->look k b=some x:=fun k x ab=>h (k,x) (uH ab)
theorem ek{S:aL->Prop}{b3 b:List (aL×List aj)}(h:∀p∈b3,look p.1 b=some p.2/\S p.1/\aO S p.2):gL S b3 b:=fun k x ab=>h (k,x) (uH ab)
theorem en{S:aL->Prop}{b3 b:List (aL×fP)}(h:∀p∈b3,look p.1 b=some p.2/\S p.1/\dW S p.2):oC S b3 b:=fun k x ab=>h (k,x) (uH ab)
theorem aH{α:Type}{s b:List (aL×α)}(h:∀k x,look k s=some x->look k b=some x:=by first|(refine akc ?_;simp;done)|(intro k x ab;first|exact ab|(simp[ab,ht];done)|(simp[cV,ht,ab];done)|(cases k<;>simp_all[cV];done))):∀k x,look k s=some x->look k b=some x:=h
theorem b7{ob:List aL}{st st':bn}(J:∀x∈st'.t,get x.1 st.t=x.2/\aJ (fun k=> ¬fresh st'.n st'.o k) x.2:=by simp[fresh,aO,aJ,cn,inObs,Pv.look])(U:∀p∈st'.b,look p.1 st.b=some p.2/\(¬fresh st'.n st'.o p.1)/\aO (fun k=> ¬fresh st'.n st'.o k) p.2:=by simp[fresh,aO,aJ,cn,inObs,Pv.look])(h3:∀p∈st'.e,look p.1 st.e=some p.2/\(¬fresh st'.n st'.o p.1)/\dW (fun k=> ¬fresh st'.n st'.o k) p.2:=by simp[fresh,aO,aJ,dW,inObs,Pv.look])(h4:∀m∈ob,m∈st'.o:=by simp):jn ob st st':=⟨J,ek U,en h3,h4⟩
theorem bR.next{ob:List aL}{hv:Nat->bn->Prop}{k:Nat}{Q:Exit->bn->Prop}{st:bn}(bI:Nat){ah:bn}(ae:bI<k)(hi:hv bI ah)(hw:jn ob st ah):bR ob hv k Q .normal st:=⟨bI,ah,ae,hw,hi⟩
def k6:List (Int×aj)->List aj
 |[]=>[]
 |(k,v)::r=>.int .i64 k::v::k6 r
def kj(l:List (Int×aj)):List aj:= .hdm l.length (List.range l.length)::k6 l
def tP(k:Int):List (Int×aj)->Option aj
 |[]=>none
 |(i,v)::r=>if k=i then some v else tP k r
def p5(k:Int)(v:aj):List (Int×aj)->Option (List (Int×aj))
 |[]=>none
 |(i,w)::r=>if k=i then some ((k,v)::r)else match p5 k v r with|some eQ=>some ((i,w)::eQ)|none=>none
def Gh(k:Int)(v:aj)(l:List (Int×aj)):List (Int×aj):=match p5 k v l with|some a6=>a6|none=>l++[(k,v)]
@[simp]theorem at2:[aj.hdm 0 []]=kj []:=rfl
theorem UH:∀a b,k6 (a++b)=k6 a++k6 b
 |[],_=>rfl
 |(k,v)::r,b=>by simp[k6,UH r b]
theorem XC(k:Int):∀l,uL .i (.int .i64 k) (k6 l)=some (tP k l)
 |[]=>rfl
 |(i,v)::r=>by
  simp only[k6,uL,rO,tP];by_cases h:k=i
  ·simp[h]
  ·have:(k==i)=false:=by simp[h]
   simp[h,XC k r,this]
theorem Rb{k:Int}{v:aj}:∀{l a6},p5 k v l=some a6->a6.length=l.length
 |[],_,h=>by simp[p5]at h
 |(i,w)::r,a6,h=>by
  simp only[p5]at h;split at h
  ·cases h;rfl
  ·split at h
   ·rename_i eQ aM;cases h;simp[Rb aM]
   ·cases h
theorem XW(k:Int)(v:aj):∀l,td .i (.int .i64 k) v (k6 l)=some ((p5 k v l).map k6)
 |[]=>rfl
 |(i,w)::r=>by
  simp only[k6,td,rO,p5];by_cases h:k=i
  ·subst h;simp[k6]
  ·simp only[and_self,if_true,h,if_false,dM,XW k v r];have:(k==i)=false:=by simp[h]
   rw[this];cases p5 k v r<;>simp[k6]
@[simp]theorem XV(k:Int)(v:aj)(l:List (Int×aj)):ot .i (.int .i64 k) v (kj l)=some (kj (Gh k v l)):=by
 simp only[kj,ot,WZ,Bool.true_eq_false,reduceCtorEq,if_false,XW,Gh];cases h:p5 k v l with
 |some a6=>simp[Rb h]
 |none=>simp[UH,k6,List.range_succ]
@[simp]theorem XF(f:aL->Option (List aj))(m:aL)(l:List (Int×aj))(z:aj)(ok:Bool)(k:Int)(hm:f m=some (kj l)):nO f .i z ok (.gmap m) (.int .i64 k)=(match tP k l with
  |some v=>some (True,if ok then .tuple [v,.bool true]else v)
  |none=>some (True,if ok then .tuple [z,.bool false]else z)):=by
 simp only[N3,hm,kj,WZ,Bool.true_eq_false,reduceCtorEq,if_false,XC];cases tP k l<;>rfl
def cn(n:Nat)(seen:List Nat)(m:aL):List aj:=[.hdi n seen n,.gmap m]
@[simp]theorem auE(m:aL)(l:List (Int×aj)):zK m (kj l)=some (cn l.length [] m):=rfl
@[simp]theorem auy(l:List (Int×aj)):h9 (kj l)=false:=rfl
theorem NU(b:Nat):∀(n:Nat) (l:List (Int×aj)),nN b (List.range' n l.length) (k6 l)=(if n<=b then(l[b-n]?).map fun x=>.tuple [.int .i64 x.1,x.2]else none)
 |n,[]=>by simp[nN,k6]
 |n,(k,v)::r=>by
  simp only[mG,List.range'_succ,k6,nN];by_cases h:n=b
  ·subst h;simp
  ·rw[if_neg h,NU b (n+1) r];by_cases U:n<=b
   ·rw[if_pos U,if_pos Ω];have:b-n=(b-(n+1))+1:=Ω
    rw[this];simp
   ·rw[if_neg U,if_neg Ω]
@[simp]theorem XA(f:aL->Option (List aj))(fF mk:aL)(n:Nat)(seen:List Nat)(b:Nat)(l:List (Int×aj))(hi:f fF=some (cn n (seen++[b]) mk))(hm:f mk=some (kj l))(au:n=l.length):qn f (.ptr fF 0)=(l[b]?).map fun x=>(True,.tuple [.int .i64 x.1,x.2]):=by subst au;simp only[XB,hi,hm,cn,kj,List.getLast?_append,List.getLast?_singleton,Option.some_or,List.range_eq_range',NU,Nat.zero_le,if_true,Nat.sub_zero,Option.map_map];cases l[b]?<;>simp
theorem Ua{st:bn}{d:Nat}{K:bn->Prop}{fF mk:aL}{n:Nat}{seen:List Nat}{l:List (Int×aj)}(hi:look fF st.b=some (cn n seen mk))(hm:look mk st.b=some (kj l))(au:n=l.length)
  (J:(∀b,b<n->b∈seen)->K {st with t:=put d (.tuple [.bool false]) st.t}) (U:∀b k v,l[b]? =some (k,v)->b∉seen->K {st with t:=put d (.tuple [.bool true,.int .i64 k,v]) st.t,b:=cB fF (cn n (seen++[b]) mk) st.b}):
  tX st d (.ptr fF 0) K:=by
 subst au;simp only[tX,hi,cn,hm,kj,N9,and_self,true_and];refine⟨fun h=>J fun b ad=>h b (by simpa using ad),fun b k v y4 ad=>?_⟩;rw[List.range_eq_range',NU]at y4;simp only[Nat.zero_le,if_true,Nat.sub_zero,gv,aj.tuple.injEq,yk,and_true]at y4;obtain⟨⟨bI,v'⟩,aq,aF,bB⟩:=y4;simp only at aF bB;subst aF bB;exact U b bI v' aq ad
theorem ang{n:Nat}{seen:List Nat}(aG:seen.Nodup)(bs:∀b∈seen,b<n)(lE:∀b,b<n->b∈seen):seen.Perm (List.range n):=(List.perm_ext_iff_of_nodup aG List.nodup_range).2 fun b=>⟨fun h=>by simpa using bs b h,fun h=>lE b (by simpa using h)⟩
theorem JA{n:Nat}{seen:List Nat}(aG:seen.Nodup)(bs:∀b∈seen,b<n):seen.length<=n:=by have:=FW aG (l₂:=List.range n) (fun b ad=>by simpa using bs b ad);simpa using this
theorem PA{n b:Nat}{seen:List Nat}(aG:seen.Nodup)(bs:∀b∈seen,b<n)(ad:b<n)(au:b∉seen):seen.length<n:=by have J:(b::seen).Nodup:=List.nodup_cons.2 ⟨au,aG⟩;have:=JA J (n:=n) (by simp;exact⟨ad,bs⟩);simp at this;omega
theorem ZF{α:Type}:∀(l pre:List α),(List.range' pre.length l.length).filterMap (fun b=>(pre++l)[b]?)=l
 |[],_=>rfl
 |x::r,pre=>by have bN:=ZF r (pre++[x]);simp only[pc,List.length_singleton,List.append_assoc,List.singleton_append]at bN;simp[List.range'_succ,bN]
theorem Pz{α:Type}{l:List α}{seen:List Nat}(aG:seen.Nodup)(bs:∀b∈seen,b<l.length)(lE:∀b,b<l.length->b∈seen):(seen.filterMap fun b=>l[b]?).Perm l:=by have J:=(ang aG bs lE).filterMap fun b=>l[b]?;have U:=ZF l [];simp only[List.length_nil,bU,<-List.range_eq_range']at U;rwa[U]at J
theorem Od{b:Nat}{seen:List Nat}(aG:seen.Nodup)(au:b∉seen):(seen++[b]).Nodup:=by rw[List.nodup_append];exact⟨aG,Ψ,by simp;intro a bg e;subst e;exact au bg⟩
theorem c2.start{w:World}{Z:bc}{s:cT}{args:List aj}{a7:Array Value}(qi:je s)(aW:Good (fA Z s) w Z s.b s.e)(ab:pw Z s)(aM:cX w Z args a7.toList):
  c2 ⟨w,Z,fA Z s,a7.size,c5 s⟩ ⟨j2 0 args,s.b,s.e,0,c5 s⟩ {tmps:=a7,defers:=[]} w Z:=by
 have kv:=zN aM;have lf:a7.size=args.length:=by simpa using kv
 have pD:∀k,fresh 0 (c5 s) k->Z.bx k=none/\Z.ow k=none/\∀j b,¬Z.tr k j b:=by
  intro k ae;cases k with
  |loc m=>exact⟨(ab _).1 (qi.1 m),(ab _).2.1 (qi.2 m),(ab _).2.2⟩
  |obj m=>
   simp only[fresh,true_and]at ae;refine⟨?_,?_,(ab _).2.2⟩
   ·refine(ab _).1 ?_;cases h:look (.obj m) s.b with
    |none=>rfl
    |some x=>exact absurd (uQ (.inl (by simp[h]))) ae
   ·refine(ab _).2.1 ?_;cases h:look (.obj m) s.e with
    |none=>rfl
    |some x=>exact absurd (uQ (.inr (by simp[h]))) ae
 have gU:∀m,(Z.bx (.obj m)≠none\/Z.ow (.obj m)≠none)-> .obj m∈c5 s:=by
  intro m hm;refine Classical.byContradiction fun ao=>?_;obtain⟨J,U,_⟩:=pD (.obj m) ⟨trivial,ao⟩;rcases hm with hm|hm
  ·exact hm J
  ·exact hm U
 refine⟨⟨aW.alt,fun k cs ae=>?_,aW.inj,fun g o eA=>?_,aW.oinj,aW.obx,aW.one,aW.otr⟩,⟨rfl,rfl,rfl,dZ _,fun _ _ _=>rfl,fun b o h=>⟨h,rfl⟩,fun b o h=>.inl h,fun n b h=>h,fun n b h=>gU n (.inl (by rw[h];simp)),fun m n u h=>⟨n,u,h,.inl ⟨rfl,rfl⟩⟩,fun m n u h=>gU m (.inr (by rw[h];simp)),fun k j _ _ b h=>absurd h ((ab k).2.2 j b),fun k j b h=>absurd h ((ab k).2.2 j b),fun k j b h=>absurd h ((ab k).2.2 j b),fun _ _ _=>rfl⟩,rfl,rfl,fun i=>?_,pD⟩
 ·obtain⟨bl,us,el,g1,g2,g3⟩:=aW.box k cs ae;exact⟨bl,us,el,g1,.inl g2,g3⟩
 ·obtain⟨v,us,g1,g2,g3,g4⟩:=aW.own g o eA;exact⟨v,us,g1,g2,fun bl fB=>⟨.inl (g3 bl fB).1,(g3 bl fB).2⟩,g4⟩
 ·rw[G7];by_cases hi:i<args.length
  ·rw[if_pos Ω];have rH:args[i]? =some args[i]:=cg hi;obtain⟨v,aq,aF⟩:=Fh i aM rH;have Db:a7[i]? =some v:=by simpa using aq
   show a8 w Z _ (a7.getD i undef);rw[Array.getD_eq_getD_getElem?,Db];simpa[List.getD,rH]using aF
  ·rw[if_neg Ω];simp[a8]
theorem bG.sem{P:cK}{f:FuncId}{args:List aj}{s:cT}{Q:aj->cT->Prop}(qi:je s)
  (h:∀(w:World) (Z:bc) (a7:Array Value),a7.size=args.length->c2 ⟨w,Z,fA Z s,a7.size,c5 s⟩ ⟨j2 0 args,s.b,s.e,0,c5 s⟩ {tmps:=a7,defers:=[]} w Z->
   yl P f a7 w fun e w'=> ∃v st' bk bh r ah,e= .returned v/\c2 ⟨w,Z,fA Z s,a7.size,c5 s⟩ st' bk w' bh/\a8 w' bh r v/\kx ah s.b/\kx ah s.e/\gL (inObs ah) ah.b st'.b/\oC (inObs ah) ah.e st'.e/\je ah/\aJ (inObs ah) r/\Q r ah):bG P f args s Q:=by
 intro w Z a7 aW ab aM;have lf:a7.size=args.length:=by simpa using zN aM
 have pF:=c2.start qi aW ab aM;have hm:∀(e:Ending) (w':World),(∃v st' bk bh r ah,e= .returned v/\c2 ⟨w,Z,fA Z s,a7.size,c5 s⟩ st' bk w' bh/\a8 w' bh r v/\kx ah s.b/\kx ah s.e/\gL (inObs ah) ah.b st'.b/\oC (inObs ah) ah.e st'.e/\je ah/\aJ (inObs ah) r/\Q r ah)->
   ∃v r ah bh,e= .returned v/\Q r ah/\a8 w' bh r v/\Good (fun bl=>fA Z s bl\/w.heap.size<=bl) w' bh ah.b ah.e/\pw bh ah/\je ah/\qB ⟨w,Z,fA Z s,0,c5 s⟩ w' bh:=by
  rintro e w' ⟨v,st',bk,bh,r,ah,rfl,dk,nQ,kb,ke,a1,bm,bW,cZ,c6⟩;refine⟨v,r,ah,bh.cut (inObs ah),rfl,c6,kY (pf.cut _ w' bh) _ _ cZ nQ,dk.good.cut a1 bm (fun bl h _=>h),?_,bW,?_⟩
  ·intro k;refine⟨?_,?_,?_⟩;rotate_left 2
   ·rintro j b ⟨af,ad⟩;obtain⟨t1,t2⟩:=dk.fr.trn k j b ad;rcases af with af|af<;>obtain⟨x,iJ⟩:=fo.1 af
    ·obtain⟨bl,cj,el,aq,_⟩:=dk.good.box k x (a1 k x iJ).1;rw[t1]at aq;cases aq
    ·obtain⟨v',cj,aq,_⟩:=dk.good.own k x (bm k x iJ).1;rw[t2]at aq;cases aq
   ·intro ae;by_cases af:inObs ah k
    ·rw[bc.cut_bx af];rcases af with af|af
     ·rw[ae]at af;cases af
     ·obtain⟨x,iJ⟩:=fo.1 af;obtain⟨v',cj,aq,_⟩:=dk.good.own k x (bm k x iJ).1;rcases dk.good.one k with J|J
      ·exact J
      ·rw[J]at aq;cases aq
    ·exact(bc.cut_no af).1
   ·intro ae;by_cases af:inObs ah k
    ·rw[bc.cut_ow af];rcases af with af|af
     ·obtain⟨x,iJ⟩:=fo.1 af;obtain⟨bl,cj,el,aq,_⟩:=dk.good.box k x (a1 k x iJ).1;rcases dk.good.one k with J|J
      ·rw[J]at aq;cases aq
      ·exact J
     ·rw[ae]at af;cases af
    ·exact(bc.cut_no af).2.1
  ·refine⟨dk.fr.os,dk.fr.tape,dk.fr.output,dk.fr.size,dk.fr.block,dk.fr.keep,dk.fr.fresh,fun n b h=>?_,dk.fr.obn,fun m n u h=>?_,dk.fr.obr,fun k j bI dJ b J U=>dk.fr.trd k j bI dJ b J.2 U.2,fun k j b ad=>dk.fr.trb k j b ad.2,fun k j b ad=>(by rw[bc.cut_bx ad.1,bc.cut_ow ad.1];exact dk.fr.trn k j b ad.2),dk.fr.sh⟩
   ·have af:inObs ah (.obj n):=by
     cases av:look (.obj n) s.b with
     |none=>rw[(ab _).1 av]at h;cases h
     |some x=>exact BC kb _ (by simp[av])
    rw[bc.cut_bx af];exact dk.fr.obj n b h
   ·have af:inObs ah (.obj m):=by
     cases av:look (.obj m) s.e with
     |none=>rw[(ab _).2.1 av]at h;cases h
     |some x=>exact BC ke _ (by simp[av])
    rw[bc.cut_ow af];exact dk.fr.row m n u h
 rcases h w Z a7 lf pF with⟨qg,ao⟩|⟨v,w',ao,sQ⟩
 ·exact .inl ⟨qg,ao.mono hm⟩
 ·exact .inr ⟨v,w',ao,hm _ _ sQ⟩
theorem c2.grown{C:fp}{st:bn}{a:Act}{w w':World}{Z:bc}(h:c2 C st a w Z)(aW:w.grownBy w' none):c2 C st a w' Z:=by
 have lG:ma w Z w' Z:=⟨fun b o be=>⟨be,GF aW (h.good.alt b o be)⟩,fun _ _ _ h=>h,fun _ n u _ h=>⟨n,u,h,.inl ⟨rfl,rfl⟩⟩,fun b o be=>xY (aW.block b (h.good.alt b o be) Ψ),fun _ _ _ _ h=>h⟩;refine h.over lG rfl ⟨fun b o be=>Nat.lt_of_lt_of_le (h.good.alt b o be) aW.size,fun k cs ae=>?_,h.good.inj,fun g o eA=>?_,h.good.oinj,h.good.obx,h.good.one,h.good.otr⟩
  ⟨aW.os.trans h.fr.os,aW.tape.trans h.fr.tape,aW.output.trans h.fr.output,ha h.fr.size aW.size,fun k ae hm=>?_,fun b o be=>?_,h.fr.fresh,h.fr.obj,h.fr.obn,h.fr.row,h.fr.obr,h.fr.trd,fun k j b ad=>⟨(h.fr.trb k j b ad).1,Nat.lt_of_lt_of_le (h.fr.trb k j b ad).2 aW.size⟩,h.fr.trn,fun b o be=>(lG.sh b o (h.fr.keep b o be).1).trans (h.fr.sh b o be)⟩ h.new
 ·obtain⟨bl,us,el,g1,g2,g3,g4,g5⟩:=h.good.box k cs ae;exact⟨bl,us,el,g1,g2,g3,by rw[aW.block bl (Array.getElem?_eq_some_iff.1 g4).1 Ψ];exact g4,q8 lG g5⟩
 ·obtain⟨v,us,g1,g2,g3,g4⟩:=h.good.own g o eA;exact⟨v,us,g1,g2.kept aW (by cases v.ownBlock<;>simp),g3,tp lG (fun _ _ _ h=>h) g4⟩
 ·rw[aW.block k (Nat.lt_of_lt_of_le ae h.fr.size) Ψ];exact h.fr.block k ae hm
 ·obtain⟨aS,bf⟩:=h.fr.keep b o be;exact⟨aS,(lG.A b o aS).2.trans bf⟩
theorem cQ.new{P:cK}{n:Nat}{args:List aj}{st:bn}{d:Option Nat}{K:bn->Prop}{s:cT}{Q:aj->cT->Prop}(aN:bG P n args s Q)(af:dP s)(ad:∀k cs,look k s.b=some cs->look k st.b=some cs)(he:∀k o,look k s.e=some o->look k st.e=some o)
  (ae:aO (inObs s) args) (h:∀r ah,Q r ah->(∀m,inObs ah (.obj m)->inObs s (.obj m)/\Same s ah\/ .obj m∉st.o)/\K ⟨eS d r st.t,cb s.b st.b++ah.b,cb s.e st.e++ah.e,st.n,st.o++c5 ah⟩):cQ P n args st d K:=by
 refine .inl ⟨s,Q,fun k cs ao=>⟨ad k cs ao,.inl (by simp[ao]),af.kb k cs ao⟩,fun k o ay=>⟨he k o ay,.inr (by simp[ay]),af.ke k o ay⟩,af.obj,ae,aN,fun r ah bE=>?_⟩;obtain⟨J,U⟩:=h r ah bE;refine⟨⟨fun m hm=>?_,fun m hm=>?_⟩,U⟩
 ·rcases J m (.inl hm)with⟨_,h3⟩|h3
  ·exact .inl (by rw[h3.b];exact hm)
  ·exact .inr h3
 ·rcases J m (.inr hm)with⟨_,h3⟩|h3
  ·exact .inl (by rw[h3.e];exact hm)
  ·exact .inr h3
theorem cL.new{eT:List bV}{s:cT}{Q:aj->cT->Prop}{e:Exit}{st:bn}(ah:cT)(sJ:e= .ret\/e= .normal)(af:dP ah)(fv:kx ah s.b/\kx ah s.e)(ad:∀k cs,look k ah.b=some cs->look k st.b=some cs)(c1:∀k o,look k ah.e=some o->look k st.e=some o)
  (h:cM st eT fun r=>aJ (inObs ah) r/\Q r ah):cL eT s Q e st:=by
 unfold cM at h;split at h
 ·rename_i c cy aM;refine⟨sJ,?_⟩;rw[aM];exact⟨h.1,ah,fv.1,fv.2,fun k cs dj=>⟨ad k cs dj,.inl (by simp[dj]),af.kb k cs dj⟩,fun k o ay=>⟨c1 k o ay,.inr (by simp[ay]),af.ke k o ay⟩,af.obj,h.2.1,h.2.2⟩
 ·exact h.elim
@[simp]theorem asd{P:cK}{ob:List aL}{c d:C}{Q:Exit->bn->Prop}{st:bn}{s:Nat}:c4 P ob (.seq (.pub s c) d) Q st=yq P ob (.seq c d) Q (xS st s):=by simp only[c4];cases xS st s<;>rfl
@[simp]theorem asb{P:cK}{ob:List aL}{c d:C}{Q:Exit->bn->Prop}{st:bn}{s:Nat}:c4 P ob (.seq (.pubB s c) d) Q st=yq P ob (.seq c d) Q (xR st s):=by simp only[c4];cases xR st s<;>rfl
end
section
open Go Go.RowKit
def vU(t:List (Nat×aj))(ch:List Nat):List (Nat×aj):=ch.map fun k=>(k,get k t)
@[simp]theorem ath(t:List (Nat×aj)):vU t []=[]:=rfl
@[simp]theorem atg(t:List (Nat×aj))(k:Nat)(ch:List Nat):vU t (k::ch)=(k,get k t)::vU t ch:=rfl
def qp(st:bn)(ch:List Nat)(cs:List (Nat×aj)):bn:=⟨vU st.t ch++cs,st.b,st.e,st.n,st.o⟩
theorem akO(t:List (Nat×aj))(b:List (aL×List aj))(e:List (aL×fP))(n:Nat)(o:List aL)(ch:List Nat)(cs:List (Nat×aj)):qp ⟨t,b,e,n,o⟩ ch cs=⟨vU t ch++cs,b,e,n,o⟩:=rfl
def Al{α:Type}(S:Nat->α->bn)(n:Nat)(hn:Nat->α->Prop)(k:Nat)(st:bn):Prop:= ∃i a,i<=n/\k=n-i/\hn i a/\st=S i a
section
variable {P:cK} {ob:List aL} {st:bn} {Q:Exit->bn->Prop} {c:C} {α:Type}
theorem hI(S:Nat->α->bn)(n:Nat)(hn:Nat->α->Prop)(a0:α)(hw:jn ob st (S 0 a0))(bz:hn 0 a0)(ue:∀a,hn n a->(∀i,gi (get i (S n a).t))->c4 P ob c (bR ob (Al S n hn) 0 Q) (S n a))
  (kh:∀i a,i<n->hn i a->(∀j,gi (get j (S i a).t))->c4 P ob c (bR ob (Al S n hn) (n-i) Q) (S i a)):c4 P ob (.loop c) Q st:=by
 refine n1 (Al S n hn) n _ hw ⟨0,a0,Ω,Ω,bz,rfl⟩ ?_;rintro k s ⟨i,a,hi,rfl,ag,rfl⟩ ad _;rcases Nat.lt_or_ge i n with h|h
 ·exact kh i a h ag ad
 ·obtain rfl:i=n:=Ω
  rw[Nat.sub_self];exact ue a ag ad
theorem bR.rng{S:Nat->α->bn}{n:Nat}{hn:Nat->α->Prop}{i:Nat}(bk:α)(hi:i<n)(ag:hn (i+1) bk)(hw:jn ob st (S (i+1) bk)):bR ob (Al S n hn) (n-i) Q .normal st:=⟨n-(i+1),_,Ω,hw,i+1,bk,Ω,rfl,ag,rfl⟩
def CO{α:Type}(S:α->bn)(μ:α->Nat)(hn:α->Prop)(k:Nat)(st:bn):Prop:= ∃a,k=μ a/\hn a/\st=S a
theorem n2(S:α->bn)(μ:α->Nat)(hn:α->Prop)(a0:α)(hw:jn ob st (S a0))(bz:hn a0)
  (kh:∀a,hn a->(∀j,gi (get j (S a).t))->c4 P ob c (bR ob (CO S μ hn) (μ a) Q) (S a)):c4 P ob (.loop c) Q st:=by
 refine n1 (CO S μ hn) (μ a0) _ hw ⟨a0,rfl,bz,rfl⟩ ?_;rintro k s ⟨a,rfl,ag,rfl⟩ ad _;exact kh a ag ad
theorem bR.whl{S:α->bn}{μ:α->Nat}{hn:α->Prop}{k:Nat}(bk:α)(hm:μ bk<k)(ag:hn bk)(hw:jn ob st (S bk)):bR ob (CO S μ hn) k Q .normal st:=⟨μ bk,_,hm,hw,bk,rfl,ag,rfl⟩
end
theorem hN{p:Prop}(h:p:=by(try simp[*]);(repeat' first|with_reducible refine ak ?_|with_reducible refine aA (by assumption) ?_|with_reducible refine aB (by assumption) ?_|simp[*]);(all_goals first|exact bR.rng () (by assumption) (by first|assumption|trivial) b7|exact bR.rng _ (by assumption) (by assumption) b7)):p:=h
end
section
open Go Go.RowKit
def mZ(s:cT)(n:Nat)(k:aL):Prop:=inObs s k\/ ∃m,m<n/\k= .loc m
@[simp]theorem X3(s:cT)(n m:Nat)(hm:m<n):mZ s n (.loc m):= .inr ⟨m,hm,rfl⟩
theorem BX{s:cT}{n:Nat}{l:List aj}(h:aO (inObs s) l):aO (mZ s n) l:=ki (fun _ h=>.inl h) l h
theorem zv{s ah:cT}(fv:Same s ah){n:Nat}{k:aL}(h:mZ ah n k):¬fresh n (c5 s) k:=by
 rcases h with h|⟨m,hm,rfl⟩
 ·exact fun aN=>aN.2 (uQ ((fv.inObs k).2 h))
 ·intro aN;have:=aN.1;simp at this;omega
theorem jn.obL{s ah:cT}(fX:dP ah)(fv:Same s ah){st:bn}{du:List (Nat×aj)}{L:List (aL×List aj)}{n:Nat}(aI:∀x∈du,get x.1 st.t=x.2/\aJ (mZ ah n) x.2)(ft:∀x∈L,look x.1 st.b=some x.2/\mZ ah n x.1/\aO (mZ ah n) x.2)
  (ad:∀k cs,look k ah.b=some cs->look k st.b=some cs) (he:∀k o,look k ah.e=some o->look k st.e=some o):jn (c5 s) st ⟨du,L++ah.b,ah.e,n,c5 s⟩:=by
 refine⟨fun x ab=>⟨(aI x ab).1,xC (fun k ae=>zv fv ae) _ (aI x ab).2⟩,fun k cs ae=>?_,fun k o ay=>?_,fun m hm=>hm⟩
 ·simp only at ae;rw[cV]at ae;cases av:look k L with
  |some x=>rw[av]at ae;simp only[dE]at ae;subst ae;obtain⟨J,U,h3⟩:=ft _ (uH av);exact⟨J,zv fv U,ki (fun k ae=>zv fv ae) _ h3⟩
  |none=>rw[av]at ae;exact⟨ad k cs ae,zv fv (.inl (.inl (by simp[ae]))),ki (fun k ae=>zv fv (.inl ae)) _ (fX.kb k cs ae)⟩
 ·exact⟨he k o ay,zv fv (.inl (.inr (by simp at ay;simp[ay]))),fun xs ab=>ki (fun k ae=>zv fv (.inl ae)) _ (fX.ke k o ay xs ab)⟩
def hA{α:Type}(l:List α)(i j:Nat):List α:=match l[i]?,l[j]? with
 |some x,some y=>(l.set i y).set j x
 |_,_=>l
section
variable {α:Type}
@[simp]theorem akk(l:List α)(i j:Nat):(hA l i j).length=l.length:=by unfold hA;split<;>simp
theorem BL(l:List α)(i j k:Nat)(hi:i<l.length)(ag:j<l.length):(hA l i j)[k]? =if k=i then l[j]? else if k=j then l[i]? else l[k]?:=by
 unfold hA;rw[cg hi,cg ag];simp only[List.getElem?_set,List.length_set];by_cases J:j=k
 ·subst J;by_cases U:j=i
  ·subst U;simp[hi]
  ·simp[U,ag]
 ·by_cases U:i=k
  ·subst U;simp[J,hi]
  ·simp[J,U,lR J,lR U]
theorem Xp(l:List α)(i j:Nat):(hA l i j).Perm l:=by
 unfold hA;split
 ·rename_i x y ab aC;obtain⟨hi,rfl⟩:=fD.1 ab;obtain⟨ag,rfl⟩:=fD.1 aC;exact List.set_set_perm hi ag
 ·exact .refl _
inductive gF (a b:Nat):List α->List α->Prop
 |refl (l:List α):gF a b l l
 |step {l m:List α} {i j:Nat}:gF a b l m->a<=i->i<b->a<=j->j<b->i<m.length->j<m.length->gF a b l (hA m i j)
theorem gF.length{a b:Nat}{l m:List α}(h:gF a b l m):m.length=l.length:=by
 induction h with
 |refl=>rfl
 |step _ _ _ _ _ _ _ bN=>rw[akk,bN]
theorem gF.perm{a b:Nat}{l m:List α}(h:gF a b l m):m.Perm l:=by
 induction h with
 |refl=>exact .refl _
 |step _ _ _ _ _ _ _ bN=>exact(Xp _ _ _).trans bN
theorem gF.out{a b:Nat}{l m:List α}(h:gF a b l m)(k:Nat)(ae:k<a\/b<=k):m[k]? =l[k]?:=by
 induction h with
 |refl=>rfl
 |step _ J U h3 h4 h5 c9 bN=>rw[BL _ _ _ _ h5 c9,if_neg Ω,if_neg Ω];exact bN
theorem gF.all{a b:Nat}{l m:List α}(h:gF a b l m)(p:α->Prop)(bF:∀k x,a<=k->k<b->l[k]? =some x->p x):∀k x,a<=k->k<b->m[k]? =some x->p x:=by
 induction h with
 |refl=>exact bF
 |step _ J U h3 h4 h5 c9 bN=>
  intro k x gJ jY ab;rw[BL _ _ _ _ h5 c9]at ab;split at ab
  ·exact bN _ _ h3 h4 ab
  ·split at ab
   ·exact bN _ _ J U ab
   ·exact bN _ _ gJ jY ab
theorem gF.trans{a b:Nat}{l m r:List α}(h:gF a b l m)(b9:gF a b m r):gF a b l r:=by
 induction b9 with
 |refl=>exact h
 |step _ J U h3 h4 h5 c9 bN=>exact .step bN J U h3 h4 h5 c9
theorem gF.mono{a b bk b3:Nat}{l m:List α}(h:gF a b l m)(bg:bk<=a)(ad:b<=b3):gF bk b3 l m:=by
 induction h with
 |refl=>exact .refl _
 |step _ J U h3 h4 h5 c9 bN=>exact .step bN Ω Ω Ω Ω h5 c9
def fs(lt:α->α->Bool)(a b:Nat)(l:List α):Prop:= ∀i j x y,a<=i->i<j->j<b->l[i]? =some x->l[j]? =some y->lt y x=false
structure rj (lt:α->α->Bool):Prop where
 asym:∀x y,lt x y=true->lt y x=false
 ntr:∀x y z,lt y x=false->lt z y=false->lt z x=false
theorem fs.pairwise{lt:α->α->Bool}{l:List α}(h:fs lt 0 l.length l):l.Pairwise fun x y=>lt y x=false:=by rw[pY];intro i j hi ag mj;exact h i j _ _ Ω mj ag (cg hi) (cg ag)
def im(a m b k:Nat):Nat:=if k<a then k else if k<a+(b-m)then k+(m-a)else if k<b then k-(b-m)else k
def tx(a b c k:Nat):Nat:=if a<=k/\k<a+c then b+(k-a)else if b<=k/\k<b+c then a+(k-b)else k
end
theorem Hf(i j:Nat)(h:i+j<=1099511627776):nT.wrap (Int.fdiv (hG.wrap ((i:Int)+j)) (2 ^ (min 1 hG.bits)))=((i+j)/2:Nat):=by
 have hw:hG.wrap ((i:Int)+j)=i+j:=by simp[tF,oH,sc];omega
 have Mh:hG.bits=64:=rfl;rw[hw,Mh,show(2:Int) ^ (min 1 64)=2 from by decide,Int.fdiv_eq_ediv_of_nonneg _ Ω,nm]
 ·omega
 ·omega
end
section
open Go Go.RowKit
section
variable {P:cK} {ob:List aL} {st:bn} {Q:Exit->bn->Prop} {c:C} {α:Type}
theorem eJ(ch:List Nat)(cs:Nat->α->List (Nat×aj))(n:Nat)(hn:Nat->α->Prop)(a0:α)(hw:jn ob st (qp st ch (cs 0 a0)))(bz:hn 0 a0)(ue:∀a,hn n a->(∀i,gi (get i (qp st ch (cs n a)).t))->c4 P ob c (bR ob (Al (fun i a=>qp st ch (cs i a)) n hn) 0 Q) (qp st ch (cs n a)))
  (kh:∀i a,i<n->hn i a->(∀j,gi (get j (qp st ch (cs i a)).t))->c4 P ob c (bR ob (Al (fun i a=>qp st ch (cs i a)) n hn) (n-i) Q) (qp st ch (cs i a))):c4 P ob (.loop c) Q st:=
 hI (fun i a=>qp st ch (cs i a)) n hn a0 hw bz ue kh
theorem wX(ch:List Nat)(cs:α->List (Nat×aj))(μ:α->Nat)(hn:α->Prop)(a0:α)(hw:jn ob st (qp st ch (cs a0)))(bz:hn a0)
  (kh:∀a,hn a->(∀j,gi (get j (qp st ch (cs a)).t))->c4 P ob c (bR ob (CO (fun a=>qp st ch (cs a)) μ hn) (μ a) Q) (qp st ch (cs a))):c4 P ob (.loop c) Q st:=
 n2 (fun a=>qp st ch (cs a)) μ hn a0 hw bz kh
end
attribute [simp] akO
end
end Go.Pv
namespace Go.Proofs.YtohaalphocaebaaGreatDoor
section
open Go Go.Pv
def SO:C:=(aa [cR 6 hf] (aa [I 7 0,I 8 1,cc 9 21 7 8,I 10 2,c0 11 20 [.t 9,.t 10,(ef 5)],bD 5 6 11] .ret))
@[simp] def an4:List bV:=[.cell 6 true 5]
def SP:C:=(aa [cR 8 da] (aa [I 9 0,I 10 1,cc 11 21 9 10,I 12 2,I 13 3,c0 14 35 [.t 11,.t 12,.t 13],bD 4 8 14] .ret))
@[simp] def Zn:List bV:=[.cell 8 true 4]
def SN:C:=(aa [cW 6 2,cR 8 da] (.seq (.drawnW [401] 15 [I 9 0,I 10 1,cc 11 21 9 10,aX 12 4 6,I 13 3,c0 14 36 [.t 11,.t 12,.t 13],bD 4 8 14]) .ret))
@[simp] def an3:List bV:=[.cell 8 true 4]
def Tt:C:=(aa [cR 6 hf] (aa [I 12 1,gY 13 hf [(0,1,(.t 12))],cR 7 hf,bD 5 7 13] (.seq (aa [I 14 0,I 15 2,aT 16 .add 15 1,cc 17 48 14 16,I 8 17] (.block 0 (.loop (.seq (aa [I 18 8,aT 19 .gtr 18 0] (aZ 19 .skip (.exit 0))) (.seq (.block 1 (aa [I 22 0,I 23 1,c0 24 35 [.t 22,(ef 3),.t 23],cR 9 da,bD 4 9 24] (.seq (.drawn false 46 [aX 26 5 7,I 27 0,c0 28 48 [.t 27,(ef 4)],aX 29 4 9,I 30 0,I 31 1,c0 32 35 [.t 30,(ef 5),.t 31],I 33 0,c0 34 48 [.t 33,(ef 2)],bS 35 (.bin .add false (ef 2) (.t 34)),I 36 0,cS (.bsl 37 1 9 [(.c (.str [97])),(.c (.str [98]))]),cc 38 50 36 37,c0 39 49 [.t 26,.t 28,.t 29,.t 32,.t 35,.t 38],I 25 39,cp 40 0 25,cp 41 1 25,cR 10 hf,bD 5 10 40,I 11 41]) (aa [I 42 11] (aZ 42 (.region [aX 43 5 10,bD 5 7 43]) .skip))))) (.region [I 20 8,aT 21 .sub 20 1,I 8 21])))))) (aa [aX 44 5 7,cH 45 51 44,bD 5 6 45] .ret))))
@[simp] def O9:List bV:=[.cell 6 true 5]
def Tw:C:=(aa [bS 4 (.mov (.c (.nilp)))] (aa [I 7 0,cH 8 52 7,I 5 8] (.seq (aa [cf 6 0] (.block 0 (.loop (.seq (aa [I 9 6,I 10 1,bt 11 .lss 9 10] (aZ 11 .skip (.exit 0))) (.seq (.block 1 (.region [I 14 5,cH 15 44 14])) (.region [I 12 6,aT 13 .add 12 1,I 6 13])))))) (aa [I 16 5,I 4 16] .ret))))
@[simp] def ZE:List bV:=[.tmp 4]
def S5:C:=(aa [cR 6 da] (aa [I 9 0,c0 10 48 [.t 9,(ef 8)],I 7 10] (.seq (aa [I 11 1,aT 12 .gtr 11 2,I 13 12,bT 13 true 14 7,ar 13 true (aT 15 .geq 14 3),dh 16 13 15] (aZ 16 (aa [I 17 0,I 18 1,aT 19 .quo 18 2,I 20 2,c0 21 35 [.t 17,.t 19,.t 20],cR 8 da,bD 4 8 21] (.seq (.drawn false 42 [aX 22 4 8,I 23 0,I 24 1,aT 25 .quo 24 2,I 26 2,c0 27 35 [.t 23,.t 25,.t 26],cc 28 83 22 27,bD 4 6 28]) .ret)) .skip)) (.seq (aa [I 29 2,aT 30 .gtr 29 0,I 31 30,bT 31 true 32 7,ar 31 true (aT 33 .rem 32 2),ar 31 true (aT 34 .eql 33 0),dh 35 31 34] (aZ 35 (aa [I 36 0,I 37 2,cc 38 48 36 37,cH 39 84 38,bD 4 6 39] .ret) .skip)) (aa [I 40 0,cH 41 85 40,bD 4 6 41] .ret)))))
@[simp] def I4:List bV:=[.cell 6 true 4]
def La:C:=(aa [cW 4 1,cR 6 da] (.seq (aa [I 8 0,c0 9 86 [.t 8,(ef 6)]] (aZ 9 (aa [I 10 0,I 11 2,c0 12 35 [.t 10,(ef 4),.t 11],bD 4 6 12] .ret) .skip)) (.seq (aa [aK 13 0 1 4,ax 14 1 13,aT 15 .eql 14 4] (aZ 15 (aa [I 16 0,aK 17 3 1 4,ax 18 1 17,jh 19 4 18 0,aX 20 4 19,I 21 2,c0 22 36 [.t 16,.t 20,.t 21],cR 7 da,bD 4 7 22] (.seq (.drawn false 33 [aX 23 4 7,I 24 0,aK 25 3 1 4,ax 26 1 25,jh 27 4 26 1,aX 28 4 27,I 29 2,c0 30 36 [.t 24,.t 28,.t 29],cc 31 83 23 30,bD 4 6 31]) .ret)) .skip)) (aa [aX 32 4 4,bD 4 6 32] .ret))))
@[simp] def E9:List bV:=[.cell 6 true 4]
def K8:C:=(aa [cf 2 0] (aa [I 4 0,I 5 0,eV 6 5,aK 7 2 1 6,ax 8 1 7,bS 9 (.bin .mul true (.t 8) (ef 6364136223846793005)),bS 10 (.bin .add true (.t 9) (ef 1442695040888963407)),eV 11 4,aK 12 2 1 11,bD 1 12 10] (.seq (.drawn true 58 [I 13 0,eV 14 13,aK 15 2 1 14,ax 16 1 15,bS 17 (.bin .shr false (.t 16) (.c (.int .u64 33))),I 18 0,eV 19 18,aK 20 2 1 19,ax 21 1 20,bS 22 (.bin .shr false (.t 21) (.c (.int .u64 45))),bt 23 .xor 17 22,aT 24 .and 23 255,I 3 24]) (.seq (.seq (.drawn true 58 [I 25 0,eV 26 25,aK 27 1 1 26,ax 28 1 27,I 29 0,eV 30 29,aK 31 0 1 30,ax 32 1 31,cD 33 32,bt 34 .lss 28 33]) (aZ 34 (.seq (.drawn true 58 [I 35 3,I 36 0,eV 37 36,aK 38 0 1 37,ax 39 1 38,I 40 0,eV 41 40,aK 42 1 1 41,ax 43 1 42,cC 44 1 39 43,ax 45 1 44,bS 46 (.conv .i64 (.t 45)),bt 47 .add 35 46,aT 48 .and 47 255,I 3 48]) (.region [I 49 0,I 50 0,eV 51 50,aK 52 1 1 51,ax 53 1 52,aT 54 .add 53 1,eV 55 49,aK 56 1 1 55,bD 1 56 54])) .skip)) (aa [I 57 3,I 2 57] .ret)))))
@[simp] def OZ:List bV:=[.tmp 2]
def SY:C:=(aa [cf 4 0] (.seq (aa [I 5 1,aT 6 .leq 5 0] (aZ 6 (aa [cf 4 0] .ret) .skip)) (aa [I 7 0,cH 8 44 7,I 9 1,bt 10 .rem 8 9,I 4 10] .ret)))
@[simp] def OY:List bV:=[.tmp 4]
def S2:C:=(aa [bS 4 (.mov (.c (.str [])))] (aa [I 5 1,I 6 0,I 7 1,cD 8 7,cc 9 48 6 8,cC 10 1 5 9,ax 11 1 10,I 4 11] .ret))
@[simp] def Zs:List bV:=[.tmp 4]
def S0:C:=(aa [bS 2 (.mov (.c (.nilp)))] (aa [I 5 0,cD 6 5,bS 7 (.bin .add false (ef 90411) (.t 6)),I 3 7] (.seq (aa [cf 4 0] (.block 0 (.loop (.seq (aa [I 8 4,I 9 0,cD 10 9,bt 11 .lss 8 10,I 12 11,bT 12 true 13 4,ar 12 true (aT 14 .lss 13 4000),dh 15 12 14] (aZ 15 .skip (.exit 0))) (.seq (.block 1 (.region [I 18 3,aT 19 .mul 18 131,I 20 0,I 21 4,cC 22 1 20 21,ax 23 1 22,bS 24 (.conv .i64 (.t 23)),bt 25 .add 19 24,aT 26 .add 25 7,aT 27 .and 26 1073741823,I 3 27])) (.region [I 16 4,aT 17 .add 16 1,I 4 17])))))) (aa [I 28 0,I 29 3,bS 30 (.build [.slice 1 .nil [],.int .i64 0,.int .i64 0] [(0,1,(.t 28)),(2,1,(.t 29))]),cS (.box 31 (some 401) (.t 30)),I 2 31] .ret))))
@[simp] def Zq:List bV:=[.tmp 2]
def S3:C:=(aa [cR 2 da] (aa [I 4 0,c0 5 48 [.t 4,(ef 7)],I 3 5] (.seq (aa [I 6 3,aT 7 .lss 6 2] (aZ 7 (aa [I 8 3,cH 9 133 8,bD 4 2 9] .ret) .skip)) (.seq (aa [I 10 3,aT 11 .lss 10 5] (aZ 11 (aa [cS (.bsl 12 1 9 [(.c (.str [97])),(.c (.str [98])),(.c (.str [99]))]),I 13 3,aT 14 .sub 13 2,cC 15 1 12 14,ax 16 1 15,cH 17 134 16,bD 4 2 17] .ret) .skip)) (aa [gY 18 da [],bD 4 2 18] .ret)))))
@[simp] def Zt:List bV:=[.cell 2 true 4]
def S1:C:=(aa [bq 4 false] (aa [I 5 0,I 6 1,cc 7 48 5 6,aT 8 .eql 7 0,I 4 8] .ret))
@[simp] def Zr:List bV:=[.tmp 4]
def S8:C:=(aa [cR 2 da] (aa [I 3 0,gY 4 da [(0,1,(ef 3)),(1,1,(.t 3))],bD 4 2 4] .ret))
@[simp] def Zv:List bV:=[.cell 2 true 4]
def Td:C:=(aa [cR 2 da] (aa [I 3 0,gY 4 da [(0,1,(ef 2)),(2,1,(.t 3))],bD 4 2 4] .ret))
@[simp] def Zz:List bV:=[.cell 2 true 4]
def o5:List (Nat×dy):=[
 (3,⟨1,8,.int .i64,.int .i64 0⟩),
 (5,⟨1,1,.int .u8,.int .u8 0⟩),
 (9,⟨1,16,.str,.str []⟩),
 (22,⟨1,24,.slice 5,.slice 1 .nil []⟩),
 (23,⟨1,24,.slice 54,.slice 5 .nil []⟩),
 (24,⟨1,24,.slice 23,.slice 1 .nil []⟩),
 (25,⟨1,24,.slice 59,.slice 2 .nil []⟩),
 (26,⟨1,24,.slice 56,.slice 2 .nil []⟩),
 (28,⟨5,104,.struct [(0,3),(1,23),(2,24),(3,25),(4,26)],.agg [.int .i64 0,.slice 5 .nil [],.slice 1 .nil [],.slice 2 .nil [],.slice 2 .nil []]⟩),
 (34,⟨1,24,.slice 36,.slice 4 .nil []⟩),
 (36,⟨4,56,.struct [(0,3),(1,3),(2,9),(3,34)],.agg [.int .i64 0,.int .i64 0,.str [],.slice 4 .nil []]⟩),
 (84,⟨1,24,.slice 9,.slice 1 .nil []⟩),
 (116,⟨3,40,.struct [(0,22),(1,3),(2,3)],.agg [.slice 1 .nil [],.int .i64 0,.int .i64 0]⟩)]
theorem oE:fJ aw o5=true:=by kernel_rfl
theorem amo:b6 o5 SO an4 3 Tryz.f6=true:=by kernel_rfl
theorem afx:aw.funcs[(6:Nat)]? =some Tryz.f6:=Tryz.func6
theorem amp:b6 o5 SP Zn 4 Tryz.f10=true:=by kernel_rfl
theorem afy:aw.funcs[(10:Nat)]? =some Tryz.f10:=Tryz.func10
theorem amn:b6 o5 SN an3 4 Tryz.f11=true:=by kernel_rfl
theorem afw:aw.funcs[(11:Nat)]? =some Tryz.f11:=Tryz.func11
theorem am0:b6 o5 Tt O9 3 Tryz.f20=true:=by kernel_rfl
theorem af9:aw.funcs[(20:Nat)]? =some Tryz.f20:=Tryz.func20
theorem am3:b6 o5 Tw ZE 2 Tryz.f21=true:=by kernel_rfl
theorem agc:aw.funcs[(21:Nat)]? =some Tryz.f21:=Tryz.func21
theorem amC:b6 o5 S5 I4 3 Tryz.f35=true:=by kernel_rfl
theorem afL:aw.funcs[(35:Nat)]? =some Tryz.f35:=Tryz.func35
theorem Yt:b6 o5 La E9 3 Tryz.f36=true:=by kernel_rfl
theorem Uy:aw.funcs[(36:Nat)]? =some Tryz.f36:=Tryz.func36
theorem Yr:b6 o5 K8 OZ 1 Tryz.f44=true:=by kernel_rfl
theorem Uw:aw.funcs[(44:Nat)]? =some Tryz.f44:=Tryz.func44
theorem amv:b6 o5 SY OY 2 Tryz.f48=true:=by kernel_rfl
theorem afE:aw.funcs[(48:Nat)]? =some Tryz.f48:=Tryz.func48
theorem amz:b6 o5 S2 Zs 2 Tryz.f50=true:=by kernel_rfl
theorem afI:aw.funcs[(50:Nat)]? =some Tryz.f50:=Tryz.func50
theorem amx:b6 o5 S0 Zq 1 Tryz.f52=true:=by kernel_rfl
theorem afG:aw.funcs[(52:Nat)]? =some Tryz.f52:=Tryz.func52
theorem amA:b6 o5 S3 Zt 1 Tryz.f85=true:=by kernel_rfl
theorem afJ:aw.funcs[(85:Nat)]? =some Tryz.f85:=Tryz.func85
theorem amy:b6 o5 S1 Zr 2 Tryz.f86=true:=by kernel_rfl
theorem afH:aw.funcs[(86:Nat)]? =some Tryz.f86:=Tryz.func86
theorem amF:b6 o5 S8 Zv 1 Tryz.f133=true:=by kernel_rfl
theorem afO:aw.funcs[(133:Nat)]? =some Tryz.f133:=Tryz.func133
theorem amK:b6 o5 Td Zz 1 Tryz.f134=true:=by kernel_rfl
theorem afT:aw.funcs[(134:Nat)]? =some Tryz.f134:=Tryz.func134
end
end Go.Proofs.YtohaalphocaebaaGreatDoor
namespace Go.Pv
section
open Go
inductive bX where
 |mk (kind n:Int) (name:List UInt8) (args:List bX)
def bX.kind:bX->Int| .mk k _ _ _=>k
def bX.num:bX->Int| .mk _ n _ _=>n
def bX.name:bX->List UInt8| .mk _ _ s _=>s
def bX.args:bX->List bX| .mk _ _ _ a=>a
mutual
def enc:bX->aj
 | .mk k n s a=>.agg [.int .i64 k,.int .i64 n,.str s,.slice 4 .no (rB a)]
def rB:List bX->List aj
 |[]=>[]
 |x::xs=>enc x::rB xs
end
theorem GP:∀l,rB l=l.map enc
 |[]=>rfl
 |x::xs=>by simp[rB,GP xs]
theorem Dd(t:bX):enc t= .agg [.int .i64 t.kind,.int .i64 t.num,.str t.name,.slice 4 .no (t.args.map enc)]:=by cases t;simp[enc,GP,bX.kind,bX.num,bX.name,bX.args]
mutual
theorem Xc(S:aL->Prop):∀t:bX,aJ S (enc t)
 | .mk k n s a=>by simp[enc,aJ,aO,Nu S a]
theorem Nu(S:aL->Prop):∀l:List bX,aO S (rB l)
 |[]=>by simp[rB,aO]
 |x::xs=>by simp[rB,aO,Xc S x,Nu S xs]
end
mutual
theorem aao:∀t:bX,eb (enc t)=enc t
 | .mk k n s a=>by simp[enc,eb,dq,PT a]
theorem PT:∀l:List bX,dq (rB l)=rB l
 |[]=>by simp[rB,dq]
 |x::xs=>by simp[rB,dq,aao x,PT xs]
end
@[simp]theorem atC(S:aL->Prop)(t:bX):aJ S (enc t)=True:=eq_true (Xc S t)
@[simp]theorem ats(S:aL->Prop)(l:List bX):aO S (l.map enc)=True:=by rw[<-GP];exact eq_true (Nu S l)
theorem aph(l:List bX):dq (l.map enc)=l.map enc:=by rw[<-GP];exact PT l
attribute [simp] aao aph
@[simp]theorem auW(t:bX):e4 (enc t)=true:=by rw[Dd];rfl
@[simp]theorem arT(t:bX):cells (enc t)=[.int .i64 t.kind,.int .i64 t.num,.str t.name,.slice 4 .no (t.args.map enc)]:=by rw[Dd];rfl
@[simp]theorem arf(t:bX):aj.agg [.int .i64 t.kind,.int .i64 t.num,.str t.name,.slice 4 .no (t.args.map enc)]=enc t:=(Dd t).symm
@[simp]theorem atc(t:bX):Pv.isAgg 4 (enc t):=by rw[Dd];exact⟨_,rfl,rfl⟩
inductive T where
 |nil
 |var (n:Int)
 |sym (s:List UInt8)
 |num (n:Int)
 |pair (a b:T)
 deriving nl,Inhabited
def T.tm:T->bX
 | .nil=>.mk 0 0 [] []
 | .var n=>.mk 1 n [] []
 | .sym s=>.mk 2 0 s []
 | .num n=>.mk 3 n [] []
 | .pair a b=>.mk 4 0 [] [a.tm,b.tm]
def T.e:T->aj
 | .nil=>.agg [.int .i64 0,.int .i64 0,.str [],.slice 4 .no []]
 | .var n=>.agg [.int .i64 1,.int .i64 n,.str [],.slice 4 .no []]
 | .sym s=>.agg [.int .i64 2,.int .i64 0,.str s,.slice 4 .no []]
 | .num n=>.agg [.int .i64 3,.int .i64 n,.str [],.slice 4 .no []]
 | .pair a b=>.agg [.int .i64 4,.int .i64 0,.str [],.slice 4 .no [a.e,b.e]]
theorem kn:∀t:T,enc t.tm=t.e
 | .nil| .var _| .sym _| .num _=>rfl
 | .pair a b=>by simp[T.tm,enc,rB,T.e,kn a,kn b]
def T.kind:T->Int
 | .nil=>0| .var _=>1| .sym _=>2| .num _=>3| .pair _ _=>4
def T.int:T->Int
 | .var n=>n| .num n=>n|_=>0
def T.name:T->List UInt8
 | .sym s=>s|_=>[]
def T.args:T->List T
 | .pair a b=>[a,b]|_=>[]
theorem T.e_eq(t:T):t.e= .agg [.int .i64 t.kind,.int .i64 t.int,.str t.name,.slice 4 .no (t.args.map T.e)]:=by cases t<;>rfl
@[simp]theorem ard(t:T):aj.agg [.int .i64 t.kind,.int .i64 t.int,.str t.name,.slice 4 .no (t.args.map T.e)]=t.e:=(T.e_eq t).symm
@[simp]theorem arh:aj.agg [.int .i64 0,.int .i64 0,.str [],.slice 4 .no []]=T.nil.e:=rfl
@[simp]theorem arl(n:Int):aj.agg [.int .i64 1,.int .i64 n,.str [],.slice 4 .no []]=(T.var n).e:=rfl
@[simp]theorem ark(s:List UInt8):aj.agg [.int .i64 2,.int .i64 0,.str s,.slice 4 .no []]=(T.sym s).e:=rfl
@[simp]theorem ari(n:Int):aj.agg [.int .i64 3,.int .i64 n,.str [],.slice 4 .no []]=(T.num n).e:=rfl
@[simp]theorem arj(a b:T):aj.agg [.int .i64 4,.int .i64 0,.str [],.slice 4 .no [a.e,b.e]]=(T.pair a b).e:=rfl
@[simp]theorem aj5:(T.nil).kind=0:=rfl
@[simp]theorem aju:(T.nil).int=0:=rfl
@[simp]theorem akS:(T.nil).name=[]:=rfl
@[simp]theorem acx:(T.nil).args=[]:=rfl
@[simp]theorem aj9(n:Int):(T.var n).kind=1:=rfl
@[simp]theorem ajy(n:Int):(T.var n).int=n:=rfl
@[simp]theorem akW(n:Int):(T.var n).name=[]:=rfl
@[simp]theorem acB(n:Int):(T.var n).args=[]:=rfl
@[simp]theorem aj8(s:List UInt8):(T.sym s).kind=2:=rfl
@[simp]theorem ajx(s:List UInt8):(T.sym s).int=0:=rfl
@[simp]theorem akV(s:List UInt8):(T.sym s).name=s:=rfl
@[simp]theorem acA(s:List UInt8):(T.sym s).args=[]:=rfl
@[simp]theorem aj6(n:Int):(T.num n).kind=3:=rfl
@[simp]theorem ajv(n:Int):(T.num n).int=n:=rfl
@[simp]theorem akT(n:Int):(T.num n).name=[]:=rfl
@[simp]theorem acy(n:Int):(T.num n).args=[]:=rfl
@[simp]theorem aj7(a b:T):(T.pair a b).kind=4:=rfl
@[simp]theorem ajw(a b:T):(T.pair a b).int=0:=rfl
@[simp]theorem akU(a b:T):(T.pair a b).name=[]:=rfl
@[simp]theorem acz(a b:T):(T.pair a b).args=[a,b]:=rfl
@[simp]theorem atB(S:aL->Prop)(t:T):aJ S t.e=True:=by rw[<-kn];simp
@[simp]theorem avg(t:T):eb t.e=t.e:=by rw[<-kn];simp
theorem W7(S:aL->Prop):∀l:List T,aO S (l.map T.e)
 |[]=>by simp[aO]
 |x::xs=>by simp[aO,W7 S xs]
@[simp]theorem W6(S:aL->Prop)(l:List T):aO S (l.map T.e)=True:=eq_true (W7 S l)
@[simp]theorem apg:∀l:List T,dq (l.map T.e)=l.map T.e
 |[]=>rfl
 |x::xs=>by simp[dq,apg xs]
@[simp]theorem auV(t:T):e4 t.e=true:=by rw[T.e_eq];rfl
@[simp]theorem arS(t:T):cells t.e=[.int .i64 t.kind,.int .i64 t.int,.str t.name,.slice 4 .no (t.args.map T.e)]:=by rw[T.e_eq];rfl
@[simp]theorem atb(t:T):Pv.isAgg 4 t.e:=by rw[T.e_eq];exact⟨_,rfl,rfl⟩
def T.size:T->Nat
 | .pair a b=>1+a.size+b.size
 |_=>1
theorem T.size_pos(t:T):1<=t.size:=by cases t<;>simp[T.size]<;>omega
def low(b:UInt8):Bool:=decide (97<=b.toNat/\b.toNat<=122)
def nH(b:UInt8):Bool:=low b||decide (48<=b.toNat/\b.toNat<=57)||b.toNat==45
def iK(s:List UInt8):Bool:=decide (1<=s.length/\s.length<=12)&&low (s.getD 0 0)&&(s.drop 1).all nH
def T.ok:T->Bool
 | .nil=>true
 | .var n=>decide (0<=n/\n<=100000)
 | .sym s=>iK s
 | .num n=>decide (-1000000000<=n/\n<=1000000000)
 | .pair a b=>a.ok&&b.ok
def l1(k n:Int)(s:List UInt8):Bool:=if k=0 then n==0&&s==[]else if k=1 then decide (0<=n/\n<=100000)&&s==[]else if k=2 then n==0&&iK s else if k=3 then decide (-1000000000<=n/\n<=1000000000)&&s==[]else false
def fH:bX->Int->Int
 | .mk k n s [a,b],room=>if room<1\/k≠4\/n≠0\/s≠[]then-1 else if fH a (room-1)<0 then-1 else if fH b (room-1-fH a (room-1))<0 then-1 else 1+fH a (room-1)+fH b (room-1-fH a (room-1))
 | .mk k n s args,room=>if room<1\/k=4\/args≠[]\/l1 k n s=false then-1 else 1
theorem Oa(k n:Int)(s:List UInt8)(args:List bX)(room:Int):fH (.mk k n s args) room=if room<1 then-1 else if k≠4 then(if args≠[]then-1 else if l1 k n s then 1 else-1)else if n≠0\/s≠[]then-1 else match args with
  |[a,b]=>if fH a (room-1)<0 then-1 else if fH b (room-1-fH a (room-1))<0 then-1 else 1+fH a (room-1)+fH b (room-1-fH a (room-1))
  |_=> -1:=by
 match args with
 |[]=>simp only[fH];by_cases J:room<1<;>by_cases U:k=4<;>by_cases h3:l1 k n s=true<;>simp[J,U,h3]
 |[a]=>simp[fH]
 |[a,b]=>simp only[fH];by_cases J:room<1<;>by_cases U:k=4<;>simp[J,U]
 |a::b::c::r=>simp[fH]
theorem Ix:∀(t:T) (room:Int),fH t.tm room=if t.ok=true/\(t.size:Int)<=room then(t.size:Int)else-1
 | .nil,room=>by simp[T.tm,fH,T.ok,T.size,l1];split<;>rename_i h<;>simp_all<;>omega
 | .var n,room=>by simp[T.tm,fH,T.ok,T.size,l1];split<;>split<;>simp_all<;>omega
 | .sym s,room=>by simp[T.tm,fH,T.ok,T.size,l1];by_cases J:room<1<;>by_cases U:iK s=true<;>simp[J,U]<;>omega
 | .num n,room=>by simp[T.tm,fH,T.ok,T.size,l1];split<;>split<;>simp_all<;>omega
 | .pair a b,room=>by
  have bg:=a.size_pos;have ad:=b.size_pos;simp only[T.tm,fH,Ix a,Ix b,T.ok,T.size,cr];by_cases J:room<1
  ·simp[J];omega
  ·by_cases U:a.ok=true/\(a.size:Int)<=room-1
   ·rw[if_pos U];by_cases h3:b.ok=true/\(b.size:Int)<=room-1-a.size
    ·rw[if_pos h3];simp[J,U.1,h3.1];split<;>omega
    ·rw[if_neg h3];simp[J,U.1];intro kr;have:=h3;simp[kr]at this;omega
   ·rw[if_neg U];simp[J];intro lY;have:=U;simp[lY]at this;omega
theorem EK:∀(t:bX) (room:Int),fH t room= -1\/1<=fH t room
 | .mk k n s [a,b],room=>by
  simp only[fH];split
  ·exact .inl rfl
  ·split
   ·exact .inl rfl
   ·split
    ·exact .inl rfl
    ·right;omega
 | .mk k n s [],room=>by simp only[fH];split<;>simp
 | .mk k n s [a],room=>by simp[fH]
 | .mk k n s (a::b::c::r),room=>by simp[fH]
theorem Oc:∀(t:bX) (room:Int),0<fH t room->∃x:T,x.tm=t
 | .mk k n s [a,b],room,h=>by
  simp only[fH]at h;split at h
  ·omega
  ·rename_i J;simp only[not_or,Int.not_lt,ne_eq,avp]at J;obtain⟨J,rfl,rfl,rfl⟩:=J;split at h
   ·omega
   ·split at h
    ·omega
    ·obtain⟨x,rfl⟩:=Oc a (room-1) (by rcases EK a (room-1)with h|h<;>omega);obtain⟨y,rfl⟩:=Oc b (room-1-fH x.tm (room-1)) (by rcases EK b (room-1-fH x.tm (room-1))with h|h<;>omega);exact⟨.pair x y,rfl⟩
 | .mk k n s [],room,h=>by
  simp only[fH]at h;split at h
  ·omega
  ·rename_i J;simp only[not_or,ne_eq,not_true_eq_false,not_false_eq_true,true_and,Bool.not_eq_false]at J;obtain⟨_,_,J⟩:=J;unfold l1 at J;split at J
   ·rename_i e;subst e;simp at J;obtain⟨rfl,rfl⟩:=J;exact⟨.nil,rfl⟩
   ·split at J
    ·rename_i e;subst e;simp at J;obtain⟨_,rfl⟩:=J;exact⟨.var n,rfl⟩
    ·split at J
     ·rename_i e;subst e;simp at J;obtain⟨rfl,_⟩:=J;exact⟨.sym s,rfl⟩
     ·split at J
      ·rename_i e;subst e;simp at J;obtain⟨_,rfl⟩:=J;exact⟨.num n,rfl⟩
      ·cases J
 | .mk k n s [a],room,h=>by simp[fH]at h
 | .mk k n s (a::b::c::r),room,h=>by simp[fH]at h
theorem Ob:∀(t:bX) (room:Int),fH t room<=room\/fH t room= -1
 | .mk k n s [a,b],room=>by
  simp only[fH];split
  ·exact .inr rfl
  ·split
   ·exact .inr rfl
   ·split
    ·exact .inr rfl
    ·rcases Ob b (room-1-fH a (room-1))with h|h<;>omega
 | .mk k n s [],room=>by simp only[fH];split<;>simp;rename_i h;omega
 | .mk k n s [a],room=>by simp[fH]
 | .mk k n s (a::b::c::r),room=>by simp[fH]
mutual
def bX.sz:bX->Nat
 | .mk _ _ _ a=>1+bX.szL a
def bX.szL:List bX->Nat
 |[]=>0
 |x::xs=>x.sz+bX.szL xs
end
theorem aaq:∀{l:List bX} {x:bX},x∈l->x.sz<=bX.szL l
 |y::l,x,h=>by
  rcases fm.1 h with rfl|h
  ·simp[bX.szL]
  ·have:=aaq h;simp[bX.szL];omega
theorem apm{t x:bX}(h:x∈t.args):x.sz<t.sz:=by cases t;simp[bX.args]at h;have:=aaq h;simp[bX.sz];omega
def T.fit(t:T):Bool:=t.ok&&decide (t.size<=5000)
def bX.fits(t:bX):Bool:=decide (0<fH t 5000)
theorem bX.fits_T(t:T):t.tm.fits=t.fit:=by
 unfold bX.fits T.fit;rw[Ix];have:=t.size_pos;by_cases J:t.ok=true<;>by_cases U:t.size<=5000
 ·rw[if_pos ⟨J,Ω⟩];simp[J,U];omega
 ·rw[if_neg Ω];simp[U]
 ·rw[if_neg (by simp[J])];simp[J]
 ·rw[if_neg (by simp[J])];simp[J]
theorem bX.fits_ex{t:bX}(h:t.fits=true):∃x:T,x.tm=t/\x.fit=true:=by obtain⟨x,rfl⟩:=Oc t 5000 (by simpa[bX.fits]using h);exact⟨x,rfl,by rw[<-bX.fits_T];exact h⟩
structure ai where
 v:Int
 t:T
 deriving nl,Inhabited
def ai.e(b:ai):aj:= .agg [.int .i64 b.v,.int .i64 b.t.kind,.int .i64 b.t.int,.str b.t.name,.slice 4 .no (b.t.args.map T.e)]
@[simp]theorem ai.eta(b:ai):ai.mk b.v b.t=b:=rfl
@[simp]theorem QY(v:Int)(t:T):aj.agg [.int .i64 v,.int .i64 t.kind,.int .i64 t.int,.str t.name,.slice 4 .no (t.args.map T.e)]=(ai.mk v t).e:=rfl
@[simp]theorem aq8(v:Int):aj.agg [.int .i64 v,.int .i64 0,.int .i64 0,.str [],.slice 4 .no []]=(ai.mk v .nil).e:=rfl
@[simp]theorem arc(v n:Int):aj.agg [.int .i64 v,.int .i64 1,.int .i64 n,.str [],.slice 4 .no []]=(ai.mk v (.var n)).e:=rfl
@[simp]theorem arb(v:Int)(s:List UInt8):aj.agg [.int .i64 v,.int .i64 2,.int .i64 0,.str s,.slice 4 .no []]=(ai.mk v (.sym s)).e:=rfl
@[simp]theorem aq9(v n:Int):aj.agg [.int .i64 v,.int .i64 3,.int .i64 n,.str [],.slice 4 .no []]=(ai.mk v (.num n)).e:=rfl
@[simp]theorem ara(v:Int)(a b:T):aj.agg [.int .i64 v,.int .i64 4,.int .i64 0,.str [],.slice 4 .no [a.e,b.e]]=(ai.mk v (.pair a b)).e:=rfl
@[simp]theorem atx(S:aL->Prop)(b:ai):aJ S b.e=True:=by simp[ai.e,-QY]
@[simp]theorem avb(b:ai):eb b.e=b.e:=by simp[ai.e,-QY]
theorem W4(S:aL->Prop):∀l:List ai,aO S (l.map ai.e)
 |[]=>by simp[aO]
 |x::xs=>by simp[aO,W4 S xs]
@[simp]theorem atp(S:aL->Prop)(l:List ai):aO S (l.map ai.e)=True:=eq_true (W4 S l)
@[simp]theorem aan:∀l:List ai,dq (l.map ai.e)=l.map ai.e
 |[]=>rfl
 |x::xs=>by simp[dq,aan xs]
@[simp]theorem auO(b:ai):e4 b.e=true:=rfl
@[simp]theorem arN(b:ai):cells b.e=[.int .i64 b.v,.int .i64 b.t.kind,.int .i64 b.t.int,.str b.t.name,.slice 4 .no (b.t.args.map T.e)]:=rfl
@[simp]theorem as9(b:ai):Pv.isAgg 5 b.e:=⟨_,rfl,rfl⟩
@[simp]theorem asr(off:Nat)(gG:Bool)(sz:Nat)(b:ai):vt off gG sz b.e=if gG then some (off+sz<=5,.agg (([.int .i64 b.v,.int .i64 b.t.kind,.int .i64 b.t.int,.str b.t.name,.slice 4 .no (b.t.args.map T.e)].drop off).take sz))else(([.int .i64 b.v,.int .i64 b.t.kind,.int .i64 b.t.int,.str b.t.name,.slice 4 .no (b.t.args.map T.e)]:List aj)[off]?).map fun p=>(True,p):=rfl
@[simp]theorem asi(off:Nat)(gG:Bool)(sz:Nat)(b:ai):sv off gG sz (.eptr b.e)=if gG then some (off+sz<=5,.eptr (.agg (([.int .i64 b.v,.int .i64 b.t.kind,.int .i64 b.t.int,.str b.t.name,.slice 4 .no (b.t.args.map T.e)].drop off).take sz)))else(([.int .i64 b.v,.int .i64 b.t.kind,.int .i64 b.t.int,.str b.t.name,.slice 4 .no (b.t.args.map T.e)]:List aj)[off]?).map fun p=>(e4 p=true/\cells p=[p],.eptr p):=rfl
def T.occ(v:Int):T->Bool
 | .var n=>n==v
 | .pair a b=>a.occ v||b.occ v
 |_=>false
def eL(a b:Int):Int:=if a<b then-1 else if b<a then 1 else 0
def ln(a b:List UInt8):Int:=if a=b then 0 else if hP a b then-1 else 1
def eK:T->T->Int
 | .pair a b,.pair c d=>if eK a c=0 then eK b d else eK a c
 |x,y=>if x.kind≠y.kind then eL x.kind y.kind else if x.int≠y.int then eL x.int y.int else ln x.name y.name
structure dO where
 v:Int
 t:bX
def dO.e(b:dO):aj:= .agg [.int .i64 b.v,.int .i64 b.t.kind,.int .i64 b.t.num,.str b.t.name,.slice 4 .no (b.t.args.map enc)]
def ai.b(b:ai):dO:=⟨b.v,b.t.tm⟩
theorem ai.b_e(b:ai):b.b.e=b.e:=by obtain⟨v,t⟩:=b;cases t<;>simp only[ai.b,dO.e,ai.e,T.tm,bX.kind,bX.num,bX.name,bX.args,kn,aj5,aj9,aj8,aj6,aj7,aju,ajy,ajx,ajv,ajw,akS,akW,akV,akT,akU,acx,acB,acA,acy,acz,gZ,nn]
@[simp]theorem dO.eta(b:dO):dO.mk b.v b.t=b:=rfl
@[simp]theorem QZ(v:Int)(t:bX):aj.agg [.int .i64 v,.int .i64 t.kind,.int .i64 t.num,.str t.name,.slice 4 .no (t.args.map enc)]=(dO.mk v t).e:=rfl
@[simp]theorem aty(S:aL->Prop)(b:dO):aJ S b.e=True:=by simp[dO.e,-QZ]
@[simp]theorem avc(b:dO):eb b.e=b.e:=by simp[dO.e,-QZ]
theorem W5(S:aL->Prop):∀l:List dO,aO S (l.map dO.e)
 |[]=>by simp[aO]
 |x::xs=>by simp[aO,W5 S xs]
@[simp]theorem atq(S:aL->Prop)(l:List dO):aO S (l.map dO.e)=True:=eq_true (W5 S l)
@[simp]theorem apf:∀l:List dO,dq (l.map dO.e)=l.map dO.e
 |[]=>rfl
 |x::xs=>by simp[dq,apf xs]
@[simp]theorem auQ(b:dO):e4 b.e=true:=rfl
@[simp]theorem arP(b:dO):cells b.e=[.int .i64 b.v,.int .i64 b.t.kind,.int .i64 b.t.num,.str b.t.name,.slice 4 .no (b.t.args.map enc)]:=rfl
@[simp]theorem ata(b:dO):Pv.isAgg 5 b.e:=⟨_,rfl,rfl⟩
@[simp]theorem ass(off:Nat)(gG:Bool)(sz:Nat)(b:dO):vt off gG sz b.e=if gG then some (off+sz<=5,.agg (([.int .i64 b.v,.int .i64 b.t.kind,.int .i64 b.t.num,.str b.t.name,.slice 4 .no (b.t.args.map enc)].drop off).take sz))else(([.int .i64 b.v,.int .i64 b.t.kind,.int .i64 b.t.num,.str b.t.name,.slice 4 .no (b.t.args.map enc)]:List aj)[off]?).map fun p=>(True,p):=rfl
@[simp]theorem asj(off:Nat)(gG:Bool)(sz:Nat)(b:dO):sv off gG sz (.eptr b.e)=if gG then some (off+sz<=5,.eptr (.agg (([.int .i64 b.v,.int .i64 b.t.kind,.int .i64 b.t.num,.str b.t.name,.slice 4 .no (b.t.args.map enc)].drop off).take sz)))else(([.int .i64 b.v,.int .i64 b.t.kind,.int .i64 b.t.num,.str b.t.name,.slice 4 .no (b.t.args.map enc)]:List aj)[off]?).map fun p=>(e4 p=true/\cells p=[p],.eptr p):=rfl
def BZ(l:List dO)(i:Nat):Prop:= ∀b,l[i]? =some b->(0<=b.v/\b.v<=100000)/\(∀c,0<i->l[i-1]? =some c->c.v<b.v)/\b.t.fits=true
def wL(l:List dO):Prop:=l.length<=400/\∀i,i<l.length->BZ l i
theorem rW:∀a b:T,eK a b=0↔a=b
 | .pair a b,.pair c d=>by
  simp only[eK,T.pair.injEq];split
  ·rename_i h;rw[rW b d,<-rW a c];simp[h]
  ·rename_i h;simp[h,<-rW a c]
 | .nil,y=>by cases y<;>simp[eK,eL,ln]
 | .var n,y=>by cases y<;>simp[eK,eL,ln]<;>omega
 | .sym s,y=>by cases y<;>simp[eK,eL,ln];rename_i ah;by_cases h:s=ah<;>simp[h];by_cases U:hP s ah=true<;>simp[U]
 | .num n,y=>by cases y<;>simp[eK,eL,ln]<;>omega
 | .pair a b,.nil| .pair a b,.var _| .pair a b,.sym _| .pair a b,.num _=>by simp[eK,eL]
def T.sub(f:Int->Option T):T->T
 | .var n=>match f n with|some x=>x|none=>.var n
 | .pair a b=>.pair (a.sub f) (b.sub f)
 |t=>t
def l3(f:Int->Int):T->Int
 | .var n=>if 5001<f n then 5001 else f n
 | .pair a b=>if 5000<l3 f a then l3 f a else if 5001<1+l3 f a+l3 f b then 5001 else 1+l3 f a+l3 f b
 |_=>1
theorem JE(f:Int->Int)(aN:∀v,-1<=f v):∀t,-1<=l3 f t/\l3 f t<=5001
 | .var n=>by have:=aN n;simp only[l3];split<;>omega
 | .pair a b=>by have:=JE f aN a;have:=JE f aN b;simp only[l3];split<;>(try split)<;>omega
 | .nil| .sym _| .num _=>by simp[l3]
def cO(l:List ai)(v:Int):Option T:=(l.find? fun b=>b.v==v).map (·.t)
end
end Go.Pv
namespace Go.Proofs.YtohaalphocaebaaGreatDoor
section
open Go Go.Pv
structure dB where
 d:List Int
 i:Nat
 h:Int
def ic(d:List Int):List aj:=d.map (aj.int .u8)
def dB.e(c:dB):List aj:=[.slice 1 .no (ic c.d),.int .i64 c.i,.int .i64 c.h]
def bQ(c:dB):cT:=⟨[(.obj 401,c.e)],[]⟩
@[simp]theorem atk(S:aL->Prop)(d:List Int):aO S (ic d)=True:=by
 apply eq_true;induction d with
 |nil=>simp[-bZ,-bO,ic,aO]
 |cons x r bN=>simp only[ic,gZ,aO,aJ]at bN⊢;exact⟨trivial,bN⟩
@[simp]theorem avd(d:List Int):dq (ic d)=ic d:=by
 induction d with
 |nil=>rfl
 |cons x r bN=>simp only[ic,gZ,dq,eb]at bN⊢;rw[bN]
@[simp]theorem arJ(d:List Int):(ic d).length=d.length:=by simp[-bZ,-bO,ic]
theorem KI{d:List Int}{i:Nat}{x:Int}(h:d[i]? =some x):(ic d)[i]? =some (.int .u8 x):=by simp[-bZ,-bO,ic,h]
theorem e0(c:dB):dP (bQ c):=by unfold bQ;exact dP.of ⟨by intro m;simp[-bZ,-bO,Pv.look],by intro m;simp[-bZ,-bO,Pv.look]⟩ (by simp[-bZ,-bO,dB.e,aO,aJ]) (by simp[-bZ,-bO])
theorem gP(c cq:dB):Same (bQ c) (bQ cq):=by refine⟨fun k=>?_,fun k=>rfl⟩;simp only[bQ,Pv.look];split<;>rfl
def sk(d:List Int):Prop:= ∀x∈d,0<=x/\x<256
def BW(h:Int):Int:=nT.wrap (nT.wrap (h*6364136223846793005)+1442695040888963407)
def yx(k:IntKind)(a b:Int):Int:=k.wrap (mF k.bits a&&& mF k.bits b).toNat
def abF(k:IntKind)(a b:Int):Int:=k.wrap (mF k.bits a ^^^ mF k.bits b).toNat
def PH(k:IntKind)(a b:Int):Int:=a.fdiv (2 ^ (min b.toNat k.bits))
section
variable (a b:Int)
@[simp]theorem arq:bO .add false (.int .i64 a) (.int .i64 b)=some (pJ (a+b),.int .i64 (a+b)):=by unfold bO bZ;simp[-bZ,-bO]
@[simp]theorem ars:bO .add true (.int .i64 a) (.int .i64 b)=some (True,.int .i64 (nT.wrap (a+b))):=rfl
@[simp]theorem arF:bO .sub false (.int .i64 a) (.int .i64 b)=some (pJ (a-b),.int .i64 (a-b)):=by unfold bO bZ;simp[-bZ,-bO]
@[simp]theorem arz:bO .mul false (.int .i64 a) (.int .i64 b)=some (pJ (a*b),.int .i64 (a*b)):=by unfold bO bZ;simp[-bZ,-bO]
@[simp]theorem arA:bO .mul true (.int .i64 a) (.int .i64 b)=some (True,.int .i64 (nT.wrap (a*b))):=rfl
@[simp]theorem arC:bO .quo false (.int .i64 a) (.int .i64 b)=some (b≠0,.int .i64 (nT.wrap (a.tdiv b))):=rfl
@[simp]theorem arD:bO .rem false (.int .i64 a) (.int .i64 b)=some (b≠0,.int .i64 (a.tmod b)):=rfl
@[simp]theorem aru:bO .eql false (.int .i64 a) (.int .i64 b)=some (True,.bool (a==b)):=rfl
@[simp]theorem arB:bO .neq false (.int .i64 a) (.int .i64 b)=some (True,.bool (a !=b)):=rfl
@[simp]theorem ary:bO .lss false (.int .i64 a) (.int .i64 b)=some (True,.bool (decide (a<b))):=rfl
@[simp]theorem arx:bO .leq false (.int .i64 a) (.int .i64 b)=some (True,.bool (decide (a<=b))):=rfl
@[simp]theorem arw:bO .gtr false (.int .i64 a) (.int .i64 b)=some (True,.bool (decide (b<a))):=rfl
@[simp]theorem arv:bO .geq false (.int .i64 a) (.int .i64 b)=some (True,.bool (decide (b<=a))):=rfl
@[simp]theorem art:bO .and false (.int .i64 a) (.int .i64 b)=some (True,.int .i64 (yx .i64 a b)):=rfl
@[simp]theorem arG:bO .xor false (.int .i64 a) (.int .i64 b)=some (True,.int .i64 (abF .i64 a b)):=rfl
@[simp]theorem arE(k:IntKind):bO .shr false (.int .i64 a) (.int k b)=some (0<=b,.int .i64 (PH .i64 a b)):=rfl
end
theorem Kx(x m:Int)(bz:0<=m)(J:m<9223372036854775807):0<=yx .i64 x m/\yx .i64 x m<=m:=by
 have hm:(mF 64 m).toNat=m.toNat:=by rw[BitVec.toNat_ofInt];omega
 have h:(mF 64 x&&& mF 64 m).toNat<=m.toNat:=by rw[BitVec.toNat_and,hm];exact Nat.and_le_right
 unfold yx;rw[show nT.bits=64 from rfl,nm _ Ω];omega
def zt(h:Int):Int:=yx .i64 (abF .i64 (PH .i64 h 33) (PH .i64 h 45)) 255
theorem XQ(h:Int):0<=zt h/\zt h<=255:=Kx _ _ Ω Ω
def dB.byte(c:dB):Int:=match c.d[c.i]? with|some x=>yx .i64 (zt (BW c.h)+x) 255|none=>zt (BW c.h)
def dB.next(c:dB):dB:=⟨c.d,if c.i<c.d.length then c.i+1 else c.i,BW c.h⟩
theorem dB.byte_le(c:dB):0<=c.byte/\c.byte<=255:=by
 unfold dB.byte;split
 ·exact Kx _ _ Ω Ω
 ·exact XQ _
structure dB.ok (c:dB):Prop where
 d:sk c.d
 l:c.d.length<=10000000
 i:c.i<=c.d.length
theorem dB.ok.next{c:dB}(h:c.ok):c.next.ok:=⟨h.d,h.l,by have:=h.i;simp only[dB.next];split<;>omega⟩
theorem UZ(c:dB)(ao:c.ok):bG aw 44 [.ptr (.obj 401) 0] (bQ c) fun r ah=>r= .int .i64 c.byte/\ah=bQ c.next:=by
 have af:=e0 c;have fX:=e0 c.next;have ea:=gP c c.next;obtain⟨d,i,h⟩:=c;obtain⟨aG,av,hi⟩:=ao;simp only at aG av hi;have qR:=XQ (BW h);simp only[zt]at qR;by_cases bs:i<d.length
 ·obtain⟨x,ab⟩:∃x,d[i]? =some x:=⟨_,cg bs⟩;have la:∀h,(ic d)[i]'h= .int .u8 x:=fun h=>by have:=KI ab;rw[cg h]at this;simpa using this
  have oZ:=aG x (eF ab);have hw:nT.wrap x=x:=nm _ Ω;simp only[bQ,dB.e,dB.next,bs,if_true]at af fX ea⊢;refine bG.mk mixed oE Uw Yr (by simp[-bZ,-bO]) af.obj fun aQ cI=>?_;unfold K8;simp[-bZ,-bO,bs,la,hw,<-BW.eq_1];(with_reducible repeat' first|((first|apply bJ|apply bM|apply bL)<;>intro h<;>try simp[-bZ,-bO]at h)|refine ak ?_|simp[-bZ,-bO]);refine cL.at _ (.inl rfl) fX ea aH aH ?_;simp[-bZ,-bO,cM,OZ,aV,aY,aU];simp[-bZ,-bO,dB.byte,ab,zt]
 ·have ab:d[i]? =none:=by simp[-bZ,-bO];omega
  simp only[bQ,dB.e,dB.next,bs,if_false]at af fX ea⊢;refine bG.mk mixed oE Uw Yr (by simp[-bZ,-bO]) af.obj fun aQ cI=>?_;unfold K8;simp[-bZ,-bO,bs,<-BW.eq_1];(with_reducible repeat' first|((first|apply bJ|apply bM|apply bL)<;>intro h<;>try simp[-bZ,-bO]at h)|refine ak ?_|simp[-bZ,-bO]);refine cL.at _ (.inl rfl) fX ea aH aH ?_;simp[-bZ,-bO,cM,OZ,aV,aY,aU];simp[-bZ,-bO,dB.byte,ab,zt]
end
section
open Go Go.Pv
def ajD(s:List UInt8)(k:Nat)(st:bn):Prop:=∃i:Nat,1<=i/\i<=s.length/\k=s.length-i/\((s.drop 1).all nH=(s.drop i).all nH)/\st=⟨[(0,.str s),(3,.int .i64 i)],[],[],0,[]⟩
theorem u3(s:List UInt8):bK aw 109 [.str s] (.bool (iK s)):=by
 refine bK.mk mixed fT ael ala Ψ d6 fun ad=>?_;unfold Rz;simp;(with_reducible repeat' first|((first|refine bJ (fun h=>?_) fun h=>?_|refine bM (fun h=>?_) fun h=>?_|refine bL (fun h=>?_) fun h=>?_)<;>try simp at h)|refine ak ?_|simp);case refine_1.refine_1.refine_1.refine_2=>
  have aiE:iK s=(s.drop 1).all nH:=by simp[iK,low];omega
  rw[aiE];refine n1 (ajD s) (s.length-1) _ ⟨Ψ,by simp[gL],by simp[oC],Ψ⟩ ⟨1,Ω,Ω,rfl,rfl,rfl⟩ ?_;rintro k st ⟨i,mR,hX,ae,lE,rfl⟩ jF cI;rw[lE];simp;refine bJ (fun bs=>?_) (fun xf=>?_)
  ·simp at bs;have aG:s.drop i=s[i]?.getD 0::s.drop (i+1):=by rw[lu bs];simp[bs]
   simp;(with_reducible repeat' first|((first|refine bJ (fun h=>?_) fun h=>?_|refine bM (fun h=>?_) fun h=>?_|refine bL (fun h=>?_) fun h=>?_)<;>try simp at h)|refine ak ?_|simp);all_goals first
    |(simp[bp,IT,aV,aY,aU,aG,nH,low];omega)
    |(simp only[F0];refine⟨s.length-(i+1),_,Ω,⟨Ψ,by simp[gL],by simp[oC],Ψ⟩,i+1,Ω,Ω,rfl,?_,rfl⟩;rw[lE,aG];simp[nH,low];omega)
  ·simp at xf;have:s.drop i=[]:=by simp;omega
   simp[bp,IT,aV,aY,aU,this]
 all_goals simp[bp,IT,aV,aY,aU,iK,low]
 all_goals omega
theorem abj(m:Nat):∀(t:bX),t.sz<=m->∀(room:Int),0<=room/\room<=10000->bK aw 114 [enc t,.int .i64 room] (.int .i64 (fH t room)):=by
 induction m with
 |zero=>intro t aI;cases t;simp[bX.sz]at aI
 |succ m bN=>
 rintro⟨k,n,s,args⟩ aI room sR;refine bo fT aeQ alH fun aQ=>?_;unfold R6;simp[bX.kind,bX.num,bX.name,bX.args];(with_reducible repeat' first|((first|refine bJ (fun h=>?_) fun h=>?_|refine bM (fun h=>?_) fun h=>?_|refine bL (fun h=>?_) fun h=>?_)<;>try simp at h)|refine ak ?_|simp);all_goals try refine cQ.val Ψ (u3 _) ?_
 all_goals try simp
 (with_reducible repeat' first|((first|refine bJ (fun h=>?_) fun h=>?_|refine bM (fun h=>?_) fun h=>?_|refine bL (fun h=>?_) fun h=>?_)<;>try simp at h)|refine ak ?_|simp);all_goals try simp[bp,I0,aV,aY,aU]
 case succ.refine_2.refine_2.refine_1.refine_1.refine_2=>
  rename_i bz J U h3;match args,h with
  |[a,b],_=>
  simp[bX.sz,bX.szL]at aI;subst J U h3;simp;(with_reducible repeat' first|((first|refine bJ (fun h=>?_) fun h=>?_|refine bM (fun h=>?_) fun h=>?_|refine bL (fun h=>?_) fun h=>?_)<;>try simp at h)|refine ak ?_|simp);refine cQ.val Ψ (bN a Ω (room-1) Ω) ?_;simp;have bg:=Ob a (room-1);have n7:=EK a (room-1);(with_reducible repeat' first|((first|refine bJ (fun h=>?_) fun h=>?_|refine bM (fun h=>?_) fun h=>?_|refine bL (fun h=>?_) fun h=>?_)<;>try simp at h)|refine ak ?_|simp)
  ·simp[bp,I0,aV,aY,aU];rw[Oa];simp;omega
  ·refine cQ.val Ψ (bN b Ω (room-1-fH a (room-1)) Ω) ?_;simp;have ad:=Ob b (room-1-fH a (room-1));have gd:=EK b (room-1-fH a (room-1));(with_reducible repeat' first|((first|refine bJ (fun h=>?_) fun h=>?_|refine bM (fun h=>?_) fun h=>?_|refine bL (fun h=>?_) fun h=>?_)<;>try simp at h)|refine ak ?_|simp);all_goals simp[bp,I0,aV,aY,aU]
   all_goals rw[Oa];simp;omega
 all_goals rw[Oa]
 all_goals simp_all[l1]
 all_goals first|omega|(split<;>simp at h⊢)
theorem JR(t:bX):bK aw 89 [enc t] (.bool t.fits):=by refine bo fT aeu alj fun aQ=>?_;unfold RI;simp;refine cQ.val Ψ (abj t.sz t (dZ _) 5000 Ω) ?_;simp;simp[bp,YU,aV,aY,aU];simp[bX.fits]
theorem ap3(t:T):bK aw 89 [t.e] (.bool t.fit):=by have:=JR t.tm;rwa[kn,bX.fits_T]at this
theorem JY(a b:T):bK aw 154 [a.e,b.e] (T.pair a b).e:=by refine bo fT aeU alL fun aQ=>?_;unfold Sa;simp;(with_reducible repeat' first|((first|refine bJ (fun h=>?_) fun h=>?_|refine bM (fun h=>?_) fun h=>?_|refine bL (fun h=>?_) fun h=>?_)<;>try simp at h)|refine ak ?_|simp);all_goals try simp[bp,Za,aV,aY,aU]
theorem ye(a b:T):bK aw 83 [a.e,b.e] (T.pair a b).e:=by refine bo fT afQ amH fun aQ=>?_;unfold Ta;simp;(with_reducible repeat' first|((first|refine bJ (fun h=>?_) fun h=>?_|refine bM (fun h=>?_) fun h=>?_|refine bL (fun h=>?_) fun h=>?_)<;>try simp at h)|refine ak ?_|simp);all_goals try simp[bp,Zw,aV,aY,aU]
theorem u4(t:T):bK aw 136 [t.e] t.e:=by
 induction t with
 |pair a b dz dA=>refine bo fT Uo Yi fun aQ=>?_;unfold KT;exact cz
 |_=>refine bo fT Uo Yi fun aQ=>?_;unfold KT;exact cz
theorem o9(a b:Int):bK aw 155 [.int .i64 a,.int .i64 b] (.int .i64 (eL a b)):=by
 refine bo fT aeT alK fun aQ=>?_;unfold R9;simp;((with_reducible repeat' first|refine ak ?_|simp|((first|apply bJ|apply bM|apply bL)<;>intro h<;>try simp at h))<;>(try exact ck));all_goals simp[bp,Y9,aV,aY,aU]
 all_goals simp[eL]
 all_goals omega
theorem CJ(a:T):∀b:T,bK aw 117 [a.e,b.e] (.int .i64 (eK a b)):=by
 induction a with
 |pair bA a2 HQ HR=>
  intro b;cases b with
  |pair b1 b2=>
   refine bo fT LH On fun aQ=>?_;unfold Gu;simp;((with_reducible repeat' first|refine ak ?_|refine aA (HQ _) ?_|refine aB (HQ _) ?_|refine aA (HR _) ?_|refine aB (HR _) ?_|refine aA (o9 _ _) ?_|refine aB (o9 _ _) ?_|simp|((first|apply bJ|apply bM|apply bL)<;>intro h<;>try simp at h))<;>(try exact ck));all_goals simp[bp,I1,aV,aY,aU]
   all_goals simp_all[eK]
  |_=>
   refine bo fT LH On fun aQ=>?_;unfold Gu;simp;(with_reducible repeat' first|refine ak ?_|refine aA (o9 _ _) ?_|refine aB (o9 _ _) ?_|simp);all_goals simp[bp,I1,aV,aY,aU]
   all_goals simp_all[eK]
 |_=>
  intro b;cases b<;>
  (refine bo fT LH On fun aQ=>?_;unfold Gu
   simp
   (with_reducible repeat' first|((first|apply bJ|apply bM|apply bL)<;>intro h<;>try simp at h)|refine ak ?_|refine aA (o9 _ _) ?_|refine aB (o9 _ _) ?_|simp)
   all_goals simp[bp,I1,aV,aY,aU]
   all_goals simp_all[eK,ln])
theorem u5(a b:T):bK aw 64 [a.e,b.e] (.bool (decide (a=b))):=by
 refine bo fT aeK alB fun aQ=>?_;unfold RY;simp;(with_reducible repeat' first|refine ak ?_|refine aA (CJ _ _) ?_|refine aB (CJ _ _) ?_|simp);all_goals simp[bp,Y4,aV,aY,aU]
 have:=rW a b;by_cases h:eK a b=0<;>simp_all
open Classical in
def ajJ(l:List dO)(k:Nat)(st:bn):Prop:=∃i:Nat,i<=l.length/\k=l.length-i/\(∀j,j<i->BZ l j)/\st=⟨[(0,.slice 5 .no (l.map dO.e)),(8,.slice 5 .no (l.map dO.e)),(9,.int .i64 l.length),(10,.int .i64 i)],[],[],0,[]⟩
open Classical in
theorem ap4(l:List dO):bK aw 62 [.slice 5 .no (l.map dO.e)] (.bool (decide (wL l))):=by
 refine bo fT aew alm fun aQ=>?_;unfold RK;simp;(with_reducible repeat' first|((first|apply bJ|apply bM|apply bL)<;>intro h<;>try simp at h)|refine ak ?_|simp)
 ·simp[bp,IU,aV,aY,aU];intro b9;have:=b9.1;omega
 ·refine n1 (ajJ l) l.length _ ⟨Ψ,by simp[gL],by simp[oC],Ψ⟩ ⟨0,Ω,Ω,Ψ,rfl⟩ ?_;rintro k st ⟨i,hi,ae,lE,rfl⟩ jF cI;simp;refine bJ (fun bs=>?_) (fun xf=>?_)
  ·simp at bs;obtain⟨b,ad⟩:∃b,l[i]? =some b:=⟨_,cg bs⟩;obtain⟨c,ao⟩:∃c,l[i-1]? =some c:=⟨_,cg Ω⟩;clear jF cI;simp[ad,ao];((with_reducible repeat' first|refine ak ?_|refine aA (JR _) ?_|refine aB (JR _) ?_|simp[ao]|((first|apply bJ|apply bM|apply bL)<;>intro h<;>try simp at h))<;>(try exact ck));all_goals first
    |(simp[bp,IU,aV,aY,aU];intro b9;have J:=b9.2 i bs b ad;have U:=J.2.1 c;have h3:=J.2.2;first|omega|(have:=U Ω ao;omega)|(rw[h3]at h;cases h)|simp_all)
    |(simp only[F0];refine⟨l.length-(i+1),_,Ω,⟨Ψ,by simp[gL],by simp[oC],Ψ⟩,i+1,Ω,rfl,fun j ag=>?_,rfl⟩
      by_cases e:j=i
      ·subst e;intro b3 gd;rw[ad]at gd;cases gd;refine⟨Ω,fun cq bz hx=>?_,by assumption⟩;rw[ao]at hx;cases hx;omega
      ·exact lE j Ω)
  ·simp at xf;simp[bp,IU,aV,aY,aU];exact⟨Ω,fun j ag=>lE j Ω⟩
def dB.below(c:dB)(n:Int):Int:=if n<=0 then 0 else c.byte.tmod n
def dB.belowC(c:dB)(n:Int):dB:=if n<=0 then c else c.next
theorem dB.ok.below{c:dB}(h:c.ok)(n:Int):(c.belowC n).ok:=by unfold dB.belowC;split;exact h;exact h.next
theorem dB.below_le(c:dB)(n:Int)(au:0<n):0<=c.below n/\c.below n<n:=by have:=c.byte_le;unfold dB.below;rw[if_neg Ω];exact⟨Int.tmod_nonneg _ this.1,Int.tmod_lt_of_pos _ au⟩
theorem w3(c:dB)(ao:c.ok)(n:Int):bG aw 48 [.ptr (.obj 401) 0,.int .i64 n] (bQ c) fun r ah=>r= .int .i64 (c.below n)/\ah=bQ (c.belowC n):=by
 have af:=e0 c;have ea:=gP c;refine bG.mk mixed oE afE amv (by simp[-bZ,-bO]) af.obj fun aQ cI=>?_;unfold SY;unfold bQ;simp[-bZ,-bO];(with_reducible repeat' first|((first|apply bJ|apply bM|apply bL)<;>intro h<;>try simp[-bZ,-bO]at h)|refine ak ?_|simp[-bZ,-bO])
 ·(refine cL.at (bQ (c)) (.inl rfl) (e0 _) (gP _ _) ci ci ?_;simp[-bZ,-bO,cM,OY,aV,aY,aU,bQ]);simp[-bZ,-bO,dB.below,dB.belowC,h]
 ·(refine cQ.ob (UZ c ao) (e0 _) ci ci d9 ?_;rintro r ah ⟨rfl,rfl⟩;refine⟨gP _ _,?_⟩;unfold bQ;simp[-bZ,-bO,cb]);((with_reducible repeat' first|refine ak ?_|simp[-bZ,-bO]|((first|apply bJ|apply bM|apply bL)<;>intro h<;>try simp[-bZ,-bO]at h))<;>(try exact ck));(refine cL.at (bQ (c.next)) (.inl rfl) (e0 _) (gP _ _) ci ci ?_;simp[-bZ,-bO,cM,OY,aV,aY,aU,bQ]);have:¬n<=0:=Ω
  simp[-bZ,-bO,dB.below,dB.belowC,this]
theorem U0(c:dB)(ao:c.ok)(n:Int):bG aw 86 [.ptr (.obj 401) 0,.int .i64 n] (bQ c) fun r ah=>r= .bool (c.below n==0)/\ah=bQ (c.belowC n):=by have af:=e0 c;refine bG.mk mixed oE afH amy (by simp[-bZ,-bO]) af.obj fun aQ cI=>?_;unfold S1;unfold bQ;simp[-bZ,-bO];(refine cQ.ob (w3 c ao n) (e0 _) ci ci d9 ?_;rintro r ah ⟨rfl,rfl⟩;refine⟨gP _ _,?_⟩;unfold bQ;simp[-bZ,-bO,cb]);(refine cL.at (bQ (c.belowC n)) (.inl rfl) (e0 _) (gP _ _) ci ci ?_;simp[-bZ,-bO,cM,Zr,aV,aY,aU,bQ])
theorem aba(n:Int):bK aw 84 [.int .i64 n] (T.var n).e:=by refine bo fT Ux Ys fun aQ=>?_;unfold K9;simp[-bZ,-bO];simp[-bZ,-bO,bp,ZA,aV,aY,aU]
theorem aa8(n:Int):bK aw 133 [.int .i64 n] (T.num n).e:=by refine bo oE afO amF fun aQ=>?_;unfold S8;simp[-bZ,-bO];simp[-bZ,-bO,bp,Zv,aV,aY,aU]
theorem aa9(s:List UInt8):bK aw 134 [.str s] (T.sym s).e:=by refine bo oE afT amK fun aQ=>?_;unfold Td;simp[-bZ,-bO];simp[-bZ,-bO,bp,Zz,aV,aY,aU]
def si(k:Int):T:=if k<2 then .num k else if k<5 then .sym (([[97],[98],[99]]:List (List UInt8)).getD (k-2).toNat [])else .nil
theorem agO(c:dB)(ao:c.ok):bG aw 85 [.ptr (.obj 401) 0] (bQ c) fun r ah=>r=(si (c.below 7)).e/\ah=bQ c.next:=by
 have af:=e0 c;have ad:=c.below_le 7 Ω;have gK:c.belowC 7=c.next:=by simp[-bZ,-bO,dB.belowC]
 refine bG.mk mixed oE afJ amA (by simp[-bZ,-bO]) af.obj fun aQ cI=>?_;unfold S3;unfold bQ;simp[-bZ,-bO];(refine cQ.ob (w3 c ao 7) (e0 _) ci ci d9 ?_;rintro r ah ⟨rfl,rfl⟩;refine⟨gP _ _,?_⟩;unfold bQ;simp[-bZ,-bO,cb]);rw[gK];generalize ae:c.below 7=k at ad⊢;obtain⟨bI,rfl⟩:∃bI:Nat,k=bI:=⟨k.toNat,Ω⟩;rcases(by omega:bI=0\/bI=1\/bI=2\/bI=3\/bI=4\/bI=5\/bI=6)with rfl|rfl|rfl|rfl|rfl|rfl|rfl;all_goals simp[-bZ,-bO]
 all_goals(with_reducible repeat' first|refine ak ?_|refine aA (aa8 _) ?_|refine aB (aa8 _) ?_|refine aA (aa9 _) ?_|refine aB (aa9 _) ?_|simp[-bZ,-bO])
 all_goals(refine cL.at (bQ (c.next)) (.inl rfl) (e0 _) (gP _ _) ci ci ?_;simp[-bZ,-bO,cM,Zt,aV,aY,aU,bQ])
 all_goals simp[-bZ,-bO,si]
def eg(size:Nat)(vars:Int)(c:dB):T×dB:=
 if 2<size/\3<=c.below 8 then
  (.pair (eg (size/2) vars c.next).1 (eg (size/2) vars (eg (size/2) vars c.next).2).1,(eg (size/2) vars (eg (size/2) vars c.next).2).2)
 else if 0<vars/\(c.below 8).tmod 2=0 then(.var (c.next.below vars),c.next.belowC vars)
 else(si (c.next.below 7),c.next.next)
termination_by size
theorem yE(size:Nat)(vars:Int):∀c:dB,c.ok->(eg size vars c).2.ok:=by
 induction size using qA with
 |ind size bN=>
  intro c ao;rw[eg];split
  ·rename_i h;exact bN _ Ω _ (bN _ Ω _ ao.next)
  ·split
   ·exact ao.next.below _
   ·exact ao.next.next
theorem Du(vars:Int)(az:vars<=1000000)(size:Nat)(bd:size<=1000000):∀(c:dB),c.ok->bG aw 35 [.ptr (.obj 401) 0,.int .i64 size,.int .i64 vars] (bQ c) fun r ah=>r=(eg size vars c).1.e/\ah=bQ (eg size vars c).2:=by
 induction size using qA with
 |ind size bN=>
  intro c ao;have af:=e0 c;have ad:=c.below_le 8 Ω;have gK:c.belowC 8=c.next:=by simp[-bZ,-bO,dB.belowC]
  obtain⟨z,Wr⟩:∃z,z=size/2:=⟨_,rfl⟩;have hdiv:nT.wrap ((size:Int)/2)=(z:Int):=by rw[nm _ Ω];omega
  have oe:∀h:2<size/\3<=c.below 8,eg size vars c=(.pair (eg z vars c.next).1 (eg z vars (eg z vars c.next).2).1,(eg z vars (eg z vars c.next).2).2):=fun h=>by rw[eg,if_pos h,Wr]
  have ahW:∀(h:¬(2<size/\3<=c.below 8)) (b9:0<vars/\(c.below 8).tmod 2=0),eg size vars c=(.var (c.next.below vars),c.next.belowC vars):=fun h b9=>by rw[eg,if_neg h,if_pos b9]
  have ahT:∀(h:¬(2<size/\3<=c.below 8)) (b9:¬(0<vars/\(c.below 8).tmod 2=0)),eg size vars c=(si (c.next.below 7),c.next.next):=fun h b9=>by rw[eg,if_neg h,if_neg b9]
  have Eb:2<size->∀c:dB,c.ok->bG aw 35 [.ptr (.obj 401) 0,.int .i64 z,.int .i64 vars] (bQ c) fun r ah=>r=(eg z vars c).1.e/\ah=bQ (eg z vars c).2:=fun h=>bN z Ω Ω;clear bN;refine bG.mk mixed oE afL amC (by simp[-bZ,-bO]) af.obj fun aQ cI=>?_;unfold S5;unfold bQ;simp[-bZ,-bO];(refine cQ.ob (w3 c ao 8) (e0 _) ci ci d9 ?_;rintro r ah ⟨rfl,rfl⟩;refine⟨gP _ _,?_⟩;unfold bQ;simp[-bZ,-bO,cb]);rw[gK];(with_reducible repeat' first|((first|apply bJ|apply bM|apply bL)<;>intro h<;>try simp[-bZ,-bO]at h)|refine ak ?_|simp[-bZ,-bO,hdiv])
  ·rename_i U;(refine cQ.ob (Eb Ω c.next ao.next) (e0 _) ci ci d9 ?_;rintro r ah ⟨rfl,rfl⟩;refine⟨gP _ _,?_⟩;unfold bQ;simp[-bZ,-bO,cb]);((with_reducible repeat' first|refine ak ?_|simp[-bZ,-bO,hdiv]|((first|apply bJ|apply bM|apply bL)<;>intro h<;>try simp[-bZ,-bO]at h))<;>(try exact ck));(refine gx.ob (Eb Ω (eg z vars c.next).2 (yE _ _ _ ao.next)) (e0 _) (e0 _) (gP _ _) ci ci d9 ?_;unfold bQ;simp[-bZ,-bO,cb]);(with_reducible repeat' first|refine ak ?_|refine aA (ye _ _) ?_|refine aB (ye _ _) ?_|simp[-bZ,-bO]);rw[oe Ω];(refine cL.at (bQ ((eg z vars (eg z vars c.next).2).2)) (.inl rfl) (e0 _) (gP _ _) ci ci ?_;simp[-bZ,-bO,cM,I4,aV,aY,aU,bQ])
  all_goals first
   |(rw[ahW Ω ⟨Ω,by assumption⟩];(refine cQ.ob (w3 c.next ao.next vars) (e0 _) ci ci d9 ?_;rintro r ah ⟨rfl,rfl⟩;refine⟨gP _ _,?_⟩;unfold bQ;simp[-bZ,-bO,cb]);(with_reducible repeat' first|refine ak ?_|refine aA (aba _) ?_|refine aB (aba _) ?_|simp[-bZ,-bO]);(refine cL.at (bQ (c.next.belowC vars)) (.inl rfl) (e0 _) (gP _ _) ci ci ?_;simp[-bZ,-bO,cM,I4,aV,aY,aU,bQ]);done)
   |(rw[ahT Ω (by rintro⟨J,U⟩;first|omega|contradiction|(simp_all;done))];(refine cQ.ob (agO c.next ao.next) (e0 _) ci ci d9 ?_;rintro r ah ⟨rfl,rfl⟩;refine⟨gP _ _,?_⟩;unfold bQ;simp[-bZ,-bO,cb]);(with_reducible repeat' first|refine ak ?_|simp[-bZ,-bO]);(refine cL.at (bQ (c.next.next)) (.inl rfl) (e0 _) (gP _ _) ci ci ?_;simp[-bZ,-bO,cM,I4,aV,aY,aU,bQ]);done)
def Cr:List Int->Int->Int
 |[],h=>h
 |x::r,h=>Cr r (yx .i64 (h*131+x+7) 1073741823)
def xJ(d:List Int):dB:=⟨d,0,Cr (d.take 4000) (90411+d.length)⟩
def ajF(d:List Int)(k:Nat)(st:bn):Prop:=∃(i:Nat) (h:Int),i<=d.length/\i<=4000/\k=d.length-i/\0<=h/\h<=2000000000/\Cr ((d.take 4000).drop i) h=Cr (d.take 4000) (90411+d.length)/\st=⟨[(0,.slice 1 .no (ic d)),(3,.int .i64 h),(4,.int .i64 i)],[],[],0,[]⟩
theorem agM(d:List Int)(aG:sk d)(av:d.length<=10000000):bG aw 52 [.slice 1 .no (ic d)] ⟨[],[]⟩ fun r ah=>r= .ptr (.obj 401) 0/\ah=bQ (xJ d):=by
 have af:dP ⟨[],[]⟩:=(dP.of ⟨by intro m;simp[-bZ,-bO,Pv.look],by intro m;simp[-bZ,-bO,Pv.look]⟩ (by simp[-bZ,-bO,aO,aJ,inObs,Pv.look]) (by simp[-bZ,-bO,aO,aJ,inObs,Pv.look]));refine bG.mk mixed oE afG amx (by simp[-bZ,-bO]) af.obj fun aQ cI=>?_;unfold S0;simp[-bZ,-bO];(with_reducible repeat' first|refine ak ?_|simp[-bZ,-bO]);refine n1 (ajF d) d.length _ ⟨by simp[-bZ,-bO],by simp[-bZ,-bO,gL],by simp[-bZ,-bO,oC],by simp[-bZ,-bO]⟩ ⟨0,90411+d.length,Ω,Ω,Ω,Ω,Ω,by simp[-bZ,-bO],rfl⟩ ?_;rintro k st ⟨i,g,hi,asL,ae,bz,J,jG,rfl⟩ jF cI;clear jF cI;have ue:¬(i<d.length/\i<4000)->g=Cr (d.take 4000) (90411+d.length):=by intro au;rw[List.drop_of_length_le (by simp[-bZ,-bO];omega)]at jG;exact jG
 have ku:¬(i<d.length/\i<4000)->xJ d=⟨d,0,g⟩:=fun au=>by simp[-bZ,-bO,xJ,ue au]
 simp[-bZ,-bO];(with_reducible repeat' first|((first|apply bJ|apply bM|apply bL)<;>intro h<;>try simp[-bZ,-bO]at h)|refine ak ?_|simp[-bZ,-bO])
 ·have bs:i<d.length:=Ω
  obtain⟨x,ab⟩:∃x,d[i]? =some x:=⟨_,cg bs⟩;have la:∀h,(ic d)[i]'h= .int .u8 x:=fun h=>by have:=KI ab;rw[cg h]at this;simpa using this
  have oZ:=aG x (eF ab);have hw:nT.wrap x=x:=nm _ Ω;have mM:=Kx (g*131+x+7) 1073741823 Ω Ω;simp[-bZ,-bO,KI ab,hw];(with_reducible repeat' first|refine ak ?_|simp[-bZ,-bO]);refine bR.next (d.length-(i+1)) Ω ⟨i+1,_,Ω,Ω,rfl,mM.1,Ω,?_,rfl⟩ ⟨by simp[-bZ,-bO],by simp[-bZ,-bO,gL],by simp[-bZ,-bO,oC],by simp[-bZ,-bO]⟩;rw[<-jG,lu (l:=d.take 4000) (i:=i) (by simp[-bZ,-bO];omega)];have:(d.take 4000)[i]'(by simp[-bZ,-bO];omega)=x:=by have:=ab;rw[cg bs]at this;simpa using this
  rw[this,Cr]
 all_goals rw[ku Ω]
 all_goals refine cL.new (bQ ⟨d,0,g⟩) (.inl rfl) (e0 _) (by simp[-bZ,-bO,kx]) ci ci ?_
 all_goals simp[-bZ,-bO,cM,Zq,aV,aY,aU,bQ,inObs,Pv.look]
def tu:Nat->dB->dB
 |0,c=>c
 |n+1,c=>(tu n c).next
theorem PJ{c:dB}(h:c.ok):∀n,(tu n c).ok
 |0=>h
 |n+1=>(PJ h n).next
theorem X0{d:List Int}(aG:sk d)(av:d.length<=10000000):(xJ d).ok:=⟨aG,av,by simp[-bZ,-bO,xJ]⟩
def lC(d:List Int)(n:Nat):dB:=tu n (xJ d)
theorem Lh{d:List Int}(aG:sk d)(av:d.length<=10000000)(n:Nat):(lC d n).ok:=PJ (X0 aG av) n
theorem rP(S:aL->Prop)(c:dB):aO S c.e:=by simp[-bZ,-bO,dB.e,aO,aJ]
def ajA(c:dB)(n:Nat)(k:Nat)(st:bn):Prop:=∃i:Nat,i<=n/\k=n-i/\st=⟨[(1,.int .i64 n),(5,.ptr (.obj 401) 0),(6,.int .i64 i)],[(.obj 401,(tu i c).e)],[],0,[.obj 401]⟩
theorem L1(d:List Int)(aG:sk d)(av:d.length<=10000000)(n:Nat)(au:n<=1000000):bG aw 21 [.slice 1 .no (ic d),.int .i64 n] ⟨[],[]⟩ fun r ah=>r= .ptr (.obj 401) 0/\ah=bQ (lC d n):=by
 unfold lC;have af:dP ⟨[],[]⟩:=(dP.of ⟨by intro m;simp[-bZ,-bO,Pv.look],by intro m;simp[-bZ,-bO,Pv.look]⟩ (by simp[-bZ,-bO,aO,aJ,inObs,Pv.look]) (by simp[-bZ,-bO,aO,aJ,inObs,Pv.look]));refine bG.mk mixed oE agc am3 (by simp[-bZ,-bO]) af.obj fun aQ cI=>?_;unfold Tw;simp[-bZ,-bO];refine cQ.new (agM d aG av) af aH aH (by simp[-bZ,-bO]) ?_;rintro r ah ⟨rfl,rfl⟩;refine⟨fun m _=>.inr (by simp[-bZ,-bO]),?_⟩;unfold bQ;simp[-bZ,-bO,cb];refine n1 (ajA (xJ d) n) n _ ⟨by simp[-bZ,-bO,fresh,aO,aJ,cn,inObs,Pv.look,rP,tu],ek (by simp[-bZ,-bO,fresh,aO,aJ,cn,inObs,Pv.look,rP,tu]),en (by simp[-bZ,-bO,fresh,aO,aJ,dW,inObs,Pv.look,rP,tu]),by simp[-bZ,-bO]⟩ ⟨0,Ω,rfl,rfl⟩ ?_;rintro k st ⟨i,hi,ae,rfl⟩ jF cI;clear jF cI;simp[-bZ,-bO];(with_reducible repeat' first|((first|apply bJ|apply bM|apply bL)<;>intro h<;>try simp[-bZ,-bO]at h)|refine ak ?_|simp[-bZ,-bO])
 ·(refine cQ.ob (UZ _ (PJ (X0 aG av) i)) (e0 _) ci ci d9 ?_;rintro r ah ⟨rfl,rfl⟩;refine⟨gP _ _,?_⟩;unfold bQ;simp[-bZ,-bO,cb]);(with_reducible repeat' first|((first|apply bJ|apply bM|apply bL)<;>intro h<;>try simp[-bZ,-bO]at h)|refine ak ?_|simp[-bZ,-bO]);refine bR.next (n-(i+1)) Ω ⟨i+1,Ω,rfl,rfl⟩ ⟨by simp[-bZ,-bO,fresh,aO,aJ,cn,inObs,Pv.look,rP,tu],ek (by simp[-bZ,-bO,fresh,aO,aJ,cn,inObs,Pv.look,rP,tu]),en (by simp[-bZ,-bO,fresh,aO,aJ,dW,inObs,Pv.look,rP,tu]),by simp[-bZ,-bO]⟩
 ·obtain rfl:i=n:=Ω
  refine cL.new (bQ (tu i (xJ d))) (.inl rfl) (e0 _) (by simp[-bZ,-bO,kx]) ci ci ?_;simp[-bZ,-bO,cM,ZE,aV,aY,aU,bQ,inObs,Pv.look]
theorem apX(d:List Int)(aG:sk d)(av:d.length<=10000000)(n:Nat)(au:n<=1000000)(size:Nat)(bd:size<=1000000)(vars:Int)(az:vars<=1000000):bK aw 10 [.slice 1 .no (ic d),.int .i64 n,.int .i64 size,.int .i64 vars] (eg size vars (lC d n)).1.e:=by refine bo oE afy amp fun aQ=>?_;unfold SP;simp[-bZ,-bO];refine cQ.new (L1 d aG av n au) ((dP.of ⟨by intro m;simp[-bZ,-bO,Pv.look],by intro m;simp[-bZ,-bO,Pv.look]⟩ (by simp[-bZ,-bO,aO,aJ,inObs,Pv.look]) (by simp[-bZ,-bO,aO,aJ,inObs,Pv.look]))) aH aH (by simp[-bZ,-bO]) ?_;rintro r ah ⟨rfl,rfl⟩;refine⟨fun m _=>.inr (by simp[-bZ,-bO]),?_⟩;unfold bQ;simp[-bZ,-bO,cb];(refine cQ.ob (Du vars az size bd _ (Lh aG av n)) (e0 _) ci ci d9 ?_;rintro r ah ⟨rfl,rfl⟩;refine⟨gP _ _,?_⟩;unfold bQ;simp[-bZ,-bO,cb]);simp[-bZ,-bO,bp,Zn,aV,aY,aU]
/-What is drawn. -/
theorem acG(k:Int)(bz:0<=k)(J:k<7):(si k).ok=true/\(∀v,(si k).occ v=false)/\(si k).size=1:=by obtain⟨n,rfl⟩:∃n:Nat,k=n:=⟨k.toNat,Ω⟩;rcases(by omega:n=0\/n=1\/n=2\/n=3\/n=4\/n=5\/n=6)with rfl|rfl|rfl|rfl|rfl|rfl|rfl<;>refine⟨?_,fun v=>?_,?_⟩<;>first|rfl|decide
theorem ac3(vars:Int)(az:vars<=100001)(n:Nat):∀c:dB,(eg n vars c).1.ok=true/\(∀v,(eg n vars c).1.occ v=true->0<=v/\v<vars)/\(eg n vars c).1.size<=2*n-1+(if n=0 then 1 else 0):=by
 induction n using qA with
 |ind n bN=>
  intro c;have dX:=c.next.below_le 7 Ω;rw[eg];split
  ·rename_i h;obtain⟨bA,a2,a3⟩:=bN (n/2) Ω c.next;obtain⟨b1,b2,gp⟩:=bN (n/2) Ω (eg (n/2) vars c.next).2;refine⟨by simp[T.ok,bA,b1],fun v az=>?_,?_⟩
   ·simp only[T.occ,lP]at az;rcases az with az|az
    ·exact a2 v az
    ·exact b2 v az
   ·simp only[T.size];split at a3<;>split at gp<;>split<;>omega
  ·split
   ·rename_i h;have:=c.next.below_le vars h.1;refine⟨by simp[T.ok];omega,fun v az=>?_,by simp only[T.size];split<;>omega⟩;simp[T.occ]at az;omega
   ·obtain⟨bA,a2,a3⟩:=acG _ dX.1 dX.2;refine⟨bA,fun v az=>?_,?_⟩
    ·simp only[a2 v]at az;cases az
    ·simp only[a3];split<;>omega
def iu(vars:Int):T->dB->T×dB
 | .pair a b,c=>if c.below 6=0 then eg 4 vars c.next else(.pair (iu vars a c.next).1 (iu vars b (iu vars a c.next).2).1,(iu vars b (iu vars a c.next).2).2)
 |t,c=>if c.below 6=0 then eg 4 vars c.next else(t,c.next)
theorem aco(vars:Int)(t:T):∀c:dB,c.ok->(iu vars t c).2.ok:=by
 induction t with
 |pair a b dz dA=>
  intro c ao;simp only[iu];split
  ·exact yE _ _ _ ao.next
  ·exact dA _ (dz _ ao.next)
 |_=>
  intro c ao;simp only[iu];split
  ·exact yE _ _ _ ao.next
  ·exact ao.next
theorem agP(vars:Int)(az:vars<=1000000)(t:T):∀(c:dB),c.ok->bG aw 36 [.ptr (.obj 401) 0,t.e,.int .i64 vars] (bQ c) fun r ah=>r=(iu vars t c).1.e/\ah=bQ (iu vars t c).2:=by
 induction t with
 |pair a b dz dA=>
  intro c ao;have af:=e0 c;have gK:c.belowC 6=c.next:=by simp[-bZ,-bO,dB.belowC]
  refine bG.mk mixed oE Uy Yt (by simp[-bZ,-bO]) af.obj fun aQ cI=>?_;unfold La;unfold bQ;simp[-bZ,-bO];(refine cQ.ob (U0 c ao 6) (e0 _) ci ci d9 ?_;rintro r ah ⟨rfl,rfl⟩;refine⟨gP _ _,?_⟩;unfold bQ;simp[-bZ,-bO,cb]);rw[gK];(with_reducible repeat' first|((first|apply bJ|apply bM|apply bL)<;>intro h<;>try simp[-bZ,-bO]at h)|refine ak ?_|simp[-bZ,-bO])
  ·(refine cQ.ob (Du vars az 4 Ω c.next ao.next) (e0 _) ci ci d9 ?_;rintro r ah ⟨rfl,rfl⟩;refine⟨gP _ _,?_⟩;unfold bQ;simp[-bZ,-bO,cb]);have bg:iu vars (.pair a b) c=eg 4 vars c.next:=by simp[-bZ,-bO,iu,h]
   rw[bg];(refine cL.at (bQ ((eg 4 vars c.next).2)) (.inl rfl) (e0 _) (gP _ _) ci ci ?_;simp[-bZ,-bO,cM,E9,aV,aY,aU,bQ])
  ·have bg:iu vars (.pair a b) c=(.pair (iu vars a c.next).1 (iu vars b (iu vars a c.next).2).1,(iu vars b (iu vars a c.next).2).2):=by simp[-bZ,-bO,iu,h]
   (refine cQ.ob (dz c.next ao.next) (e0 _) ci ci d9 ?_;rintro r ah ⟨rfl,rfl⟩;refine⟨gP _ _,?_⟩;unfold bQ;simp[-bZ,-bO,cb]);(with_reducible repeat' first|((first|apply bJ|apply bM|apply bL)<;>intro h<;>try simp[-bZ,-bO]at h)|refine ak ?_|simp[-bZ,-bO]);(refine gx.ob (dA (iu vars a c.next).2 (aco _ _ _ ao.next)) (e0 _) (e0 _) (gP _ _) ci ci d9 ?_;unfold bQ;simp[-bZ,-bO,cb]);(with_reducible repeat' first|refine ak ?_|refine aA (ye _ _) ?_|refine aB (ye _ _) ?_|simp[-bZ,-bO]);rw[bg];(refine cL.at (bQ ((iu vars b (iu vars a c.next).2).2)) (.inl rfl) (e0 _) (gP _ _) ci ci ?_;simp[-bZ,-bO,cM,E9,aV,aY,aU,bQ])
 |_=>
  intro c ao;have af:=e0 c;have gK:c.belowC 6=c.next:=by simp[-bZ,-bO,dB.belowC]
  refine bG.mk mixed oE Uy Yt (by simp[-bZ,-bO]) af.obj fun aQ cI=>?_;unfold La;unfold bQ;simp[-bZ,-bO];(refine cQ.ob (U0 c ao 6) (e0 _) ci ci d9 ?_;rintro r ah ⟨rfl,rfl⟩;refine⟨gP _ _,?_⟩;unfold bQ;simp[-bZ,-bO,cb]);rw[gK];(with_reducible repeat' first|((first|apply bJ|apply bM|apply bL)<;>intro h<;>try simp[-bZ,-bO]at h)|refine ak ?_|simp[-bZ,-bO])
  ·(refine cQ.ob (Du vars az 4 Ω c.next ao.next) (e0 _) ci ci d9 ?_;rintro r ah ⟨rfl,rfl⟩;refine⟨gP _ _,?_⟩;unfold bQ;simp[-bZ,-bO,cb]);simp only[iu,h,if_true];(refine cL.at (bQ ((eg 4 vars c.next).2)) (.inl rfl) (e0 _) (gP _ _) ci ci ?_;simp[-bZ,-bO,cM,E9,aV,aY,aU,bQ])
  ·simp only[iu,h,if_false];(refine cL.at (bQ (c.next)) (.inl rfl) (e0 _) (gP _ _) ci ci ?_;simp[-bZ,-bO,cM,E9,aV,aY,aU,bQ])
theorem apV(d:List Int)(aG:sk d)(av:d.length<=10000000)(n:Nat)(au:n<=1000000)(t:T)(vars:Int)(az:vars<=1000000):bK aw 11 [.slice 1 .no (ic d),.int .i64 n,t.e,.int .i64 vars] (iu vars t (lC d n)).1.e:=by refine bo oE afw amn fun aQ=>?_;unfold SN;simp[-bZ,-bO];refine gx.new (m:=401) (cs:=(lC d n).e) (L1 d aG av n au) (by simp[-bZ,-bO]) (by simp[-bZ,-bO]) (by simp[-bZ,-bO]) (by simp[-bZ,-bO]) ?_;simp[-bZ,-bO];(with_reducible repeat' first|refine ak ?_|simp[-bZ,-bO]);(refine gx.ob (agP vars az t _ (Lh aG av n)) (e0 _) (e0 _) (gP _ _) ci ci d9 ?_;unfold bQ;simp[-bZ,-bO,cb]);exact cz
def nf(p:Nat->Bool)(i j:Nat):Nat:=if i<j then(if p ((i+j)/2)then nf p i ((i+j)/2)else nf p ((i+j)/2+1) j)else i
termination_by j-i
def ajI(s:cT)(n g:Nat)(dr:List aj)(p:Nat->Bool)(k:Nat)(st:bn):Prop:=∃i j:Nat,i<=j/\j<=n/\k=j-i/\nf p i j=nf p 0 n/\st=⟨[(1,.func g dr),(5,.int .i64 i),(6,.int .i64 j)],s.b,s.e,0,c5 s⟩
theorem agC(s:cT)(af:dP s)(n g:Nat)(au:n<=1000000)(dr:List aj)(ao:aO (inObs s) dr)(dd:dq dr=dr)(p:Nat->Bool)(aN:∀i:Nat,i<n->bG aw g (.int .i64 i::dr) s fun r ah=>r= .bool (p i)/\ah=s):
  bG aw 57 [.int .i64 n,.func g dr] s fun r ah=>r= .int .i64 (nf p 0 n)/\ah=s:=by
 refine bG.mk mixed fT ae9 al0 Ψ af.obj fun aQ cI=>?_;unfold Sq;simp;refine n1 (ajI s n g dr p) n _ (jn.ob af (by simp[ao]) aH aH) ⟨0,n,Ω,Ω,rfl,rfl,rfl⟩ ?_;rintro k st ⟨i,j,mj,ag,ae,MV,rfl⟩ jF cI;clear jF cI;simp;refine bJ (fun bs=>?_) (fun xf=>?_)
 ·simp at bs;have hw:hG.wrap ((i:Int)+j)=i+j:=by simp[tF,oH,sc];omega
  obtain⟨m,hm⟩:∃m,m=(i+j)/2:=⟨_,rfl⟩;have aG:Int.fdiv ((i:Int)+j) 2=(m:Int):=by rw[Int.fdiv_eq_ediv_of_nonneg _ Ω];omega
  have nG:nT.wrap (m:Int)=m:=by rw[nm];omega
  have Mh:hG.bits=64:=rfl;simp[hw,dd,Mh,aG,nG];refine⟨by unfold pJ;omega,?_⟩;refine cQ.ob (aN m Ω) af aH aH (by simp[ao]) ?_;rintro r ah ⟨rfl,rfl⟩;refine⟨Same.refl _,?_⟩;simp[ht];(with_reducible repeat' first|((first|apply bJ|apply bM|apply bL)<;>intro h<;>try simp at h)|refine ak ?_|simp)
  ·simp only[F0];refine⟨j-(m+1),_,Ω,jn.ob af (by simp[ao]) aH aH,m+1,j,Ω,Ω,rfl,?_,rfl⟩;rw[<-MV];conv=>rhs;unfold nf
   simp[bs,<-hm,h]
  ·simp only[F0];refine⟨m-i,_,Ω,jn.ob af (by simp[ao]) aH aH,i,m,Ω,Ω,rfl,?_,rfl⟩;rw[<-MV];conv=>rhs;unfold nf
   simp[bs,<-hm,h]
 ·simp at xf;have:nf p 0 n=i:=by rw[<-MV];unfold nf;rw[if_neg Ω]
  rw[this];simp;refine cL.at s (.inl rfl) af (Same.refl s) aH aH ?_;simp[cM,Ze,aV,aY,aU]
def ko(l:List ai)(v:Int):Int:=
 let i:=nf (fun i=>match l[i]? with|some b=>decide (v<=b.v)|none=>false) 0 l.length
 match l[i]? with|some b=>if b.v=v then i else-1|none=> -1
theorem agJ(l:List ai)(v:Int)(i:Nat)(b:ai)(ad:l[i]? =some b):bG aw 58 [.int .i64 i,.ptr (.obj 101) 0,.ptr (.obj 102) 0] ⟨[(.obj 101,[.slice 5 .no (l.map ai.e)]),(.obj 102,[.int .i64 v])],[]⟩ fun r ah=>r= .bool (decide (v<=b.v))/\ah=⟨[(.obj 101,[.slice 5 .no (l.map ai.e)]),(.obj 102,[.int .i64 v])],[]⟩:=by have af:dP ⟨[(.obj 101,[.slice 5 .no (l.map ai.e)]),(.obj 102,[.int .i64 v])],[]⟩:=(dP.of ⟨by intro m;simp[Pv.look],by intro m;simp[Pv.look]⟩ f8 f8);have bs:i<l.length:=(fD.1 ad).1;refine bG.mk mixed fT aeN alE Ψ af.obj fun aQ cI=>?_;unfold R3;simp[ad];(with_reducible repeat' first|refine ak ?_|simp);refine cL.at _ (.inl rfl) af (Same.refl _) aH aH ?_;simp[cM,Y7,aV,aY,aU]
theorem tB(l:List ai)(v:Int)(av:l.length<=1000000):bK aw 24 [.slice 5 .no (l.map ai.e),.int .i64 v] (.int .i64 (ko l v)):=by
 refine bo fT aeM alD fun aQ=>?_;unfold R0;simp;have af:dP ⟨[(.obj 101,[.slice 5 .no (l.map ai.e)]),(.obj 102,[.int .i64 v])],[]⟩:=(dP.of ⟨by intro m;simp[Pv.look],by intro m;simp[Pv.look]⟩ f8 f8);refine cQ.ob (agC ⟨[(.obj 101,[.slice 5 .no (l.map ai.e)]),(.obj 102,[.int .i64 v])],[]⟩ af l.length 58 av [.ptr (.obj 101) 0,.ptr (.obj 102) 0] (by simp[inObs]) Ψ (fun i=>match l[i]? with|some b=>decide (v<=b.v)|none=>false) fun i hi=>?_) af aH aH (by simp[inObs]) ?_
 ·obtain⟨b,ad⟩:∃b,l[i]? =some b:=⟨_,cg hi⟩;simp only[ad];exact agJ l v i b ad
 rintro r ah ⟨rfl,rfl⟩;refine⟨Same.refl _,?_⟩;unfold ko;generalize nf _ 0 l.length=i;cases ad:l[i]? with
 |none=>
  have bs:¬i<l.length:=by simpa using ad
  simp[cb,bs];exact cz
 |some b=>
  have bs:i<l.length:=(fD.1 ad).1;simp[cb,ad,bs];((with_reducible repeat' first|refine ak ?_|simp[ad]|((first|apply bJ|apply bM|apply bL)<;>intro h<;>try simp at h))<;>(try exact ck));all_goals simp[bp,Y6,aV,aY,aU]
  all_goals simp_all
def rX(l:List ai)(v:Int):Option T:=if ko l v<0 then none else(l[(ko l v).toNat]?).map (·.t)
theorem LU(l:List ai)(v:Int):ko l v<l.length/\ -1<=ko l v:=by
 unfold ko;simp only;split
 ·rename_i b ad;have:=(fD.1 ad).1;split<;>omega
 ·omega
theorem U1(l:List ai)(v:Int)(av:l.length<=1000000)(o:Option T)(ay:o=rX l v):bG aw 61 [.int .i64 v,.ptr (.obj 201) 0] ⟨[(.obj 201,[.slice 5 .no (l.map ai.e)])],[]⟩ fun r ah=>r= .tuple [(o.getD .nil).e,.bool o.isSome]/\ah=⟨[(.obj 201,[.slice 5 .no (l.map ai.e)])],[]⟩:=by
 have af:dP ⟨[(.obj 201,[.slice 5 .no (l.map ai.e)])],[]⟩:=(dP.of ⟨by intro m;simp[Pv.look],by intro m;simp[Pv.look]⟩ f8 f8);have bs:=(LU l v).1;unfold rX at ay;refine bG.mk mixed fT aeW alN Ψ af.obj fun aQ cI=>?_;unfold Sc;simp;(with_reducible repeat' first|((first|apply bJ|apply bM|apply bL)<;>intro h<;>try simp at h)|refine ak ?_|refine aA (tB l v av) ?_|refine aB (tB l v av) ?_|simp)
 ·obtain⟨b,ad⟩:∃b,l[(ko l v).toNat]? =some b:=⟨_,cg Ω⟩;have ik:o=some b.t:=by rw[ay,if_neg Ω,ad];rfl
  simp[ad];(with_reducible repeat' first|((first|apply bJ|apply bM|apply bL)<;>intro h<;>try simp at h)|refine ak ?_|simp[ad]);refine cL.at _ (.inl rfl) af (Same.refl _) aH aH ?_;simp[cM,OP,aV,aY,aU];simp[ik]
 ·have ik:o=none:=by rw[ay,if_pos h]
  refine cL.at _ (.inl rfl) af (Same.refl _) aH aH ?_;simp[cM,OP,aV,aY,aU];simp[ik]
theorem ag4(s:cT)(af:dP s)(g:Nat)(dr:List aj)(ao:aO (inObs s) dr)(dd:dq dr=dr)(f:Int->Int)(DL:∀v,-1<=f v)(t:T)(aN:∀v,t.occ v=true->bG aw g (.int .i64 v::dr) s fun r ah=>r= .int .i64 (f v)/\ah=s):
  bG aw 112 [t.e,.func g dr] s fun r ah=>r= .int .i64 (l3 f t)/\ah=s:=by
 have au:∀m,Pv.look (.loc m) s.b=none:=af.obj.1;have hu:∀m cs,cB (.loc m) cs s.b=s.b++[(.loc m,cs)]:=fun m cs=>kK (au m);have ay:∀m,aL.loc m∉c5 s:=kD af.obj;induction t with
 |pair a b dz dA=>
  have as3:=JE f DL a;have as6:=JE f DL b;refine bG.mk mixed fT yH zA Ψ af.obj fun aQ cI=>?_;unfold wS;simp[hu,ay,cV,au,dd];(with_reducible repeat' first|refine ak ?_|simp[hu,ay,cV,au]);refine cQ.ob (dz fun v az=>aN v (by simp[T.occ,az])) af aH aH (by simp[ao]) ?_;rintro r ah ⟨rfl,rfl⟩;refine⟨Same.refl _,?_⟩;simp[ht,jg,cb,au];(with_reducible repeat' first|((first|apply bJ|apply bM|apply bL)<;>intro h<;>try simp at h)|refine ak ?_|simp[hu,ay,cV,au])
  ·refine cL.at ah (.inl rfl) af (Same.refl _) aH aH ?_;simp[cM,wq,aV,aY,aU];simp[l3];omega
  ·rw[dd];refine cQ.ob (dA fun v az=>aN v (by simp[T.occ,az])) af aH aH (by simp[ao]) ?_;rintro r s2 ⟨rfl,rfl⟩;refine⟨Same.refl _,?_⟩;simp[ht,jg,cb,au];(with_reducible repeat' first|((first|apply bJ|apply bM|apply bL)<;>intro h<;>try simp at h)|refine ak ?_|simp[hu,ay,cV,au]);refine cL.at s2 (.inl rfl) af (Same.refl _) aH aH ?_;simp[cM,wq,aV,aY,aU];simp[l3];omega
 |var n=>refine bG.mk mixed fT yH zA Ψ af.obj fun aQ cI=>?_;unfold wS;simp[hu,ay,cV,au,dd];(with_reducible repeat' first|refine ak ?_|simp[hu,ay,cV,au]);refine cQ.ob (aN n (by simp[T.occ])) af aH aH (by simp[ao]) ?_;rintro r ah ⟨rfl,rfl⟩;refine⟨Same.refl _,?_⟩;simp[ht,jg,cb,au];refine cL.at ah (.inl rfl) af (Same.refl _) aH aH ?_;simp[cM,wq,aV,aY,aU];simp[l3]
 |_=>refine bG.mk mixed fT yH zA Ψ af.obj fun aQ cI=>?_;unfold wS;simp[hu,ay,cV,au,dd];(with_reducible repeat' first|refine ak ?_|simp[hu,ay,cV,au]);refine cL.at s (.inl rfl) af (Same.refl _) aH aH ?_;simp[cM,wq,aV,aY,aU];simp[l3]
theorem agR(s:cT)(af:dP s)(g:Nat)(dr:List aj)(ao:aO (inObs s) dr)(dd:dq dr=dr)(f:Int->Option T)(t:T)(aN:∀v,t.occ v=true->bG aw g (.int .i64 v::dr) s fun r ah=>r= .tuple [((f v).getD .nil).e,.bool (f v).isSome]/\ah=s):
  bG aw 115 [t.e,.func g dr] s fun r ah=>r=(t.sub f).e/\ah=s:=by
 have au:∀m,Pv.look (.loc m) s.b=none:=af.obj.1;have cA:∀m,Pv.look (.loc m) s.e=none:=af.obj.2;have hu:∀m cs,cB (.loc m) cs s.b=s.b++[(.loc m,cs)]:=fun m cs=>kK (au m);have ay:∀m,aL.loc m∉c5 s:=kD af.obj;have mu:∀m p r,cB (.loc m) p (s.b++r)=s.b++cB (.loc m) p r:=fun m p r=>CE (au m);induction t with
 |pair a b dz dA=>refine bG.mk mixed fT AP B1 Ψ af.obj fun aQ cI=>?_;unfold yA;simp[hu,ay,cV,au,cA,dd,mu];(with_reducible repeat' first|refine ak ?_|simp[hu,ay,cV,au,cA,mu]);refine gx.ob (dz fun v az=>aN v (by simp[T.occ,az])) af af (Same.refl _) aH aH (by simp[ao]) ?_;simp[ht,jg,cb,au,dd];refine gx.ob (dA fun v az=>aN v (by simp[T.occ,az])) af af (Same.refl _) aH aH (by simp[ao]) ?_;simp[ht,jg,cb,au,dd];(with_reducible repeat' first|refine ak ?_|refine aA (JY _ _) ?_|refine aB (JY _ _) ?_|simp);refine cL.at s (.inl rfl) af (Same.refl _) aH aH ?_;simp[cM,zH,aV,aY,aU,cV,au];simp[T.sub]
 |var n=>
  refine bG.mk mixed fT AP B1 Ψ af.obj fun aQ cI=>?_;unfold yA;simp[hu,ay,cV,au,dd,mu];(with_reducible repeat' first|refine ak ?_|simp[hu,ay,cV,au,mu]);refine cQ.ob (aN n (by simp[T.occ])) af aH aH (by simp[ao]) ?_;rintro r ah ⟨rfl,rfl⟩;refine⟨Same.refl _,?_⟩;simp[ht,jg,cb,au,hu,ay,cV];(with_reducible repeat' first|((first|apply bJ|apply bM|apply bL)<;>intro h<;>try simp at h)|refine ak ?_|refine aA (u4 _) ?_|refine aB (u4 _) ?_|simp[hu,ay,cV,au,mu]);all_goals refine cL.at ah (.inl rfl) af (Same.refl _) aH aH ?_
  all_goals simp[cM,zH,aV,aY,aU,cV,au]
  all_goals cases qg:f n<;>simp_all[T.sub]
 |_=>refine bG.mk mixed fT AP B1 Ψ af.obj fun aQ cI=>?_;unfold yA;simp[hu,ay,cV,au,dd,mu];(with_reducible repeat' first|((first|apply bJ|apply bM|apply bL)<;>intro h<;>try simp at h)|refine ak ?_|simp[hu,ay,cV,au,mu]);refine cL.at s (.inl rfl) af (Same.refl _) aH aH ?_;simp[cM,zH,aV,aY,aU,cV,au];simp[T.sub]
def pg(l:List ai):cT:=⟨[(.obj 201,[.slice 5 .no (l.map ai.e)])],[]⟩
def sf(l:List ai):cT:=⟨[(.obj 201,[.slice 5 .no (l.map ai.e)]),(.obj 202,[.func 61 [.ptr (.obj 201) 0]])],[]⟩
theorem CS(l:List ai):dP (pg l):=by unfold pg;exact(dP.of ⟨by intro m;simp[Pv.look],by intro m;simp[Pv.look]⟩ f8 f8)
theorem Kf(l:List ai):dP (sf l):=by unfold sf;exact(dP.of ⟨by intro m;simp[Pv.look],by intro m;simp[Pv.look]⟩ f8 f8)
def vv(l:List ai)(v:Int):Int:=match rX l v with|some x=>fH x.tm 5000|none=>1
theorem agv(l:List ai)(v:Int): -1<=vv l v:=by
 unfold vv;split
 ·rename_i x _;rcases EK x.tm 5000 with h|h<;>omega
 ·omega
theorem abk(t:T):bK aw 114 [t.e,.int .i64 5000] (.int .i64 (fH t.tm 5000)):=by have:=abj t.tm.sz t.tm (dZ _) 5000 Ω;rwa[kn]at this
theorem ag1(l:List ai)(v:Int)(av:l.length<=1000000):bG aw 113 [.int .i64 v,.ptr (.obj 202) 0] (sf l) fun r ah=>r= .int .i64 (vv l v)/\ah=sf l:=by
 have af:=Kf l;unfold sf at af⊢;refine bG.mk mixed fT aeY alP Ψ af.obj fun aQ cI=>?_;unfold Se;simp;refine cQ.ob (U1 l v av _ rfl) (CS l) aH aH (by simp[inObs]) ?_;rintro r ah ⟨rfl,rfl⟩;refine⟨Same.refl _,?_⟩;simp[cb];(with_reducible repeat' first|((first|apply bJ|apply bM|apply bL)<;>intro h<;>try simp at h)|refine ak ?_|refine aA (abk _) ?_|refine aB (abk _) ?_|simp);all_goals refine cL.at _ (.inl rfl) af (Same.refl _) aH aH ?_
 all_goals simp[cM,Zc,aV,aY,aU]
 all_goals unfold vv
 all_goals cases bF:rX l v<;>simp_all
def E4(l:List ai)(t:T):T:=t.sub (rX l)
def uR(l:List ai)(t:T):Bool:=decide (l3 (vv l) t<=5000)
theorem ag0(l:List ai)(t:T)(av:l.length<=1000000):bG aw 60 [t.e,.func 61 [.ptr (.obj 201) 0]] (pg l) fun r ah=>r= .tuple [(if uR l t then E4 l t else .nil).e,.bool (uR l t)]/\ah=pg l:=by
 have af:=CS l;unfold pg at af⊢;refine bG.mk mixed fT aeX alO Ψ af.obj fun aQ cI=>?_;unfold Sd;simp;refine cQ.ob (ag4 (sf l) (Kf l) 113 [.ptr (.obj 202) 0] (by simp[inObs,sf]) Ψ (vv l) (agv l) t fun v az=>ag1 l v av) (Kf l) (by unfold sf;exact aH) (by unfold sf;exact aH) (by simp[inObs,sf]) ?_;rintro r ah ⟨rfl,rfl⟩;refine⟨Same.refl _,?_⟩;unfold sf;simp[cb];(with_reducible repeat' first|((first|apply bJ|apply bM|apply bL)<;>intro h<;>try simp at h)|refine ak ?_|simp)
 ·refine cL.at _ (.inl rfl) af (Same.refl _) aH aH ?_;simp[cM,OQ,aV,aY,aU];have:uR l t=false:=by simp[uR];omega
  simp[this]
 ·refine cQ.ob (agR (pg l) (CS l) 61 [.ptr (.obj 201) 0] (by simp[inObs,pg]) Ψ (rX l) t fun v az=>U1 l v av _ rfl) (CS l) (by unfold pg;exact aH) (by unfold pg;exact aH) (by simp[inObs,pg]) ?_;rintro r ah ⟨rfl,rfl⟩;refine⟨Same.refl _,?_⟩;unfold pg;simp[cb];refine cL.at _ (.inl rfl) af (Same.refl _) aH aH ?_;simp[cM,OQ,aV,aY,aU];have:uR l t=true:=by simp[uR];omega
  simp[this,E4]
theorem aqy(l:List ai)(t:T)(av:l.length<=1000000):bK aw 29 [.slice 5 .no (l.map ai.e),t.e] (.tuple [(if uR l t then E4 l t else .nil).e,.bool (uR l t)]):=by refine bo fT aeV alM fun aQ=>?_;unfold Sb;simp;refine cQ.ob (ag0 l t av) (CS l) (by unfold pg;exact aH) (by unfold pg;exact aH) (by simp[inObs,pg]) ?_;rintro r ah ⟨rfl,rfl⟩;refine⟨Same.refl _,?_⟩;unfold pg;simp[cb];simp[bp,Zb,aV,aY,aU]
end
end Go.Proofs.YtohaalphocaebaaGreatDoor
namespace Go.Pv
section
open Go
def T.ap(θ:Int->T):T->T
 | .var n=>θ n
 | .pair a b=>.pair (a.ap θ) (b.ap θ)
 |t=>t
theorem Au(f g:Int->T)(t:T):(t.ap f).ap g=t.ap fun v=>(f v).ap g:=by
 induction t with
 |pair a b dz dA=>simp[T.ap,dz,dA]
 |_=>simp[T.ap]
theorem nY{f g:Int->T}{t:T}(h:∀v,t.occ v=true->f v=g v):t.ap f=t.ap g:=by
 induction t with
 |var n=>exact h n (by simp[T.occ])
 |pair a b dz dA=>simp only[T.ap];rw[dz fun v az=>h v (by simp[T.occ,az]),dA fun v az=>h v (by simp[T.occ,az])]
 |_=>rfl
theorem Q6(t:T):t.ap .var=t:=by induction t<;>simp_all[T.ap]
theorem Gf{f:Int->T}{t:T}(h:∀v,t.occ v=true->f v= .var v):t.ap f=t:=(nY h).trans (Q6 t)
theorem PX(f:Int->Option T)(t:T):t.sub f=t.ap fun v=>(f v).getD (.var v):=by
 induction t with
 |var n=>simp only[T.sub,T.ap];cases f n<;>rfl
 |pair a b dz dA=>simp[T.sub,T.ap,dz,dA]
 |_=>rfl
theorem acv(θ:Int->T)(t:T):t.size<=(t.ap θ).size:=by
 induction t with
 |var n=>exact T.size_pos _
 |pair a b dz dA=>simp only[T.ap,T.size];omega
 |_=>exact dZ _
theorem zw(θ:Int->T){v:Int}{t:T}(h:t.occ v=true):(θ v).size<=(t.ap θ).size/\(t.kind≠1->(θ v).size<(t.ap θ).size):=by
 induction t with
 |var n=>simp[T.occ]at h;subst h;simp[T.ap,T.kind]
 |pair a b dz dA=>
  simp only[T.occ,lP]at h;simp only[T.ap,T.size];rcases h with h|h
  ·have:=(dz h).1;exact⟨Ω,fun _=>Ω⟩
  ·have:=(dA h).1;exact⟨Ω,fun _=>Ω⟩
 |_=>simp[T.occ]at h
theorem BY{θ:Int->T}{v:Int}{t:T}:(t.ap θ).occ v=true↔∃w,t.occ w=true/\(θ w).occ v=true:=by
 induction t with
 |var n=>simp[T.ap,T.occ]
 |pair a b dz dA=>
  simp only[T.ap,T.occ,lP,dz,dA];constructor
  ·rintro(⟨w,J,U⟩|⟨w,J,U⟩)
   ·exact⟨w,.inl J,U⟩
   ·exact⟨w,.inr J,U⟩
  ·rintro⟨w,J|J,U⟩
   ·exact .inl ⟨w,J,U⟩
   ·exact .inr ⟨w,J,U⟩
 |_=>simp[T.ap,T.occ]
def aR(s:List ai)(v:Int):T:=(cO s v).getD (.var v)
abbrev gO(s:List ai):Prop:=s.Pairwise fun x y=>x.v<y.v
def dR(s:List ai)(θ:Int->T):Prop:= ∀b∈s,θ b.v=b.t.ap θ
structure e1 (s:List ai):Prop where
 asc:gO s
 free:∀b∈s,∀w,b.t.occ w=true->cO s w=none
 ori:∀b∈s,∀w,b.t= .var w->w<b.v
theorem vl(b:ai)(s:List ai)(v:Int):cO (b::s) v=if b.v=v then some b.t else cO s v:=by
 unfold cO;by_cases h:b.v=v
 ·simp[h]
 ·have:(b.v==v)=false:=by simp[h]
  simp[this,h,List.find?_cons]
theorem iG{v:Int}{t:T}:∀{s:List ai},cO s v=some t->(⟨v,t⟩:ai)∈s
 |[],h=>by simp[cO]at h
 |b::s,h=>by
  rw[vl]at h;split at h
  ·rename_i e;cases h;subst e;simp
  ·exact pd _ (iG h)
theorem wO{v:Int}:∀{s:List ai},cO s v=none↔∀b∈s,b.v≠v
 |[]=>by simp[cO]
 |b::s=>by
  rw[vl];by_cases h:b.v=v
  ·simp[h]
  ·simp[h,wO (s:=s)]
theorem pn{b:ai}:∀{s:List ai},gO s->b∈s->cO s b.v=some b.t
 |[],_,h=>by simp at h
 |c::s,bg,h=>by
  rw[vl];have n7:=np.1 bg;rcases fm.1 h with rfl|h
  ·simp
  ·have:=n7.1 b h;rw[if_neg Ω];exact pn n7.2 h
theorem Q8:∀{s ah:List ai},gO s->gO ah->(∀v,cO s v=cO ah v)->s=ah
 |[],[],_,_,_=>rfl
 |[],c::ah,_,_,h=>by have:=h c.v;rw[vl]at this;simp[cO]at this
 |c::s,[],_,_,h=>by have:=h c.v;rw[vl]at this;simp[cO]at this
 |b::s,c::ah,bg,ad,h=>by
  have gd:=np.1 ad;have n7:=np.1 bg;have J:(⟨b.v,b.t⟩:ai)∈c::ah:=iG (by rw[<-h b.v,vl];simp);have U:(⟨c.v,c.t⟩:ai)∈b::s:=iG (by rw[h c.v,vl];simp);have Vr:b=c:=by
   rcases fm.1 J with e|e
   ·exact e
   ·rcases fm.1 U with aF|aF
    ·exact aF.symm
    ·have a1:=gd.1 _ e;have bm:=n7.1 _ aF;simp only at a1 bm;omega
  subst Vr;rw[Q8 n7.2 gd.2 fun v=>?_];have:=h v;rw[vl,vl]at this;by_cases e:b.v=v
  ·have jR:cO s v=none:=wO.2 fun x ab=>by have:=n7.1 x ab;omega
   have z2:cO ah v=none:=wO.2 fun x ab=>by have:=gd.1 x ab;omega
   rw[jR,z2]
  ·simpa[e]using this
theorem PN{s:List ai}(bg:gO s){θ:Int->T}:dR s θ↔∀v,θ v=(aR s v).ap θ:=by
 constructor
 ·intro h v;unfold aR;cases e:cO s v with
  |none=>rfl
  |some t=>exact h _ (iG e)
 ·intro h b ad;have:=h b.v;rw[aR,pn bg ad]at this;exact this
theorem PM{s:List ai}{θ:Int->T}(h:dR s θ)(t:T):t.ap θ=(t.ap (aR s)).ap θ:=by
 rw[Au];refine nY fun v _=>?_;unfold aR;cases e:cO s v with
 |none=>rfl
 |some t=>exact h _ (iG e)
theorem aoL{s:List ai}(af:e1 s){t:T}(h:∀w,t.occ w=true->cO s w=none):t.ap (aR s)=t:=Gf fun v az=>by simp[aR,h v az]
theorem uY{s:List ai}(af:e1 s):dR s (aR s):=fun b ad=>by rw[aoL af (af.free b ad),aR,pn af.asc ad];rfl
theorem Ir{s ah:List ai}(af:e1 s)(fX:e1 ah)(h:∀θ,dR ah θ->dR s θ){v:Int}(az:cO ah v=none):cO s v=none:=by
 cases e:cO s v with
 |none=>rfl
 |some t=>
  have J:=h _ (uY fX) _ (iG e);simp only[aR,az,lv]at J;cases t with
  |var w=>
   have U:w<v:=af.ori _ (iG e) w rfl;simp only[T.ap,aR]at J;cases bB:cO ah w with
   |none=>rw[bB]at J;simp at J;omega
   |some u=>rw[bB]at J;simp only[iB]at J;subst J;have:=fX.ori _ (iG bB) v rfl;simp only at this;omega
  |_=>simp[T.ap]at J
theorem akQ{s ah:List ai}(fX:e1 ah)(h:∀θ,dR ah θ->dR s θ){v:Int}:(aR s v).size<=(aR ah v).size:=by
 have J:=h _ (uY fX);unfold aR;cases e:cO s v with
 |none=>exact T.size_pos _
 |some t=>have:=J _ (iG e);show t.size<=(aR ah v).size;simp only at this;rw[this];exact acv _ _
theorem aah{s ah:List ai}(af:e1 s)(fX:e1 ah)(h:∀θ,dR s θ↔dR ah θ):s=ah:=by
 refine Q8 af.asc fX.asc fun v=>?_;have d1:∀w,cO s w=none↔cO ah w=none:=fun w=>⟨Ir fX af (fun θ=>(h θ).1),Ir af fX fun θ=>(h θ).2⟩;cases e:cO s v with
 |none=>exact((d1 v).1 e).symm
 |some t=>
  cases fE:cO ah v with
  |none=>rw[(d1 v).2 fE]at e;cases e
  |some du=>have J:=(h _).2 (uY fX) _ (iG e);simp only[aR,fE,iB]at J;rw[J];exact eW some (Gf fun w hw=>by have:=(d1 w).1 (af.free _ (iG e) w hw);simp[aR,this]).symm
def ga(s:List ai):Prop:=s.length<=400/\∀b∈s,b.t.size<=5000
theorem acF{s:List ai}(h:gO s):(s.map (·.v)).Nodup:=by rw[List.nodup_iff_pairwise_ne,List.pairwise_map];exact h.imp fun h=>Ω
theorem UD{s ah:List ai}(af:e1 s)(fX:e1 ah)(h:∀θ,dR ah θ->dR s θ)(aN:ga ah):ga s:=by
 have aG:∀x∈s.map (·.v),x∈ah.map (·.v):=by
  intro x ab;obtain⟨b,ad,rfl⟩:=hR.1 ab;cases e:cO ah b.v with
  |none=>have:=Ir af fX h e;rw[pn af.asc ad]at this;cases this
  |some t=>exact hR.2 ⟨_,iG e,rfl⟩
 have av:=FW (acF af.asc) aG;simp only[List.length_map]at av;refine⟨ha av aN.1,fun b ad=>?_⟩;have J:=akQ (s:=s) fX h (v:=b.v);rw[aR,pn af.asc ad]at J;obtain⟨c,ao,e⟩:=hR.1 (aG b.v (hR.2 ⟨b,ad,rfl⟩));have U:=aN.2 c ao;rw[aR,<-e,pn fX.asc ao]at J;exact ha J U
def ir(E:List (T×T))(θ:Int->T):Prop:= ∀e∈E,e.1.ap θ=e.2.ap θ
theorem Fy(θ:Int->T):ir [] θ:=fun _ h=>by simp at h
theorem r1{e:T×T}{E:List (T×T)}{θ:Int->T}:ir (e::E) θ↔e.1.ap θ=e.2.ap θ/\ir E θ:=by simp[ir]
theorem Fx{E nq:List (T×T)}{θ:Int->T}:ir (E++nq) θ↔ir E θ/\ir nq θ:=by simp only[ir,hQ];exact⟨fun h=>⟨fun e he=>h e (.inl he),fun e he=>h e (.inr he)⟩,fun h e he=>he.elim (h.1 e) (h.2 e)⟩
def jm(s:List ai)(E:List (T×T)):Option (List ai)->Prop
 |some ah=>(e1 ah/\ga ah)/\∀θ,dR ah θ↔dR s θ/\ir E θ
 |none=> ∀ah,e1 ah->(∀θ,dR ah θ->dR s θ/\ir E θ)->¬ga ah
theorem ab8{s:List ai}{E:List (T×T)}:∀{o o':Option (List ai)},jm s E o->jm s E o'->o=o'
 |none,none,_,_=>rfl
 |some s1,none,h,b9=>absurd h.1.2 (b9 s1 h.1.1 fun θ=>(h.2 θ).1)
 |none,some s1,b9,h=>absurd h.1.2 (b9 s1 h.1.1 fun θ=>(h.2 θ).1)
 |some s1,some s2,h,b9=>by rw[aah h.1.1 b9.1.1 fun θ=>(h.2 θ).trans (b9.2 θ).symm]
theorem Aq{s s2:List ai}{E QK:List (T×T)}(h:∀θ,(dR s θ/\ir E θ)↔(dR s2 θ/\ir QK θ)):∀{o:Option (List ai)},jm s E o->jm s2 QK o
 |none,aM=>fun ah J U=>aM ah J fun θ fY=>(h θ).2 (U θ fY)
 |some s1,aM=>⟨aM.1,fun θ=>(aM.2 θ).trans (h θ)⟩
theorem Ko{s s1:List ai}{E nq:List (T×T)}(h:jm s E (some s1)):∀{o:Option (List ai)},jm s1 nq o->jm s (E++nq) o
 |none,aM=>fun ah J U=>aM ah J fun θ fY=>⟨(h.2 θ).2 ⟨(U θ fY).1,(Fx.1 (U θ fY).2).1⟩,(Fx.1 (U θ fY).2).2⟩
 |some s2,aM=>⟨aM.1,fun θ=>by rw[aM.2 θ,h.2 θ,Fx,and_assoc]⟩
theorem Gb{s:List ai}{E:List (T×T)}(nq:List (T×T))(h:jm s E none):jm s (E++nq) none:=fun ah J U=>h ah J fun θ fY=>⟨(U θ fY).1,(Fx.1 (U θ fY).2).1⟩
theorem Ga{s:List ai}{E:List (T×T)}(h:∀θ,dR s θ->¬ir E θ):jm s E none:=fun ah J U=>absurd (U _ (uY J)).2 (h _ (U _ (uY J)).1)
theorem Kp{s:List ai}(af:e1 s)(aN:ga s):jm s [] (some s):=⟨⟨af,aN⟩,fun θ=>⟨fun h=>⟨h,Fy θ⟩,fun h=>h.1⟩⟩
def one(v:Int)(x:T)(w:Int):T:=if w=v then x else .var w
def pK(b:ai):List ai->List ai
 |[]=>[b]
 |c::s=>if b.v<c.v then b::c::s else c::pK b s
def nv(s:List ai)(v:Int)(x:T):List ai:=pK ⟨v,x⟩ (s.map fun b=>⟨b.v,b.t.ap (one v x)⟩)
theorem NY{b x:ai}:∀{s:List ai},x∈pK b s↔x=b\/x∈s
 |[]=>by simp[pK]
 |c::s=>by
  simp only[pK];split
  ·simp
  ·simp only[fm,NY (s:=s)];constructor
   ·rintro(h|h|h)
    ·exact .inr (.inl h)
    ·exact .inl h
    ·exact .inr (.inr h)
   ·rintro(h|h|h)
    ·exact .inr (.inl h)
    ·exact .inl h
    ·exact .inr (.inr h)
theorem Xh{b:ai}:∀{s:List ai},(pK b s).length=s.length+1
 |[]=>rfl
 |c::s=>by simp only[pK];split<;>simp[Xh]
theorem Q9{b:ai}:∀{s:List ai},gO s->(∀c∈s,c.v≠b.v)->gO (pK b s)
 |[],_,_=>by simp[pK]
 |c::s,bg,au=>by
  have n7:=np.1 bg;simp only[pK];split
  ·rename_i bs;refine np.2 ⟨fun x ab=>?_,bg⟩;rcases fm.1 ab with rfl|ab
   ·exact bs
   ·have:=n7.1 x ab;omega
  ·rename_i xf;refine np.2 ⟨fun x ab=>?_,Q9 n7.2 fun c ao=>au c (by simp[ao])⟩;rcases NY.1 ab with rfl|ab
   ·have:=au c Ψ;omega
   ·exact n7.1 x ab
theorem q4{s:List ai}{v:Int}{x:T}{b:ai}:b∈nv s v x↔b=⟨v,x⟩\/ ∃c∈s,b=⟨c.v,c.t.ap (one v x)⟩:=by unfold nv;rw[NY,hR];refine or_congr Iff.rfl ⟨fun⟨c,J,U⟩=>⟨c,J,U.symm⟩,fun⟨c,J,U⟩=>⟨c,J,U.symm⟩⟩
theorem Yv{v:Int}{x:T}{θ:Int->T}(h:θ v=x.ap θ)(t:T):(t.ap (one v x)).ap θ=t.ap θ:=by
 rw[Au];refine nY fun w _=>?_;unfold one;split
 ·rename_i e;subst e;exact h.symm
 ·rfl
theorem Gj{s:List ai}{v w:Int}{x:T}:cO (nv s v x) w=none↔w≠v/\cO s w=none:=by
 rw[wO,wO];constructor
 ·intro h;exact⟨fun e=>h ⟨v,x⟩ (q4.2 (.inl rfl)) e.symm,fun b ad=>h ⟨b.v,b.t.ap (one v x)⟩ (q4.2 (.inr ⟨b,ad,rfl⟩))⟩
 ·rintro⟨J,U⟩ b ad;rcases q4.1 ad with rfl|⟨c,ao,rfl⟩
  ·exact fun e=>J e.symm
  ·exact U c ao
theorem PF{s:List ai}(af:e1 s){t:T}{w:Int}(h:(t.ap (aR s)).occ w=true):cO s w=none:=by
 obtain⟨u,_,U⟩:=BY.1 h;unfold aR at U;cases e:cO s u with
 |none=>rw[e]at U;simp[T.occ]at U;subst U;exact e
 |some t=>rw[e]at U;exact af.free _ (iG e) w U
theorem ao6{s:List ai}(af:e1 s){v:Int}{t:T}(az:cO s v=none)(ay:(t.ap (aR s)).occ v=false)(uo:∀w,t.ap (aR s)= .var w->w<v):e1 (nv s v (t.ap (aR s))):=by
 have ab:∀w,(t.ap (aR s)).occ w=true->cO (nv s v (t.ap (aR s))) w=none:=fun w hw=>Gj.2 ⟨fun e=>(by subst e;rw[ay]at hw;cases hw),PF af hw⟩;refine⟨Q9 ?_ ?_,fun b ad w hw=>?_,fun b ad w hw=>?_⟩
 ·rw[gO,List.pairwise_map];exact af.asc
 ·intro c ao;obtain⟨b,ad,rfl⟩:=hR.1 ao;exact wO.1 az b ad
 ·rcases q4.1 ad with rfl|⟨c,ao,rfl⟩
  ·exact ab w hw
  ·obtain⟨u,J,U⟩:=BY.1 hw;unfold one at U;split at U
   ·exact ab w U
   ·rename_i cA;simp[T.occ]at U;subst U;exact Gj.2 ⟨cA,af.free c ao _ J⟩
 ·rcases q4.1 ad with rfl|⟨c,ao,rfl⟩
  ·exact uo w hw
  ·simp only at hw⊢;cases e:c.t with
   |var u=>
    have:=af.ori c ao u e;rw[e]at hw;simp only[T.ap,one]at hw;split at hw
    ·rename_i aF;subst aF;have:=uo w hw;omega
    ·cases hw;exact this
   |_=>rw[e]at hw;simp[T.ap]at hw
theorem aae{s:List ai}{v:Int}{t:T}(θ:Int->T):dR (nv s v (t.ap (aR s))) θ↔dR s θ/\ir [(.var v,t)] θ:=by
 have aq:ir [(.var v,t)] θ↔θ v=t.ap θ:=by simp[ir,T.ap]
 rw[aq];constructor
 ·intro h;have bz:θ v=(t.ap (aR s)).ap θ:=h _ (q4.2 (.inl rfl));have J:dR s θ:=fun b ad=>by have:=h _ (q4.2 (.inr ⟨b,ad,rfl⟩));simp only at this;rw[Yv bz]at this;exact this
  exact⟨J,by rw[PM J t];exact bz⟩
 ·rintro⟨J,U⟩ b ad;have bz:θ v=(t.ap (aR s)).ap θ:=by rw[<-PM J t];exact U
  rcases q4.1 ad with rfl|⟨c,ao,rfl⟩
  ·exact bz
  ·simp only;rw[Yv bz];exact J c ao
open Classical in
theorem ab5{s:List ai}(af:e1 s){v:Int}{t:T}(az:cO s v=none)(ay:(t.ap (aR s)).occ v=false)(uo:∀w,t.ap (aR s)= .var w->w<v):jm s [(.var v,t)] (if ga (nv s v (t.ap (aR s)))then some (nv s v (t.ap (aR s)))else none):=by
 have J:=ao6 af az ay uo;split
 ·rename_i aN;exact⟨⟨J,aN⟩,aae⟩
 ·rename_i aN;exact fun ah U h3 h4=>aN (UD J U (fun θ fY=>(aae θ).2 (h3 θ fY)) h4)
def hF(s:List ai):T->T
 | .var n=>aR s n
 |t=>t
def oP(s:List ai)(v:Int)(t:T):Option (List ai):=if(t.ap (aR s)).size<=5000/\(t.ap (aR s)).occ v=false/\s.length<400/\∀b∈s,(b.t.ap (one v (t.ap (aR s)))).size<=5000 then some (nv s v (t.ap (aR s)))else none
def kJ(rec:List ai->T->T->Option (Option (List ai)))(s:List ai):T->T->Option (Option (List ai))
 | .var i,.var j=>some (if i<j then oP s j (.var i)else if i=j then some s else oP s i (.var j))
 | .var i,y=>some (oP s i y)
 |x,.var j=>some (oP s j x)
 | .pair bA a2,.pair b1 b2=>match rec s bA b1 with
  |none=>none
  |some none=>some none
  |some (some s1)=>rec s1 a2 b2
 |x,y=>some (if x=y then some s else none)
def lq:Nat->List ai->T->T->Option (Option (List ai))
 |0,_,_,_=>none
 |n+1,s,a,b=>kJ (lq n) s (hF s a) (hF s b)
theorem apA{rec Pb:List ai->T->T->Option (Option (List ai))}(h:∀s a b o,rec s a b=some o->Pb s a b=some o){s:List ai}{x y:T}{o:Option (List ai)}(he:kJ rec s x y=some o):kJ Pb s x y=some o:=by
 cases x<;>cases y<;>simp only[kJ]at he⊢ <;>try exact he
 rename_i bA a2 b1 b2;cases e:rec s bA b1 with
 |none=>rw[e]at he;cases he
 |some ei=>
  rw[e]at he;rw[h _ _ _ _ e];cases ei with
  |none=>exact he
  |some s1=>exact h _ _ _ _ he
theorem FC:∀{n m:Nat} {s:List ai} {a b:T} {o:Option (List ai)},n<=m->lq n s a b=some o->lq m s a b=some o
 |0,_,_,_,_,_,_,h=>by simp[lq]at h
 |n+1,0,_,_,_,_,hm,_=>Ω
 |n+1,m+1,s,a,b,o,hm,h=>by simp only[lq]at h⊢;exact apA (fun s a b o h=>FC Ω h) h
theorem LR{s:List ai}{v:Int}{x:T}:ga (nv s v x)↔(x.size<=5000/\s.length<400/\∀b∈s,(b.t.ap (one v x)).size<=5000):=by
 have av:(nv s v x).length=s.length+1:=by simp[nv,Xh]
 unfold ga;rw[av];constructor
 ·rintro⟨J,U⟩;exact⟨U _ (q4.2 (.inl rfl)),Ω,fun b ad=>U _ (q4.2 (.inr ⟨b,ad,rfl⟩))⟩
 ·rintro⟨J,U,h3⟩;refine⟨Ω,fun b ad=>?_⟩;rcases q4.1 ad with rfl|⟨c,ao,rfl⟩
  ·exact J
  ·exact h3 c ao
theorem ab6{s:List ai}(af:e1 s){v:Int}{t:T}(az:cO s v=none)(cA:t.ap (aR s)≠ .var v)(uo:∀w,t.ap (aR s)= .var w->w<v):jm s [(.var v,t)] (oP s v t):=by
 unfold oP;cases ay:(t.ap (aR s)).occ v with
 |true=>
  rw[if_neg Ψ];refine Ga fun θ J U=>?_;have h3:=(r1.1 U).1;simp only[T.ap]at h3;rw[PM J t]at h3;have ae:(t.ap (aR s)).kind≠1:=by
   intro ae;cases e:t.ap (aR s)with
   |var w=>rw[e]at ay;simp[T.occ]at ay;subst ay;exact cA e
   |_=>rw[e]at ae;simp[T.kind]at ae
  have:=(zw θ ay).2 ae;rw[<-h3]at this;omega
 |false=>
  have J:=ab5 af az ay uo;by_cases aN:ga (nv s v (t.ap (aR s)))
  ·rw[if_pos aN]at J;rw[if_pos ⟨(LR.1 aN).1,rfl,(LR.1 aN).2⟩];exact J
  ·rw[if_neg aN]at J;rw[if_neg fun h=>aN (LR.2 ⟨h.1,h.2.2⟩)];exact J
theorem abq{s:List ai}(af:e1 s){t:T}{i:Int}(h:hF s t= .var i):cO s i=none:=by
 cases t with
 |var n=>
  simp only[hF,aR]at h;cases e:cO s n with
  |none=>rw[e]at h;simp at h;subst h;exact e
  |some u=>rw[e]at h;simp at h;subst h;exact af.free _ (iG e) i (by simp[T.occ])
 |_=>simp[hF]at h
theorem Qx{s:List ai}{θ:Int->T}(h:dR s θ)(t:T):(hF s t).ap θ=t.ap θ:=by
 cases t with
 |var n=>
  simp only[hF,T.ap,aR];cases e:cO s n with
  |none=>rfl
  |some u=>exact(h _ (iG e)).symm
 |_=>rfl
theorem abt{s:List ai}(af:e1 s)(t:T):(hF s t).ap (aR s)=t.ap (aR s):=Qx (uY af) t
def qV(V:List Int)(t:T):Prop:= ∀w,t.occ w=true->w∈V
def ze(V:List Int)(s:List ai):Prop:= ∀b∈s,b.v∈V/\qV V b.t
def AI(V:List Int)(s:List ai):Nat:=(V.filter fun v=>(cO s v).isNone).length
theorem UA{α:Type}{p q:α->Bool}{v:α}:∀{V:List α},(∀x∈V,q x=true->p x=true)->v∈V->p v=true->q v=false->(V.filter q).length<(V.filter p).length
 |[],_,h,_,_=>by simp at h
 |x::V,h,az,bF,bE=>by
  have hle:∀W:List α,(∀x∈W,q x=true->p x=true)->(W.filter q).length<=(W.filter p).length:=by
   intro W;induction W with
   |nil=>intro _;simp
   |cons y W bN=>intro yP;have:=bN fun x ab=>yP x (by simp[ab]);have aC:=yP y Ψ;simp only[List.filter_cons];cases e:q y<;>cases aF:p y<;>simp_all<;>omega
  simp only[List.filter_cons];rcases fm.1 az with rfl|az
  ·have:=hle V fun x ab=>h x (by simp[ab]);simp[bF,bE];omega
  ·have:=UA (fun x ab=>h x (pd _ ab)) az bF bE;have ab:=h x Ψ;cases e:q x<;>cases aF:p x<;>simp_all<;>omega
theorem acY{V:List Int}{s:List ai}{v:Int}{x:T}(az:v∈V)(au:cO s v=none):AI V (nv s v x)<AI V s:=by
 unfold AI;refine UA (v:=v) (fun w _ h=>?_) az (by simp[au]) ?_
 ·rw[Option.isNone_iff_eq_none,Gj]at h;simp[h.2]
 ·cases e:cO (nv s v x) v with
  |none=>exact absurd rfl (Gj.1 e).1
  |some _=>rfl
theorem Ww{V:List Int}{s:List ai}(h:ze V s){t:T}(aI:qV V t):qV V (t.ap (aR s)):=fun w hw=>by
 obtain⟨u,J,U⟩:=BY.1 hw;unfold aR at U;cases e:cO s u with
 |none=>rw[e]at U;simp[T.occ]at U;subst U;exact aI _ J
 |some x=>rw[e]at U;exact(h _ (iG e)).2 w U
theorem ajs{V:List Int}{s:List ai}(h:ze V s){v:Int}{x:T}(az:v∈V)(ab:qV V x):ze V (nv s v x):=fun b ad=>by
 rcases q4.1 ad with rfl|⟨c,ao,rfl⟩
 ·exact⟨az,ab⟩
 ·refine⟨(h c ao).1,fun w hw=>?_⟩;obtain⟨u,J,U⟩:=BY.1 hw;unfold one at U;split at U
  ·exact ab w U
  ·simp[T.occ]at U;subst U;exact(h c ao).2 _ J
theorem Wx{V:List Int}{s:List ai}(h:ze V s){t:T}(aI:qV V t):qV V (hF s t):=by
 cases t with
 |var n=>have:=Ww h aI;simpa[hF,T.ap]using this
 |_=>exact aI
def CV(V:List Int)(s:List ai)(a b:T)(o:Option (List ai)):Prop:=jm s [(a,b)] o/\∀ah,o=some ah->ze V ah/\(ah=s\/AI V ah<AI V s)
theorem FD{V:List Int}{s:List ai}(af:e1 s)(gS:ze V s){v:Int}{t a b:T}(az:v∈V)(aI:qV V t)(au:cO s v=none)(cA:t.ap (aR s)≠ .var v)(uo:∀w,t.ap (aR s)= .var w->w<v)(ao:∀θ,dR s θ->(θ v=t.ap θ↔a.ap θ=b.ap θ)):CV V s a b (oP s v t):=by
 refine⟨Aq (fun θ=>?_) (ab6 af au cA uo),fun ah h=>?_⟩
 ·refine and_congr_right fun h=>?_;rw[r1,r1];simp only[T.ap,ao θ h]
 ·unfold oP at h;split at h
  ·cases h;exact⟨ajs gS az (Ww gS aI),.inr (acY az au)⟩
  ·cases h
theorem Cs{s:List ai}{i:Int}(h:cO s i=none):aR s i= .var i:=by simp[aR,h]
theorem aaD(V:List Int)(k:Nat):∀(m:Nat) (s:List ai) (a b:T),e1 s->ga s->ze V s->qV V a->qV V b->AI V s=k->(a.ap (aR s)).size+(b.ap (aR s)).size=m->
  ∃n o,lq n s a b=some o/\CV V s a b o:=by
 induction k using qA with
 |ind k M9=>
 intro m;induction m using qA with
 |ind m Bw=>
 intro s a b af aN gS bg ad ae hm;have ab:=Wx gS bg;have aC:=Wx gS ad;have PY:=abt af a;have PZ:=abt af b;have vj:=fun θ (h:dR s θ)=>Qx h a;have oN:=fun θ (h:dR s θ)=>Qx h b;have rE:=fun i=>abq af (t:=a) (i:=i);have LY:=fun i=>abq af (t:=b) (i:=i);have key:∀(rec:List ai->T->T->Option (Option (List ai))) (o:Option (List ai)),kJ rec s (hF s a) (hF s b)=some o->(∀bA a2 b1 b2,hF s a= .pair bA a2->hF s b= .pair b1 b2->CV V s a b o)->CV V s a b o:=by
  intro rec o he bF;cases ex:hF s a with
  |var i=>
   have AT:=rE i ex;have rq:=fun θ h=>(vj θ h).symm.trans (by rw[ex]);cases iw:hF s b with
   |var j=>
    have yK:=LY j iw;have p6:=fun θ h=>(oN θ h).symm.trans (by rw[iw]);rw[ex,iw]at he;simp only[kJ]at he;have hi:i∈V:=by rw[ex]at ab;exact ab i (by simp[T.occ])
    have ag:j∈V:=by rw[iw]at aC;exact aC j (by simp[T.occ])
    rcases Int.lt_trichotomy i j with h|h|h
    ·rw[if_pos h]at he;cases he;refine FD af gS ag (by rw[ex]at ab;exact ab) yK (by simp[T.ap,Cs AT];omega) (fun w hw=>by simp[T.ap,Cs AT]at hw;omega) fun θ fY=>?_;rw[rq θ fY,p6 θ fY];simp only[T.ap];exact⟨Eq.symm,Eq.symm⟩
    ·subst h;rw[if_neg Ω,if_pos rfl]at he;cases he;refine⟨⟨⟨af,aN⟩,fun θ=>⟨fun h=>⟨h,r1.2 ⟨?_,Fy θ⟩⟩,fun h=>h.1⟩⟩,fun ah e=>by cases e;exact⟨gS,.inl rfl⟩⟩;simp only;rw[rq θ h,p6 θ h]
    ·rw[if_neg Ω,if_neg Ω]at he;cases he;refine FD af gS hi (by rw[iw]at aC;exact aC) AT (by simp[T.ap,Cs yK];omega) (fun w hw=>by simp[T.ap,Cs yK]at hw;omega) fun θ fY=>?_;rw[rq θ fY,p6 θ fY];simp only[T.ap]
   |_=>have p6:=fun θ h=>(oN θ h).symm.trans (by rw[iw]);rw[ex,iw]at he;simp only[kJ]at he;cases he;refine FD af gS (by rw[ex]at ab;exact ab i (by simp[T.occ])) (by rw[iw]at aC;exact aC) AT (by simp[T.ap]) (fun w hw=>by simp[T.ap]at hw) fun θ fY=>?_;rw[rq θ fY,p6 θ fY];simp only[T.ap]
  |pair bA a2=>
   cases iw:hF s b with
   |pair b1 b2=>exact bF bA a2 b1 b2 ex iw
   |var j=>have yK:=LY j iw;have rq:=fun θ h=>(vj θ h).symm.trans (by rw[ex]);have p6:=fun θ h=>(oN θ h).symm.trans (by rw[iw]);rw[ex,iw]at he;simp only[kJ]at he;cases he;refine FD af gS (by rw[iw]at aC;exact aC j (by simp[T.occ])) (by rw[ex]at ab;exact ab) yK (by simp[T.ap]) (fun w hw=>by simp[T.ap]at hw) fun θ fY=>?_;rw[rq θ fY,p6 θ fY];simp only[T.ap];exact⟨Eq.symm,Eq.symm⟩
   |_=>have rq:=fun θ h=>(vj θ h).symm.trans (by rw[ex]);have p6:=fun θ h=>(oN θ h).symm.trans (by rw[iw]);rw[ex,iw]at he;simp only[kJ]at he;simp at he;subst he;refine⟨Ga fun θ J U=>?_,fun ah e=>by cases e⟩;have:=(r1.1 U).1;simp only at this;rw[rq θ J,p6 θ J]at this;simp[T.ap]at this
  |_=>
   have rq:=fun θ h=>(vj θ h).symm.trans (by rw[ex]);cases iw:hF s b with
   |var j=>have yK:=LY j iw;have p6:=fun θ h=>(oN θ h).symm.trans (by rw[iw]);rw[ex,iw]at he;simp only[kJ]at he;cases he;refine FD af gS (by rw[iw]at aC;exact aC j (by simp[T.occ])) (by rw[ex]at ab;exact ab) yK (by simp[T.ap]) (fun w hw=>by simp[T.ap]at hw) fun θ fY=>?_;rw[rq θ fY,p6 θ fY];simp only[T.ap];exact⟨Eq.symm,Eq.symm⟩
   |_=>
    have p6:=fun θ h=>(oN θ h).symm.trans (by rw[iw]);rw[ex,iw]at he;simp only[kJ,dE]at he;split at he
    ·rename_i e;subst he;refine⟨⟨⟨af,aN⟩,fun θ=>⟨fun h=>⟨h,r1.2 ⟨?_,Fy θ⟩⟩,fun h=>h.1⟩⟩,fun ah e=>by cases e;exact⟨gS,.inl rfl⟩⟩;simp only;rw[rq θ h,p6 θ h];try rw[e]
    ·rename_i e;subst he;refine⟨Ga fun θ J U=>?_,fun ah e=>by cases e⟩;have:=(r1.1 U).1;simp only at this;rw[rq θ J,p6 θ J]at this;simp[T.ap]at this e;try exact e this
 by_cases HD:∃bA a2 b1 b2,hF s a= .pair bA a2/\hF s b= .pair b1 b2
 ·obtain⟨bA,a2,b1,b2,ex,iw⟩:=HD;have dS:(bA.ap (aR s)).size+(b1.ap (aR s)).size<m/\(a2.ap (aR s)).size+(b2.ap (aR s)).size<m:=by rw[ex]at PY;rw[iw]at PZ;simp only[T.ap]at PY PZ;rw[<-hm,<-PY,<-PZ];simp only[T.size];omega
  have lY:qV V bA:=fun w hw=>by rw[ex]at ab;exact ab w (by simp[T.occ,hw])
  have qL:qV V a2:=fun w hw=>by rw[ex]at ab;exact ab w (by simp[T.occ,hw])
  have kr:qV V b1:=fun w hw=>by rw[iw]at aC;exact aC w (by simp[T.occ,hw])
  have od:qV V b2:=fun w hw=>by rw[iw]at aC;exact aC w (by simp[T.occ,hw])
  have Vz:∀θ,(dR s θ/\ir ([(bA,b1)]++[(a2,b2)]) θ)↔(dR s θ/\ir [(a,b)] θ):=fun θ=>and_congr_right fun h=>by simp only[List.singleton_append,r1,Fy,and_true];rw[<-vj θ h,<-oN θ h,ex,iw];simp[T.ap]
  obtain⟨iP,ei,aq,cP⟩:=Bw _ dS.1 s bA b1 af aN gS lY kr ae rfl;cases ei with
  |none=>refine⟨iP+1,none,?_,Aq Vz (Gb _ cP.1),fun ah e=>by cases e⟩;simp only[lq,ex,iw,kJ,aq]
  |some s1=>
   obtain⟨v1,v2⟩:=cP.2 s1 rfl;have D3:∃gB ee,lq gB s1 a2 b2=some ee/\CV V s1 a2 b2 ee:=by
    rcases v2 with rfl|v2
    ·exact Bw _ dS.2 _ a2 b2 af aN gS qL od ae rfl
    ·exact M9 _ Ω _ s1 a2 b2 cP.1.1.1 cP.1.1.2 v1 qL od rfl rfl
   obtain⟨gB,ee,aF,c8⟩:=D3;refine⟨max iP gB+1,ee,?_,Aq Vz (Ko cP.1 c8.1),fun ah e=>?_⟩
   ·simp only[lq,ex,iw,kJ,FC (Nat.le_max_left iP gB) aq];exact FC (Nat.le_max_right iP gB) aF
   ·obtain⟨eY,dD⟩:=c8.2 ah e;refine⟨eY,?_⟩;rcases v2 with rfl|v2
    ·exact dD
    ·rcases dD with rfl|dD
     ·exact .inr v2
     ·exact .inr Ω
 ·have V2:∀bA a2 b1 b2,hF s a= .pair bA a2->hF s b= .pair b1 b2->ey:=fun bA a2 b1 b2 J U=>HD ⟨bA,a2,b1,b2,J,U⟩;have:∃o,kJ (lq 0) s (hF s a) (hF s b)=some o:=by cases ex:hF s a<;>cases iw:hF s b<;>simp only[kJ]<;>first|exact⟨_,rfl⟩|exact(V2 _ _ _ _ ex iw).elim
  obtain⟨o,ay⟩:=this;exact⟨1,o,ay,key _ o ay fun bA a2 b1 b2 J U=>(V2 bA a2 b1 b2 J U).elim⟩
def tg{α:Type}(k:Int):List (Int×α)->Option α
 |[]=>none
 |(i,v)::r=>if k=i then some v else tg k r
def e5{α:Type}(k:Int)(v:α):List (Int×α)->List (Int×α)
 |[]=>[(k,v)]
 |(i,w)::r=>if k=i then(i,v)::r else(i,w)::e5 k v r
def cv{α:Type}(m:List (Int×α)):List Int:=m.map (·.1)
theorem nS{α:Type}(k:Int)(v:α)(j:Int):∀m:List (Int×α),tg j (e5 k v m)=if j=k then some v else tg j m
 |[]=>by simp only[e5,tg]
 |(i,w)::r=>by
  simp only[e5];by_cases h:k=i
  ·subst h;by_cases U:j=k<;>simp[tg,U]
  ·by_cases U:j=i
   ·subst U;have:¬j=k:=fun e=>h e.symm;simp[tg,h,this]
   ·simp[tg,h,U,nS k v j r]
theorem JK{α:Type}{k:Int}:∀{m:List (Int×α)},(tg k m).isSome=true↔k∈cv m
 |[]=>by simp[tg,cv]
 |(i,w)::r=>by
  simp only[tg,cv,gZ,fm];by_cases h:k=i
  ·simp[h]
  ·simp only[h,if_false,false_or];exact JK
theorem apt{α:Type}{k:Int}{m:List (Int×α)}:tg k m=none↔k∉cv m:=by rw[<-JK];cases tg k m<;>simp
theorem Ep{α:Type}{k:Int}{v:α}:∀{m:List (Int×α)},k∈cv m->cv (e5 k v m)=cv m
 |[],h=>by simp[cv]at h
 |(i,w)::r,h=>by
  simp only[e5];by_cases e:k=i
  ·simp[e,cv]
  ·rw[if_neg e];have b9:k∈cv r:=by simpa[cv,e]using h
   have:=Ep (v:=v) b9;simp only[cv]at this⊢;simp[this]
theorem W2{α:Type}{k:Int}{v:α}:∀{m:List (Int×α)},k∉cv m->cv (e5 k v m)=cv m++[k]
 |[],h=>by simp[cv,e5]
 |(i,w)::r,h=>by have e:¬k=i:=fun e=>h (by simp[cv,e]);have b9:k∉cv r:=fun ae=>h (by simp[cv]at ae⊢;exact .inr ae);have:=W2 (v:=v) b9;simp only[e5,if_neg e];simp only[cv]at this⊢;simp[this]
structure bu where
 up:List (Int×Int)
 shape:List (Int×T)
 shaped:List (Int×Bool)
 color:List (Int×Int)
 size:List (Int×Int)
 full:List (Int×T)
def bu.shd(c:bu)(x:Int):Bool:=(tg x c.shaped).getD false
def bu.shp(c:bu)(x:Int):T:=(tg x c.shape).getD .nil
def bu.col(c:bu)(x:Int):Int:=(tg x c.color).getD 0
def bu.sz(c:bu)(x:Int):Int:=(tg x c.size).getD 0
def hC(m:List (Int×Int))(v:Int):Int:=(tg v m).getD 0
def xX:Nat->List (Int×Int)->Int->Option (Int×List (Int×Int))
 |0,_,_=>none
 |n+1,m,v=>if hC m v=v then some (v,m)else xX n (e5 v (hC m (hC m v)) m) (hC (e5 v (hC m (hC m v)) m) v)
def Ar(v:Int)(m:List (Int×Int)):List (Int×Int):=if(tg v m).isSome then m else e5 v v m
def rt(c:bu)(v:Int):Option (Int×bu):=(xX (v.toNat+1) (Ar v c.up) v).map fun p=>(p.1,{c with up:=p.2})
def T.foldO{α:Type}(f:Int->α->Option α):T->α->Option α
 | .var n,a=>f n a
 | .pair x y,a=>(x.foldO f a).bind (y.foldO f)
 |_,a=>some a
def T.mapO{α:Type}(f:Int->α->Option (T×α)):T->α->Option (T×α)
 | .var n,a=>f n a
 | .pair x y,a=>(x.mapO f a).bind fun p=>(y.mapO f p.2).map fun q=>(.pair p.1 q.1,q.2)
 |t,a=>some (t,a)
def T.sizeO{α:Type}(f:Int->α->Option (Int×α)):T->α->Option (Int×α)
 | .var n,a=>(f n a).map fun p=>(if 5001<p.1 then 5001 else p.1,p.2)
 | .pair x y,a=>(x.sizeO f a).bind fun p=>if 5000<p.1 then some p else(y.sizeO f p.2).map fun q=>(if 5001<1+p.1+q.1 then 5001 else 1+p.1+q.1,q.2)
 |_,a=>some (1,a)
def BM(t:T)(c:bu):Option bu:=t.foldO (fun v c=>(rt c v).map (·.2)) c
structure vd where
 c:bu
 seen:List (Int×Bool)
 found:Bool
def xW(rec:T->bu->List (Int×Bool)->Option vd)(x:Int)(v:Int)(a:vd):Option vd:=
 (rt a.c v).bind fun p=>if a.found=true\/p.1=x then some ⟨p.2,a.seen,true⟩
  else if(tg p.1 a.seen).getD false=false/\p.2.shd p.1=true then rec (p.2.shp p.1) p.2 (e5 p.1 true a.seen)
  else some ⟨p.2,a.seen,a.found⟩
def qt:Nat->Int->T->bu->List (Int×Bool)->Option vd
 |0,_,_,_,_=>none
 |n+1,x,t,c,seen=>t.foldO (xW (qt n x) x) ⟨c,seen,false⟩
def bu.know(c:bu)(x:Int)(t:T):bu:={c with shape:=e5 x t c.shape,shaped:=e5 x true c.shaped}
def vZ(n:Nat)(x:Int)(t:T)(c:bu):Option (Bool×bu):=(qt n x t (c.know x t) []).map fun a=>(!a.found,a.c)
def bu.join(c:bu)(x y:Int):bu:={c with up:=e5 y x c.up}
def sq(rec:T->T->bu->Option (Bool×bu))(n:Nat)(x y:Int)(c:bu):Option (Bool×bu):=
 if c.shd y=false then
  (if c.shd x=false then some (true,c)else(qt n x (c.shp x) c []).map fun a=>(!a.found,a.c))
 else if c.shd x=false then vZ n x (c.shp y) c
 else(qt n x (c.shp y) c []).bind fun a=>if a.found=true then some (false,a.c)else
  (qt n x (a.c.shp x) a.c []).bind fun b=>if b.found=true then some (false,b.c)else rec (b.c.shp x) (c.shp y) b.c
def gR:Nat->T->T->bu->Option (Bool×bu)
 |0,_,_,_=>none
 |n+1,.var i,.var j,c=>(rt c i).bind fun p=>(rt p.2 j).bind fun q=>if p.1=q.1 then some (true,q.2)else if q.1<p.1 then sq (gR n) n q.1 p.1 (q.2.join q.1 p.1)else sq (gR n) n p.1 q.1 (q.2.join p.1 q.1)
 |n+1,.var i,b,c=>(rt c i).bind fun p=>if p.2.shd p.1=false then vZ n p.1 b p.2 else gR n (p.2.shp p.1) b p.2
 |n+1,a,.var j,c=>gR n (.var j) a c
 |n+1,.pair bA a2,.pair b1 b2,c=>(gR n bA b1 c).bind fun p=>if p.1=true then gR n a2 b2 p.2 else some (false,p.2)
 |_+1,a,b,c=>some (decide (a=b),c)
structure ka (m:List (Int×Int)) (ρ:Int->Int):Prop where
 up:∀v u,tg v m=some u->(0<=u/\u<=v/\u∈cv m)/\ρ u=ρ v/\(ρ v=v↔u=v)
 no:∀v,v∉cv m->ρ v=v
theorem ka.get{m:List (Int×Int)}{ρ:Int->Int}(h:ka m ρ){v:Int}(az:v∈cv m):∃u,tg v m=some u/\hC m v=u:=by have:=JK.2 az;obtain⟨u,hu⟩:=fo.1 this;exact⟨u,hu,by simp[hC,hu]⟩
theorem ka.root{m:List (Int×Int)}{ρ:Int->Int}(h:ka m ρ):∀(n:Nat) (v:Int),v.toNat<=n->(ρ v<=v/\ρ (ρ v)=ρ v/\(v∈cv m->ρ v∈cv m/\0<=ρ v)):=by
 intro n;induction n using qA with
 |ind n bN=>
 intro v au;by_cases az:v∈cv m
 ·obtain⟨u,J,_⟩:=h.get az;obtain⟨⟨bA,a2,a3⟩,a4,a5⟩:=h.up v u J;by_cases e:u=v
  ·have:=a5.2 e;subst e;rw[this];exact⟨Ω,this,fun _=>⟨a3,bA⟩⟩
  ·obtain⟨b1,b2,gp⟩:=bN (u.toNat) Ω u Ω;rw[<-a4];exact⟨Ω,b2,fun _=>gp a3⟩
 ·have:=h.no v az;rw[this];exact⟨Ω,this,fun h=>absurd h az⟩
theorem ka.le{m:List (Int×Int)}{ρ:Int->Int}(h:ka m ρ)(v:Int):ρ v<=v:=(h.root v.toNat v (dZ _)).1
theorem ka.idem{m:List (Int×Int)}{ρ:Int->Int}(h:ka m ρ)(v:Int):ρ (ρ v)=ρ v:=(h.root v.toNat v (dZ _)).2.1
theorem ka.mem{m:List (Int×Int)}{ρ:Int->Int}(h:ka m ρ){v:Int}(az:v∈cv m):ρ v∈cv m/\0<=ρ v:=(h.root v.toNat v (dZ _)).2.2 az
theorem Z2{ρ:Int->Int}:∀(n:Nat) (m:List (Int×Int)) (v:Int),ka m ρ->v∈cv m->v.toNat<n->∃hM,xX n m v=some (ρ v,hM)/\ka hM ρ/\cv hM=cv m
 |0,_,_,_,_,au=>Ω
 |n+1,m,v,h,az,au=>by
  obtain⟨u,J,U⟩:=h.get az;obtain⟨⟨bA,a2,a3⟩,a4,a5⟩:=h.up v u J;simp only[xX,U];by_cases e:u=v
  ·rw[if_pos e];have:=a5.2 e;exact⟨m,by rw[this],h,rfl⟩
  ·rw[if_neg e];obtain⟨x,g1,g2⟩:=h.get a3;obtain⟨⟨b1,b2,gp⟩,vk,b5⟩:=h.up u x g1;rw[g2];have ae:=Ep (v:=x) az;have mT:ka (e5 v x m) ρ:=by
    refine⟨fun w y hw=>?_,fun w hw=>h.no w (by rw[ae]at hw;exact hw)⟩;rw[nS]at hw;rw[ae];by_cases ew:w=v
    ·subst ew;rw[if_pos rfl]at hw;cases hw;refine⟨⟨b1,Ω,gp⟩,by rw[vk,a4],⟨fun aM=>absurd (a5.1 aM) e,fun ab=>?_⟩⟩;have:u=w:=Ω
     exact absurd this e
    ·rw[if_neg ew]at hw;exact h.up w y hw
   have Bq:hC (e5 v x m) v=x:=by simp[hC,nS]
   rw[Bq];obtain⟨hM,bY,cw,dC⟩:=Z2 n (e5 v x m) x mT (by rw[ae];exact gp) Ω;exact⟨hM,by rw[bY,vk,a4],cw,by rw[dC,ae]⟩
structure jl (ρ:Int->Int) (c cq:bu):Prop where
 ru:ka cq.up ρ
 keys:cv cq.up=cv c.up
 eq:cq={c with up:=cq.up}
theorem jl.refl{ρ:Int->Int}{c:bu}(h:ka c.up ρ):jl ρ c c:=⟨h,rfl,rfl⟩
theorem jl.trans{ρ:Int->Int}{a b c:bu}(h:jl ρ a b)(k:jl ρ b c):jl ρ a c:=⟨k.ru,k.keys.trans h.keys,by rw[k.eq,h.eq]⟩
theorem jl.shd{ρ:Int->Int}{c cq:bu}(h:jl ρ c cq)(x:Int):cq.shd x=c.shd x:=by rw[h.eq];rfl
theorem jl.shp{ρ:Int->Int}{c cq:bu}(h:jl ρ c cq)(x:Int):cq.shp x=c.shp x:=by rw[h.eq];rfl
theorem uV{ρ:Int->Int}{c:bu}{v:Int}(h:ka c.up ρ)(az:v∈cv c.up):∃cq,rt c v=some (ρ v,cq)/\jl ρ c cq:=by
 have bg:Ar v c.up=c.up:=by simp[Ar,JK.2 az]
 obtain⟨hM,J,U,h3⟩:=Z2 (v.toNat+1) c.up v h az Ω;exact⟨{c with up:=hM},by simp[rt,bg,J],⟨U,h3,rfl⟩⟩
theorem aou{ρ:Int->Int}{c:bu}{v:Int}(h:ka c.up ρ)(bz:0<=v)(az:v∉cv c.up):rt c v=some (v,{c with up:=e5 v v c.up})/\ka (e5 v v c.up) ρ/\cv (e5 v v c.up)=cv c.up++[v]:=by
 have au:=apt.2 az;have ae:=W2 (v:=v) az;refine⟨?_,⟨fun w u hw=>?_,fun w hw=>h.no w fun hm=>hw (by rw[ae];simp[hm])⟩,ae⟩
 ·simp[rt,Ar,au,xX,hC,nS]
 ·rw[nS]at hw;rw[ae];by_cases e:w=v
  ·subst e;rw[if_pos rfl]at hw;cases hw;exact⟨⟨bz,Ω,Ψ⟩,rfl,⟨fun _=>rfl,fun _=>h.no _ az⟩⟩
  ·rw[if_neg e]at hw;obtain⟨⟨bA,a2,a3⟩,a4⟩:=h.up w u hw;exact⟨⟨bA,a2,by simp[a3]⟩,a4⟩
def bu.ph(c:bu)(x:Int):Option T:=if c.shd x then some (c.shp x)else none
theorem jl.ph{ρ:Int->Int}{c cq:bu}(h:jl ρ c cq):cq.ph=c.ph:=by funext x;simp only[bu.ph,h.shd,h.shp]
def kN(ph:Int->Option T)(ρ:Int->Int)(θ:Int->T):Prop:=(∀v,θ v=θ (ρ v))/\∀x t,ρ x=x->ph x=some t->θ x=t.ap θ
def jz(ph:Int->Option T)(ρ:Int->Int)(z u:Int):Prop:=ρ z=z/\∃t w,ph z=some t/\t.occ w=true/\ρ w=u
inductive nU (E:Int->Int->Prop):Int->Int->Prop
 |refl (a:Int):nU E a a
 |step {a b c:Int}:E a b->nU E b c->nU E a c
def pk(V:List Int)(ph:Int->Option T):Prop:= ∀x t,ph x=some t->t.kind≠1/\(∀w,t.occ w=true->w∈V)/\x∈V
def JP(V:List Int)(ph:Int->Option T)(seen:List (Int×Bool)):Nat:=(V.filter fun v=>(ph v).isSome&& !((tg v seen).getD false)).length
def nI(seen:List (Int×Bool))(z:Int):Prop:=(tg z seen).getD false=true
structure ab0 (V:List Int) (ph:Int->Option T) (ρ:Int->Int) (x:Int) (occ:Int->Prop) (a bk:vd):Prop where
 sm:jl ρ a.c bk.c
 sub:∀z,nI a.seen z->nI bk.seen z
 yes:bk.found=true->a.found=true\/ ∃w,occ w/\nU (jz ph ρ) (ρ w) x
 kept:a.found=true->bk.found=true
 no:bk.found=false->(∀w,occ w->ρ w≠x/\((ph (ρ w)).isSome=true->nI bk.seen (ρ w)))/\∀r,nI bk.seen r->¬nI a.seen r->∀u,jz ph ρ r u->u≠x/\((ph u).isSome=true->nI bk.seen u)
theorem GY{α:Type}{p q:α->Bool}:∀{V:List α},(∀x∈V,q x=true->p x=true)->(V.filter q).length<=(V.filter p).length
 |[],_=>by simp
 |y::V,h=>by have:=GY (p:=p) (q:=q) (V:=V) fun x ab=>h x (by simp[ab]);have aC:=h y Ψ;simp only[List.filter_cons];cases e:q y<;>cases aF:p y<;>simp_all<;>omega
theorem GZ{α:Type}{p q:α->Bool}{v:α}:∀{V:List α},(∀x∈V,q x=true->p x=true)->v∈V->p v=true->q v=false->(V.filter q).length<(V.filter p).length
 |[],_,h,_,_=>by simp at h
 |x::V,h,az,bF,bE=>by
  have hle:=GY (p:=p) (q:=q) (V:=V) fun x ab=>h x (pd _ ab);simp only[List.filter_cons];rcases fm.1 az with rfl|az
  ·simp[bF,bE];omega
  ·have:=GZ (fun x ab=>h x (pd _ ab)) az bF bE;have ab:=h x Ψ;cases e:q x<;>cases aF:p x<;>simp_all<;>omega
theorem apC{V:List Int}{ph:Int->Option T}{s ah:List (Int×Bool)}(h:∀z,nI s z->nI ah z):JP V ph ah<=JP V ph s:=
 GY fun x _ ab=>by
  simp only[cr,oG]at ab⊢;refine⟨ab.1,?_⟩;cases e:(tg x s).getD false with
  |false=>rfl
  |true=>have:=h x e;unfold nI at this;rw[ab.2]at this;cases this
theorem Na{s:List (Int×Bool)}{r z:Int}:nI (e5 r true s) z↔z=r\/nI s z:=by unfold nI;rw[nS];by_cases h:z=r<;>simp[h]
theorem aoj{V:List Int}{ph:Int->Option T}{ρ:Int->Int}{x:Int}(hc:pk V ph)(k:Nat):∀(t:T) (a:vd),ka a.c.up ρ->cv a.c.up=V->a.c.ph=ph->(∀w,t.occ w=true->w∈V)->JP V ph a.seen<=k->
  ∃N bk,(∀n,N<=n->t.foldO (xW (qt n x) x) a=some bk)/\ab0 V ph ρ x (fun w=>t.occ w=true) a bk:=by
 induction k using qA with
 |ind k M9=>
 intro t;induction t with
 |var v=>
  intro a mT ae jZ aI qU;obtain⟨bY,J,U⟩:=uV mT (by rw[ae];exact aI v (by simp[T.occ]));have jG:bY.shd (ρ v)=(ph (ρ v)).isSome:=by rw[U.shd,<-jZ];simp only[bu.ph];split<;>simp_all
  by_cases aN:a.found=true\/ρ v=x
  ·refine⟨0,⟨bY,a.seen,true⟩,fun n _=>by simp[T.foldO,xW,J,aN],U,fun z bd=>bd,fun _=>?_,fun _=>rfl,fun h=>by cases h⟩;rcases aN with aN|aN
   ·exact .inl aN
   ·exact .inr ⟨v,by simp[T.occ],by rw[aN];exact .refl _⟩
  ·by_cases af:(tg (ρ v) a.seen).getD false=false/\bY.shd (ρ v)=true
   ·have HC:ph (ρ v)=some (bY.shp (ρ v)):=by rw[<-jZ];simp only[bu.ph,U.shp];rw[if_pos (by rw[<-U.shd];exact af.2)]
    obtain⟨g1,g2,g3⟩:=hc _ _ HC;have bs:JP V ph (e5 (ρ v) true a.seen)<k:=by
     refine Nat.lt_of_lt_of_le (GZ (v:=ρ v) (fun z _ bd=>?_) g3 ?_ ?_) qU
     ·simp only[cr,oG]at bd⊢;refine⟨bd.1,?_⟩;rw[nS]at bd;by_cases e:z=ρ v
      ·subst e;exact af.1
      ·rw[if_neg e]at bd;exact bd.2
     ·simp[HC,af.1]
     ·simp[nS]
    obtain⟨N,bk,aq,cP⟩:=M9 _ bs (bY.shp (ρ v)) ⟨bY,e5 (ρ v) true a.seen,false⟩ U.ru (by rw[U.keys];exact ae) (by rw[U.ph];exact jZ) g2 (dZ _);refine⟨N+1,bk,fun n au=>?_,U.trans cP.sm,fun z bd=>cP.sub z (Na.2 (.inr bd)),fun aC=>?_,fun h=>absurd (.inl h) aN,fun cU=>?_⟩
    ·obtain⟨n',rfl⟩:∃n',n=n'+1:=⟨n-1,Ω⟩;simp only[T.foldO,xW,J,jy,if_neg aN,if_pos af,qt];exact aq n' Ω
    ·rcases cP.yes aC with h|⟨w,a1,bm⟩
     ·cases h
     ·exact .inr ⟨v,by simp[T.occ],.step ⟨by rw[ka.idem mT],_,w,HC,a1,rfl⟩ bm⟩
    ·obtain⟨a1,bm⟩:=cP.no cU;have gU:nI bk.seen (ρ v):=cP.sub _ (Na.2 (.inl rfl));refine⟨fun w hw=>?_,fun r aM dk u hu=>?_⟩
     ·simp[T.occ]at hw;subst hw;exact⟨fun e=>aN (.inr e),fun _=>gU⟩
     ·by_cases rC:r=ρ v
      ·subst rC;obtain⟨_,du,w,jR,z2,rfl⟩:=hu;rw[HC]at jR;cases jR;exact a1 w z2
      ·exact bm r aM (fun h=>(Na.1 h).elim rC dk) u hu
   ·have DL:a.found=false:=by cases e:a.found with
     |false=>rfl
     |true=>exact absurd (.inl e) aN
    refine⟨0,⟨bY,a.seen,a.found⟩,fun n _=>by simp only[T.foldO,xW,J,jy,if_neg aN,if_neg af],U,fun z bd=>bd,fun h=>.inl h,fun h=>h,fun _=>⟨fun w hw=>?_,fun r J U=>absurd J U⟩⟩;simp[T.occ]at hw;subst hw;refine⟨fun e=>aN (.inr e),fun bF=>?_⟩;unfold nI;cases e:(tg (ρ v) a.seen).getD false with
    |true=>rfl
    |false=>exact absurd ⟨e,by rw[jG];exact bF⟩ af
 |pair p q ajp ajq=>
  intro a mT ae jZ aI qU;obtain⟨h1,bA,aq,cP⟩:=ajp a mT ae jZ (fun w hw=>aI w (by simp[T.occ,hw])) qU;obtain⟨jB,a2,aF,c8⟩:=ajq bA cP.sm.ru (by rw[cP.sm.keys];exact ae) (by rw[cP.sm.ph];exact jZ) (fun w hw=>aI w (by simp[T.occ,hw])) (ha (apC cP.sub) qU);refine⟨max h1 jB,a2,fun n au=>by simp only[T.foldO];rw[aq n Ω];exact aF n Ω,cP.sm.trans c8.sm,fun z bd=>c8.sub z (cP.sub z bd),fun aC=>?_,fun h=>c8.kept (cP.kept h),fun cU=>?_⟩
  ·rcases c8.yes aC with h|⟨w,a1,bm⟩
   ·rcases cP.yes h with h|⟨w,a1,bm⟩
    ·exact .inl h
    ·exact .inr ⟨w,by simp[T.occ,a1],bm⟩
   ·exact .inr ⟨w,by simp[T.occ,a1],bm⟩
  ·have aho:bA.found=false:=by cases e:bA.found with
    |false=>rfl
    |true=>have:=c8.kept e;rw[cU]at this;cases this
   obtain⟨eu,fe⟩:=cP.no aho;obtain⟨s1,s2⟩:=c8.no cU;refine⟨fun w hw=>?_,fun r aM dk u hu=>?_⟩
   ·simp only[T.occ,lP]at hw;rcases hw with hw|hw
    ·exact⟨(eu w hw).1,fun h=>c8.sub _ ((eu w hw).2 h)⟩
    ·exact s1 w hw
   ·by_cases h:nI bA.seen r
    ·exact⟨(fe r h dk u hu).1,fun cE=>c8.sub _ ((fe r h dk u hu).2 cE)⟩
    ·exact s2 r aM h u hu
 |_=>intro a mT ae jZ aI qU;exact⟨0,a,fun n _=>rfl,jl.refl mT,fun z bd=>bd,fun h=>.inl h,fun h=>h,fun _=>⟨fun w hw=>by simp[T.occ]at hw,fun r J U=>absurd J U⟩⟩
theorem Ja{ρ:Int->Int}{x:Int}{c:bu}{t:T}(mT:ka c.up ρ)(hc:pk (cv c.up) c.ph)(aI:∀w,t.occ w=true->w∈cv c.up):
  ∃N a,(∀n,N<=n->qt n x t c []=some a)/\jl ρ c a.c/\(a.found=true↔∃w,t.occ w=true/\nU (jz c.ph ρ) (ρ w) x):=by
 obtain⟨N,a,J,U⟩:=aoj (x:=x) hc _ t ⟨c,[],false⟩ mT rfl rfl aI (dZ _);refine⟨N+1,a,fun n au=>?_,U.sm,fun h=>?_,fun⟨w,hw,aM⟩=>?_⟩
 ·obtain⟨n',rfl⟩:∃n',n=n'+1:=⟨n-1,Ω⟩;exact J n' Ω
 ·rcases U.yes h with h|h
  ·cases h
  ·exact h
 ·cases e:a.found with
  |true=>rfl
  |false=>
   obtain⟨a1,bm⟩:=U.no e;have key:∀z,nU (jz c.ph ρ) z x->z≠x->((c.ph z).isSome=true->nI a.seen z)->ey:=by
    have:∀z y,nU (jz c.ph ρ) z y->y=x->z≠x->((c.ph z).isSome=true->nI a.seen z)->ey:=by
     intro z y aC;induction aC with
     |refl z=>intro h b9;exact absurd h b9
     | @step z b cq he _ bN=>intro ab cA gU;obtain⟨_,du,w',jR,_,_⟩:=id he;have af:=gU (by simp[jR]);obtain⟨g1,g2⟩:=bm z af (by simp[nI,tg]) b he;exact bN ab g1 g2
    exact fun z bd=>this z x bd rfl
   exact(key _ aM (a1 w hw).1 (a1 w hw).2).elim
end
end Go.Pv
