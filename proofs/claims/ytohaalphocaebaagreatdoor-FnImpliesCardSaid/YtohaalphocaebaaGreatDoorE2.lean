/- Classes of variables, as the program keeps them: what its functions compute, and what it means. -/
import Derived.Deep.LoopGhost
import Derived.Test.YtohaalphocaebaaGreatDoorProg
import Derived.Test.YtohaalphocaebaaGreatDoorE1
set_option linter.all false
set_option maxHeartbeats 4000000
set_option maxRecDepth 4000
open Array renaming getElem?_toList->vb
open BitVec renaming ofInt->mL
open Bool renaming and_eq_true->cv,false_eq_true->hk,not_eq_true'->oJ,or_eq_true->mg
open Decidable renaming not_not->av0
open Go renaming Program->cM,TypeId->hl
open Go.IntKind renaming bits->oK,i64->nR,signed->sn,u64->hT,wrap->tM
open Go.IntWalk renaming i64_in->nl
open Go.Op renaming bytesLess->h2
open Go.Proofs.Tryz renaming prog->aA
open Go.Region renaming wanted->p4
open Go.Result renaming andThen_ok->gf
open Go.Sem renaming run_bind->fZ,run_pure->gI
open Go.Value renaming cells->p5
open List renaming all_eq_true->fi,cons_append->bQ,drop_eq_getElem_cons->lA,getElem?_eq_getElem->cm,getElem?_eq_none->rq,getElem?_eq_some_iff->fG,length_append->pn,length_cons->mM,map_cons->hc,map_nil->nS,mem_append->h3,mem_cons->eU,mem_cons_of_mem->mh,mem_filter->hD,mem_map->hU,mem_of_getElem?->ek,nil_append->bU,pairwise_cons->nm,pairwise_iff_getElem->p6
open List.Nodup renaming length_le_of_subset->Gb
open List.cons renaming injEq->yn
open Nat renaming le_refl->eo,le_trans->hn,strongRecOn->qQ
open Ne renaming symm->lY
open Option renaming bind_some->hE,getD_none->jy,getD_some->ib,isSome_iff_exists->fH,isSome_none->je,map_eq_some_iff->gB,map_some->nT
open Option.some renaming inj->eV,injEq->dD
open Prod.mk renaming injEq->kl
open _root_ renaming DecidableEq->nk,False->eI,beq_iff_eq->dO,congrArg->eW,decide_eq_false_iff_not->gJ,decide_eq_true_eq->eA
namespace Go.Pv
section
open Go Go.RowKit
def alF(A:dp)(s ai:cU)(rm:Option aM):Prop:=(∀k,(look k ai.b).isSome->(look k s.b).isSome\/rm=some k)/\(∀k,(look k ai.e).isSome->(look k s.e).isSome\/rm=some k)/\(∀k,(look k s.b).isSome->(look k ai.b).isSome)/\(∀k,(look k s.e).isSome->(look k ai.e).isSome)/\
 (∀k,rm=some k->(∃j,k= .obj j)/\A.F k/\A.b k=none/\A.e k=none/\((look k ai.b).isSome\/(look k ai.e).isSome))
def aci(P:cM)(n:Nat)(args:List aj)(A:dp)(d:Option Nat)(x:lC):Prop:=
 ∃s ai r rm,(∀k cs,look k s.b=some cs->A.b k=some cs/\aP (inObs s) cs)/\(∀k o,look k s.e=some o->A.e k=some o/\ee (inObs s) o)/\jv s/\jv ai/\alF A s ai rm/\aP (inObs s) args/\
  bL P n args s (fun e2 dH=>e2=r/\dH=ai)/\x=⟨d,r,ai.b,ai.e,rm⟩
def acj(P:cM)(n0 n:Nat)(args:List aj)(A:dp)(d:Option Nat)(x:lC):Prop:=
 ∃cQ r,d=some cQ/\(A.F (.loc (n0+cQ))/\A.b (.loc (n0+cQ))=none/\A.e (.loc (n0+cQ))=none)/\aP (fun _=>eI) args/\
  Kw P n (n0+cQ) args ⟨[],[]⟩ (fun e2 dH=>e2=r/\dH=⟨[],[]⟩)/\x=⟨d,r,[],[],some (.loc (n0+cQ))⟩
def zl:aj->Bool
 | .ptr (.loc _) _=>true
 | .eptr _=>true
 |_=>false
def gk.isB:gk->Bool
 | .loadB _ _ _=>true
 | .mgetB _ _ _ _ _=>true
 |_=>false
def gk.ptrOf(t:Nat->aj):gk->aj
 | .load _ _ x=>dJ t x
 | .loadB _ _ x=>dJ t x
 |_=>.junk
def eJ(P:cM)(q:Bool)(n0:Nat):ev->dp->lC->Prop
 | .s (.v d i),A,x=> ∃c p,qO A.t A.b A.e i=some (c,p)/\c/\(i.isLoad=true->i.isB=true\/q=true\/zl (i.ptrOf A.t)=true)/\x=⟨some d,p,[],[],none⟩
 | .s (.box d none v),A,x=>(A.F (.loc (n0+d))/\A.b (.loc (n0+d))=none/\A.e (.loc (n0+d))=none)/\e7 (dJ A.t v)=true/\x=⟨some d,.ptr (.loc (n0+d)) 0,[(.loc (n0+d),cells (dJ A.t v))],[],some (.loc (n0+d))⟩
 | .s (.alloc d none z),A,x=>(A.F (.loc (n0+d))/\A.b (.loc (n0+d))=none/\A.e (.loc (n0+d))=none)/\x=⟨some d,.ptr (.loc (n0+d)) 0,[(.loc (n0+d),cells z)],[],some (.loc (n0+d))⟩
 | .s (.store sz u v),A,x=> ∃k off cs,dJ A.t u= .ptr k off/\A.b k=some cs/\(iq cs=true/\e7 (dJ A.t v)=true/\(cells (dJ A.t v)).length=sz/\off+sz<=cs.length)/\x=⟨none,.junk,[(k,pa cs off (cells (dJ A.t v)))],[],none⟩
 | .s (.bsl d sz el xs),A,x=>(A.F (.loc (n0+d))/\A.b (.loc (n0+d))=none/\A.e (.loc (n0+d))=none)/\tU sz (xs.map (dJ A.t))/\x=⟨some d,.slice sz (.own (.loc (n0+d))) (xs.map (dJ A.t)),[],[(.loc (n0+d),⟨xs.length,el,sz,none⟩)],some (.loc (n0+d))⟩
 | .s (.app d sz el u v),A,x=> ∃tag xs lS ys,dJ A.t u= .slice sz tag xs/\dJ A.t v= .slice sz lS ys/\
   ((∃k o,tag= .own k/\A.e k=some o/\(o.xs=none/\o.n=xs.length/\o.el=el/\o.sz=sz/\xs.length+ys.length<=lim)/\x=⟨some d,.slice sz (.own k) (xs++ys),[],[(k,⟨xs.length+ys.length,el,sz,none⟩)],none⟩)\/
    (tag= .nil/\ys.length<=lim/\(A.F (.loc (n0+d))/\A.b (.loc (n0+d))=none/\A.e (.loc (n0+d))=none)/\x=⟨some d,.slice sz (.own (.loc (n0+d))) ys,[],[(.loc (n0+d),⟨ys.length,el,sz,none⟩)],some (.loc (n0+d))⟩))
 | .s (.appm d _ sz el u v),A,x=> ∃k n xs lS ys,dJ A.t u= .row sz k n/\dJ A.t v= .slice sz lS ys/\A.e k=some ⟨n,el,sz,some xs⟩/\xs.length+ys.length<=lim/\x=⟨some d,.row sz k (xs.length+ys.length),[],[(k,⟨xs.length+ys.length,el,sz,some (xs++ys)⟩)],none⟩
 | .s (.storeE sz u v),A,x=> ∃k n i f el dN xs q,dJ A.t u= .rptr dN k n i f/\A.e k=some ⟨n,el,dN,some xs⟩/\xs[i]? =some q/\(e7 q=true/\e7 (dJ A.t v)=true/\(cells (dJ A.t v)).length=sz/\f+sz<=(cells q).length/\0<sz)/\x=⟨none,.junk,[],[(k,⟨n,el,dN,some (xs.set i (qG q f (cells (dJ A.t v))))⟩)],none⟩
 | .s (.mkmap d (some m)),A,x=>(A.F (.obj m)/\A.b (.obj m)=none/\A.e (.obj m)=none)/\x=⟨some d,.gmap (.obj m),[(.obj m,[.hdm 0 []])],[],some (.obj m)⟩
 | .s (.mput cj u k v),A,x=> ∃m cs cs',dJ A.t u= .gmap m/\A.b m=some cs/\ov cj (dJ A.t k) (dJ A.t v) cs=some cs'/\x=⟨none,.junk,[(m,cs')],[],none⟩
 | .call d f xs,A,x=> ∃n dv,dJ A.t f= .func n dv/\((aci P n (du (xs.map (dJ A.t)++dv)) A d x/\(q=true->x.bw=[]/\x.ew=[]))\/acj P n0 n (du (xs.map (dJ A.t)++dv)) A d x)
 |_,_,_=>eI
inductive CX where
 |v|l|n|s|w|a|c|m|r|k
 deriving nk
def ev.mode:ev->CX
 | .s (.v _ (.loadB _ _ _))=>.m
 | .s (.v _ (.mgetB _ _ _ _ _))=>.m
 | .s (.v _ i)=>if i.isLoad then .l else .v
 | .s (.storeE _ _ _)=>.r
 | .s (.box _ _ _)=>.n
 | .s (.alloc _ _ _)=>.n
 | .s (.store _ _ _)=>.w
 | .s (.bsl _ _ _ _)=>.s
 | .s (.app _ _ _ _ _)=>.a
 | .s (.bslm _ _ _ _ _)=>.w
 | .s (.mks _ _ _ _ _ _)=>.w
 | .s (.appm _ _ _ _ _ _)=>.r
 | .s (.mkmap _ _)=>.k
 | .s (.mput _ _ _ _)=>.w
 | .s (.range _ _ _)=>.w
 | .call _ _ _=>.c
 | .next _ _=>.w
structure KG (q:Bool) (n0:Nat) (m:CX) (dst:Option Nat) (A:dp) (x:lC):Prop where
 d:x.d=dst
 b:∀k,(look k x.bw).isSome->(m= .n/\∃d,dst=some d/\k= .loc (n0+d)/\A.b k=none/\A.e k=none)\/m= .w\/(m= .c/\(∃j,k= .obj j)/\q=false)\/(m= .k/\(∃j,k= .obj j)/\A.b k=none/\A.e k=none)
 e:∀k,(look k x.ew).isSome->(m= .s/\∃d,dst=some d/\k= .loc (n0+d)/\A.b k=none/\A.e k=none)\/(m= .a/\(A.e k≠none\/ ∃d,dst=some d/\k= .loc (n0+d)/\A.b k=none/\A.e k=none))\/(m= .c/\(∃j,k= .obj j)/\q=false)\/(m= .r/\∃o,A.e k=some o/\o.xs≠none)
 r:∀k,x.rm=some k->(∃d,dst=some d/\k= .loc (n0+d))\/((m= .c\/m= .k)/\(∃j,k= .obj j)/\((look k x.bw).isSome\/(look k x.ew).isSome))
 ex:m= .a->∀k o,(look k x.ew).isSome->A.e k=some o->o.xs=none
 xn:m= .a\/m= .s->∀k o,look k x.ew=some o->o.xs=none
theorem uO{α:Type}{k bJ:aM}{x:α}(h:(look k [(bJ,x)]).isSome):k=bJ:=by
 simp only[look]at h;split at h
 ·rename_i e;exact e.symm
 ·cases h
theorem N7{k bJ:aM}{n el sz:Nat}{o:fU}(h:look k [(bJ,(⟨n,el,sz,none⟩:fU))]=some o):o.xs=none:=by
 simp only[look]at h;split at h
 ·cases h;rfl
 ·cases h
theorem aaZ{P:cM}{q:Bool}{n0:Nat}{i:ev}{A:dp}{x:lC}(h:eJ P q n0 i A x):KG q n0 i.mode i.dst A x:=by
 cases i with
 |s i=>
  cases i with
  |v d i=>simp only[eJ]at h;obtain⟨c,p,_,_,_,rfl⟩:=h;exact⟨rfl,fun k ae=>by simp[look]at ae,fun k ae=>by simp[look]at ae,fun k ae=>by simp at ae,fun _ k o ae=>by simp[look]at ae,fun _ k o ae=>by simp[look]at ae⟩
  |box d key v=>
   cases key with
   |some m=>simp only[eJ]at h
   |none=>simp only[eJ]at h;obtain⟨⟨_,U,ao⟩,_,rfl⟩:=h;exact⟨rfl,fun k ae=>by obtain rfl:=uO ae;exact .inl ⟨rfl,d,rfl,rfl,U,ao⟩,fun k ae=>by simp[look]at ae,fun k ae=>by simp at ae;exact .inl ⟨d,rfl,ae.symm⟩,fun _ k o ae=>by simp[look]at ae,fun _ k o ae=>by simp[look]at ae⟩
  |alloc d key z=>
   cases key with
   |some m=>simp only[eJ]at h
   |none=>simp only[eJ]at h;obtain⟨⟨_,U,ao⟩,rfl⟩:=h;exact⟨rfl,fun k ae=>by obtain rfl:=uO ae;exact .inl ⟨rfl,d,rfl,rfl,U,ao⟩,fun k ae=>by simp[look]at ae,fun k ae=>by simp at ae;exact .inl ⟨d,rfl,ae.symm⟩,fun _ k o ae=>by simp[look]at ae,fun _ k o ae=>by simp[look]at ae⟩
  |store sz u v=>simp only[eJ]at h;obtain⟨k,off,cs,_,_,_,rfl⟩:=h;exact⟨rfl,fun k ae=>.inr (.inl rfl),fun k ae=>by simp[look]at ae,fun k ae=>by simp at ae,fun _ k o ae=>by simp[look]at ae,fun _ k o ae=>by simp[look]at ae⟩
  |bsl d sz el xs=>simp only[eJ]at h;obtain⟨⟨_,U,ao⟩,_,rfl⟩:=h;exact⟨rfl,fun k ae=>by simp[look]at ae,fun k ae=>by obtain rfl:=uO ae;exact .inl ⟨rfl,d,rfl,rfl,U,ao⟩,fun k ae=>by simp at ae;exact .inl ⟨d,rfl,ae.symm⟩,fun e=>by simp[ev.mode]at e,fun _ k o ae=>N7 ae⟩
  |app d sz el u v=>
   simp only[eJ]at h;obtain⟨tag,xs,lS,ys,_,_,h⟩:=h;rcases h with⟨k,o,_,I,⟨gp,_⟩,rfl⟩|⟨_,_,⟨_,U,ao⟩,rfl⟩
   ·exact⟨rfl,fun k ae=>by simp[look]at ae,fun k ae=>by obtain rfl:=uO ae;exact .inr (.inl ⟨rfl,.inl (by rw[I];simp)⟩),fun k ae=>by simp at ae,fun _ bJ o' ae ax=>by obtain rfl:=uO ae;rw[I]at ax;cases ax;exact gp,fun _ k o ae=>N7 ae⟩
   ·exact⟨rfl,fun k ae=>by simp[look]at ae,fun k ae=>by obtain rfl:=uO ae;exact .inr (.inl ⟨rfl,.inr ⟨d,rfl,rfl,U,ao⟩⟩),fun k ae=>by simp at ae;exact .inl ⟨d,rfl,ae.symm⟩,fun _ bJ o' ae ax=>(by obtain rfl:=uO ae;rw[ao]at ax;cases ax),fun _ k o ae=>N7 ae⟩
  |bslm d key sz el xs=>simp only[eJ]at h
  |mks d key sz el z x=>simp only[eJ]at h
  |appm d key sz el u v=>simp only[eJ]at h;obtain⟨k,n,xs,lS,ys,_,_,I,_,rfl⟩:=h;exact⟨rfl,fun k ae=>by simp[look]at ae,fun k ae=>by obtain rfl:=uO ae;exact .inr (.inr (.inr ⟨rfl,_,I,Ψ⟩)),fun k ae=>by simp at ae,fun e=>by simp[ev.mode]at e,fun e=>by simp[ev.mode]at e⟩
  |storeE sz u v=>simp only[eJ]at h;obtain⟨k,n,i,f,el,dN,xs,q,_,I,_,_,rfl⟩:=h;exact⟨rfl,fun k ae=>by simp[look]at ae,fun k ae=>by obtain rfl:=uO ae;exact .inr (.inr (.inr ⟨rfl,_,I,Ψ⟩)),fun k ae=>by simp at ae,fun e=>by simp[ev.mode]at e,fun e=>by simp[ev.mode]at e⟩
  |mkmap d key=>
   cases key with
   |none=>simp only[eJ]at h
   |some m=>simp only[eJ]at h;obtain⟨⟨_,U,ao⟩,rfl⟩:=h;exact⟨rfl,fun k ae=>by obtain rfl:=uO ae;exact .inr (.inr (.inr ⟨rfl,⟨m,rfl⟩,U,ao⟩)),fun k ae=>by simp[look]at ae,fun k ae=>by simp at ae;subst ae;exact .inr ⟨.inr rfl,⟨m,rfl⟩,.inl (by simp[look])⟩,fun e=>by simp[ev.mode]at e,fun e=>by simp[ev.mode]at e⟩
  |mput cj x k v=>simp only[eJ]at h;obtain⟨m,cs,cs',_,_,_,rfl⟩:=h;exact⟨rfl,fun k ae=>.inr (.inl rfl),fun k ae=>by simp[look]at ae,fun k ae=>by simp at ae,fun e=>by simp[ev.mode]at e,fun e=>by simp[ev.mode]at e⟩
  |range d key x=>simp only[eJ]at h
 |next d x=>simp only[eJ]at h
 |call d f xs=>
  simp only[eJ]at h;obtain⟨n,dv,_,h⟩:=h;rcases h with⟨⟨s,ai,r,rm,_,_,_,ax,Wp,_,_,rfl⟩,bs⟩|⟨cQ,r,rfl,_,_,_,rfl⟩;rotate_left
  ·exact⟨rfl,fun k ae=>by simp[look]at ae,fun k ae=>by simp[look]at ae,fun k ae=>by simp at ae;exact .inl ⟨cQ,rfl,ae.symm⟩,fun _ k o ae=>by simp[look]at ae,fun _ k o ae=>by simp[look]at ae⟩
  refine⟨rfl,fun k ae=>.inr (.inr (.inl ⟨rfl,?_,?_⟩)),fun k ae=>.inr (.inr (.inl ⟨rfl,?_,?_⟩)),fun k ae=>.inr ⟨.inl rfl,(Wp.2.2.2.2 k ae).1,(Wp.2.2.2.2 k ae).2.2.2.2⟩,fun e=>by simp[ev.mode]at e,fun e=>by simp[ev.mode]at e⟩
  ·cases k with
   |loc m=>rw[ax.1 m]at ae;cases ae
   |obj m=>exact⟨m,rfl⟩
  ·cases q with
   |false=>rfl
   |true=>rw[(bs rfl).1]at ae;simp[look]at ae
  ·cases k with
   |loc m=>rw[ax.2 m]at ae;cases ae
   |obj m=>exact⟨m,rfl⟩
  ·cases q with
   |false=>rfl
   |true=>rw[(bs rfl).2]at ae;simp[look]at ae
theorem Ra{P:cM}{q:Bool}{n0:Nat}{i:ev}{A gC:dp}{x:lC}(h:eJ P q n0 i A x)(aC:rB i.looks A.t gC.t)
  (aw:i.mode= .l->∀k,(q=true\/ ∃m,k= .loc m)->A.b k≠none->gC.b k=A.b k) (Wi:i.mode= .m->∀k,A.b k≠none->gC.b k=A.b k)
  (l7:i.mode= .l->q=true->∀k o,A.e k=some o->o.xs≠none->gC.e k=some o)
  (au:∀d,i.dst=some d->(i.mode= .n\/i.mode= .s\/i.mode= .a\/i.mode= .c)->(A.F (.loc (n0+d))/\A.b (.loc (n0+d))=none/\A.e (.loc (n0+d))=none)->(gC.F (.loc (n0+d))/\gC.b (.loc (n0+d))=none/\gC.e (.loc (n0+d))=none))
  (bk:i.mode= .a->∀k o,A.e k=some o->gC.e k=some o) (hw:i.mode= .w->∀k,gC.b k=A.b k) (s6:i.mode= .k->∀m,(A.F (.obj m)/\A.b (.obj m)=none/\A.e (.obj m)=none)->(gC.F (.obj m)/\gC.b (.obj m)=none/\gC.e (.obj m)=none)) (Eg:i.mode= .r->∀k o,A.e k=some o->o.xs≠none->gC.e k=some o)
  (aq:i.mode= .c->∀m,gC.b (.obj m)=A.b (.obj m)/\gC.e (.obj m)=A.e (.obj m)/\(A.F (.obj m)->gC.F (.obj m))):eJ P q n0 i gC x:=by
 cases i with
 |s i=>
  cases i with
  |v d i=>
   simp only[eJ]at h⊢;obtain⟨c,p,I,U,ao,a7⟩:=h;by_cases jn:∃agg sz y,i= .loadB agg sz y
   ·obtain⟨agg,sz,y,rfl⟩:=jn;simp only[ev.looks,eB.looks,gk.looks]at aC;have vG:=gP aC;refine⟨c,p,?_,U,fun _=>.inl rfl,a7⟩;rw[<-I];simp only[qO,<-vG];have hm:=Wi (by simp[ev.mode]);simp only[qO]at I;cases bG:dJ A.t y<;>simp only[td];rename_i key off;rw[bG]at I;simp only[td]at I;cases ad:A.b key with
    |none=>simp[ad]at I
    |some cs=>have:gC.b key=A.b key:=hm key (by rw[ad];simp);rw[this,ad]
   by_cases Hy:∃cj zero ok y z,i= .mgetB cj zero ok y z
   ·obtain⟨cj,zero,ok,y,z,rfl⟩:=Hy;simp only[ev.looks,eB.looks,gk.looks]at aC;obtain⟨t1,t2⟩:=k7 aC;refine⟨c,p,?_,U,fun _=>.inl rfl,a7⟩;simp only[qO]at I⊢;rw[<-gP t1,<-gP t2];exact X8 (Wi (by simp[ev.mode])) I
   replace ao:i.isLoad=true->q=true\/zl (i.ptrOf A.t)=true:=fun oZ=>(ao oZ).resolve_left (fun ad=>by cases i<;>simp[gk.isB]at ad;exact jn ⟨_,_,_,rfl⟩;exact Hy ⟨_,_,_,_,_,rfl⟩);have ai8:i.isLoad=true->(ev.s (.v d i)).mode= .l:=by intro oZ;cases i<;>simp only[gk.isLoad]at oZ<;>first|(cases oZ;done)|(simp[ev.mode,gk.isLoad];done)|exact absurd ⟨_,_,_,rfl⟩ jn|exact absurd ⟨_,_,_,_,_,rfl⟩ Hy
   by_cases oZ:i.isLoad=true
   ·have bs:∀(bG:zl (i.ptrOf A.t)=false),∀k,A.b k≠none->gC.b k=A.b k:=fun bG k ae=>aw (ai8 oZ) k (.inl ((ao oZ).resolve_right (by rw[bG];simp))) ae;cases i<;>simp only[gk.isLoad]at oZ<;>try(cases oZ;done)
    case mget cj zero ok y z=>simp only[ev.looks,eB.looks,gk.looks]at aC;obtain⟨t1,t2⟩:=k7 aC;refine⟨c,p,?_,U,fun _=>.inr (ao rfl),a7⟩;simp only[qO]at I⊢;rw[<-gP t1,<-gP t2];exact X8 (bs rfl) I
    case ment y=>simp only[ev.looks,eB.looks,gk.looks]at aC;refine⟨c,p,?_,U,fun _=>.inr (ao rfl),a7⟩;simp only[qO]at I⊢;rw[<-gP aC];exact alc (bs rfl) I
    case mlen y=>simp only[ev.looks,eB.looks,gk.looks]at aC;refine⟨c,p,?_,U,fun _=>.inr (ao rfl),a7⟩;simp only[qO]at I⊢;rw[<-gP aC];exact alw (bs rfl) I
    case loadB agg sz y=>exact absurd ⟨_,_,_,rfl⟩ jn
    case mgetB=>exact absurd ⟨_,_,_,_,_,rfl⟩ Hy
    rename_i agg sz y;simp only[ev.looks,eB.looks,gk.looks]at aC;have vG:=gP aC;refine⟨c,p,?_,U,fun _=>.inr (by have:=ao rfl;simpa only[gk.ptrOf,<-vG]using this),a7⟩;rw[<-I];simp only[qO,<-vG];have hm:=aw (by simp[ev.mode,gk.isLoad]);simp only[qO]at I;have ui:=ao rfl;simp only[gk.ptrOf]at ui;cases bG:dJ A.t y<;>simp only[td]
    ·rename_i key off;rw[bG]at I ui;simp only[td]at I;cases ad:A.b key with
     |none=>simp[ad]at I
     |some cs=>have:gC.b key=A.b key:=hm key (by rcases ui with h|h;exact .inl h;cases key;exact .inr ⟨_,rfl⟩;simp[zl]at h) (by rw[ad];simp);rw[this,ad]
    ·rename_i dN key n i f;rw[bG]at I ui;simp only[td]at I;have ajq:q=true:=ui.resolve_right (by simp[zl]);unfold zW at I;split at I
     ·rename_i n' el j4 xs he;rw[he,l7 (by simp[ev.mode,gk.isLoad]) ajq key _ he Ψ]
     ·cases I
   ·have oZ:i.isLoad=false:=by simpa using oZ
    refine⟨c,p,?_,U,(fun e=>by rw[oZ]at e;cases e),a7⟩;rw[<-I];exact(aqk (by simpa only[ev.looks,eB.looks]using aC) oZ).symm
  |box d key v=>
   cases key with
   |some m=>simp only[eJ]at h
   |none=>simp only[eJ,ev.looks,eB.looks]at h aC⊢;obtain⟨I,U,ao⟩:=h;rw[<-gP aC];exact⟨au d rfl (.inl rfl) I,U,ao⟩
  |alloc d key z=>
   cases key with
   |some m=>simp only[eJ]at h
   |none=>simp only[eJ]at h⊢;exact⟨au d rfl (.inl rfl) h.1,h.2⟩
  |store sz u v=>simp only[eJ,ev.looks,eB.looks]at h aC⊢;obtain⟨I,U⟩:=k7 aC;rw[<-gP I,<-gP U];obtain⟨k,off,cs,g1,g2,g3,g4⟩:=h;exact⟨k,off,cs,g1,by rw[hw rfl];exact g2,g3,g4⟩
  |bsl d sz el xs=>simp only[eJ,ev.looks,eB.looks]at h aC⊢;rw[<-IQ aC];exact⟨au d rfl (.inr (.inl rfl)) h.1,h.2⟩
  |app d sz el u v=>
   simp only[eJ,ev.looks,eB.looks]at h aC⊢;obtain⟨I,U⟩:=k7 aC;rw[<-gP I,<-gP U];obtain⟨tag,xs,lS,ys,g1,g2,h⟩:=h;refine⟨tag,xs,lS,ys,g1,g2,?_⟩;rcases h with⟨k,o,ar,aE,bA⟩|⟨ar,aE,bA,dr⟩
   ·exact .inl ⟨k,o,ar,bk rfl k o aE,bA⟩
   ·exact .inr ⟨ar,aE,au d rfl (.inr (.inr (.inl rfl))) bA,dr⟩
  |bslm d key sz el xs=>simp only[eJ]at h
  |mks d key sz el z x=>simp only[eJ]at h
  |appm d key sz el u v=>simp only[eJ,ev.looks,eB.looks]at h aC⊢;obtain⟨I,U⟩:=k7 aC;rw[<-gP I,<-gP U];obtain⟨k,n,xs,lS,ys,g1,g2,g3,g4,g5⟩:=h;exact⟨k,n,xs,lS,ys,g1,g2,Eg rfl k _ g3 Ψ,g4,g5⟩
  |storeE sz u v=>simp only[eJ,ev.looks,eB.looks]at h aC⊢;obtain⟨I,U⟩:=k7 aC;rw[<-gP I,<-gP U];obtain⟨k,n,i,f,el,dN,xs,q,g1,g2,g3⟩:=h;exact⟨k,n,i,f,el,dN,xs,q,g1,Eg rfl k _ g2 Ψ,g3⟩
  |mkmap d key=>
   cases key with
   |none=>simp only[eJ]at h
   |some m=>simp only[eJ]at h⊢;exact⟨s6 rfl m h.1,h.2⟩
  |mput cj u k v=>simp only[eJ,ev.looks,eB.looks]at h aC⊢;obtain⟨t1,t3⟩:=k7 aC;obtain⟨t1,t2⟩:=k7 t1;obtain⟨m,cs,cs',g1,g2,g3,g4⟩:=h;rw[<-gP t1,<-gP t2,<-gP t3];exact⟨m,cs,cs',g1,by rw[hw rfl];exact g2,g3,g4⟩
  |range d key x=>simp only[eJ]at h
 |next d x=>simp only[eJ]at h
 |call d f xs=>
  simp only[eJ,ev.looks]at h aC⊢;obtain⟨I,U⟩:=k7 aC;rw[<-gP I,<-IQ U];obtain⟨n,dv,g1,h⟩:=h;rcases h with⟨⟨s,ai,r,rm,bY,cB,dE,kV,lG,oS⟩,g3⟩|⟨cQ,r,rfl,bY,cB⟩;rotate_left
  ·exact⟨n,dv,g1,.inr ⟨cQ,r,rfl,au cQ rfl (.inr (.inr (.inr rfl))) bY,cB⟩⟩
  refine⟨n,dv,g1,.inl ⟨⟨s,ai,r,rm,fun k cs ae=>?_,fun k o ae=>?_,dE,kV,⟨lG.1,lG.2.1,lG.2.2.1,lG.2.2.2.1,fun k ae=>?_⟩,oS⟩,g3⟩⟩
  ·cases k with
   |loc m=>rw[dE.1 m]at ae;cases ae
   |obj m=>rw[(aq rfl m).1];exact bY _ _ ae
  ·cases k with
   |loc m=>rw[dE.2 m]at ae;cases ae
   |obj m=>rw[(aq rfl m).2.1];exact cB _ _ ae
  ·obtain⟨⟨j,rfl⟩,d2,d3,d4,d5⟩:=lG.2.2.2.2 k ae;exact⟨⟨j,rfl⟩,(aq rfl j).2.2 d2,by rw[(aq rfl j).1];exact d3,by rw[(aq rfl j).2.1];exact d4,d5⟩
def mc(d:Option Nat):lC:=⟨d,.tuple [],[],[],none⟩
def lD(P:cM)(q:Bool)(n0:Nat)(g:dh)(A:dp)(x:lC):Prop:=
 match g.g with
 |none=>eJ P q n0 g.i A x
 |some (s,w)=>match A.t s with
  | .bool b=>(b=w/\eJ P q n0 g.i A x)\/(b= !w/\x=mc g.i.dst)
  | .tuple []=>x=mc g.i.dst
  |_=>eI
def fq:CX->CX->Bool
 | .v,_=>true
 |_,.v=>true
 | .l,.l| .l,.n| .l,.s| .l,.a| .l,.c=>true
 | .n,.n| .n,.s| .n,.a| .n,.c=>true
 | .s,.l| .s,.n| .s,.s| .s,.c=>true
 | .a,.l| .a,.n| .a,.s=>true
 | .c,.l| .c,.n| .c,.s=>true
 | .l,.m| .m,.l| .m,.m| .m,.n| .m,.s| .m,.a| .s,.m| .a,.m=>true
 | .l,.k| .m,.k| .n,.k| .s,.k=>true
 | .m,.r| .r,.m| .r,.n| .r,.s| .n,.r| .s,.r| .r,.w| .w,.r=>true
 |_,_=>false
def A1(g h:dh):Bool:=(match g.i.dst with|some d=> !(h.looks.contains d)&&h.i.dst !=some d|none=>true)&&(match h.i.dst with|some d=> !(g.looks.contains d)|none=>true)&&fq g.i.mode h.i.mode
theorem aa0(q:Bool)(n0:Nat)(m:CX)(d:Option Nat)(A:dp):KG q n0 m d A (mc d):=⟨rfl,fun k ae=>by simp[mc,look]at ae,fun k ae=>by simp[mc,look]at ae,fun k ae=>by simp[mc]at ae,fun _ k o ae=>by simp[mc,look]at ae,fun _ k o ae=>by simp[mc,look]at ae⟩
theorem Qn{P:cM}{q:Bool}{n0:Nat}{g:dh}{A:dp}{x:lC}(h:lD P q n0 g A x):KG q n0 g.i.mode g.i.dst A x:=by
 unfold lD at h;split at h
 ·exact aaZ h
 ·split at h
  ·rcases h with⟨_,h⟩|⟨_,rfl⟩
   ·exact aaZ h
   ·exact aa0 _ _ _ _ _
  ·subst h;exact aa0 _ _ _ _ _
  ·exact h.elim
theorem uc{A:dp}{x:lC}{k:aM}(h:look k x.bw=none):(A.do x).b k=A.b k:=by simp[dp.do,jl,h]
theorem ud{A:dp}{x:lC}{k:aM}(h:look k x.ew=none):(A.do x).e k=A.e k:=by simp[dp.do,jl,h]
theorem Lz{A:dp}{x:lC}{k:aM}(h:(A.do x).b k=none):A.b k=none:=by
 simp only[dp.do,jl]at h;split at h
 ·cases h
 ·exact h
theorem LA{A:dp}{x:lC}{k:aM}(h:(A.do x).e k=none):A.e k=none:=by
 simp only[dp.do,jl]at h;split at h
 ·cases h
 ·exact h
theorem mF{α:Type}{o:Option α}(h:¬o.isSome):o=none:=by cases o<;>simp at h⊢
theorem Rc{P:cM}{q:Bool}{n0:Nat}{g:dh}{A gC:dp}{x:lC}(h:lD P q n0 g A x)(aC:rB g.looks A.t gC.t)(hm:eJ P q n0 g.i A x->eJ P q n0 g.i gC x):lD P q n0 g gC x:=by
 unfold lD at h⊢;cases aT:g.g with
 |none=>simp only[aT]at h⊢;exact hm h
 |some Ac=>
  obtain⟨s,w⟩:=Ac;have:A.t s=gC.t s:=aC s (by simp[dh.looks,aT]);simp only[aT,this]at h⊢;split at h
  ·rcases h with⟨I,U⟩|h
   ·exact .inl ⟨I,hm U⟩
   ·exact .inr h
  ·exact h
  ·exact h
theorem swap{P:cM}{q:Bool}{n0:Nat}{g h:dh}(V9:A1 g h=true){A:dp}{x y:lC}(ab:lD P q n0 g A x)(aB:lD P q n0 h (A.do x) y):
  lD P q n0 h A y/\lD P q n0 g (A.do y) x/\x.apart y:=by
 simp only[A1,cv]at V9;obtain⟨⟨fF,e5⟩,hm⟩:=V9;have Ad:=Qn ab;have cG:∀d cn,g.i.dst=some d->h.i.dst=some cn->d≠cn:=by intro d cn ar aE e;simp only[ar,cv,bne_iff_ne]at fF;exact fF.2 (by rw[aE,e])
 have HB:rB h.looks (A.do x).t A.t:=by intro i hi;simp only[dp.do];rw[if_neg];intro e;rw[Ad.d]at e;simp only[e,cv,oJ,List.contains_eq_mem,gJ]at fF;exact fF.1 hi
 have rQ:∀k,(look k x.bw).isSome->_:=Ad.b;have hle:∀k,(look k x.ew).isSome->_:=Ad.e;have IC:lD P q n0 h A y:=by
  refine Rc aB HB fun hI=>Ra hI (fun i hi=>HB i (by simp[dh.looks,hi])) (fun e k ae ad=>?_) (fun e k ad=>?_) (fun e bs k o ax gp=>?_) (fun d aD zc mu=>?_) (fun e k o ax=>?_) (fun e k=>?_) (fun e m mu=>⟨mu.1.1,Lz mu.2.1,LA mu.2.2⟩) (fun e k o ax gp=>?_) (fun e m=>?_)
  ·rw[uc (mF fun af=>?_)];rcases rQ k af with⟨ar,_⟩|ar|⟨ar,⟨j,aE⟩,bA⟩|⟨ar,_⟩;rotate_left 3
   ·rw[e,ar]at hm;simp[fq]at hm
   ·rw[e,ar]at hm;simp[fq]at hm
   ·rw[e,ar]at hm;simp[fq]at hm
   ·rcases ae with ae|⟨m,ae⟩
    ·rw[ae]at bA;cases bA
    ·rw[ae]at aE;cases aE
  ·rw[uc (mF fun af=>?_)];rcases rQ k af with⟨ar,_⟩|ar|⟨ar,_⟩|⟨ar,_⟩<;>(rw[e,ar]at hm;simp[fq]at hm)
  ·rw[e]at hm;cases ia:look k x.ew with
   |none=>rw[ud ia]at ax;exact ax
   |some o'=>
    exfalso;have M4:(A.do x).e k=some o':=by simp[dp.do,jl,ia]
    rw[M4]at ax;cases ax;rcases hle k (by simp[ia])with⟨ar,_⟩|⟨ar,_⟩|⟨ar,_,bA⟩|⟨ar,_⟩
    ·exact gp (Ad.xn (.inr ar) k _ ia)
    ·exact gp (Ad.xn (.inl ar) k _ ia)
    ·rw[bs]at bA;cases bA
    ·rw[ar]at hm;simp[fq]at hm
  ·exact⟨mu.1.1,Lz mu.2.1,LA mu.2.2⟩
  ·rw[ud (mF fun af=>?_)]at ax
   ·exact ax
   ·rw[e]at hm;rcases hle k af with⟨ar,_⟩|⟨ar,_⟩|⟨ar,_⟩|⟨ar,_⟩<;>(rw[ar]at hm;simp[fq]at hm)
  ·rw[uc (mF fun af=>?_)];rw[e]at hm;rcases rQ k af with⟨ar,_⟩|ar|⟨ar,_⟩|⟨ar,_⟩<;>(rw[ar]at hm;simp[fq]at hm)
  ·rw[e]at hm;cases ia:look k x.ew with
   |none=>rw[ud ia]at ax;exact ax
   |some o'=>
    exfalso;have M4:(A.do x).e k=some o':=by simp[dp.do,jl,ia]
    rw[M4]at ax;cases ax;rcases hle k (by simp[ia])with⟨ar,_⟩|⟨ar,_⟩|⟨ar,_⟩|⟨ar,_⟩
    ·exact gp (Ad.xn (.inr ar) k _ ia)
    ·rw[ar]at hm;simp[fq]at hm
    ·rw[ar]at hm;simp[fq]at hm
    ·rw[ar]at hm;simp[fq]at hm
  ·rw[e]at hm;refine⟨?_,?_,fun fa=>fa.1⟩
   ·rw[uc (mF fun af=>?_)];rcases rQ _ af with⟨ar,d,_,aE,_⟩|ar|⟨ar,_⟩|⟨ar,_⟩;rotate_left 3
    ·rw[ar]at hm;simp[fq]at hm
    ·cases aE
    ·rw[ar]at hm;simp[fq]at hm
    ·rw[ar]at hm;simp[fq]at hm
   ·rw[ud (mF fun af=>?_)];rcases hle _ af with⟨ar,d,_,aE,_⟩|⟨ar,_⟩|⟨ar,_⟩|⟨ar,_⟩
    ·cases aE
    ·rw[ar]at hm;simp[fq]at hm
    ·rw[ar]at hm;simp[fq]at hm
    ·rw[ar]at hm;simp[fq]at hm
 have ty:=Qn IC;have VO:rB g.looks A.t (A.do y).t:=by intro i hi;simp only[dp.do];rw[if_neg];intro e;rw[ty.d]at e;simp only[e,oJ,List.contains_eq_mem,gJ]at e5;exact e5 hi
 refine⟨IC,?_,?_⟩
 ·refine Rc ab VO fun hI=>Ra hI (fun i hi=>VO i (by simp[dh.looks,hi])) (fun e k ae ad=>?_) (fun e k ad=>?_) (fun e bs k o ax gp=>?_) (fun d aD zc mu=>?_) (fun e k o ax=>?_) (fun e k=>?_) (fun e m mu=>?_) (fun e k o ax gp=>?_) (fun e m=>?_)
  ·refine uc (mF fun af=>?_);rcases ty.b k af with⟨ar,d,_,_,aE,_⟩|ar|⟨ar,⟨j,aE⟩,bA⟩|⟨_,_,aE,_⟩;rotate_left 3
   ·exact ad aE
   ·exact ad aE
   ·rw[e,ar]at hm;simp[fq]at hm
   ·rcases ae with ae|⟨m,ae⟩
    ·rw[ae]at bA;cases bA
    ·rw[ae]at aE;cases aE
  ·refine uc (mF fun af=>?_);rcases ty.b k af with⟨ar,d,_,_,aE,_⟩|ar|⟨ar,_⟩|⟨_,_,aE,_⟩;rotate_left 3
   ·exact ad aE
   ·exact ad aE
   ·rw[e,ar]at hm;simp[fq]at hm
   ·rw[e,ar]at hm;simp[fq]at hm
  ·rw[ud (mF fun af=>?_)]
   ·exact ax
   ·rcases ty.e k af with⟨ar,d,_,_,_,aE⟩|⟨ar,aE⟩|⟨ar,_,bA⟩|⟨ar,_⟩
    ·rw[aE]at ax;cases ax
    ·exact gp (ty.ex ar k o af ax)
    ·rw[bs]at bA;cases bA
    ·rw[e,ar]at hm;simp[fq]at hm
  ·refine⟨⟨mu.1,fun rK=>?_⟩,?_,?_⟩
   ·rcases ty.r _ rK with⟨cn,ar,aE⟩|⟨_,⟨j,aE⟩,_⟩
    ·simp only[aM.loc.injEq]at aE;exact cG d cn aD ar Ω
    ·cases aE
   ·rw[uc (mF fun af=>?_)]
    ·exact mu.2.1
    ·rcases ty.b _ af with⟨ar,cn,aE,bA,_⟩|ar|⟨ar,⟨j,aE⟩,_⟩|⟨ar,⟨j,aE⟩,_⟩;rotate_left 3
     ·cases aE
     ·simp only[aM.loc.injEq]at bA;exact cG d cn aD aE Ω
     ·rcases zc with aE|aE|aE|aE<;>(rw[ar,aE]at hm;simp[fq]at hm)
     ·cases aE
   ·rw[ud (mF fun af=>?_)]
    ·exact mu.2.2
    ·rcases ty.e _ af with⟨ar,cn,aE,bA,_⟩|⟨ar,aE⟩|⟨ar,⟨j,aE⟩,_⟩|⟨ar,o,aE,_⟩
     ·simp only[aM.loc.injEq]at bA;exact cG d cn aD aE Ω
     ·rcases aE with aE|⟨cn,aE,bA,_⟩
      ·exact aE mu.2.2
      ·simp only[aM.loc.injEq]at bA;exact cG d cn aD aE Ω
     ·cases aE
     ·rw[mu.2.2]at aE;cases aE
  ·rw[ud (mF fun af=>?_)]
   ·exact ax
   ·rw[e]at hm;rcases ty.e k af with⟨ar,d,_,_,_,aE⟩|⟨ar,_⟩|⟨ar,_⟩|⟨ar,_⟩
    ·rw[aE]at ax;cases ax
    ·rw[ar]at hm;simp[fq]at hm
    ·rw[ar]at hm;simp[fq]at hm
    ·rw[ar]at hm;simp[fq]at hm
  ·refine uc (mF fun af=>?_);rw[e]at hm;rcases ty.b k af with⟨ar,_⟩|ar|⟨ar,_⟩|⟨ar,_⟩<;>(rw[ar]at hm;simp[fq]at hm)
  ·rw[e]at hm;refine⟨⟨mu.1,fun rK=>?_⟩,?_,?_⟩
   ·rcases ty.r _ rK with⟨cn,ar,aE⟩|⟨ar|ar,_⟩
    ·cases aE
    ·rw[ar]at hm;simp[fq]at hm
    ·rw[ar]at hm;simp[fq]at hm
   ·rw[uc (mF fun af=>?_)]
    ·exact mu.2.1
    ·rcases ty.b _ af with⟨ar,_⟩|ar|⟨ar,_⟩|⟨ar,_⟩<;>(rw[ar]at hm;simp[fq]at hm)
   ·rw[ud (mF fun af=>?_)]
    ·exact mu.2.2
    ·rcases ty.e _ af with⟨ar,_⟩|⟨ar,_⟩|⟨ar,_⟩|⟨ar,o,aE,_⟩
     ·rw[ar]at hm;simp[fq]at hm
     ·rw[ar]at hm;simp[fq]at hm
     ·rw[ar]at hm;simp[fq]at hm
     ·rw[mu.2.2]at aE;cases aE
  ·rw[ud (mF fun af=>?_)]
   ·exact ax
   ·rw[e]at hm;rcases ty.e k af with⟨ar,d,_,_,_,aE⟩|⟨ar,_⟩|⟨ar,_⟩|⟨ar,_⟩
    ·rw[aE]at ax;cases ax
    ·rw[ar]at hm;simp[fq]at hm
    ·rw[ar]at hm;simp[fq]at hm
    ·rw[ar]at hm;simp[fq]at hm
  ·rw[e]at hm;refine⟨?_,?_,fun fa=>⟨fa,fun rK=>?_⟩⟩;rotate_left 2
   ·rcases ty.r _ rK with⟨cn,_,aE⟩|⟨aE|aE,_⟩
    ·cases aE
    ·rw[aE]at hm;simp[fq]at hm
    ·rw[aE]at hm;simp[fq]at hm
   ·refine uc (mF fun af=>?_);rcases ty.b _ af with⟨ar,d,_,aE,_⟩|ar|⟨ar,_⟩|⟨ar,_⟩;rotate_left 3
    ·rw[ar]at hm;simp[fq]at hm
    ·cases aE
    ·rw[ar]at hm;simp[fq]at hm
    ·rw[ar]at hm;simp[fq]at hm
   ·refine ud (mF fun af=>?_);rcases ty.e _ af with⟨ar,d,_,aE,_⟩|⟨ar,_⟩|⟨ar,_⟩|⟨ar,_⟩
    ·cases aE
    ·rw[ar]at hm;simp[fq]at hm
    ·rw[ar]at hm;simp[fq]at hm
    ·rw[ar]at hm;simp[fq]at hm
 ·refine⟨fun i hi e=>?_,fun k ae=>mF fun af=>?_,fun k ae=>mF fun af=>?_⟩
  ·rw[Ad.d]at hi;rw[ty.d]at e;exact cG i i hi e rfl
  ·rcases rQ k ae with⟨bF,d,a2,a3,_⟩|bF|⟨bF,⟨j,a2⟩,_⟩|⟨bF,_⟩<;>rcases ty.b k af with⟨b1,cn,b2,fy,_⟩|b1|⟨b1,⟨dL,b2⟩,_⟩|⟨b1,⟨dL,b2⟩,_⟩;all_goals first|(rw[bF,b1]at hm;simp[fq]at hm;done)|skip
   ·rw[a3]at fy;simp only[aM.loc.injEq]at fy;exact cG d cn a2 b2 Ω
   ·rw[a3]at b2;cases b2
   ·rw[a3]at b2;cases b2
   ·rw[a2]at fy;cases fy
  ·rcases hle k ae with⟨bF,d,a2,a3,_,a4⟩|⟨bF,a2⟩|⟨bF,⟨j,a2⟩,_⟩|⟨bF,hh,a2,_⟩<;>rcases ty.e k af with⟨b1,cn,b2,fy,_,np⟩|⟨b1,b2⟩|⟨b1,⟨dL,b2⟩,_⟩|⟨b1,hb,b2,_⟩
   ·rw[a3]at fy;simp only[aM.loc.injEq]at fy;exact cG d cn a2 b2 Ω
   ·rw[bF,b1]at hm;simp[fq]at hm
   ·rw[a3]at b2;cases b2
   ·rw[a4]at b2;cases b2
   ·rcases a2 with a2|⟨d,a2,a3,_⟩
    ·exact a2 np
    ·rw[a3]at fy;simp only[aM.loc.injEq]at fy;exact cG d cn a2 b2 Ω
   ·rw[bF,b1]at hm;simp[fq]at hm
   ·rw[bF,b1]at hm;simp[fq]at hm
   ·rw[bF,b1]at hm;simp[fq]at hm
   ·rw[a2]at fy;cases fy
   ·rw[bF,b1]at hm;simp[fq]at hm
   ·rw[bF,b1]at hm;simp[fq]at hm
   ·rw[bF,b1]at hm;simp[fq]at hm
   ·rw[np]at a2;cases a2
   ·rw[bF,b1]at hm;simp[fq]at hm
   ·rw[bF,b1]at hm;simp[fq]at hm
   ·rw[bF,b1]at hm;simp[fq]at hm
def yt(C:fv)(A:dp)(a:Act)(w:World):Prop:= ∃st Z,mi st A/\(∀k,A.F k->fresh st.n st.o k)/\c7 C st a w Z
theorem N4{st:bt}{A:dp}(h:mi st A)(d:Nat)(p:aj):mi {st with t:=put d p st.t} (A.do ⟨some d,p,[],[],none⟩):=by
 refine⟨fun i=>?_,fun k=>?_,fun k=>?_⟩
 ·simp only[dp.do,kq,dD,h.t]
 ·simpa[dp.do,jl,look]using h.b k
 ·simpa[dp.do,jl,look]using h.e k
theorem XP{st:bt}{A:dp}(h:mi st A)(d:Nat)(p:aj)(o':List aM)(rm:Option aM):mi {st with t:=put d p st.t,o:=o'} (A.do ⟨some d,p,[],[],rm⟩):=by have:=N4 h d p;exact⟨this.t,this.b,this.e⟩
theorem ab2{α:Type}{β:Type}:∀l:List (aM×α),cc ([]:List (aM×β)) l=l
 |[]=>rfl
 |(k,x)::r=>by simp[cc,look,ab2 r]
theorem BP{st:bt}{A:dp}(h:mi st A)(d:Nat)(p:aj)(κ:aM)(cs:List aj)(n':Nat)(o':List aM)(rm:Option aM):mi ⟨put d p st.t,cI κ cs st.b,st.e,n',o'⟩ (A.do ⟨some d,p,[(κ,cs)],[],rm⟩):=by
 refine⟨fun i=>?_,fun k=>?_,fun k=>?_⟩
 ·simp only[dp.do,kq,dD,h.t]
 ·simp only[dp.do,jl,look,jL,h.b];by_cases e:κ=k<;>simp[e]
 ·simpa[dp.do,jl,look]using h.e k
theorem IK{st:bt}{A:dp}(h:mi st A)(κ:aM)(cs:List aj)(p:aj):mi {st with b:=cI κ cs st.b} (A.do ⟨none,p,[(κ,cs)],[],none⟩):=by
 refine⟨fun i=>?_,fun k=>?_,fun k=>?_⟩
 ·simpa[dp.do]using h.t i
 ·simp only[dp.do,jl,look,jL,h.b];by_cases e:κ=k<;>simp[e]
 ·simpa[dp.do,jl,look]using h.e k
theorem xK{st:bt}{A:dp}(h:mi st A)(d:Nat)(p:aj)(κ:aM)(o:fU)(n':Nat)(o':List aM)(rm:Option aM):mi ⟨put d p st.t,st.b,cI κ o st.e,n',o'⟩ (A.do ⟨some d,p,[],[(κ,o)],rm⟩):=by
 refine⟨fun i=>?_,fun k=>?_,fun k=>?_⟩
 ·simp only[dp.do,kq,dD,h.t]
 ·simpa[dp.do,jl,look]using h.b k
 ·simp only[dp.do,jl,look,jL,h.e];by_cases e:κ=k<;>simp[e]
theorem XO{st:bt}{A:dp}(h:mi st A)(κ:aM)(o:fU)(p:aj):mi {st with e:=cI κ o st.e} (A.do ⟨none,p,[],[(κ,o)],none⟩):=by
 refine⟨fun i=>?_,fun k=>?_,fun k=>?_⟩
 ·simpa[dp.do]using h.t i
 ·simpa[dp.do,jl,look]using h.b k
 ·simp only[dp.do,jl,look,jL];by_cases e:κ=k<;>simp[e,h.e]
theorem On{α:Type}{k:aM}:∀{l:List (aM×α)},k∈l.map (·.1)->(look k l).isSome
 |[],h=>by simp at h
 |(i,x)::r,h=>by
  simp only[look];split
  ·rfl
  ·rename_i e;simp only[hc,eU]at h;rcases h with h|h
   ·exact absurd h.symm e
   ·exact On h
theorem w8{n:Nat}{o:List aM}{κ:aM}:∀j,fresh n (κ::o) j->fresh n o j/\j≠κ:=by intro j ag;simp only[fresh,eU,not_or]at ag⊢;exact⟨⟨ag.1,ag.2.2⟩,ag.2.1⟩
theorem agW{n:Nat}{o:List aM}{κ j:aM}(h:fresh n o j)(ag:some κ≠some j):fresh n (κ::o) j:=by simp only[fresh,eU,not_or]at h⊢;exact⟨h.1,fun e=>ag (by rw[e]),h.2⟩
theorem Rb{P:cM}{bH:List (Nat×dG)}(aC:fX P bH=true){C:fv}{q:Bool}{n0:Nat}{i:ev}{o:Oper}(ax:wB C.N bH i o=true){A:dp}{x:lC}(ab:eJ P q n0 i A x){a:Act}{w:World}(aN:yt C A a w)
  {K:Act->World->Prop} {Q:Exit->Act->World->Prop} (de:∀bq w',yt C (A.do x) bq w'->K bq w'):o.wp P a w K Q:=by
 obtain⟨st,Z,aw,fa,aN⟩:=aN;have rN:∀(t:List (Nat×aj)) (b:List (aM×List aj)) (e:List (aM×fU)) (d:Option Nat) (p:aj) (bw:List (aM×List aj)) (ew:List (aM×fU)),∀k,(A.do ⟨d,p,bw,ew,none⟩).F k->fresh st.n st.o k:=fun t b e d p bw ew k ae=>fa k ae.1;have mr:∀(d:Option Nat) (p:aj) (bw:List (aM×List aj)) (ew:List (aM×fU)) (κ:aM),∀k,(A.do ⟨d,p,bw,ew,some κ⟩).F k->fresh st.n (κ::st.o) k:=fun d p bw ew κ k ae=>agW (fa k ae.1) ae.2;cases i with
 |s i=>
  have iA:Fy C.N bH i o=true:=by simpa only[wB]using ax
  cases i with
  |v d i=>simp only[eJ]at ab;obtain⟨c,p,I,U,_,rfl⟩:=ab;rw[<-abe aw]at I;refine kA (κ:= .loc 0) (n':=0) (o₁:=[]) aC aN iA (fun h=>by simp[eB.makes]at h) (fun h=>by simp[eB.makes]at h) (st':={st with t:=put d p st.t}) (by simp only[eT,I]) U fun bq w' bo b4=>de _ _ ⟨_,bo,N4 aw d p,fun k ae=>fa k ae.1,b4⟩
  |box d key v=>
   cases key with
   |some m=>simp only[eJ]at ab
   |none=>simp only[eJ]at ab;obtain⟨⟨I,_⟩,U,rfl⟩:=ab;rw[<-jE aw]at U;refine kA (κ:= .loc (n0+d)) (n':=st.n) (o₁:= .loc (n0+d)::st.o) aC aN iA (fun _=>fa _ I) (fun _=>w8) (st':=⟨put d (.ptr (.loc (n0+d)) 0) st.t,cI (.loc (n0+d)) (cells (cy st.t v)) st.b,st.e,st.n,.loc (n0+d)::st.o⟩) (by simp only[eT]) U fun bq w' bo b4=>de _ _ ⟨_,bo,?_,mr _ _ _ _ _,b4⟩;rw[jE aw];exact BP aw d _ _ _ _ _ _
  |alloc d key z=>
   cases key with
   |some m=>simp only[eJ]at ab
   |none=>simp only[eJ]at ab;obtain⟨⟨I,_⟩,rfl⟩:=ab;refine kA (κ:= .loc (n0+d)) (n':=st.n) (o₁:= .loc (n0+d)::st.o) aC aN iA (fun _=>fa _ I) (fun _=>w8) (st':=⟨put d (.ptr (.loc (n0+d)) 0) st.t,cI (.loc (n0+d)) (cells z) st.b,st.e,st.n,.loc (n0+d)::st.o⟩) (by simp only[eT]) trivial fun bq w' bo b4=>de _ _ ⟨_,bo,BP aw d _ _ _ _ _ _,mr _ _ _ _ _,b4⟩
  |store sz u v=>simp only[eJ]at ab;obtain⟨k,off,cs,I,U,ao,rfl⟩:=ab;rw[<-jE aw]at I ao;rw[<-aw.b]at U;refine kA (κ:= .loc 0) (n':=0) (o₁:=[]) aC aN iA (fun h=>by simp[eB.makes]at h) (fun h=>by simp[eB.makes]at h) (st':={st with b:=cI k (pa cs off (cells (cy st.t v))) st.b}) (by simp only[eT,I,U]) ao fun bq w' bo b4=>de _ _ ⟨{st with b:=cI k (pa cs off (cells (cy st.t v))) st.b},bo,by rw[jE aw];exact IK aw k _ _,fun k ae=>fa k ae.1,b4⟩
  |bsl d sz el xs=>simp only[eJ]at ab;obtain⟨⟨I,_⟩,U,rfl⟩:=ab;rw[<-vu aw]at U;refine kA (κ:= .loc (n0+d)) (n':=st.n) (o₁:= .loc (n0+d)::st.o) aC aN iA (fun _=>fa _ I) (fun _=>w8) (st':=⟨put d (.slice sz (.own (.loc (n0+d))) (xs.map (cy st.t))) st.t,st.b,cI (.loc (n0+d)) ⟨xs.length,el,sz,none⟩ st.e,st.n,.loc (n0+d)::st.o⟩) (by simp only[eT]) U fun bq w' bo b4=>de _ _ ⟨_,bo,?_,mr _ _ _ _ _,b4⟩;rw[vu aw];exact xK aw d _ _ _ _ _ _
  |app d sz el u v=>
   simp only[eJ]at ab;obtain⟨tag,xs,lS,ys,I,U,ab⟩:=ab;rw[<-jE aw]at I U;rcases ab with⟨k,ow,rfl,ao,a7,rfl⟩|⟨rfl,ao,⟨a7,_⟩,rfl⟩
   ·rw[<-aw.e]at ao;refine kA (κ:= .loc 0) (n':=0) (o₁:=[]) aC aN iA (fun h=>by simp[eB.makes,I]at h) (fun h=>by simp[eB.makes,I]at h) (st':=⟨put d (.slice sz (.own k) (xs++ys)) st.t,st.b,cI k ⟨xs.length+ys.length,el,sz,none⟩ st.e,st.n,st.o⟩) (by simp only[eT,I,U,ao,and_self,if_true]) a7.2 fun bq w' bo b4=>de _ _ ⟨_,bo,xK aw d _ _ _ _ _ _,fun k ae=>fa k ae.1,b4⟩
   ·refine kA (κ:= .loc (n0+d)) (n':=st.n) (o₁:= .loc (n0+d)::st.o) aC aN iA (fun _=>fa _ a7) (fun _=>w8) (st':=⟨put d (.slice sz (.own (.loc (n0+d))) ys) st.t,st.b,cI (.loc (n0+d)) ⟨ys.length,el,sz,none⟩ st.e,st.n,.loc (n0+d)::st.o⟩) (by simp only[eT,I,U,and_self,if_true]) ao fun bq w' bo b4=>de _ _ ⟨_,bo,xK aw d _ _ _ _ _ _,mr _ _ _ _ _,b4⟩
  |bslm d key sz el xs=>simp only[eJ]at ab
  |mks d key sz el z x=>simp only[eJ]at ab
  |appm d key sz el u v=>simp only[eJ]at ab;obtain⟨k,n,xs,lS,ys,I,U,ao,a7,rfl⟩:=ab;rw[<-jE aw]at I U;rw[<-aw.e]at ao;refine kA (κ:= .loc 0) (n':=0) (o₁:=[]) aC aN iA (fun h=>by simp[eB.makes,I]at h) (fun h=>by simp[eB.makes,I]at h) (st':=⟨put d (.row sz k (xs.length+ys.length)) st.t,st.b,cI k ⟨xs.length+ys.length,el,sz,some (xs++ys)⟩ st.e,st.n,st.o⟩) (by simp only[eT,tW,I,U,ao,and_self,if_true]) a7 fun bq w' bo b4=>de _ _ ⟨_,bo,xK aw d _ _ _ _ _ _,fun k ae=>fa k ae.1,b4⟩
  |storeE sz u v=>simp only[eJ]at ab;obtain⟨k,n,i,f,el,dN,xs,q,I,U,ao,a7,rfl⟩:=ab;rw[<-jE aw]at I a7;rw[<-aw.e]at U;refine kA (κ:= .loc 0) (n':=0) (o₁:=[]) aC aN iA (fun h=>by simp[eB.makes]at h) (fun h=>by simp[eB.makes]at h) (st':={st with e:=cI k ⟨n,el,dN,some (xs.set i (qG q f (cells (cy st.t v))))⟩ st.e}) (by simp only[eT,sd,I,U,ao,and_self,if_true]) a7 fun bq w' bo b4=>de _ _ ⟨{st with e:=cI k ⟨n,el,dN,some (xs.set i (qG q f (cells (cy st.t v))))⟩ st.e},bo,by rw[jE aw];exact XO aw k _ _,fun k ae=>fa k ae.1,b4⟩
  |mkmap d key=>
   cases key with
   |none=>simp only[eJ]at ab
   |some m=>simp only[eJ]at ab;obtain⟨⟨I,_⟩,rfl⟩:=ab;exact kA (κ:= .obj m) (n':=st.n) (o₁:= .obj m::st.o) aC aN iA (fun _=>fa _ I) (fun _=>w8) (st':=⟨put d (.gmap (.obj m)) st.t,cI (.obj m) [.hdm 0 []] st.b,st.e,st.n,.obj m::st.o⟩) (by simp only[eT]) trivial fun bq w' bo b4=>de _ _ ⟨_,bo,BP aw d _ _ _ _ _ _,mr _ _ _ _ _,b4⟩
  |mput cj u k v=>simp only[eJ]at ab;obtain⟨m,cs,cs',I,U,ao,rfl⟩:=ab;rw[<-jE aw]at I;rw[<-jE aw,<-jE aw]at ao;rw[<-aw.b]at U;exact kA (κ:= .loc 0) (n':=0) (o₁:=[]) aC aN iA (fun h=>by simp[eB.makes]at h) (fun h=>by simp[eB.makes]at h) (st':={st with b:=cI m cs' st.b}) (by simp only[eT,I,U,ao]) trivial fun bq w' bo b4=>de _ _ ⟨{st with b:=cI m cs' st.b},bo,IK aw m _ _,fun k ae=>fa k ae.1,b4⟩
  |range d key x=>simp only[eJ]at ab
 |next d x=>simp only[eJ]at ab
 |call d f xs=>
  simp only[eJ]at ab;obtain⟨n,dv,I,ab⟩:=ab;rw[<-jE aw]at I;rcases ab with⟨⟨s,ai,r,rm,bY,cB,dE,kV,lG,oS,Df,rfl⟩,_⟩|⟨cQ,r,rfl,bY,cB,dE,rfl⟩;rotate_left
  ·rw[<-vu aw]at cB dE;simp only[wB]at ax;split at ax
   ·rename_i sB args CF og;simp only[cv,dO]at ax;obtain⟨⟨⟨ar,aE⟩,bA⟩,dr⟩:=ax;have mV:=ez aN bA;rw[I]at mV;refine TY aN og ar aE mV (Ft aN dr) (K:=fun st'=>st'={st with t:=put cQ r st.t,o:= .loc (n0+cQ)::st.o}) ⟨⟨[],[]⟩,_,some (n0+cQ),st.n,fun _=>.loc (n0+cQ)::st.o,fun k cs ae=>by simp[look]at ae,fun k cs ae=>by simp[look]at ae,⟨fun _=>rfl,fun _=>rfl⟩,kJ (fun _ h=>h.elim) _ cB,dE,fun m hm=>?_,fun k e2 ai bs ae=>?_,?_⟩ ?_
    ·cases hm;exact fa _ bY.1
    ·obtain⟨_,rfl⟩:=bs;have:=w8 k ae;exact⟨by simpa[dc]using this.1,fun m hm=>by cases hm;exact this.2⟩
    ·rintro e2 pX ⟨rfl,rfl⟩;refine⟨⟨fun m hm=>by simp[look]at hm,fun m hm=>by simp[look]at hm⟩,?_⟩;simp[after,ab2,e6]
    ·rintro st' bq w' bo rfl b4;exact de _ _ ⟨_,bo,XP aw cQ r _ _,mr _ _ _ _ _,b4⟩
   ·cases ax
  rw[<-vu aw]at oS Df;simp only[wB]at ax;split at ax
  ·rename_i sB args CF og;simp only[cv,dO]at ax;obtain⟨⟨⟨ar,aE⟩,bA⟩,dr⟩:=ax;have mV:=ez aN bA;rw[I]at mV;obtain⟨aS,bh,bX,ed,dn⟩:=lG;refine TX aN og ar aE mV (Ft aN dr) (K:=fun st'=>st'=after st s ai d r) (.inl ⟨s,_,fun k cs ae=>⟨by rw[aw.b];exact(bY k cs ae).1,.inl (by simp[ae]),(bY k cs ae).2⟩,fun k o' ae=>⟨by rw[aw.e];exact(cB k o' ae).1,.inr (by simp[ae]),(cB k o' ae).2⟩,dE,oS,Df,?_⟩) ?_
   ·rintro e2 pX ⟨rfl,rfl⟩;refine⟨⟨fun m hm=>?_,fun m hm=>?_⟩,rfl⟩
    ·rcases aS _ hm with h|h
     ·exact .inl h
     ·exact .inr (fa _ (dn _ h).2.1).2
    ·rcases bh _ hm with h|h
     ·exact .inl h
     ·exact .inr (fa _ (dn _ h).2.1).2
   ·rintro st' bq w' bo rfl b4;refine de _ _ ⟨_,bo,⟨fun i=>?_,fun k=>?_,fun k=>?_⟩,fun k ae=>?_,b4⟩
    ·simp only[after,dp.do];cases d with
     |none=>simpa[e6]using aw.t i
     |some d=>simp only[e6,kq,dD,aw.t]
    ·simp only[after,dp.do,jl,zw,wc];by_cases af:(look k s.b).isSome
     ·have:=bX k af;obtain⟨y,aB⟩:=fH.1 this;simp[af,aB]
     ·cases au:look k ai.b with
      |none=>simp only[af,aw.b];cases A.b k<;>simp
      |some y=>
       rcases aS k (by simp[au])with h|h
       ·exact absurd h af
       ·have:=dn k h;simp[af,aw.b,this]
    ·simp only[after,dp.do,jl,zw,wc];by_cases af:(look k s.e).isSome
     ·have:=ed k af;obtain⟨y,aB⟩:=fH.1 this;simp[af,aB]
     ·cases au:look k ai.e with
      |none=>simp only[af,aw.e];cases A.e k<;>simp
      |some y=>
       rcases bh k (by simp[au])with h|h
       ·exact absurd h af
       ·have:=dn k h;simp[af,aw.e,this]
    ·have MN:=fa k ae.1;have pK:=aN.lookNone MN;simp only[after];refine⟨MN.1,fun h0=>?_⟩;rcases h3.1 h0 with h0|h0
     ·exact MN.2 h0
     ·rcases h3.1 h0 with h0|h0
      ·rcases aS k (On h0)with h|h
       ·obtain⟨y,aB⟩:=fH.1 h;have:=(bY k y aB).1;rw[<-aw.b,pK.1]at this;cases this
       ·exact ae.2 h
      ·rcases bh k (On h0)with h|h
       ·obtain⟨y,aB⟩:=fH.1 h;have:=(cB k y aB).1;rw[<-aw.e,pK.2]at this;cases this
       ·exact ae.2 h
  ·cases ax
theorem acn{P:cM}{bH:List (Nat×dG)}(aC:fX P bH=true){C:fv}{q:Bool}{n0:Nat}{ops:Array Oper}{g:dh}{o:Oper}{j:Nat}(ag:ops[j]? =some o)(ax:DF C.N bH ops.toList g o=true){A:dp}{x:lC}(ab:lD P q n0 g A x){a:Act}{w:World}(aN:yt C A a w)
  {K:Act->World->Prop} {Q:Exit->Act->World->Prop} (de:∀bq w',yt C (A.do x) bq w'->K bq w'):wpOp P ops Q j K a w:=by
 unfold wpOp;rw[ag];simp only;simp only[DF,cv]at ax;obtain⟨rO,pJ⟩:=ax;unfold lD at ab;cases D1:g.g with
 |none=>
  cases dF:o.guard with
  |some x=>simp[dF,D1]at rO
  |none=>
   have hw:p4 o (yielded ops a.tmps)=true:=by simp[p4,dF]
   rw[if_pos hw];simp only[D1]at ab;exact .inl (Rb aC pJ ab aN de)
 |some Ac=>
  obtain⟨s,want⟩:=Ac;cases dF:o.guard with
  |none=>simp[dF,D1]at rO
  |some ary=>
   obtain⟨atQ,b3⟩:=ary;simp only[dF,D1,cv,dO,eA]at rO;obtain⟨⟨⟨⟨rfl,U⟩,ao⟩,a7⟩,b8⟩:=rO;obtain⟨st,Z,aw,fa,dq⟩:=id aN;obtain⟨lz,p3⟩:=aca dq U ao;simp only[D1]at ab;have WJ:∀(h:x=mc g.i.dst),K (a.put o.dst undef) w:=by
    rintro rfl;rw[a7];refine de _ _ ⟨_,Z,?_,fun k ae=>?_,dq.put b8 (p:= .tuple []) (by simp[be,cZ,undef])⟩
    ·refine⟨fun i=>?_,fun k=>?_,fun k=>?_⟩
     ·simp only[dp.do,mc];cases g.i.dst with
      |none=>simpa[e6]using aw.t i
      |some d=>simp only[e6,kq,dD,aw.t]
     ·simpa[dp.do,jl,look,mc]using aw.b k
     ·simpa[dp.do,jl,look,mc]using aw.e k
    ·exact fa k ae.1
   split at ab
   ·rename_i b ad;have aB:=lz b (by rw[aw.t];exact ad);rcases ab with⟨rfl,ab⟩|⟨rfl,ab⟩
    ·have hw:p4 o (yielded ops a.tmps)=true:=by simp[p4,dF,aB]
     rw[if_pos hw];exact .inl (Rb aC pJ ab aN de)
    ·have hw:¬(p4 o (yielded ops a.tmps)=true):=by simp[p4,dF,aB]
     rw[if_neg hw];exact WJ ab
   ·rename_i ad;have aB:=p3 (by rw[aw.t];exact ad);have hw:¬(p4 o (yielded ops a.tmps)=true):=by simp[p4,dF,aB]
    rw[if_neg hw];exact WJ ab
   ·exact ab.elim
def tZ(P:cM)(q:Bool)(n0:Nat)(K:dp->Prop):List (Nat×dh)->dp->Prop
 |[],A=>K A
 |(_,g)::r,A=> ∃x,lD P q n0 g A x/\tZ P q n0 K r (A.do x)
theorem RP{P:cM}{q:Bool}{n0:Nat}{K:dp->Prop}{i:Nat}{g:dh}:∀(po qb:List (Nat×dh)) (A:dp),(∀x∈po,A1 x.2 g=true)->tZ P q n0 K (po++(i,g)::qb) A->∃x,lD P q n0 g A x/\tZ P q n0 K (po++qb) (A.do x)
 |[],qb,A,_,h=>h
 |(j,Vz)::po,qb,A,aq,h=>by simp only[bQ,tZ]at h;obtain⟨y,aB,h⟩:=h;obtain⟨x,ab,h⟩:=RP po qb (A.do y) (fun z a8=>aq z (mh _ a8)) h;obtain⟨s1,s2,s3⟩:=swap (aq _ (List.mem_cons_self ..)) aB ab;refine⟨x,s1,y,s2,?_⟩;rw[<-dp.do_comm A s3];exact h
def rem(listed:Array Bool):Nat->List dh->List (Nat×dh)
 |_,[]=>[]
 |k,g::r=>if listed.getD k false then rem listed (k+1) r else(k,g)::rem listed (k+1) r
theorem aac{l ba:Array Bool}:∀(gs:List dh) (k:Nat),(∀j,k<=j->l.getD j false=ba.getD j false)->rem l k gs=rem ba k gs
 |[],_,_=>rfl
 |g::r,k,h=>by simp only[rem,h k (eo _),aac r (k+1) fun j ag=>h j Ω]
theorem Hr{l:Array Bool}{i j:Nat}(h:i<l.size):(l.setIfInBounds i true).getD j false=if i=j then true else l.getD j false:=by
 simp only[Array.getD_eq_getD_getElem?];by_cases e:i=j
 ·subst e;simp[h]
 ·simp[e]
theorem PJ{l:Array Bool}{i:Nat}(hi:i<l.size)(au:l.getD i false=false):∀(gs:List dh) (k:Nat),k<=i->i<k+gs.length->∃po qb g,gs[i-k]? =some g/\rem l k gs=po++(i,g)::qb/\rem (l.setIfInBounds i true) k gs=po++qb/\
  ∀x∈po,gs[x.1-k]? =some x.2/\k<=x.1/\x.1<i/\l.getD x.1 false=false
 |[],k,I,U=>by simp at U;omega
 |g::r,k,I,U=>by
  by_cases e:k=i
  ·subst e;refine⟨[],rem l (k+1) r,g,Ψ,by simp[rem,au],?_,fun x ab=>by simp at ab⟩;simp only[rem,Hr hi,if_true,bU];exact aac r (k+1) fun j ag=>by rw[Hr hi,if_neg Ω]
  ·obtain⟨po,qb,fj,ar,aE,bA,dr⟩:=PJ hi au r (k+1) Ω (by simp at U;omega);have xl:i-k=(i-(k+1))+1:=Ω
   have ij:(l.setIfInBounds i true).getD k false=l.getD k false:=by rw[Hr hi,if_neg Ω]
   by_cases ae:l.getD k false=true
   ·refine⟨po,qb,fj,by rw[xl];simpa using ar,by simp only[rem,ae,if_true,aE],by simp only[rem,ij,ae,if_true,bA],fun x ab=>?_⟩;obtain⟨f1,f2,f3,f4⟩:=dr x ab;refine⟨?_,Ω,f3,f4⟩;have:x.1-k=(x.1-(k+1))+1:=Ω
    rw[this];simpa using f1
   ·have ae:l.getD k false=false:=by simpa using ae
    refine⟨(k,g)::po,qb,fj,by rw[xl];simpa using ar,by simp[rem,ae,aE],by simp[rem,ij,ae,bA],fun x ab=>?_⟩;rcases eU.1 ab with rfl|ab
    ·exact⟨Ψ,eo _,by simp;omega,ae⟩
    ·obtain⟨f1,f2,f3,f4⟩:=dr x ab;refine⟨?_,Ω,f3,f4⟩;have:x.1-k=(x.1-(k+1))+1:=Ω
     rw[this];simpa using f1
def wg(acc:List Nat):List Edge->Nat
 |[]=>0
 |e::r=>if Region.binds .any e then(2 ^ e.on)|||(acc.getD e.on 0)|||wg acc r else wg acc r
def tf(acc:List Nat):List Oper->List Nat
 |[]=>acc
 |o::os=>tf (acc++[wg acc o.after.toList]) os
def Fv(m:Nat)(h:dh):Nat->List dh->Bool
 |_,[]=>true
 |i,g::r=>(m.testBit i||A1 g h)&&Fv m h (i+1) r
def Fa:List dh->List dh->List Nat->Bool
 |_,[],_=>true
 |pre,h::r,m::ms=>Fv m h 0 pre&&Fa (pre++[h]) r ms
 |_,_,[]=>false
def Dn:Nat->List Oper->Bool
 |_,[]=>true
 |k,o::os=>o.after.toList.all (fun e=> !Region.binds .any e||decide (e.on<k))&&Dn (k+1) os
def C6(gs:List dh)(ops:List Oper):Bool:=Dn 0 ops&&Fa [] gs (tf [] ops)
theorem Od{acc:List Nat}{j:Nat}:∀{es:List Edge},(wg acc es).testBit j=true->∃e∈es,Region.binds .any e=true/\(j=e.on\/(acc.getD e.on 0).testBit j=true)
 |[],h=>by simp[wg]at h
 |e::r,h=>by
  simp only[wg]at h;split at h
  ·rename_i ad;simp only[Nat.testBit_or,mg]at h;rcases h with(h|h)|h
   ·refine⟨e,Ψ,ad,.inl ?_⟩;rw[Nat.testBit_two_pow]at h;have b4:e.on=j:=by simpa using h
    exact b4.symm
   ·exact⟨e,Ψ,ad,.inr h⟩
   ·obtain⟨fJ,I,U⟩:=Od h;exact⟨fJ,by simp[I],U⟩
  ·obtain⟨fJ,I,U⟩:=Od h;exact⟨fJ,by simp[I],U⟩
theorem Oe:∀(os:List Oper) (acc:List Nat) (k:Nat),k<acc.length->(tf acc os)[k]? =acc[k]?
 |[],acc,k,_=>rfl
 |o::os,acc,k,h=>by simp only[tf];rw[Oe os _ k d7,List.getElem?_append_left h]
theorem XZ:∀(os:List Oper) (acc:List Nat) (k:Nat) (o:Oper),os[k]? =some o->∃vl,(tf acc os)[acc.length+k]? =some (wg vl o.after.toList)/\vl.length=acc.length+k/\∀i,i<vl.length->vl[i]? =(tf acc os)[i]?
 |[],acc,k,o,h=>by simp at h
 |o'::os,acc,0,o,h=>by
  simp only[List.getElem?_cons_zero,dD]at h;subst h;refine⟨acc,?_,Ψ,fun i hi=>?_⟩
  ·simp only[tf,Nat.add_zero];rw[Oe os _ _ Ψ];simp
  ·simp only[tf];rw[Oe os _ i d7,List.getElem?_append_left hi]
 |o'::os,acc,k+1,o,h=>by simp only[List.getElem?_cons_succ]at h;obtain⟨vl,I,U,ao⟩:=XZ os (acc++[wg acc o'.after.toList]) k o h;refine⟨vl,?_,by rw[U];simp;omega,fun i hi=>by rw[ao i hi];rfl⟩;simp only[tf];rw[show acc.length+(k+1)=(acc++[wg acc o'.after.toList]).length+k from by simp;omega];exact I
def Q7(ops:Array Oper)(listed:Array Bool):Prop:= ∀k o,ops[k]? =some o->listed.getD k false=true->∀e∈o.after.toList,Region.binds .any e=true->listed.getD e.on false=true
theorem ak8{ops:Array Oper}{listed:Array Bool}(aD:Q7 ops listed):∀(k:Nat) (o:Oper),ops[k]? =some o->(∀e∈o.after.toList,Region.binds .any e=true->listed.getD e.on false=true)->∀j,((tf [] ops.toList).getD k 0).testBit j=true->listed.getD j false=true:=by
 intro k;induction k using qQ with
 |_ k bK=>
  intro o ax aw j ag;obtain⟨vl,I,U,ao⟩:=XZ ops.toList [] k o (by simpa using ax);simp only[List.length_nil,Nat.zero_add]at I U;rw[List.getD_eq_getElem?_getD,I]at ag;obtain⟨e,he,ad,cA⟩:=Od ag;rcases cA with rfl|cA
  ·exact aw e he ad
  ·by_cases bD:e.on<vl.length
   ·have hm:vl.getD e.on 0=(tf [] ops.toList).getD e.on 0:=by rw[List.getD_eq_getElem?_getD,ao _ bD,List.getD_eq_getElem?_getD]
    have ae:k<ops.size:=(Array.getElem?_eq_some_iff.1 ax).1;have iA:ops[e.on]? =some ops[e.on]:=Array.getElem?_eq_getElem Ω;rw[hm]at cA;exact bK e.on Ω _ iA (fun fJ xi gn=>aD e.on _ iA (aw e he ad) fJ xi gn) j cA
   ·rw[List.getD_eq_getElem?_getD,rq Ω]at cA;simp at cA
theorem aau{m:Nat}{h:dh}:∀{gs:List dh} {i0:Nat},Fv m h i0 gs=true->∀i g,gs[i]? =some g->m.testBit (i0+i)=true\/A1 g h=true
 |[],i0,_,i,g,aT=>by simp at aT
 |fj::r,i0,aN,0,g,aT=>by simp only[Fv,cv,mg]at aN;simp only[List.getElem?_cons_zero,dD]at aT;subst aT;simpa using aN.1
 |fj::r,i0,aN,i+1,g,aT=>by simp only[Fv,cv]at aN;have:=aau aN.2 i g (by simpa using aT);rwa[show i0+1+i=i0+(i+1)from by omega]at this
theorem Y8:∀{gs pre:List dh} {ms:List Nat},Fa pre gs ms=true->∀j h,gs[j]? =some h->∀i g,i<pre.length+j->(pre++gs)[i]? =some g->(ms.getD j 0).testBit i=true\/A1 g h=true
 |[],pre,ms,_,j,h,ag,_,_,_,_=>by simp at ag
 |b4::r,pre,[],bG,j,h,ag,_,_,_,_=>by simp[Fa]at bG
 |b4::r,pre,m::ms,bG,j,h,ag,i,g,hi,aT=>by
  simp only[Fa,cv]at bG;cases j with
  |zero=>simp only[List.getElem?_cons_zero,dD]at ag;subst ag;rw[List.getElem?_append_left Ω]at aT;simpa using aau bG.1 i g aT
  |succ j=>have:=Y8 bG.2 j h (by simpa using ag) i g d7 (by simpa using aT);simpa using this
theorem Uq:∀{os:List Oper} {k:Nat},Dn k os=true->∀i o,os[i]? =some o->∀e∈o.after.toList,Region.binds .any e=true->e.on<k+i
 |[],k,_,i,o,ax,_,_,_=>by simp at ax
 |o'::os,k,h,0,o,ax,e,he,ad=>by simp only[Dn,cv,fi]at h;simp only[List.getElem?_cons_zero,dD]at ax;subst ax;have:=h.1 e he;simpa[ad]using this
 |o'::os,k,h,i+1,o,ax,e,he,ad=>by simp only[Dn,cv]at h;have:=Uq h.2 i o (by simpa using ax) e he ad;omega
theorem VB{N:Nat}{bH:List (Nat×dG)}{ops:List Oper}:∀{gs:List dh} {os:List Oper},lb N bH ops gs os=true->∀(i:Nat) (g:dh),gs[i]? =some g->∃o,os[i]? =some o/\DF N bH ops g o=true
 |[],[],_,i,g,h=>by simp at h
 |[],_::_,h,_,_,_=>by simp[lb]at h
 |_::_,[],h,_,_,_=>by simp[lb]at h
 |fj::gs,o::os,h,0,g,aT=>by simp only[lb,cv]at h;simp only[List.getElem?_cons_zero,dD]at aT;subst aT;exact⟨o,Ψ,h.1⟩
 |fj::gs,o::os,h,i+1,g,aT=>by simp only[lb,cv]at h;obtain⟨o',I,U⟩:=VB h.2 i g (by simpa using aT);exact⟨o',by simpa using I,U⟩
theorem Mr{N:Nat}{bH:List (Nat×dG)}{ops:List Oper}:∀{gs:List dh} {os:List Oper},lb N bH ops gs os=true->gs.length=os.length
 |[],[],_=>rfl
 |[],_::_,h=>by simp[lb]at h
 |_::_,[],h=>by simp[lb]at h
 |g::gs,o::os,h=>by simp only[lb,cv]at h;simp[Mr h.2]
theorem aad{l:Array Bool}:∀(gs:List dh) (k:Nat),rem l k gs=[]\/ ∃i g,i<gs.length/\gs[i]? =some g/\l.getD (k+i) false=false/\∀j,j<i->l.getD (k+j) false=true
 |[],_=>.inl rfl
 |g::r,k=>by
  by_cases h:l.getD k false=true
  ·rcases aad (l:=l) r (k+1)with I|⟨i,fj,I,U,ao,a7⟩
   ·left;simp only[rem,h,if_true,I]
   ·refine .inr ⟨i+1,fj,by simp;omega,by simpa using U,by rw[show k+(i+1)=k+1+i from by omega];exact ao,fun j ag=>?_⟩;cases j with
    |zero=>simpa using h
    |succ j=>rw[show k+(j+1)=k+1+j from by omega];exact a7 j Ω
  ·exact .inr ⟨0,g,Ψ,Ψ,by simpa using h,fun j ag=>Ω⟩
theorem acU{P:cM}{bH:List (Nat×dG)}(aC:fX P bH=true){C:fv}{q:Bool}{n0:Nat}{ops:Array Oper}{gs:List dh}(kF:lb C.N bH ops.toList gs ops.toList=true)(HD:C6 gs ops.toList=true){K:dp->Prop}{Q:Exit->Act->World->Prop}
  (iL:∀A a w,K A->yt C A a w->Q .normal a w):∀(fuel:Nat) (listed:Array Bool) (A:dp) (a:Act) (w:World),listed.size=ops.size->Q7 ops listed->(rem listed 0 gs).length<=fuel->tZ P q n0 K (rem listed 0 gs) A->yt C A a w->wpAny P .any ops Q fuel listed a w:=by
 simp only[C6,cv]at HD;obtain⟨MC,ajn⟩:=HD;have hlen:gs.length=ops.size:=by simpa using Mr kF
 have V3:∀(listed:Array Bool) (A:dp) (a:Act) (w:World),listed.size=ops.size->tZ P q n0 K (rem listed 0 gs) A->yt C A a w->Region.ready .any ops listed=[]->Q .normal a w:=by
  intro listed A a w dY um aN H7;rcases aad (l:=listed) gs 0 with h|⟨i,g,I,U,ao,a7⟩
  ·rw[h]at um;exact iL A a w um aN
  ·exfalso;have hi:i<ops.size:=Ω
   have h0:i∈Region.ready .any ops listed:=by
    unfold Region.ready;simp only[hD,List.mem_range,cv,oJ];refine⟨hi,?_,?_⟩
    ·rw[Nat.zero_add]at ao;simp only[Array.getD_eq_getD_getElem?]at ao⊢;rw[Array.getElem?_eq_getElem Ω]at ao⊢;simpa using ao
    ·rw[Array.getElem?_eq_getElem hi];simp only[nT,ib];rw[<-Array.all_toList,fi];intro e he;by_cases ad:Region.binds .any e=true
     ·have bD:=Uq MC i ops[i] (by simp[hi]) e he ad;have:=a7 e.on Ω;rw[Nat.zero_add]at this;simp[this]
     ·simp[ad]
   rw[H7]at h0;simp at h0
 intro fuel;induction fuel with
 |zero=>
  intro listed A a w dY aD aO um aN;have ajh:rem listed 0 gs=[]:=List.eq_nil_of_length_eq_zero Ω;have H7:Region.ready .any ops listed=[]:=by
   rw[List.eq_nil_iff_forall_not_mem];intro i hi;unfold Region.ready at hi;simp only[hD,List.mem_range,cv,oJ]at hi;obtain⟨I,U,_⟩:=hi;have au:listed.getD i false=false:=by simp only[Array.getD_eq_getD_getElem?]at U⊢;rw[Array.getElem?_eq_getElem Ω]at U⊢;simpa using U
   obtain⟨po,qb,g,_,aE,_⟩:=PJ Ω au gs 0 Ω Ω;rw[ajh]at aE;simp at aE
  exact⟨H7,V3 listed A a w dY um aN H7⟩
 |succ fuel bK=>
  intro listed A a w dY aD aO um aN;refine⟨V3 listed A a w dY um aN,fun i hi=>?_⟩;unfold Region.ready at hi;simp only[hD,List.mem_range,cv,oJ]at hi;obtain⟨I,U,ao⟩:=hi;have au:listed.getD i false=false:=by simp only[Array.getD_eq_getD_getElem?]at U⊢;rw[Array.getElem?_eq_getElem Ω]at U⊢;simpa using U
  have ax:ops[i]? =some ops[i]:=Array.getElem?_eq_getElem I;have V5:∀e∈ops[i].after.toList,Region.binds .any e=true->listed.getD e.on false=true:=by rw[ax]at ao;simp only[nT,ib]at ao;rw[<-Array.all_toList,fi]at ao;intro e he ad;simpa[ad]using ao e he
  obtain⟨po,qb,g,ar,aE,bA,dr⟩:=PJ Ω au gs 0 Ω Ω;simp only[Nat.sub_zero]at ar dr;rw[aE]at um;obtain⟨x,ab,ail⟩:=RP po qb A (fun y aB=>by
   obtain⟨f1,f2,f3,f4⟩:=dr y aB;rcases Y8 ajn i g ar y.1 y.2 (by simpa using f3) (by simpa using f1)with h|h
   ·have:=ak8 aD i ops[i] ax V5 y.1 h;rw[f4]at this;cases this
   ·exact h) um
  obtain⟨o',g1,g2⟩:=VB kF i g ar;have:o'=ops[i]:=by rw[vb,ax]at g1;exact(eV g1).symm
  subst this;refine acn aC ax g2 ab aN fun bq w' dq=>?_;refine bK (listed.setIfInBounds i true) (A.do x) bq w' (by simpa using dY) ?_ ?_ (by rw[bA];exact ail) dq
  ·intro k o ae aw e he ad;rw[Hr Ω]at aw⊢;split
   ·rfl
   ·by_cases xl:i=k
    ·subst xl;rw[ax]at ae;cases ae;exact V5 e he ad
    ·rw[if_neg xl]at aw;exact aD k o ae aw e he ad
  ·rw[bA];rw[aE]at aO;simp at aO⊢;omega
def yN(n0 d:Nat)(st:bt):Prop:= .loc (n0+d)∉st.o/\look (.loc (n0+d)) st.b=none/\look (.loc (n0+d)) st.e=none
def gk.loadO(q:Bool)(t:List (Nat×aj)):gk->Prop
 | .load _ _ x=>q=true\/zl (cy t x)=true
 | .loadB _ _ _=>True
 | .mgetB _ _ _ _ _=>True
 | .mget _ _ _ _ _=>q=true
 | .ment _=>q=true
 | .mlen _=>q=true
 |_=>True
def mR(q:Bool)(nw:List Nat)(n0:Nat)(st:bt):eB->Prop
 | .v _ i=>i.loadO q st.t
 | .box d none _=>yN n0 d st
 | .alloc d none _=>yN n0 d st
 | .box _ (some _) _=>eI
 | .alloc _ (some _) _=>eI
 | .store _ x _=>match cy st.t x with| .ptr _ _=>True|_=>eI
 | .bslm _ _ _ _ _=>eI
 | .mks _ _ _ _ _ _=>eI
 | .appm _ _ _ _ x _=>match cy st.t x with| .row _ _ _=>True|_=>eI
 | .storeE _ _ _=>True
 | .mkmap _ none=>eI
 | .mkmap _ (some m)=>m∈nw/\look (.obj m) st.b=none/\look (.obj m) st.e=none
 | .mput _ _ _ _=>True
 | .range _ _ _=>eI
 | .bsl d _ _ _=>yN n0 d st
 | .app d _ _ x _=>match cy st.t x with
  | .slice _ .nil _=>yN n0 d st
  | .slice _ (.own k) _=>(look k st.e).bind (·.xs)=none
  |_=>True
def qj(n0:Nat):eB->aM
 | .mkmap _ (some m)=>.obj m
 | .v d _| .box d _ _| .alloc d _ _| .bsl d _ _ _| .app d _ _ _ _| .bslm d _ _ _ _| .appm d _ _ _ _ _| .mkmap d _| .range d _ _| .mks d _ _ _ _ _=>.loc (n0+d)
 | .store _ _ _| .mput _ _ _ _| .storeE _ _ _=>.loc n0
def akH(nw:List Nat)(st:bt)(s ai:cU)(rm:Option aM):Prop:=(∀k,(look k ai.b).isSome->(look k s.b).isSome\/rm=some k)/\(∀k,(look k ai.e).isSome->(look k s.e).isSome\/rm=some k)/\(∀k,(look k s.b).isSome->(look k ai.b).isSome)/\(∀k,(look k s.e).isSome->(look k ai.e).isSome)/\
 (∀k,rm=some k->(∃j,j∈nw/\k= .obj j)/\look k st.b=none/\look k st.e=none/\((look k ai.b).isSome\/(look k ai.e).isSome))
def hs(P:cM)(q:Bool)(nw:List Nat)(n:Nat)(args:List aj)(st:bt)(d:Option Nat)(K:bt->Prop):Prop:=
 (∃cQ r,d=some cQ/\yN st.n cQ st/\aP (fun _=>eI) args/\Kw P n (st.n+cQ) args ⟨[],[]⟩ (fun e2 dH=>e2=r/\dH=⟨[],[]⟩)/\K {st with t:=put cQ r st.t,o:= .loc (st.n+cQ)::st.o})\/
 ∃s ai r rm,gR (inObs s) s.b st.b/\oG (inObs s) s.e st.e/\jv s/\jv ai/\akH nw st s ai rm/\aP (inObs s) args/\bL P n args s (fun e2 dH=>e2=r/\dH=ai)/\(q=true->ai.b=[]/\ai.e=[])/\K {after st s ai d r with o:=st.o}
def k9(P:cM)(q:Bool)(nw:List Nat)(n0:Nat)(st:bt)(K:bt->Prop):ev->Prop
 | .s i=>match eT (qj n0 i) st.n (qj n0 i::st.o) st i with
  |some (c,st')=>mR q nw n0 st i/\c/\K st'
  |none=>eI
 | .call d f xs=>match cy st.t f with
  | .func n dv=>hs P q nw n (du (xs.map (cy st.t)++dv)) st d K
  |_=>eI
 | .next _ _=>eI
def iy(P:cM)(q:Bool)(nw:List Nat)(n0:Nat):List dh->bt->(bt->Prop)->Prop
 |[],st,K=>K st
 |⟨none,i⟩::r,st,K=>k9 P q nw n0 st (fun st'=>iy P q nw n0 r st' K) i
 |⟨some (s,want),i⟩::r,st,K=>match get s st.t with
  | .bool b=>(b=want->k9 P q nw n0 {st with t:=put s (.bool want) st.t} (fun st'=>iy P q nw n0 r st' K) i)/\(b= !want->iy P q nw n0 r {st with t:=e6 i.dst (.tuple []) (put s (.bool !want) st.t)} K)
  | .tuple []=>iy P q nw n0 r {st with t:=e6 i.dst (.tuple []) st.t} K
  |_=>eI
structure tO (nw:List Nat) (n0 N:Nat) (qB:List aM) (st:bt) (A:dp):Prop where
 like:mi st A
 n:st.n=n0
 F:∀k,fresh n0 st.o k->(∀j∈nw,k≠ .obj j)->A.F k
 o:∀k∈st.o,k∈qB\/(∃d,d<N/\k= .loc (n0+d))\/ ∃j∈nw,k= .obj j
def CY(nw:List Nat)(A:dp):Prop:= ∀j∈nw,A.b (.obj j)=none->A.e (.obj j)=none->A.F (.obj j)
theorem CY.do{P:cM}{q:Bool}{n0:Nat}{nw:List Nat}{A:dp}(h:CY nw A){g:dh}{x:lC}(ab:lD P q n0 g A x):CY nw (A.do x):=by
 intro j ag ad he;refine⟨h j ag (Lz ad) (LA he),fun rK=>?_⟩;rcases(Qn ab).r _ rK with⟨d,_,e⟩|⟨_,_,af⟩
 ·cases e
 ·rcases af with af|af
  ·obtain⟨y,aB⟩:=fH.1 af;simp[dp.do,jl,aB]at ad
  ·obtain⟨y,aB⟩:=fH.1 af;simp[dp.do,jl,aB]at he
theorem UB{P:cM}{q:Bool}{nw:List Nat}{n0 N:Nat}{qB:List aM}{i:ev}(aD:∀d,i.dst=some d->d<N){st:bt}{A:dp}(h:tO nw n0 N qB st A)(iK:CY nw A){K:bt->Prop}(he:k9 P q nw n0 st K i):∃x st',eJ P q n0 i A x/\K st'/\tO nw n0 N qB st' (A.do x):=by
 have aw:=h.like;have q1:∀d,yN n0 d st->(A.F (.loc (n0+d))/\A.b (.loc (n0+d))=none/\A.e (.loc (n0+d))=none):=fun d aO=>⟨h.F _ ⟨Ψ,aO.1⟩ (fun _ _ e=>by cases e),by rw[<-aw.b];exact aO.2.1,by rw[<-aw.e];exact aO.2.2⟩;have mr:∀(d:Option Nat) (p:aj) (bw:List (aM×List aj)) (ew:List (aM×fU)) (κ:aM),∀k,fresh n0 (κ::st.o) k->(∀j∈nw,k≠ .obj j)->(A.do ⟨d,p,bw,ew,some κ⟩).F k:=fun d p bw ew κ k ae ag=>⟨h.F k (w8 k ae).1 ag,fun e=>(w8 k ae).2 (eV e).symm⟩;have rN:∀(d:Option Nat) (p:aj) (bw:List (aM×List aj)) (ew:List (aM×fU)),∀k,fresh n0 st.o k->(∀j∈nw,k≠ .obj j)->(A.do ⟨d,p,bw,ew,none⟩).F k:=fun d p bw ew k ae ag=>⟨h.F k ae ag,Ψ⟩;have my:∀d,d<N->∀k∈aM.loc (n0+d)::st.o,k∈qB\/(∃d,d<N/\k= .loc (n0+d))\/ ∃j∈nw,k= .obj j:=fun d aD k ae=>by
  rcases eU.1 ae with rfl|ae
  ·exact .inr (.inl ⟨d,aD,rfl⟩)
  ·exact h.o k ae
 cases i with
 |s i=>
  cases i with
  |v d i=>
   simp only[k9,eT]at he;cases az:hQ st i with
   |none=>simp[az]at he
   |some Lw=>
    obtain⟨c,p⟩:=Lw;simp only[az]at he;obtain⟨I,U,ao⟩:=he;refine⟨⟨some d,p,[],[],none⟩,_,⟨c,p,by rw[<-abe aw];exact az,U,fun oZ=>?_,rfl⟩,ao,N4 aw d p,h.n,rN _ _ _ _,h.o⟩;cases i<;>simp only[gk.isLoad]at oZ<;>try(cases oZ;done)
    case mget=>exact .inr (.inl I)
    case ment=>exact .inr (.inl I)
    case mlen=>exact .inr (.inl I)
    case loadB=>exact .inl rfl
    case mgetB=>exact .inl rfl
    simp only[mR,gk.loadO,jE aw]at I;exact .inr (by simpa only[gk.ptrOf]using I)
  |box d key v=>
   cases key with
   |some m=>simp only[k9,eT,mR,false_and]at he
   |none=>simp only[k9,eT,mR,qj]at he;obtain⟨I,U,ao⟩:=he;rw[jE aw]at U;refine⟨_,_,⟨q1 d I,U,rfl⟩,ao,?_,h.n,mr _ _ _ _ _,my d (aD d rfl)⟩;rw[jE aw];exact BP aw d _ _ _ _ _ _
  |alloc d key z=>
   cases key with
   |some m=>simp only[k9,eT,mR,false_and]at he
   |none=>simp only[k9,eT,mR,qj]at he;obtain⟨I,U,ao⟩:=he;exact⟨_,_,⟨q1 d I,rfl⟩,ao,BP aw d _ _ _ _ _ _,h.n,mr _ _ _ _ _,my d (aD d rfl)⟩
  |store sz u v=>
   simp only[k9,eT]at he;cases hu:cy st.t u with
   |ptr k off=>
    cases ad:look k st.b with
    |none=>simp[hu,ad]at he
    |some cs=>simp only[hu,ad]at he;obtain⟨I,U,ao⟩:=he;rw[jE aw]at U hu;refine⟨⟨none,.junk,[(k,pa cs off (cells (dJ A.t v)))],[],none⟩,_,⟨k,off,cs,hu,by rw[<-aw.b];exact ad,U,rfl⟩,ao,?_,h.n,rN _ _ _ _,h.o⟩;rw[jE aw];exact IK aw k _ _
   |_=>
    exfalso;simp only[hu]at he;split at he
    ·have:=he.1;simp[mR,hu]at this
    ·exact he
  |bsl d sz el xs=>simp only[k9,eT,mR,qj]at he;obtain⟨I,U,ao⟩:=he;rw[vu aw]at U;refine⟨_,_,⟨q1 d I,U,rfl⟩,ao,?_,h.n,mr _ _ _ _ _,my d (aD d rfl)⟩;rw[vu aw];exact xK aw d _ _ _ _ _ _
  |app d sz el u v=>
   simp only[k9,eT]at he;cases hu:cy st.t u with
   |slice dN tag xs=>
    cases az:cy st.t v with
    |slice j4 lS ys=>
     simp only[hu,az]at he;by_cases fB:dN=sz/\j4=sz
     ·obtain⟨rfl,rfl⟩:=fB;rw[jE aw]at hu az;cases tag with
      |no=>simp at he
      |tr k j=>simp at he
      |lo k=>simp at he
      |nil=>simp only[and_self,if_true,mR,jE aw,hu,qj]at he;obtain⟨I,U,ao⟩:=he;exact⟨_,_,⟨.nil,xs,lS,ys,hu,az,.inr ⟨rfl,U,q1 d I,rfl⟩⟩,ao,xK aw d _ _ _ _ _ _,h.n,mr _ _ _ _ _,my d (aD d rfl)⟩
      |own k=>
       cases ae:look k st.e with
       |none=>simp[ae]at he
       |some o=>simp only[and_self,if_true,ae]at he;obtain⟨I,U,ao⟩:=he;exact⟨_,_,⟨.own k,xs,lS,ys,hu,az,.inl ⟨k,o,rfl,by rw[<-aw.e];exact ae,⟨by simpa[mR,jE aw,hu,ae]using I,U⟩,rfl⟩⟩,ao,xK aw d _ _ _ _ _ _,h.n,rN _ _ _ _,h.o⟩
     ·simp[fB]at he
    |_=>simp[hu,az]at he
   |_=>simp[hu]at he
  |bslm d key sz el xs=>simp only[k9,eT,mR,false_and]at he
  |mks d key sz el z x=>simp only[k9,eT,mR,false_and]at he;split at he<;>simp at he
  |appm d key sz el u v=>
   simp only[k9,eT]at he;cases hu:cy st.t u with
   |row dN k n=>
    cases az:cy st.t v with
    |slice j4 lS ys=>
     simp only[hu,az,tW]at he;by_cases fB:dN=sz/\j4=sz
     ·obtain⟨rfl,rfl⟩:=fB;rw[jE aw]at hu az;simp only[and_self,if_true]at he;cases ae:look k st.e with
      |none=>simp[ae]at he
      |some o=>
       obtain⟨n',gl,x9,O0⟩:=o;cases O0 with
       |none=>simp[ae]at he
       |some xs=>
        simp only[ae]at he;by_cases uk:n'=n/\gl=el/\x9=j4
        ·obtain⟨rfl,rfl,rfl⟩:=uk;simp only[and_self,if_true]at he;obtain⟨I,U,ao⟩:=he;exact⟨_,_,⟨k,n',xs,lS,ys,hu,az,by rw[<-aw.e];exact ae,U,rfl⟩,ao,xK aw d _ _ _ _ _ _,h.n,rN _ _ _ _,h.o⟩
        ·simp[uk]at he
     ·simp[fB]at he
    |_=>simp[hu,az,tW]at he
   |slice dN tag xs=>
    exfalso;simp only[hu]at he;split at he
    ·have:=he.1;simp[mR,hu]at this
    ·exact he
   |_=>simp[hu,tW]at he
  |storeE sz u v=>
   simp only[k9,eT]at he;cases hu:cy st.t u with
   |rptr dN k n i f=>
    cases ae:look k st.e with
    |none=>simp[hu,sd,ae]at he
    |some o=>
     obtain⟨n',el,x9,O0⟩:=o;cases O0 with
     |none=>simp[hu,sd,ae]at he
     |some xs=>
      simp only[hu,sd,ae]at he;by_cases uk:n'=n/\x9=dN
      ·obtain⟨rfl,rfl⟩:=uk;simp only[and_self,if_true]at he;cases bs:xs[i]? with
       |none=>simp[bs]at he
       |some q=>simp only[bs]at he;obtain⟨I,U,ao⟩:=he;rw[jE aw]at U hu;refine⟨⟨none,.junk,[],[(k,⟨n',el,x9,some (xs.set i (qG q f (cells (dJ A.t v))))⟩)],none⟩,_,⟨k,n',i,f,el,x9,xs,q,hu,by rw[<-aw.e];exact ae,bs,U,rfl⟩,ao,?_,h.n,rN _ _ _ _,h.o⟩;rw[jE aw];exact XO aw k _ _
      ·simp[uk]at he
   |_=>simp[hu,sd]at he
  |mkmap d key=>
   cases key with
   |none=>simp only[k9,eT,mR,false_and]at he
   |some m=>
    simp only[k9,eT,mR,qj]at he;obtain⟨⟨bB,I,U⟩,_,ao⟩:=he;rw[aw.b]at I;rw[aw.e]at U;refine⟨_,_,⟨⟨iK m bB I U,I,U⟩,rfl⟩,ao,BP aw d _ _ _ _ _ _,h.n,mr _ _ _ _ _,fun k ae=>?_⟩;rcases eU.1 ae with rfl|ae
    ·exact .inr (.inr ⟨m,bB,rfl⟩)
    ·exact h.o k ae
  |mput cj u k v=>
   simp only[k9,eT,mR]at he;cases hu:cy st.t u with
   |gmap m=>
    cases ad:look m st.b with
    |none=>simp[hu,ad]at he
    |some cs=>
     cases hm:ov cj (cy st.t k) (cy st.t v) cs with
     |none=>simp[hu,ad,hm]at he
     |some cs'=>simp only[hu,ad,hm]at he;rw[jE aw]at hu;rw[jE aw,jE aw]at hm;exact⟨⟨none,.junk,[(m,cs')],[],none⟩,_,⟨m,cs,cs',hu,by rw[<-aw.b];exact ad,hm,rfl⟩,he.2.2,IK aw m _ _,h.n,rN _ _ _ _,h.o⟩
   |_=>simp[hu]at he
  |range d key x=>simp only[k9,mR,false_and]at he;split at he<;>exact he.elim
 |next d x=>simp only[k9]at he
 |call d f xs=>
  simp only[k9]at he;cases aO:cy st.t f with
  |func n dv=>
   simp only[aO]at he;rw[jE aw]at aO;rcases he with⟨cQ,r,rfl,bY,cB,dE,kV⟩|⟨s,ai,r,rm,bY,cB,dE,kV,lG,oS,Df,adj,adk⟩
   ·rw[vu aw]at cB dE;have au:=h.n;subst au;refine⟨⟨some cQ,r,[],[],some (.loc (st.n+cQ))⟩,_,⟨n,dv,aO,.inr ⟨cQ,r,rfl,q1 cQ bY,cB,dE,rfl⟩⟩,kV,XP aw cQ r _ _,rfl,mr _ _ _ _ _,my cQ (aD cQ rfl)⟩
   rw[vu aw]at oS Df;obtain⟨aS,bh,bX,ed,dn⟩:=lG;refine⟨⟨d,r,ai.b,ai.e,rm⟩,_,⟨n,dv,aO,.inl ⟨⟨s,ai,r,rm,fun k cs ae=>⟨by rw[<-aw.b];exact(bY k cs ae).1,(bY k cs ae).2.2⟩,fun k o ae=>⟨by rw[<-aw.e];exact(cB k o ae).1,(cB k o ae).2.2⟩,dE,kV,⟨aS,bh,bX,ed,fun k ae=>?_⟩,oS,Df,rfl⟩,adj⟩⟩,adk,⟨fun i=>?_,fun k=>?_,fun k=>?_⟩,h.n,fun k ae ag=>⟨h.F k ae ag,fun rK=>?_⟩,h.o⟩
   ·obtain⟨⟨j,ag,rfl⟩,aE,bA,dr⟩:=dn k ae;rw[aw.b]at aE;rw[aw.e]at bA;exact⟨⟨j,rfl⟩,iK j ag aE bA,aE,bA,dr⟩
   ·simp only[after,dp.do];cases d with
    |none=>simpa[e6]using aw.t i
    |some d=>simp only[e6,kq,dD,aw.t]
   ·simp only[after,dp.do,jl,zw,wc];by_cases af:(look k s.b).isSome
    ·have:=bX k af;obtain⟨y,aB⟩:=fH.1 this;simp[af,aB]
    ·cases au:look k ai.b with
     |none=>simp only[af,aw.b];cases A.b k<;>simp
     |some y=>
      rcases aS k (by simp[au])with h|h
      ·exact absurd h af
      ·have:=dn k h;simp[af,this]
   ·simp only[after,dp.do,jl,zw,wc];by_cases af:(look k s.e).isSome
    ·have:=ed k af;obtain⟨y,aB⟩:=fH.1 this;simp[af,aB]
    ·cases au:look k ai.e with
     |none=>simp only[af,aw.e];cases A.e k<;>simp
     |some y=>
      rcases bh k (by simp[au])with h|h
      ·exact absurd h af
      ·have:=dn k h;simp[af,this]
   ·obtain⟨⟨j,j9,rfl⟩,_⟩:=dn k rK;exact ag j j9 rfl
  |_=>simp[aO]at he
def AQ(N:Nat):List dh->Bool
 |[]=>true
 |g::r=>j8 N g.i.dst&&AQ N r
def Ao:Nat->List dh->List (Nat×dh)
 |_,[]=>[]
 |k,g::r=>(k,g)::Ao (k+1) r
theorem Rt{nw:List Nat}{n0 N:Nat}{qB:List aM}{st:bt}{A:dp}(h:tO nw n0 N qB st A){s:Nat}{p:aj}(af:get s st.t=p):tO nw n0 N qB {st with t:=put s p st.t} A:=by
 refine⟨⟨fun i=>?_,h.like.b,h.like.e⟩,h.n,h.F,h.o⟩;simp only[kq];split
 ·rename_i e;subst e;rw[<-af];exact h.like.t _
 ·exact h.like.t i
theorem Ru{nw:List Nat}{n0 N:Nat}{qB:List aM}{st:bt}{A:dp}(h:tO nw n0 N qB st A)(d:Option Nat):tO nw n0 N qB {st with t:=e6 d (.tuple []) st.t} (A.do (mc d)):=by
 refine⟨⟨fun i=>?_,fun k=>?_,fun k=>?_⟩,h.n,fun k ae ag=>⟨h.F k ae ag,by simp[mc]⟩,h.o⟩
 ·simp only[dp.do,mc];cases d with
  |none=>simpa[e6]using h.like.t i
  |some d=>simp only[e6,kq,dD,h.like.t]
 ·simpa[dp.do,jl,look,mc]using h.like.b k
 ·simpa[dp.do,jl,look,mc]using h.like.e k
theorem Ds{P:cM}{q:Bool}{nw:List Nat}{n0 N:Nat}{qB:List aM}{K:bt->Prop}:∀(gs:List dh) (k:Nat),AQ N gs=true->∀(st:bt) (A:dp),tO nw n0 N qB st A->CY nw A->iy P q nw n0 gs st K->tZ P q n0 (fun gC=> ∃st',K st'/\tO nw n0 N qB st' gC) (Ao k gs) A
 |[],k,_,st,A,h,_,he=>⟨st,he,h⟩
 |⟨n4,i⟩::r,k,aD,st,A,h,iK,he=>by
  simp only[AQ,cv]at aD;have uq:∀d,i.dst=some d->d<N:=fun d e=>by have:=aD.1;rw[e]at this;simpa[j8]using this
  simp only[Ao,tZ];cases n4 with
  |none=>simp only[iy]at he;obtain⟨x,st',I,U,ao⟩:=UB uq h iK he;have aT:lD P q n0 ⟨none,i⟩ A x:=I;exact⟨x,aT,Ds r (k+1) aD.2 st' _ ao (iK.do aT) U⟩
  |some Ac=>
   obtain⟨s,want⟩:=Ac;simp only[iy]at he;split at he
   ·rename_i b ad;by_cases e:b=want
    ·subst e;obtain⟨x,st',I,U,ao⟩:=UB uq (Rt h ad) iK (he.1 rfl);have aT:lD P q n0 ⟨some (s,b),i⟩ A x:=by unfold lD;simp only[<-h.like.t,ad];exact .inl ⟨trivial,I⟩
     exact⟨x,aT,Ds r (k+1) aD.2 st' _ ao (iK.do aT) U⟩
    ·have gn:b= !want:=by cases b<;>cases want<;>simp at e⊢
     subst gn;have aT:lD P q n0 ⟨some (s,want),i⟩ A (mc i.dst):=by unfold lD;simp only[<-h.like.t,ad];exact .inr ⟨trivial,trivial⟩
     exact⟨mc i.dst,aT,Ds r (k+1) aD.2 _ _ (Ru (Rt h ad) i.dst) (iK.do aT) (he.2 rfl)⟩
   ·rename_i ad;have aT:lD P q n0 ⟨some (s,want),i⟩ A (mc i.dst):=by unfold lD;simp only[<-h.like.t,ad]
    exact⟨mc i.dst,aT,Ds r (k+1) aD.2 _ _ (Ru h i.dst) (iK.do aT) he⟩
   ·exact he.elim
theorem PI:∀(gs:List dh) (l:Array Bool) (k:Nat),(∀j,l.getD j false=false)->rem l k gs=Ao k gs
 |[],_,_,_=>rfl
 |g::r,l,k,h=>by simp only[rem,h k,Ao,PI r l (k+1) h];simp
def vd(n:Nat)(o:List aM)(K:bt->Prop)(st:bt):Prop:=K {st with n:=n,o:=o}
theorem Good.like{pr:Nat->Prop}{w:World}{Z:bg}{b b3:List (aM×List aj)}{e fJ:List (aM×fU)}(h:Good pr w Z b e)(ad:∀k,look k b3=look k b)(he:∀k,look k fJ=look k e):Good pr w Z b3 fJ:=
 ⟨h.alt,fun k cs ae=>h.box k cs (by rw[<-ad];exact ae),fun k bJ bl I U=>h.inj k bJ bl (by rw[<-ad];exact I) (by rw[<-ad];exact U),fun g o aT=>h.own g o (by rw[<-he];exact aT),
  fun g fj n n' v v' bl I U=>h.oinj g fj n n' v v' bl (by rw[<-he];exact I) (by rw[<-he];exact U),fun g k n v bl I U=>h.obx g k n v bl (by rw[<-he];exact I) (by rw[<-ad];exact U),h.one,
  fun bl aC=>h.otr bl (aC.imp (fun⟨k,bF,a2⟩=>⟨k,by rw[<-ad];exact bF,a2⟩) (fun⟨g,n,v,bF,a2⟩=>⟨g,n,v,by rw[<-he];exact bF,a2⟩))⟩
theorem UD{P:cM}(hm:P.follows .mixedOrders=true){bH:List (Nat×dG)}(aC:fX P bH=true){C:fv}{q:Bool}{nw:List Nat}{id:Nat}{ops:Array Oper}{gs:List dh}(kF:lb C.N bH ops.toList gs ops.toList=true)(HD:C6 gs ops.toList=true)(jG:AQ C.N gs=true)
  {K:bt->Prop} {Q:Exit->Act->World->Prop} (iL:∀st' bq w' bo,K st'->c7 C st' bq w' bo->Q .normal bq w') {st:bt} {a:Act} {w:World} {Z:bg} (ajk:∀j∈nw,.obj j∉st.o) (he:iy P q nw st.n gs st (vd (st.n+C.N) (nw.map aM.obj++st.o) K)) (aN:c7 C st a w Z):(Code.region id ops true).wp P Q a w:=by
 refine wp_region_any hm ?_;have dq:c7 C st a {w with drawn:=w.drawn+1} Z:=aN.drawn _;let A:dp:=⟨fun i=>get i st.t,fun k=>look k st.b,fun k=>look k st.e,fresh st.n st.o⟩
 have mS:tO nw st.n C.N st.o st A:=⟨⟨fun _=>rfl,fun _=>rfl,fun _=>rfl⟩,rfl,fun k ae _=>ae,fun k ae=>.inl ae⟩;have um:=Ds gs 0 jG st A mS (fun j ag _ _=>⟨trivial,ajk j ag⟩) he;have pK:∀j,(Array.replicate ops.size false).getD j false=false:=fun j=>by simp[Array.getD_eq_getD_getElem?,Array.getElem?_replicate];split<;>rfl
 refine acU aC kF HD (q:=q) (n0:=st.n) (K:=fun gC=> ∃st',vd (st.n+C.N) (nw.map aM.obj++st.o) K st'/\tO nw st.n C.N st.o st' gC) ?_ ops.size _ A a _ Ψ ?_ ?_ (by rw[PI gs _ 0 pK];exact um) ⟨st,Z,mS.like,fun k ae=>ae,dq⟩
 ·rintro gC bq w' ⟨st',ae,bk⟩ ⟨avL,bo,oY,xf,nE⟩;refine iL _ bq w' bo ae ⟨nE.good.like (fun k=>by rw[oY.b,<-bk.like.b]) (fun k=>by rw[oY.e,<-bk.like.e]),nE.fr,nE.defers,nE.size,fun i=>?_,fun k xo=>?_⟩
  ·have:=nE.slot i;rw[oY.t,<-bk.like.t]at this;exact this
  ·refine nE.new k (xf k (bk.F k ?_ fun j ag e=>xo.2 (by subst e;exact List.mem_append_left _ (List.mem_map_of_mem ag))));simp only at xo;refine⟨(Me (Nat.le_add_right st.n C.N) (fun _ h=>h) xo).1,fun h0=>?_⟩;rcases bk.o k h0 with h|⟨d,aD,rfl⟩|⟨j,ag,rfl⟩;rotate_left 2
   ·exact xo.2 (List.mem_append_left _ (List.mem_map_of_mem ag))
   ·exact xo.2 (List.mem_append_right _ h)
   ·have:=xo.1;simp at this;omega
 ·intro k o ae aw;rw[pK]at aw;cases aw
 ·rw[PI gs _ 0 pK];have:∀(gs:List dh) k,(Ao k gs).length=gs.length:=by
   intro gs;induction gs with
   |nil=>intro k;rfl
   |cons g r bK=>intro k;simp[Ao,bK]
  rw[this];have:=Mr kF;simp at this;omega
def gE:List aj->Prop
 |[]=>True
 |p::cC=>(match p with| .slice _ _ xs=>xs.length<=lim| .str s=>s.length<=lim|_=>True)/\gE cC
def gj:aj->Prop
 | .slice _ _ xs=>xs.length<=lim
 | .str s=>s.length<=lim
 | .agg cs=>gE cs
 |_=>True
def gO:List aj->Prop
 |[]=>True
 |p::r=>gj p/\gO r
theorem PM{w:World}{Z:bg}:∀{cs:List aj} {us:List Value},dt w Z cs us->gE cs
 |[],_,_=>trivial
 |c::cs,us,h=>by
  simp only[dt]at h;obtain⟨u,ck,_,I,U⟩:=h;refine⟨?_,PM U⟩;cases c<;>simp only<;>have ao:=I.1<;>simp only[be]at ao
  ·exact ao.2
  ·obtain⟨⟨a,cap,_,_,a7,_⟩,_⟩:=ao;exact a7.2
theorem aag{w:World}{Z:bg}{cs:List aj}{us:List Value}(h:j3 w Z cs us):iq cs=true->gE cs:=fun bG=>by rw[wz bG]at h;exact PM h
theorem aar{w:World}{Z:bg}{p:aj}{v:Value}(h:be w Z p v):gj p:=by
 cases p<;>simp only[gj]<;>simp only[be]at h
 ·exact h.2
 ·obtain⟨⟨a,cap,_,_,a7,_⟩,_⟩:=h;exact a7.2
 ·obtain⟨us,_,U⟩:=h;exact PM U
theorem PO{w:World}{Z:bg}:∀{cs:List aj} {us:List Value},cZ w Z cs us->gO cs
 |[],_,_=>trivial
 |c::cs,us,h=>by simp only[cZ]at h;obtain⟨u,ck,_,I,U⟩:=h;exact⟨aar I,PO U⟩
inductive C where
 |skip
 |region (gs:List dh)
 |drawn (q:Bool) (N:Nat) (gs:List dh)
 |drawnW (nw:List Nat) (N:Nat) (gs:List dh)
 |seq (a b:C)
 |cond (x:dA) (t e:C)
 |block (id:Nat) (c:C)
 |loop (c:C)
 |exit (id:Nat)
 |ret
 |pub (s:Nat) (c:C)
 |pubB (s:Nat) (c:C)
 |fg (qw:Bool) (s:Nat) (c:C)
 |fz (agg:Bool) (s:Nat) (c:C)
 |no
def Ff(st:bt):aj->Option (aj×List (aM×fU))
 | .row sz k n=>match look k st.e with
  |some ⟨n',el,dN,some xs⟩=>if n'=n/\dN=sz then some (.slice sz (.own k) xs,cI k ⟨n,el,sz,none⟩ st.e)else none
  |_=>none
 |_=>none
def xW(st:bt)(s:Nat):Option bt:=
 match Ff st (get s st.t)with
 |some (p,e)=>some {st with t:=put s p st.t,e:=e}
 |none=>none
def xV(st:bt)(s:Nat):Option bt:=
 match get (s%1000) st.t with
 | .ptr k off=>match look k st.b with
  |some cs=>match cs[off+s/1000]? with
   |some p=>match Ff st p with
    |some (Cd,e)=>if iq cs then some {st with b:=cI k (cs.set (off+s/1000) Cd) st.b,e:=e}else none
    |none=>none
   |none=>none
  |none=>none
 |_=>none
theorem PH{C:fv}{st:bt}{a:Act}{w:World}{Z:bg}(h:c7 C st a w Z){s:Nat}{p:aj}(af:be w Z p (a.tmps.getD s undef)):c7 C {st with t:=put s p st.t} a w Z:=by
 refine⟨h.good,h.fr,h.defers,h.size,fun i=>?_,h.new⟩;have:=h.slot i;simp only[kq];split
 ·rename_i e;subst e;exact af
 ·exact this
theorem Zd{C:fv}{st:bt}{a:Act}{w:World}{Z:bg}(h:c7 C st a w Z){p Cd:aj}{e:List (aM×fU)}{v:Value}(bG:be w Z p v)(he:Ff st p=some (Cd,e)):
  ∃bo,c7 C {st with e:=e} a w bo/\be w bo Cd v/\mj w Z w bo:=by
 unfold Ff at he;split at he
 ·rename_i sz k n;split at he
  ·rename_i n' el dN xs ae;split at he
   ·rename_i aq;obtain⟨rfl,rfl⟩:=aq;cases he;simp only[be]at bG;obtain⟨_,aw,n0,u,I,U,ao⟩:=bG;obtain⟨v0,fS,aW,bj,bM,cL⟩:=h.good.own k _ ae;rw[I]at aW;simp only[dD,kl]at aW;obtain⟨rfl,rfl⟩:=aW;have az:v=u:=ao rfl;subst az;obtain⟨c2,_,_⟩:=cL xs rfl;simp only at c2;obtain⟨g1,g2⟩:=h.publish ae rfl I (by rw[c2];exact aw);refine⟨_,g1,g2,⟨fun b o bm=>⟨.inl bm,rfl⟩,fun j b _ ag=>ag,fun g n u _ jH=>⟨n,u,?_,.inl ⟨rfl,rfl⟩⟩,fun _ _ _=>rfl,fun _ _ _ _ h=>h⟩⟩;simp only[bg.withRowOf];split
    ·rename_i e;subst e;rw[I]at jH;exact jH
    ·exact jH
   ·cases he
  ·cases he
 ·cases he
def AX(qw:Bool):aj->aj
 | .slice sz tag xs=>.slice sz (if qw then tag else .no) (du xs)
 |p=>ej p
theorem agJ{w:World}{Z:bg}{qw:Bool}{p:aj}{v:Value}(h:be w Z p v):be w Z (AX qw p) v:=by
 have I:=lR p v h;cases p with
 |slice sz tag xs=>
  simp only[AX];cases qw with
  |false=>simpa only[hk,if_false,ej]using I
  |true=>
   simp only[if_true];simp only[be,ej]at h I⊢;refine⟨I.1,fun e=>h.2.1 e,fun g e=>?_,fun k j e=>?_,fun k e=>?_⟩
   ·obtain⟨n,u,ar,aE,bA⟩:=h.2.2.1 g e;exact⟨n,u,ar,by rw[tE];exact aE,by rw[tE];exact bA⟩
   ·exact Vg _ _ (h.2.2.2.1 k j e)
   ·exact Vg _ _ (h.2.2.2.2 k e)
 |_=>exact I
theorem anZ{C:fv}{st st':bt}{a:Act}{w:World}{Z:bg}(h:c7 C st a w Z){s:Nat}(he:xW st s=some st'):∃bo,c7 C st' a w bo:=by
 unfold xW at he;split at he
 ·rename_i p e bG;cases he;obtain⟨bo,I,U,_⟩:=Zd h (h.slot s) bG;exact⟨_,PH I U⟩
 ·cases he
theorem aan{w:World}{Z:bg}:∀{cs:List aj} {us:List Value} {i:Nat} {p q:aj} {v:Value},dt w Z cs us->cs[i]? =some p->us[i]? =some v->be w Z q v->dt w Z (cs.set i q) us
 |[],_,_,_,_,_,_,h,_,_=>by simp at h
 |c::cs,us,0,p,q,v,h,_,az,bs=>by simp only[dt]at h;obtain⟨u,ck,rfl,I,U⟩:=h;simp only[List.getElem?_cons_zero,dD]at az;subst az;simp only[List.set_cons_zero,dt];exact⟨_,_,rfl,⟨bs,I.2⟩,U⟩
 |c::cs,us,i+1,p,q,v,h,bG,az,bs=>by simp only[dt]at h;obtain⟨u,ck,rfl,I,U⟩:=h;simp only[List.set_cons_succ,dt];exact⟨_,_,rfl,I,aan U (by simpa using bG) (by simpa using az) bs⟩
theorem anY{C:fv}{st st':bt}{a:Act}{w:World}{Z:bg}(h:c7 C st a w Z){s:Nat}(he:xV st s=some st'):∃bo,c7 C st' a w bo:=by
 unfold xV at he;split at he
 ·rename_i k alM ae;generalize alM+s/1000=off at he;split at he
  ·rename_i cs dj;split at he
   ·rename_i p bG;split at he
    ·rename_i Cd e H3;split at he
     ·rename_i uB;cases he;obtain⟨bl,us,el,g1,g2,g3,g4,g5⟩:=h.good.box k cs dj;rw[wz uB]at g5;have bD:off<us.toList.length:=by rw[qE g5];exact(fG.1 bG).1
      obtain⟨v,az⟩:∃v,us.toList[off]? =some v:=⟨_,cm bD⟩;have Bs:be w Z p v:=by have:=Cx off g5;rw[lA (fG.1 bG).1,lA bD]at this;simp only[dt]at this;obtain⟨u,ck,ar,aE,_⟩:=this;rw[(fG.1 bG).2]at aE;rw[(fG.1 az).2]at ar;cases ar;exact aE.1
      obtain⟨bo,I,U,ao⟩:=Zd h Bs H3;have xy:dt w bo (cs.set off Cd) us.toList:=aan (aam ao g5) bG az U;have Wx:=Cz xy;refine⟨bo,⟨I.good.alt,fun j e4 ag=>?_,fun j dL b ag j9=>I.good.inj j dL b ?_ ?_,I.good.own,I.good.oinj,fun g j n v b aT ag=>I.good.obx g j n v b aT ?_,I.good.one,fun bl ad=>I.good.otr bl (ad.imp (fun⟨bJ,bF,a2⟩=>⟨bJ,by rw[jL]at bF;split at bF;(rename_i e;subst e;simp[dj]);exact bF,a2⟩) id)⟩,I.fr,I.defers,I.size,I.slot,I.new⟩
      ·simp only at ag;rw[jL]at ag;split at ag
       ·rename_i e;subst e;cases ag;obtain⟨jk,ck,gl,f1,f2,f3,f4,f5⟩:=I.good.box k cs dj;have:jk=bl:=by have:=ao.bx k bl trivial g1;rw[this]at f1;cases f1;rfl
        subst this;rw[wy uB]at g4 f4;rw[g4]at f4;injection f4 with f4;injection f4 with f4 f6 f7;refine⟨jk,us,el,f1,f2,f3,by rw[wy Wx];exact g4,by rw[wz Wx];exact xy⟩
       ·exact I.good.box j e4 ag
      ·simp only at ag;rw[jL]at ag;split at ag
       ·rename_i e;subst e;simp[dj]
       ·exact ag
      ·simp only at j9;rw[jL]at j9;split at j9
       ·rename_i e;subst e;simp[dj]
       ·exact j9
      ·simp only at ag;rw[jL]at ag;split at ag
       ·rename_i e;subst e;simp[dj]
       ·exact ag
     ·cases he
    ·cases he
   ·cases he
  ·cases he
 ·cases he
def ub{α:Type}(k:aM)(l:List (aM×α)):List (aM×α):=match l with
 |[]=>[]
 |(i,x)::r=>if i=k then ub k r else(i,x)::ub k r
theorem N5{α:Type}(k j:aM):∀l:List (aM×α),look j (ub k l)=if j=k then none else look j l
 |[]=>by simp[ub,look]
 |(i,x)::r=>by
  simp only[ub];by_cases h:i=k
  ·subst h;rw[if_pos rfl,N5 i j r];by_cases U:j=i
   ·simp[U]
   ·have:¬i=j:=fun e=>U e.symm;simp[look,U,this]
  ·rw[if_neg h];simp only[look];by_cases U:i=j
   ·subst U;simp[h]
   ·simp only[U,if_false];exact N5 k j r
def Mh(agg:Bool):List aj->Option aj
 |[p]=>if agg then some (.agg [p])else some p
 |cs=>if agg then some (.agg cs)else none
def w9(st:bt)(agg:Bool)(s:Nat):Option bt:=
 match get s st.t with
 | .ptr k 0=>match look k st.b with
  |some cs=>if iq cs then match Mh agg cs with
    |some x=>some {st with t:=put s (.eptr x) st.t,b:=ub k st.b}
    |none=>none
   else none
  |none=>none
 |_=>none
theorem anK{u:Value}(h:u.oneCell'=true):u.cells.toList=[u]:=by cases u<;>first|rfl|(simp[Value.oneCell']at h)
theorem XH{w:World}{A:Nat->Nat->Prop}{b:Nat}{us:Array Value}{el:hl}(ad:w.heap[b]? =some (.cells us el))(bm:∀o,o<us.size->A b o):∀(bc:List Value) (off:Nat),us.toList.drop off=bc->mE w A b off bc
 |[],_,_=>trivial
 |v::bc,off,h=>by
  have bD:off<us.toList.length:=by
   rcases Nat.lt_or_ge off us.toList.length with I|I
   ·exact I
   ·rw[List.drop_eq_nil_of_le I]at h;cases h
  have U:=lA bD;rw[h]at U;injection U with U ao;refine⟨⟨bm off (by simpa using bD),?_⟩,XH ad bm bc (off+1) ao.symm⟩;have xt:off<us.size:=by simpa using bD
  simp only[World.cell?,ad,je,hk,if_false];rw[U];simp[xt]
theorem ag2{C:fv}{st st':bt}{a:Act}{w:World}{Z:bg}(h:c7 C st a w Z){agg:Bool}{s:Nat}(he:w9 st agg s=some st'):∃bo,c7 C st' a w bo:=by
 unfold w9 at he;split at he
 ·rename_i k ae;split at he
  ·rename_i cs dj;split at he
   ·rename_i uB;split at he
    ·rename_i x ab;cases he;obtain⟨bl,us,el,g1,g2,g3,g4,g5⟩:=h.good.box k cs dj;rw[wz uB]at g5;rw[wy uB]at g4;have bD:bl<w.heap.size:=by
      rcases Nat.lt_or_ge bl w.heap.size with I|I
      ·exact I
      ·rw[Array.getElem?_eq_none I]at g4;cases g4
     let bo:bg:={Z with A:=fun b o=>Z.A b o\/(b=bl/\o<us.size)}
     have ax:mj w Z w bo:=⟨fun b o bm=>⟨.inl bm,rfl⟩,fun j b _ ag=>ag,fun g n u _ jH=>⟨n,u,jH,.inl ⟨rfl,rfl⟩⟩,fun _ _ _=>rfl,fun _ _ _ _ h=>h⟩;have ia:∀j e4,look j (ub k st.b)=some e4->j≠k/\look j st.b=some e4:=fun j e4 ag=>by
      rw[N5]at ag;split at ag
      ·cases ag
      ·rename_i e;exact⟨e,ag⟩
     have HT:∀j,(look j (ub k st.b)).isSome->(look j st.b).isSome:=fun j ag=>by obtain⟨e4,jG⟩:=fH.1 ag;simp[(ia j e4 jG).2]
     have qZ:∀(g:aM) (n:Nat) (v:Value),(look g st.e).isSome->Z.ow g=some (n,v)->v.ownBlock=some bl->eI:=fun g n v I U ao=>h.good.obx g k n v bl I (by simp[dj]) U ao g1;have oj:be w bo (.eptr x) (a.tmps.getD s undef):=by
      have af:=h.slot s;rw[ae]at af;simp only[be]at af⊢;obtain⟨b3,aW,bj⟩:=af;rw[g1]at aW;cases aW;have aw:mE w bo.A bl 0 us.toList:=XH g4 (fun o ax=>.inr ⟨rfl,ax⟩) _ 0 rfl;have g6:dt w bo cs us.toList:=aam ax g5;unfold Mh at ab;split at ab
      ·rename_i p;simp only[dt]at g6;obtain⟨u,ck,ar,aE,bA⟩:=g6;subst bA;split at ab
       ·cases ab;exact⟨bl,0,.agg us,bj,by simp only[be];exact⟨us,rfl,by rw[ar];simp only[dt];exact⟨u,[],rfl,aE,rfl⟩⟩,by simpa[p5]using aw⟩
       ·cases ab;refine⟨bl,0,u,bj,aE.1,?_⟩;rw[anK aE.2,<-ar];exact aw
      ·split at ab
       ·cases ab;exact⟨bl,0,.agg us,bj,by simp only[be];exact⟨us,rfl,g6⟩,by simpa[p5]using aw⟩
       ·cases ab
     refine⟨bo,PH (Z:=bo) (st:={st with b:=ub k st.b}) ⟨⟨fun b o bm=>?_,fun j e4 ag=>?_,fun j dL b I U=>h.good.inj j dL b (HT j I) (HT dL U),fun g o aT=>?_,h.good.oinj,fun g j n v b I U=>h.good.obx g j n v b I (HT j U),h.good.one,fun b aC=>h.good.otr b (aC.imp (fun⟨j,bF,a2⟩=>⟨j,HT j bF,a2⟩) id)⟩,⟨h.fr.os,h.fr.tape,h.fr.output,h.fr.size,h.fr.block,fun b o bm=>⟨.inl (h.fr.keep b o bm).1,(h.fr.keep b o bm).2⟩,fun b o bm=>?_,h.fr.obj,h.fr.obn,h.fr.row,h.fr.obr,h.fr.trd,h.fr.trb,h.fr.trn,h.fr.sh⟩,h.defers,h.size,fun i=>zV ax (h.slot i),h.new⟩ oj⟩
     ·rcases bm with bm|⟨rfl,_⟩
      ·exact h.good.alt b o bm
      ·exact bD
     ·obtain⟨cG,j9⟩:=ia j e4 ag;obtain⟨jk,ck,gl,f1,f2,f3,f4,f5⟩:=h.good.box j e4 j9;refine⟨jk,ck,gl,f1,f2,fun o bm=>?_,f4,rj ax f5⟩;rcases bm with bm|⟨rfl,_⟩
      ·exact f3 o bm
      ·exact cG (h.good.inj j k _ (by simp[j9]) (by simp[dj]) f1 g1)
     ·obtain⟨v0,fS,ar,aE,bA,dr⟩:=h.good.own g o aT;have xd:∀b,v0.ownBlock=some b->∀j,bo.A b j->Z.A b j:=fun b ad j bm=>by
       rcases bm with bm|⟨rfl,_⟩
       ·exact bm
       ·exact(qZ g _ v0 (by simp[aT]) ar ad).elim
      exact⟨v0,fS,ar,aE,fun b ad=>⟨(bA b ad).1,fun j bm=>(bA b ad).2 j (xd b ad j bm)⟩,tw ax xd dr⟩
     ·rcases bm with bm|⟨rfl,_⟩
      ·exact h.fr.fresh b o bm
      ·exact .inr g2
    ·cases he
   ·cases he
  ·cases he
 ·cases he
def tv(st:bt)(x:dA)(b:Bool):bt:=match x with
 | .t i=>{st with t:=put i (.bool b) st.t}
 | .c _=>st
def dd(P:cM)(ob:List aM):C->(Exit->bt->Prop)->bt->Prop
 | .skip,Q,st=>Q .normal st
 | .region gs,Q,st=>iI P gs st (Q .normal)
 | .drawn q N gs,Q,st=>iy P q [] st.n gs st (vd (st.n+N) st.o (Q .normal))
 | .drawnW nw N gs,Q,st=>(∀j∈nw,.obj j∉st.o)/\iy P false nw st.n gs st (vd (st.n+N) (nw.map aM.obj++st.o) (Q .normal))
 | .seq a b,Q,st=>dd P ob a (fun e st'=>match e with| .normal=>dd P ob b Q st'|e=>Q e st') st
 | .cond x t e,Q,st=>match cy st.t x with
  | .bool b=>(b=true->dd P ob t Q (tv st x true))/\(b=false->dd P ob e Q (tv st x false))
  |_=>eI
 | .block id c,Q,st=>dd P ob c (fun e st'=>match e with| .exit j=>if j=id then Q .normal st' else Q (.exit j) st'|e=>Q e st') st
 | .loop c,Q,st=> ∃(hF:Nat->bt->Prop) (m:Nat) (x6:bt),jD ob st x6/\hF m x6/\
   ∀k s,hF k s->(∀i,gj (get i s.t))->(∀j cs,look j s.b=some cs->iq cs=true->gE cs)->dd P ob c (fun e ai=>match e with| .normal=> ∃bJ pX,bJ<k/\jD ob ai pX/\hF bJ pX|e=>Q e ai) s
 | .exit id,Q,st=>Q (.exit id) st
 | .ret,Q,st=>Q .ret st
 | .pub s c,Q,st=>match xW st s with
  |some st'=>dd P ob c Q st'
  |none=>eI
 | .pubB s c,Q,st=>match xV st s with
  |some st'=>dd P ob c Q st'
  |none=>eI
 | .fg qw s c,Q,st=>dd P ob c Q {st with t:=put s (AX qw (get s st.t)) st.t}
 | .fz gN s c,Q,st=>match w9 st gN s with
  |some st'=>dd P ob c Q st'
  |none=>eI
 | .no,_,_=>eI
def h4(N:Nat)(bH:List (Nat×dG)):C->Code->Bool
 | .skip,.skip=>true
 | .region gs,.region _ ops false=>lb N bH ops.toList gs ops.toList
 | .drawn _ N' gs,.region _ ops true=>N'==N&&lb N bH ops.toList gs ops.toList&&C6 gs ops.toList&&AQ N gs
 | .drawnW _ N' gs,.region _ ops true=>N'==N&&lb N bH ops.toList gs ops.toList&&C6 gs ops.toList&&AQ N gs
 | .seq a b,.seq x y=>h4 N bH a x&&h4 N bH b y
 | .cond x t e,.cond o dH fJ=>ey x o&&h4 N bH t dH&&h4 N bH e fJ
 | .block id c,.block Eo cr=>id==Eo&&h4 N bH c cr
 | .loop c,.loop cr=>h4 N bH c cr
 | .exit id,.exit Eo=>id==Eo
 | .ret,.ret=>true
 | .pub _ c,cr=>h4 N bH c cr
 | .pubB _ c,cr=>h4 N bH c cr
 | .fg _ _ c,cr=>h4 N bH c cr
 | .fz _ _ c,cr=>h4 N bH c cr
 | .no,_=>true
 |_,_=>false
theorem VC{N:Nat}{bH:List (Nat×dG)}{ops:List Oper}:∀{gs:List dh} {os:List Oper},lb N bH ops gs os=true->gs.length=os.length
 |[],[],_=>rfl
 |[],_::_,h=>by simp[lb]at h
 |_::_,[],h=>by simp[lb]at h
 |g::gs,o::os,h=>by simp only[lb,cv]at h;simp[VC h.2]
def ack(P:cM)(C:fv)(c:Code)(Q:Exit->bt->Prop)(st:bt):Prop:= ∀a w Z,c7 C st a w Z->c.wp P (fun e bq w'=> ∃st' bo,Q e st'/\c7 C st' bq w' bo) a w
theorem rL{P:cM}(hm:P.follows .mixedOrders=true){bH:List (Nat×dG)}(aC:fX P bH=true){X:fv}:∀(c:C) (code:Code) (Q:Exit->bt->Prop) (st:bt),h4 X.N bH c code=true->dd P X.ob c Q st->ack P X code Q st
 | .skip,code,Q,st,ax,he=>by
  cases code<;>simp only[h4]at ax<;>try cases ax
  intro a w Z aN;exact wp_skip ⟨st,Z,he,aN⟩
 | .region gs,code,Q,st,ax,he=>by
  cases code<;>try(simp[h4]at ax;done)
  rename_i id ops draw;cases draw<;>simp only[h4]at ax
  ·intro a w Z aN;refine wp_region ?_;have aw:gs.length=ops.size:=by simpa using VC ax
   rw[List.range_eq_range',<-aw];exact UE aC (K:=Q .normal) (fun st' bq w' bo I U=>⟨st',bo,I,U⟩) gs ops.toList 0 Ψ ax st a w Z he aN
  ·cases ax
 | .drawn q N gs,code,Q,st,ax,he=>by
  cases code<;>try(simp[h4]at ax;done)
  rename_i id ops draw;cases draw<;>simp only[h4]at ax
  ·cases ax
  ·simp only[cv,dO]at ax;obtain⟨⟨⟨rfl,I⟩,U⟩,ao⟩:=ax;intro a w Z aN;exact UD hm aC I U ao (nw:=[]) (K:=Q .normal) (fun st' bq w' bo I U=>⟨st',bo,I,U⟩) Ψ he aN
 | .drawnW nw N gs,code,Q,st,ax,he=>by
  cases code<;>try(simp[h4]at ax;done)
  rename_i id ops draw;cases draw<;>simp only[h4]at ax
  ·cases ax
  ·simp only[cv,dO]at ax;obtain⟨⟨⟨rfl,I⟩,U⟩,ao⟩:=ax;intro a w Z aN;exact UD hm aC I U ao (nw:=nw) (K:=Q .normal) (fun st' bq w' bo I U=>⟨st',bo,I,U⟩) he.1 he.2 aN
 | .seq x y,code,Q,st,ax,he=>by
  cases code<;>try(simp[h4]at ax;done)
  rename_i qh mn;simp only[h4,cv]at ax;intro a w Z aN;refine wp_seq ?_;have I:=rL hm aC x qh _ st ax.1 he a w Z aN;refine wp_mono I fun e bq w' cA=>?_;obtain⟨st',bo,bs,dq⟩:=cA;cases e with
  |normal=>exact rL hm aC y mn Q st' ax.2 bs bq w' bo dq
  |_=>exact⟨st',bo,bs,dq⟩
 | .cond x t e,code,Q,st,ax,he=>by
  cases code<;>try(simp[h4]at ax;done)
  rename_i o adx ce;simp only[h4,cv]at ax;intro a w Z aN;simp only[dd]at he;have ab:=ez aN ax.1.1;split at he
  ·rename_i b ad;rw[ad]at ab;simp only[be]at ab;have Eg:c7 X (tv st x b) a w Z:=by
    unfold tv;split
    ·exact PG aN (by simpa[cy]using ad)
    ·exact aN
   refine wp_cond ab ?_;cases b
   ·exact rL hm aC e ce Q _ ax.2 (he.2 rfl) a w Z Eg
   ·exact rL hm aC t adx Q _ ax.1.2 (he.1 rfl) a w Z Eg
  ·exact he.elim
 | .block id c,code,Q,st,ax,he=>by
  cases code<;>try(simp[h4]at ax;done)
  rename_i Eo cr;simp only[h4,cv,dO]at ax;obtain⟨rfl,ax⟩:=ax;intro a w Z aN;refine wp_block ?_;refine wp_mono (rL hm aC c cr _ st ax he a w Z aN) fun e bq w' cA=>?_;obtain⟨st',bo,bs,dq⟩:=cA;cases e with
  |exit j=>
   simp only[Exit.inBlock]at bs⊢;by_cases ag:j=id
   ·rw[if_pos ag]at bs⊢;exact⟨st',bo,bs,dq⟩
   ·rw[if_neg ag]at bs⊢;exact⟨st',bo,bs,dq⟩
  |_=>exact⟨st',bo,bs,dq⟩
 | .loop c,code,Q,st,ax,he=>by
  cases code<;>try(simp[h4]at ax;done)
  rename_i cr;simp only[h4]at ax;intro a w Z aN;simp only[dd]at he;obtain⟨hF,m,x6,hw,hi,ku⟩:=he;refine wp_loop_ghost (fun k a w=> ∃s Z,hF k s/\c7 X s a w Z) m ⟨x6,_,hi,aN.weaker hw⟩ ?_;intro k a w Mx;obtain⟨s,Z,af,Bt⟩:=Mx;have I:=ku k s af (fun i=>aar (Bt.slot i)) (fun j cs ag=>by obtain⟨bl,us,el,_,_,_,_,g5⟩:=Bt.good.box j cs ag;exact aag g5);refine wp_mono (rL hm aC c cr _ s ax I a w Z Bt) fun e bq w' cA=>?_;obtain⟨st',bo,bs,dq⟩:=cA;cases e with
  |normal=>obtain⟨bJ,pX,ar,aE,bA⟩:=bs;exact⟨bJ,ar,pX,_,bA,dq.weaker aE⟩
  |_=>exact⟨st',bo,bs,dq⟩
 | .exit id,code,Q,st,ax,he=>by
  cases code<;>try(simp[h4]at ax;done)
  rename_i Eo;simp only[h4,dO]at ax;subst ax;intro a w Z aN;exact wp_exit ⟨st,Z,he,aN⟩
 | .ret,code,Q,st,ax,he=>by
  cases code<;>try(simp[h4]at ax;done)
  intro a w Z aN;exact wp_ret ⟨st,Z,he,aN⟩
 | .pub s c,code,Q,st,ax,he=>by
  simp only[h4]at ax;simp only[dd]at he;split at he
  ·rename_i st' af;intro a w Z aN;obtain⟨bo,I⟩:=anZ aN af;exact rL hm aC c code Q st' ax he a w bo I
  ·exact he.elim
 | .pubB s c,code,Q,st,ax,he=>by
  simp only[h4]at ax;simp only[dd]at he;split at he
  ·rename_i st' af;intro a w Z aN;obtain⟨bo,I⟩:=anY aN af;exact rL hm aC c code Q st' ax he a w bo I
  ·exact he.elim
 | .fg qw s c,code,Q,st,ax,he=>by simp only[h4]at ax;simp only[dd]at he;intro a w Z aN;exact rL hm aC c code Q _ ax he a w Z (PH aN (agJ (aN.slot s)))
 | .fz gN s c,code,Q,st,ax,he=>by
  simp only[h4]at ax;simp only[dd]at he;intro a w Z aN;split at he
  ·rename_i st' da;obtain⟨bo,I⟩:=ag2 aN da;exact rL hm aC c code Q st' ax he a w bo I
  ·exact he.elim
 | .no,code,Q,st,ax,he=>by simp only[dd]at he
inductive bW where
 |tmp (i:Nat)
 |cell (i:Nat) (agg:Bool) (sz:Nat)
def a6(st:bt):bW->Option (Prop×aj)
 | .tmp i=>some (True,get i st.t)
 | .cell i agg sz=>nL st.b st.e agg sz (get i st.t)
def aY(st:bt):List bW->Option (Prop×List aj)
 |[]=>some (True,[])
 |r::eX=>match a6 st r,aY st eX with
  |some (c,p),some (cr,cC)=>some (c/\cr,p::cC)
  |_,_=>none
def r7(bH:List (Nat×dG)):List bW->List ResultVar->Bool
 |[],[]=>true
 | .tmp i::eX,.tmp j::os=>i==j&&r7 bH eX os
 | .cell i agg sz::eX,.cell j t::os=>i==j&&(match er bH t with|some f=>f.size==sz&&f.kind.isAgg==agg|none=>false)&&r7 bH eX os
 |_,_=>false
def aX:List aj->aj
 |[p]=>p
 |cC=>.tuple cC
def JV(tmps:Array Value):ResultVar->Sem Value
 | .tmp t=>pure (tmps.getD t undef)
 | .cell x t=>do loadVar t (<-asAddr (tmps.getD x undef))
theorem aas(fn:Func)(tmps:Array Value):results fn tmps=(do let bc<-fn.results.mapM (JV tmps);pure (if h:bc.size=1 then bc[0]else .tuple bc)):=by unfold results;congr 2
theorem JO{P:cM}{bH:List (Nat×dG)}(aC:fX P bH=true){X:fv}{st:bt}{a:Act}{w:World}{Z:bg}(aN:c7 X st a w Z):
  ∀(eX:List bW) (os:List ResultVar) (c:Prop) (cC:List aj),r7 bH eX os=true->aY st eX=some (c,cC)->c->
  ∃bc,(os.mapM (JV a.tmps)).run P w= .ok bc w/\cZ w Z cC bc
 |[],[],c,cC,_,he,_=>by simp only[aY]at he;cases he;exact⟨[],Ψ,by simp[cZ]⟩
 |[],_::_,_,_,ax,_,_=>by simp[r7]at ax
 | .tmp _::_,[],_,_,ax,_,_=>by simp[r7]at ax
 | .cell _ _ _::_,[],_,_,ax,_,_=>by simp[r7]at ax
 |r::eX,o::os,c,cC,ax,he,aq=>by
  simp only[aY]at he;split at he
  ·rename_i bY p cB Zc I U;cases he;cases r with
   |tmp i=>
    cases o with
    |cell _ _=>simp[r7]at ax
    |tmp j=>simp only[r7,cv,dO]at ax;obtain⟨rfl,ax⟩:=ax;simp only[a6]at I;cases I;obtain⟨bc,g1,g2⟩:=JO aC aN eX os cB Zc ax U aq.2;refine⟨a.tmps.getD i undef::bc,?_,by simp only[cZ];exact⟨_,_,rfl,aN.slot i,g2⟩⟩;simp only[List.mapM_cons,fZ,JV,gI,gf,g1]
   |cell i agg sz=>
    cases o with
    |tmp _=>simp[r7]at ax
    |cell j t=>
     simp only[r7,cv,dO]at ax;obtain⟨⟨rfl,ao⟩,ax⟩:=ax;split at ao
     ·rename_i f aO;simp only[cv,dO]at ao;obtain⟨rfl,rfl⟩:=ao;simp only[a6]at I;obtain⟨bc,g1,g2⟩:=JO aC aN eX os cB Zc ax U aq.2;obtain⟨v,f1,f2⟩:=IL aC aN.good aO (aN.slot i) I aq.1;have Ed:∃pz,a.tmps.getD i undef= .pointer (some pz):=by
       have af:=aN.slot i;unfold nL at I;split at I
       ·rename_i dN k n xD sB ae;rw[ae]at af;simp only[be]at af;obtain⟨⟨b,o,e⟩,_⟩:=af;exact⟨_,e⟩
       ·rename_i k off ae;rw[ae]at af;simp only[be]at af;obtain⟨b,_,e⟩:=af;exact⟨_,e⟩
       ·rename_i q ae;rw[ae]at af;simp only[be]at af;obtain⟨b,off,u,e,_⟩:=af;exact⟨_,e⟩
       ·cases I
      obtain⟨pz,DQ⟩:=Ed;rw[DQ]at f1;simp only[Instr.loadAt,Instr.sureAddr,fZ,gI,gf]at f1;refine⟨v::bc,?_,by simp only[cZ];exact⟨_,_,rfl,f2,g2⟩⟩;have aib:(asAddr (.pointer (some pz)):Sem Addr).run P w= .ok pz w:=rfl;simp only[List.mapM_cons,fZ,JV,gI,gf,g1,DQ,aib,f1]
     ·cases ao
  ·cases he
theorem zT{w:World}{Z:bg}:∀{cC:List aj} {bc:List Value},cZ w Z cC bc->bc.length=cC.length
 |[],bc,h=>by simp only[cZ]at h;subst h;rfl
 |p::cC,bc,h=>by simp only[cZ]at h;obtain⟨u,ck,rfl,_,U⟩:=h;simp[zT U]
def kg:Nat->List aj->List (Nat×aj)
 |_,[]=>[]
 |i,p::cC=>(i,p)::kg (i+1) cC
theorem Hs:∀(cC:List aj) (i j:Nat),get j (kg i cC)=if i<=j/\j<i+cC.length then cC.getD (j-i) .junk else .junk
 |[],i,j=>by simp[kg,get]
 |p::cC,i,j=>by
  simp only[kg,get];by_cases h:i=j
  ·subst h;simp
  ·rw[if_neg h,Hs cC (i+1) j];by_cases U:i<=j/\j<i+(p::cC).length
   ·rw[if_pos U,if_pos (by simp at U⊢;omega)];have:j-i=(j-(i+1))+1:=Ω
    rw[this];simp
   ·rw[if_neg U,if_neg (by simp at U⊢;omega)]
def kI{α:Type}(ai:cU):List (aM×α)->Prop
 |[]=>True
 |(k,_)::r=>inObs ai k/\kI ai r
theorem BJ{α:Type}{ai:cU}:∀{l:List (aM×α)},kI ai l->∀k,(look k l).isSome->inObs ai k
 |[],_,k,h=>by simp[look]at h
 |(i,x)::r,ae,k,h=>by
  simp only[kI]at ae;simp only[look]at h;split at h
  ·rename_i e;subst e;exact ae.1
  ·exact BJ ae.2 k h
def cR(eX:List bW)(s:cU)(Q:aj->cU->Prop)(e:Exit)(st:bt):Prop:=
 (e= .ret\/e= .normal)/\match aY st eX with
  |some (c,cC)=>c/\∃ai,kI ai s.b/\kI ai s.e/\gR (inObs ai) ai.b st.b/\oG (inObs ai) ai.e st.e/\jv ai/\aK (inObs ai) (ej (aX cC))/\Q (ej (aX cC)) ai
  |none=>eI
theorem bL.of{P:cM}(hm:P.follows .mixedOrders=true){bH:List (Nat×dG)}(aC:fX P bH=true){f:FuncId}{fn:Func}(aO:P.funcs[f]? =some fn){code:Code}(ad:fn.body=some code)(Bm:(fn.name== "runtime.NumGoroutine")=false){c:C}(aq:h4 fn.ntmps bH c code=true){eX:List bW}(Bt:r7 bH eX fn.results.toList=true)
  {args:List aj} (aw:args.length<=fn.ntmps) {s:cU} (oi:jv s) {Q:aj->cU->Prop} (he:gO args->(∀j cs,look j s.b=some cs->iq cs=true->gE cs)->dd P (dc s) c (cR eX s Q) ⟨kg 0 args,s.b,s.e,0,dc s⟩):bL P f args s Q:=by
 intro w Z bc aT ab aN;refine .inl ⟨⟨fn,aO,by simp[ad],Bm⟩,?_⟩;have kH:=zT aN;have lh:bc.size=args.length:=by simpa using kH
 let X:fv:=⟨w,Z,fE Z s,fn.ntmps,dc s⟩
 have pK:∀k,fresh 0 (dc s) k->Z.bx k=none/\Z.ow k=none/\∀j b,¬Z.tr k j b:=by
  intro k ae;cases k with
  |loc m=>exact⟨(ab _).1 (oi.1 m),(ab _).2.1 (oi.2 m),(ab _).2.2⟩
  |obj m=>
   simp only[fresh,true_and]at ae;refine⟨?_,?_,(ab _).2.2⟩
   ·refine(ab _).1 ?_;cases h:look (.obj m) s.b with
    |none=>rfl
    |some x=>exact absurd (uU (.inl (by simp[h]))) ae
   ·refine(ab _).2.1 ?_;cases h:look (.obj m) s.e with
    |none=>rfl
    |some x=>exact absurd (uU (.inr (by simp[h]))) ae
 have gZ:∀m,(Z.bx (.obj m)≠none\/Z.ow (.obj m)≠none)-> .obj m∈dc s:=by
  intro m hm;refine Classical.byContradiction fun aq=>?_;obtain⟨I,U,_⟩:=pK (.obj m) ⟨trivial,aq⟩;rcases hm with hm|hm
  ·exact hm I
  ·exact hm U
 have pM:c7 X ⟨kg 0 args,s.b,s.e,0,dc s⟩ {tmps:=bc++Array.replicate (fn.ntmps-bc.size) undef,defers:=[]} w Z:=by
  refine⟨⟨aT.alt,fun k cs ae=>?_,aT.inj,fun g o dF=>?_,aT.oinj,aT.obx,aT.one,aT.otr⟩,⟨rfl,rfl,rfl,eo _,fun _ _ _=>rfl,fun b o h=>⟨h,rfl⟩,fun b o h=>.inl h,fun n b h=>h,fun n b h=>gZ n (.inl (by rw[h];simp)),fun m n u h=>⟨n,u,h,.inl ⟨rfl,rfl⟩⟩,fun m n u h=>gZ m (.inr (by rw[h];simp)),fun k j _ _ b h=>absurd h ((ab k).2.2 j b),fun k j b h=>absurd h ((ab k).2.2 j b),fun k j b h=>absurd h ((ab k).2.2 j b),fun _ _ _=>rfl⟩,rfl,?_,fun i=>?_,pK⟩
  ·obtain⟨bl,us,el,g1,g2,g3⟩:=aT.box k cs ae;exact⟨bl,us,el,g1,.inl g2,g3⟩
  ·obtain⟨v,us,g1,g2,g3,g4⟩:=aT.own g o dF;exact⟨v,us,g1,g2,fun bl fA=>⟨.inl (g3 bl fA).1,(g3 bl fA).2⟩,g4⟩
  ·show(bc++Array.replicate (fn.ntmps-bc.size) undef).size=fn.ntmps;simp;omega
  ·rw[Hs];by_cases hi:i<args.length
   ·rw[if_pos Ω];have rP:args[i]? =some args[i]:=cm hi;obtain⟨v,ar,aE⟩:=Fu i aN rP;have az:(bc++Array.replicate (fn.ntmps-bc.size) undef).getD i undef=v:=by
     have Dm:bc[i]? =some v:=by simpa using ar
     rw[Array.getD_eq_getD_getElem?,Array.getElem?_append_left Ω,Dm];rfl
    show be w Z _ ((bc++Array.replicate (fn.ntmps-bc.size) undef).getD i undef);rw[az];simpa[List.getD,rP]using aE
   ·rw[if_neg Ω];simp[be]
 have vG:=he (PO aN) (fun j cs ag=>by obtain⟨bl,us,el,_,_,_,_,g5⟩:=aT.box j cs ag;exact aag g5);have Ns:=rL hm aC (X:=X) c code (cR eX s Q) _ aq vG _ w Z pM;refine calls_of_wp aO ad (wp_mono Ns fun e bq w' cA=>?_);obtain⟨st',bo,⟨sQ,bs⟩,dq⟩:=cA;cases sW:aY st' eX with
 |none=>simp[sW]at bs
 |some x=>
  obtain⟨cr,cC⟩:=x;simp only[sW]at bs;obtain⟨hJ,ai,kb,ke,aW,bj,bM,cL,c2⟩:=bs;obtain⟨oD,g1,g2⟩:=JO aC dq eX fn.results.toList cr cC Bt sW hJ;have Na:=zT g2;have ds:bq.defers=[]/\∃v,(results fn bq.tmps).run P w'= .ok v w'/\(fun(e:Ending) w'=> ∃v r ai bo,e= .returned v/\Q r ai/\be w' bo r v/\Good (fun bl=>fE Z s bl\/w.heap.size<=bl) w' bo ai.b ai.e/\pE bo ai/\jv ai/\qR ⟨w,Z,fE Z s,0,dc s⟩ w' bo) (.returned v) w':=by
   refine⟨dq.defers,?_⟩;have iY:(results fn bq.tmps).run P w'= .ok (if h:oD.toArray.size=1 then oD.toArray[0]else .tuple oD.toArray) w':=by rw[aas];simp only[fZ,Array.mapM_eq_mapM_toList,Sem.run_map,g1,gf,gI]
   refine⟨_,iY,_,ej (aX cC),ai,bo.cut (inObs ai),rfl,c2,?_,dq.good.cut aW bj (fun bl h _=>h),?_,bM,?_⟩
   ·have mA:be w' bo (aX cC) (if h:oD.toArray.size=1 then oD.toArray[0]else .tuple oD.toArray):=by
     match cC,oD,g2,Na with
     |[p],[v],g2,_=>simp only[cZ]at g2;obtain⟨u,ck,ar,aE,_⟩:=g2;cases ar;simpa[aX]using aE
     |[],[],g2,_=>simp[aX,be,cZ]
     |p::dm::cC,v::v2::oD,g2,_=>rw[dif_neg Ψ];simp only[aX,be];exact⟨_,rfl,by simpa using g2⟩
     |[_],[],_,h=>simp at h
     |[],_::_,_,h=>simp at h
     |[_],_::_::_,_,h=>simp at h
     |_::_::_,[],_,h=>simp at h
     |_::_::_,[_],_,h=>simp at h
    exact k4 (pq.cut _ w' bo) _ _ cL (lR _ _ mA)
   ·intro k;refine⟨?_,?_,?_⟩;rotate_left 2
    ·rintro j b ⟨af,ad⟩;obtain⟨t1,t2⟩:=dq.fr.trn k j b ad;rcases af with af|af<;>obtain⟨x,iZ⟩:=fH.1 af
     ·obtain⟨bl,ck,el,ar,_⟩:=dq.good.box k x (aW k x iZ).1;rw[t1]at ar;cases ar
     ·obtain⟨v',ck,ar,_⟩:=dq.good.own k x (bj k x iZ).1;rw[t2]at ar;cases ar
    ·intro ae;by_cases af:inObs ai k
     ·rw[bg.cut_bx af];rcases af with af|af
      ·rw[ae]at af;cases af
      ·obtain⟨x,iZ⟩:=fH.1 af;obtain⟨v',ck,ar,_⟩:=dq.good.own k x (bj k x iZ).1;rcases dq.good.one k with I|I
       ·exact I
       ·rw[I]at ar;cases ar
     ·exact(bg.cut_no af).1
    ·intro ae;by_cases af:inObs ai k
     ·rw[bg.cut_ow af];rcases af with af|af
      ·obtain⟨x,iZ⟩:=fH.1 af;obtain⟨bl,ck,el,ar,_⟩:=dq.good.box k x (aW k x iZ).1;rcases dq.good.one k with I|I
       ·rw[I]at ar;cases ar
       ·exact I
      ·rw[ae]at af;cases af
     ·exact(bg.cut_no af).2.1
   ·refine⟨dq.fr.os,dq.fr.tape,dq.fr.output,dq.fr.size,dq.fr.block,dq.fr.keep,dq.fr.fresh,fun n b h=>?_,fun n b h=>gZ n (.inl (by rw[h];simp)),fun m n u h=>?_,fun m n u h=>gZ m (.inr (by rw[h];simp)),fun k j bJ dL b I U=>dq.fr.trd k j bJ dL b I.2 U.2,fun k j b ad=>dq.fr.trb k j b ad.2,fun k j b ad=>(by rw[bg.cut_bx ad.1,bg.cut_ow ad.1];exact dq.fr.trn k j b ad.2),dq.fr.sh⟩
    ·have af:inObs ai (.obj n):=by
      cases aw:look (.obj n) s.b with
      |none=>rw[(ab _).1 aw]at h;cases h
      |some x=>exact BJ kb _ (by simp[aw])
     rw[bg.cut_bx af];exact dq.fr.obj n b h
    ·have af:inObs ai (.obj m):=by
      cases aw:look (.obj m) s.e with
      |none=>rw[(ab _).2.1 aw]at h;cases h
      |some x=>exact BJ ke _ (by simp[aw])
     rw[bg.cut_ow af];exact dq.fr.row m n u h
  rcases sQ with rfl|rfl<;>exact ds
def b7(bH:List (Nat×dG))(c:C)(eX:List bW)(alE:Nat)(fn:Func):Bool:=
 match fn.body with
 |some code=>h4 fn.ntmps bH c code&&r7 bH eX fn.results.toList&& !(fn.name== "runtime.NumGoroutine")&&decide (alE<=fn.ntmps)
 |none=>false
theorem bL.mk{P:cM}(hm:P.follows .mixedOrders=true){bH:List (Nat×dG)}(aC:fX P bH=true){f:FuncId}{fn:Func}(aO:P.funcs[f]? =some fn){c:C}{eX:List bW}{n:Nat}(eh:b7 bH c eX n fn=true)
  {args:List aj} (aw:args.length<=n) {s:cU} (oi:jv s) {Q:aj->cU->Prop} (he:gO args->(∀j cs,look j s.b=some cs->iq cs=true->gE cs)->dd P (dc s) c (cR eX s Q) ⟨kg 0 args,s.b,s.e,0,dc s⟩):bL P f args s Q:=by
 unfold b7 at eh;split at eh
 ·rename_i code ad;simp only[cv,oJ,eA]at eh;obtain⟨⟨⟨I,U⟩,ao⟩,a7⟩:=eh;exact bL.of hm aC aO ad ao I U (hn aw a7) oi he
 ·cases eh
theorem wk:jv ⟨[],[]⟩:=⟨fun _=>rfl,fun _=>rfl⟩
def bz(eX:List bW)(r:aj)(e:Exit)(st:bt):Prop:=
 (e= .ret\/e= .normal)/\match aY st eX with
  |some (c,cC)=>c/\ej (aX cC)=r
  |none=>eI
theorem bR.mk{P:cM}(hm:P.follows .mixedOrders=true){bH:List (Nat×dG)}(aC:fX P bH=true){f:FuncId}{fn:Func}(aO:P.funcs[f]? =some fn){c:C}{eX:List bW}{n:Nat}(eh:b7 bH c eX n fn=true)
  {args:List aj} (aw:args.length<=n) {r:aj} (aN:aK (fun _=>eI) r) (he:gO args->dd P [] c (bz eX r) ⟨kg 0 args,[],[],0,[]⟩):bR P f args r:=by
 refine bL.mk hm aC aO eh aw wk fun I _=>?_;have:=he I;have iL:bz eX r=cR eX ⟨[],[]⟩ (fun e2 ai=>e2=r/\ai=⟨[],[]⟩):=by
  funext e st;unfold bz cR;apply propext;refine and_congr_right fun _=>?_;cases aY st eX with
  |none=>exact Iff.rfl
  |some x=>
   obtain⟨c,cC⟩:=x;refine and_congr_right fun _=>?_;constructor
   ·intro h;refine⟨⟨[],[]⟩,trivial,trivial,fun k cs ae=>by simp[look]at ae,fun k cs ae=>by simp[look]at ae,wk,?_,h,rfl⟩;rw[h];exact xH (fun k ae=>ae.elim) r aN
   ·rintro⟨ai,_,_,_,_,_,_,h,_⟩;exact h
 rw[iL]at this;exact this
theorem QW{α:Type}{β:Type}:∀l:List (aM×α),cc ([]:List (aM×β)) l=l
 |[]=>rfl
 |(k,x)::r=>by simp[cc,look,QW r]
theorem cY.val{P:cM}{n:Nat}{args:List aj}{st:bt}{d:Option Nat}{K:bt->Prop}{r:aj}(ae:aP (fun _=>eI) args)(aO:bR P n args r)(h:K {st with t:=e6 d r st.t}):cY P n args st d K:=by
 refine .inl ⟨⟨[],[]⟩,_,fun k cs ae=>by simp[look]at ae,fun k cs ae=>by simp[look]at ae,wk,kJ (fun _ h=>h.elim) _ ae,aO,?_⟩;rintro e2 ai ⟨rfl,rfl⟩;refine⟨⟨fun m h=>by simp[look]at h,fun m h=>by simp[look]at h⟩,?_⟩;have:after st ⟨[],[]⟩ ⟨[],[]⟩ d e2={st with t:=e6 d e2 st.t}:=by simp[after,QW,dc]
 rw[this];exact h
@[reducible,simp] def ef(n:Int):dA:= .c (.int .i64 n)
@[reducible,simp] def J(a b:Nat):dh:=⟨none,.s (.v a (.mov (.t b)))⟩
@[reducible,simp] def bT(a:Nat)(i:gk):dh:=⟨none,.s (.v a i)⟩
@[reducible,simp] def cS(i:eB):dh:=⟨none,.s i⟩
@[reducible,simp] def c4(a f:Nat)(l:List dA):dh:=⟨none,.call (some a) (.c (.func f [])) l⟩
@[reducible,simp] def b6(j:Nat)(w:Bool)(a b:Nat):dh:=⟨some (j,w),.s (.v a (.mov (.t b)))⟩
@[reducible,simp] def yk(j:Nat)(w:Bool)(a:Nat)(i:gk):dh:=⟨some (j,w),.s (.v a i)⟩
@[reducible,simp] def ys(j:Nat)(w:Bool)(i:eB):dh:=⟨some (j,w),.s i⟩
@[reducible,simp] def cE(d s a b:Nat):dh:=bT d (.iaddr s (.t a) (.t b))
@[reducible,simp] def ay(d s a:Nat):dh:=bT d (.load false s (.t a))
@[reducible,simp] def aZ(d s a:Nat):dh:=bT d (.load true s (.t a))
@[reducible,simp] def aJ(d o s a:Nat):dh:=bT d (.faddr o false s (.t a))
@[reducible,simp] def hN(d o s a:Nat):dh:=bT d (.faddr o true s (.t a))
@[reducible,simp] def bC(d:Nat)(o:BinOp)(a b:Nat):dh:=bT d (.bin o false (.t a) (.t b))
@[reducible,simp] def aU(d:Nat)(o:BinOp)(a:Nat)(n:Int):dh:=bT d (.bin o false (.t a) (ef n))
@[reducible,simp] def cH(d a:Nat):dh:=bT d (.len (.t a))
@[reducible,simp] def ct(d a:Nat):dh:=bT d (.notB (.t a))
@[reducible,simp] def cg(d i a:Nat):dh:=bT d (.ext i (.t a))
@[reducible,simp] def c8(d a b:Nat):dh:=bT d (.pick (.t a) (.c (.bool true)) (.t b))
@[reducible,simp] def dB(d a b:Nat):dh:=bT d (.pick (.t a) (.t b) (.c (.bool false)))
@[reducible,simp] def bp(d:Nat)(b:Bool):dh:=bT d (.mov (.c (.bool b)))
@[reducible,simp] def cb(d:Nat)(n:Int):dh:=bT d (.mov (ef n))
@[reducible,simp] def bu(s a b:Nat):dh:=cS (.store s (.t a) (.t b))
@[reducible,simp] def av(j:Nat)(w:Bool)(x:dh):dh:=⟨some (j,w),x.i⟩
@[reducible,simp] def aa(l:List dh)(c:C):C:= .seq (.region l) c
@[reducible,simp] def a1(n:Nat)(a b:C):C:= .cond (.t n) a b
@[reducible,simp] def gA(d a:Nat)(l:List dA):dh:=⟨none,.call (some d) (.t a) l⟩
@[reducible,simp] def cD(d f a:Nat):dh:=c4 d f [.t a]
@[reducible,simp] def ch(d f a b:Nat):dh:=c4 d f [.t a,.t b]
@[reducible,simp] def dk:List aj:=[.int .i64 0,.int .i64 0,.str [],.slice 4 .nil []]
@[reducible,simp] def iC:List aj:=[.int .i64 0,.int .i64 0,.int .i64 0,.str [],.slice 4 .nil []]
@[reducible,simp] def fD:List aj:=[.int .i64 0,.slice 5 .nil [],.slice 1 .nil [],.slice 2 .nil [],.slice 2 .nil []]
@[reducible,simp] def c0(a b:Nat):dh:=cS (.box a none (.t b))
@[reducible,simp] def cP(a:Nat)(l:List aj):dh:=cS (.alloc a none (.agg l))
@[reducible,simp] def eO(a n:Nat):dh:=bT a (.mov (.c (.slice n .nil [])))
@[reducible,simp] def gT(a b c d e:Nat):dh:=cS (.app a b c (.t d) (.t e))
@[reducible,simp] def ea(a b c:Nat)(l:List dA):dh:=cS (.bsl a b c l)
@[reducible,simp] def eZ(a b:Nat):dh:=bT a (.nck (.t b))
@[reducible,simp] def j5(d s a:Nat)(n:Int):dh:=bT d (.iaddr s (.t a) (ef n))
@[reducible,simp] def gr(d:Nat)(l:List aj)(m:List (Nat×Nat×dA)):dh:=bT d (.build l m)
@[reducible,simp] def fm(a b c:Nat)(x:C):C:= .block 0 (.loop (aa [bC a .lss b c] (.seq (a1 a .skip (.exit 0)) x)))
end
end Go.Pv
namespace Go.Proofs.YtohaalphocaebaaGreatDoor
section
open Go Go.Pv
def Sv:C:=(aa [cS (.box 2 (some 101) (.t 0)),cS (.box 3 (some 102) (.t 1)),cb 4 0] (aa [ay 6 1 2,cH 7 6,bT 8 (.mkf 58 [.t 2,.t 3]),ch 9 57 7 8,J 5 9] (.seq (.seq (.drawn true 24 [J 10 5,ay 11 1 2,cH 12 11,bC 13 .lss 10 12,J 14 13,av 14 true (ay 15 1 2),b6 14 true 16 5,av 14 true (cE 17 5 15 16),av 14 true (aJ 18 0 1 17),av 14 true (ay 19 1 18),av 14 true (ay 20 1 3),av 14 true (bC 21 .eql 19 20),dB 22 14 21]) (a1 22 (aa [J 23 5,J 4 23] .ret) .skip)) (aa [cb 4 (-1)] .ret))))
def SE:C:=(aa [cS (.box 2 (some 201) (.t 0)),c0 3 1,cP 4 dk,bp 5 false] (aa [aZ 6 4 3,bT 7 (.mkf 61 [.t 2]),ch 8 60 6 7,cg 9 0 8,cg 10 1 8,bu 4 4 9,J 5 10] .ret))
def AH:C:=(aa [c0 1 0,cP 2 dk] (aa [aJ 6 0 1 1,ay 7 1 6,aJ 8 1 1 1,ay 9 1 8,aJ 10 2 1 1,ay 11 1 10,gr 12 dk [(0,1,(.t 7)),(1,1,(.t 9)),(2,1,(.t 11))],cP 3 dk,bu 4 3 12] (.seq (aa [aJ 13 3 1 1,ay 14 1 13,cH 15 14,cb 16 0] (fm 17 16 15 (.seq (.block 1 (aa [cE 18 4 14 16,aZ 19 4 18,cP 5 dk,bu 4 5 19] (.drawn true 29 [aJ 20 3 1 3,ay 21 1 20,aZ 22 4 5,cD 23 37 22,ea 24 4 36 [.t 23],gT 25 4 36 21 24,aJ 26 3 1 3,bu 1 26 25]))) (.region [aU 27 .add 16 1,J 16 27])))) (aa [aZ 28 4 3,bu 4 2 28] .ret))))
def SR:C:=(aa [cb 4 0] (aa [J 8 0,cb 5 0,J 6 8] (.seq (.block 0 (.loop (.seq (aa [J 9 5,J 10 6,bC 11 .lss 9 10] (a1 11 .skip (.exit 0))) (.block 1 (aa [J 12 5,J 13 6,bC 14 .add 12 13,bT 15 (.conv .u64 (.t 14)),bT 16 (.bin .shr false (.t 15) (.c (.int .u64 1))),bT 17 (.conv .i64 (.t 16)),J 7 17] (aa [J 18 1,J 19 7,gA 20 18 [.t 19],ct 21 20] (a1 21 (.region [J 22 7,aU 23 .add 22 1,J 5 23]) (.region [J 24 7,J 6 24])))))))) (aa [J 25 5,J 4 25] .ret))))
def Sw:C:=(aa [bp 4 false] (.seq (.drawn true 12 [ay 5 1 1,J 6 0,cE 7 5 5 6,aJ 8 0 1 7,ay 9 1 8,ay 10 1 2,bC 11 .geq 9 10,J 4 11]) .ret))
def SG:C:=(aa [c0 2 0,cS (.box 3 (some 202) (.t 1)),cP 4 dk,bp 5 false] (aa [aZ 7 4 2,bT 8 (.mkf 113 [.t 3]),ch 9 112 7 8,J 6 9] (.seq (aa [J 10 6,aU 11 .gtr 10 5000] (a1 11 (aa [gr 12 dk [],bu 4 4 12,bp 5 false] .ret) .skip)) (aa [aZ 13 4 2,ay 14 1 3,ch 15 115 13 14,bu 4 4 15,bp 5 true] .ret))))
def SF:C:=(aa [cP 3 dk,bp 4 false] (.seq (aa [ay 6 1 1,J 7 0,ch 8 24 6 7,J 5 8] (aa [J 9 5,aU 10 .geq 9 0] (a1 10 (aa [ay 11 1 1,J 12 5,cE 13 5 11 12,hN 14 1 4 13,aZ 15 4 14,bu 4 3 15,bp 4 true] .ret) .skip))) (aa [gr 16 dk [],bu 4 3 16,bp 4 false] .ret)))
def Se:C:=(aa [bp 2 false] (.seq (aa [J 5 0,cH 6 5,aU 7 .gtr 6 400] (a1 7 (aa [bp 2 false] .ret) .skip)) (.seq (aa [J 8 0,cH 9 8,cb 10 0] (fm 11 10 9 (.seq (.block 1 (aa [J 12 10,cE 13 5 8 10,aZ 14 5 13,cP 4 iC,J 3 12,bu 5 4 14] (.seq (.drawn true 45 [aJ 15 0 1 4,ay 16 1 15,aU 17 .lss 16 0,J 18 17,av 18 false (aJ 19 0 1 4),av 18 false (ay 20 1 19),av 18 false (aU 21 .gtr 20 100000),c8 22 18 21,J 23 22,b6 23 false 24 3,av 23 false (aU 25 .gtr 24 0),b6 23 false 26 25,b6 26 true 27 0,b6 26 true 28 3,av 26 true (aU 29 .sub 28 1),av 26 true (cE 30 5 27 29),av 26 true (aJ 31 0 1 30),av 26 true (ay 32 1 31),av 26 true (aJ 33 0 1 4),av 26 true (ay 34 1 33),av 26 true (bC 35 .geq 32 34),av 23 false (dB 36 26 35),c8 37 23 36,J 38 37,av 38 false (hN 39 1 4 4),av 38 false (aZ 40 4 39),av 38 false (cD 41 89 40),av 38 false (ct 42 41),c8 43 38 42]) (a1 43 (aa [bp 2 false] .ret) .skip)))) (.region [aU 44 .add 10 1,J 10 44])))) (aa [bp 2 true] .ret))))
def St:C:=(aa [c0 2 0,c0 3 1,bp 4 false] (aa [aZ 5 4 2,aZ 6 4 3,ch 7 117 5 6,aU 8 .eql 7 0,J 4 8] .ret))
def Tz:C:=(aa [c0 2 0,c0 3 1,cP 4 dk] (aa [aZ 5 4 2,aZ 6 4 3,ea 7 4 36 [.t 5,.t 6],gr 8 dk [(0,1,(ef 4)),(3,1,(.t 7))],bu 4 4 8] .ret))
def Lp:C:=(aa [cP 2 dk] (aa [J 3 0,gr 4 dk [(0,1,(ef 1)),(1,1,(.t 3))],bu 4 2 4] .ret))
def Ld:C:=(aa [bp 2 false] (.seq (aa [J 5 0,cH 6 5,cb 7 0] (fm 8 7 6 (.seq (.block 1 (aa [cE 9 4 5 7,aZ 10 4 9,cP 4 dk,bu 4 4 10] (aa [aZ 11 4 4,cD 12 89 11,ct 13 12] (a1 13 (aa [bp 2 false] .ret) .skip)))) (.region [aU 14 .add 7 1,J 7 14])))) (aa [bp 2 true] .ret)))
def Sc:C:=(aa [c0 1 0,bp 2 false] (aa [aZ 3 4 1,c4 4 114 [.t 3,(ef 5000)],aU 5 .gtr 4 0,J 2 5] .ret))
def yC:C:=(aa [c0 2 0] (.seq (aa [aJ 4 0 1 2,ay 5 1 4,aU 6 .eql 5 1] (a1 6 (.region [J 7 1,aJ 8 1 1 2,ay 9 1 8,gA 10 7 [.t 9]]) .skip)) (aa [aJ 11 0 1 2,ay 12 1 11,aU 13 .eql 12 4] (a1 13 (aa [aJ 14 3 1 2,ay 15 1 14,j5 16 4 15 0,aZ 17 4 16,J 18 1,ch 19 107 17 18] (.region [aJ 20 3 1 2,ay 21 1 20,j5 22 4 21 1,aZ 23 4 22,J 24 1,ch 25 107 23 24])) .skip))))
def R0:C:=(aa [bp 2 false] (.seq (aa [J 4 0,bT 5 (.slen (.t 4)),aU 6 .lss 5 1,J 7 6,b6 7 false 8 0,av 7 false (bT 9 (.slen (.t 8))),av 7 false (aU 10 .gtr 9 12),c8 11 7 10,J 12 11,b6 12 false 13 0,av 12 false (bT 14 (.sidx (.t 13) (ef 0))),av 12 false (bT 15 (.bin .lss false (.t 14) (.c (.int .u8 97)))),c8 16 12 15,J 17 16,b6 17 false 18 0,av 17 false (bT 19 (.sidx (.t 18) (ef 0))),av 17 false (bT 20 (.bin .gtr false (.t 19) (.c (.int .u8 122)))),c8 21 17 20] (a1 21 (aa [bp 2 false] .ret) .skip)) (.seq (aa [cb 3 1] (.block 0 (.loop (.seq (aa [J 22 3,J 23 0,bT 24 (.slen (.t 23)),bC 25 .lss 22 24] (a1 25 .skip (.exit 0))) (.seq (.block 1 (aa [J 28 0,J 29 3,bT 30 (.sidx (.t 28) (.t 29)),bT 31 (.bin .geq false (.t 30) (.c (.int .u8 97))),J 32 31,b6 32 true 33 0,b6 32 true 34 3,av 32 true (bT 35 (.sidx (.t 33) (.t 34))),av 32 true (bT 36 (.bin .leq false (.t 35) (.c (.int .u8 122)))),dB 37 32 36,J 38 37,b6 38 false 39 0,b6 38 false 40 3,av 38 false (bT 41 (.sidx (.t 39) (.t 40))),av 38 false (bT 42 (.bin .geq false (.t 41) (.c (.int .u8 48)))),b6 38 false 43 42,b6 43 true 44 0,b6 43 true 45 3,av 43 true (bT 46 (.sidx (.t 44) (.t 45))),av 43 true (bT 47 (.bin .leq false (.t 46) (.c (.int .u8 57)))),av 38 false (dB 48 43 47),c8 49 38 48,J 50 49,b6 50 false 51 0,b6 50 false 52 3,av 50 false (bT 53 (.sidx (.t 51) (.t 52))),av 50 false (bT 54 (.bin .eql false (.t 53) (.c (.int .u8 45)))),c8 55 50 54,ct 56 55] (a1 56 (aa [bp 2 false] .ret) .skip))) (.region [J 26 3,aU 27 .add 26 1,J 3 27])))))) (aa [bp 2 true] .ret))))
def w2:C:=(aa [c0 2 0,cb 4 0] (.seq (aa [aJ 6 0 1 2,ay 7 1 6] (.block 0 (aa [aU 9 .eql 7 1,J 8 9] (a1 8 (aa [J 10 1,aJ 11 1 1 2,ay 12 1 11,gA 13 10 [.t 12],bT 14 (.min2 (.t 13) (ef 5001)),J 4 14] .ret) (aa [aU 16 .eql 7 4,J 15 16] (a1 15 (aa [aJ 17 3 1 2,ay 18 1 17,j5 19 4 18 0,aZ 20 4 19,J 21 1,ch 22 112 20 21,J 5 22] (.seq (aa [J 23 5,aU 24 .gtr 23 5000] (a1 24 (aa [J 25 5,J 4 25] .ret) .skip)) (aa [J 26 5,bT 27 (.bin .add false (ef 1) (.t 26)),aJ 28 3 1 2,ay 29 1 28,j5 30 4 29 1,aZ 31 4 30,J 32 1,ch 33 112 31 32,bC 34 .add 27 33,bT 35 (.min2 (.t 34) (ef 5001)),J 4 35] .ret))) .skip)))))) (aa [cb 4 1] .ret)))
def SH:C:=(aa [cb 3 0] (.seq (aa [ay 7 1 1,J 8 0,gA 9 7 [.t 8],J 6 9,cg 10 0 6,cg 11 1 6,cP 4 dk,bu 4 4 10,J 5 11] (aa [J 12 5] (a1 12 (aa [aZ 13 4 4,c4 14 114 [.t 13,(ef 5000)],J 3 14] .ret) .skip))) (aa [cb 3 1] .ret)))
def Sz:C:=(aa [c0 2 0,cb 4 0] (.seq (aa [J 7 1,aU 8 .lss 7 1] (a1 8 (aa [cb 4 (-1)] .ret) .skip)) (.seq (aa [aJ 9 0 1 2,ay 10 1 9,aU 11 .neq 10 4] (a1 11 (.seq (aa [aJ 12 3 1 2,ay 13 1 12,cH 14 13,aU 15 .neq 14 0] (a1 15 (aa [cb 4 (-1)] .ret) .skip)) (.seq (aa [aJ 16 0 1 2,ay 17 1 16] (.block 0 (aa [aU 19 .eql 17 0,J 18 19] (a1 18 (aa [aJ 20 1 1 2,ay 21 1 20,aU 22 .neq 21 0,J 23 22,av 23 false (aJ 24 2 1 2),av 23 false (ay 25 1 24),yk 23 false 26 (.bin .neq false (.t 25) (.c (.str []))),c8 27 23 26] (a1 27 (aa [cb 4 (-1)] .ret) .skip)) (aa [aU 29 .eql 17 1,J 28 29] (a1 28 (aa [aJ 30 1 1 2,ay 31 1 30,aU 32 .lss 31 0,J 33 32,av 33 false (aJ 34 1 1 2),av 33 false (ay 35 1 34),av 33 false (aU 36 .gtr 35 100000),c8 37 33 36,J 38 37,av 38 false (aJ 39 2 1 2),av 38 false (ay 40 1 39),yk 38 false 41 (.bin .neq false (.t 40) (.c (.str []))),c8 42 38 41] (a1 42 (aa [cb 4 (-1)] .ret) .skip)) (aa [aU 44 .eql 17 2,J 43 44] (a1 43 (aa [aJ 45 1 1 2,ay 46 1 45,aU 47 .neq 46 0,J 48 47,av 48 false (aJ 49 2 1 2),av 48 false (ay 50 1 49),av 48 false (cD 51 109 50),av 48 false (ct 52 51),c8 53 48 52] (a1 53 (aa [cb 4 (-1)] .ret) .skip)) (aa [aU 55 .eql 17 3,J 54 55] (a1 54 (aa [aJ 56 1 1 2,ay 57 1 56,aU 58 .lss 57 (-1000000000),J 59 58,av 59 false (aJ 60 1 1 2),av 59 false (ay 61 1 60),av 59 false (aU 62 .gtr 61 1000000000),c8 63 59 62,J 64 63,av 64 false (aJ 65 2 1 2),av 64 false (ay 66 1 65),yk 64 false 67 (.bin .neq false (.t 66) (.c (.str []))),c8 68 64 67] (a1 68 (aa [cb 4 (-1)] .ret) .skip)) (aa [cb 4 (-1)] .ret))))))))))) (aa [cb 4 1] .ret))) .skip)) (.seq (aa [aJ 69 1 1 2,ay 70 1 69,aU 71 .neq 70 0,J 72 71,av 72 false (aJ 73 2 1 2),av 72 false (ay 74 1 73),yk 72 false 75 (.bin .neq false (.t 74) (.c (.str []))),c8 76 72 75,J 77 76,av 77 false (aJ 78 3 1 2),av 77 false (ay 79 1 78),av 77 false (cH 80 79),av 77 false (aU 81 .neq 80 2),c8 82 77 81] (a1 82 (aa [cb 4 (-1)] .ret) .skip)) (aa [aJ 83 3 1 2,ay 84 1 83,j5 85 4 84 0,aZ 86 4 85,J 87 1,aU 88 .sub 87 1,ch 89 114 86 88,J 5 89] (.seq (aa [J 90 5,aU 91 .lss 90 0] (a1 91 (aa [cb 4 (-1)] .ret) .skip)) (aa [aJ 92 3 1 2,ay 93 1 92,j5 94 4 93 1,aZ 95 4 94,J 96 1,aU 97 .sub 96 1,J 98 5,bC 99 .sub 97 98,ch 100 114 95 99,J 6 100] (.seq (aa [J 101 6,aU 102 .lss 101 0] (a1 102 (aa [cb 4 (-1)] .ret) .skip)) (aa [J 103 5,bT 104 (.bin .add false (ef 1) (.t 103)),J 105 6,bC 106 .add 104 105,J 4 106] .ret)))))))))
def yD:C:=(aa [c0 2 0,cP 4 dk] (.seq (aa [aJ 7 0 1 2,ay 8 1 7] (.block 0 (aa [aU 10 .eql 8 1,J 9 10] (a1 9 (.seq (aa [J 12 1,aJ 13 1 1 2,ay 14 1 13,gA 15 12 [.t 14],J 11 15,cg 16 0 11,cg 17 1 11,cP 5 dk,bu 4 5 16,J 6 17] (aa [J 18 6] (a1 18 (aa [aZ 19 4 5,cD 20 136 19,bu 4 4 20] .ret) .skip))) (aa [aZ 21 4 2,bu 4 4 21] .ret)) (aa [aU 23 .eql 8 4,J 22 23] (a1 22 (.seq (.drawn false 38 [aJ 24 3 1 2,ay 25 1 24,j5 26 4 25 0,aZ 27 4 26,J 28 1,ch 29 115 27 28,aJ 30 3 1 2,ay 31 1 30,j5 32 4 31 1,aZ 33 4 32,J 34 1,ch 35 115 33 34,ch 36 154 29 35,bu 4 4 36]) .ret) .skip)))))) (aa [aZ 37 4 2,bu 4 4 37] .ret)))
def GN:C:=(aa [c0 2 0,c0 3 1,cb 4 0] (.seq (aa [aJ 6 0 1 2,ay 7 1 6,aJ 8 0 1 3,ay 9 1 8,bC 10 .neq 7 9] (a1 10 (aa [aJ 11 0 1 2,ay 12 1 11,aJ 13 0 1 3,ay 14 1 13,ch 15 155 12 14,J 4 15] .ret) .skip)) (.seq (aa [aJ 16 1 1 2,ay 17 1 16,aJ 18 1 1 3,ay 19 1 18,bC 20 .neq 17 19] (a1 20 (aa [aJ 21 1 1 2,ay 22 1 21,aJ 23 1 1 3,ay 24 1 23,ch 25 155 22 24,J 4 25] .ret) .skip)) (.seq (aa [aJ 26 2 1 2,ay 27 1 26,aJ 28 2 1 3,ay 29 1 28,bC 30 .neq 27 29] (a1 30 (.seq (aa [aJ 31 2 1 2,ay 32 1 31,aJ 33 2 1 3,ay 34 1 33,bC 35 .lss 32 34] (a1 35 (aa [cb 4 (-1)] .ret) .skip)) (aa [cb 4 1] .ret)) .skip)) (.seq (aa [aJ 36 0 1 2,ay 37 1 36,aU 38 .neq 37 4] (a1 38 (aa [cb 4 0] .ret) .skip)) (.seq (.seq (.drawn true 60 [aJ 39 3 1 2,ay 40 1 39,j5 41 4 40 0,aZ 42 4 41,aJ 43 3 1 3,ay 44 1 43,j5 45 4 44 0,aZ 46 4 45,ch 47 117 42 46,J 5 47]) (aa [J 48 5,aU 49 .neq 48 0] (a1 49 (aa [J 50 5,J 4 50] .ret) .skip))) (.seq (.drawn true 60 [aJ 51 3 1 2,ay 52 1 51,j5 53 4 52 1,aZ 54 4 53,aJ 55 3 1 3,ay 56 1 55,j5 57 4 56 1,aZ 58 4 57,ch 59 117 54 58,J 4 59]) .ret)))))))
def Lb:C:=(aa [c0 1 0,cP 2 dk] (.seq (aa [aJ 3 0 1 1,ay 4 1 3,aU 5 .neq 4 4] (a1 5 (aa [aJ 6 0 1 1,ay 7 1 6,aJ 8 1 1 1,ay 9 1 8,aJ 10 2 1 1,ay 11 1 10,gr 12 dk [(0,1,(.t 7)),(1,1,(.t 9)),(2,1,(.t 11))],bu 4 2 12] .ret) .skip)) (.seq (.drawn true 25 [aJ 13 3 1 1,ay 14 1 13,j5 15 4 14 0,aZ 16 4 15,cD 17 136 16,aJ 18 3 1 1,ay 19 1 18,j5 20 4 19 1,aZ 21 4 20,cD 22 136 21,ea 23 4 36 [.t 17,.t 22],gr 24 dk [(0,1,(ef 4)),(3,1,(.t 23))],bu 4 2 24]) .ret)))
def SD:C:=(aa [c0 2 0,c0 3 1,cP 4 dk] (aa [aZ 5 4 2,aZ 6 4 3,ea 7 4 36 [.t 5,.t 6],gr 8 dk [(0,1,(ef 4)),(3,1,(.t 7))],bu 4 4 8] .ret))
def SC:C:=(aa [cb 4 0] (.seq (aa [J 5 0,J 6 1,bC 7 .lss 5 6] (a1 7 (aa [cb 4 (-1)] .ret) .skip)) (.seq (aa [J 8 0,J 9 1,bC 10 .gtr 8 9] (a1 10 (aa [cb 4 1] .ret) .skip)) (aa [cb 4 0] .ret))))
def SJ:C:=(aa [eO 2 1] (aa [cS (.bslm 5 (some 306) 1 3 []),J 3 5] (.seq (aa [J 6 0,cS (.range 7 none (.t 6))] (.block 0 (.loop (aa [⟨none,.next 8 (.t 7)⟩,cg 9 0 8] (.seq (a1 9 .skip (.exit 0)) (.block 1 (aa [bT 10 (.ment (.t 7)),cg 11 0 10,J 4 11] (.region [J 12 3,J 13 4,ea 14 1 3 [.t 13],cS (.appm 15 none 1 3 (.t 12) (.t 14)),J 3 15])))))))) (aa [J 16 3,cD 17 190 16] (.seq (.pub 3 (.region [J 18 3,J 2 18])) .ret)))))
def bH:List (Nat×dG):=[
 (3,⟨1,8,.int .i64,.int .i64 0⟩),
 (9,⟨1,16,.str,.str []⟩),
 (23,⟨1,24,.slice 54,.slice 5 .nil []⟩),
 (34,⟨1,24,.slice 36,.slice 4 .nil []⟩),
 (36,⟨4,56,.struct [(0,3),(1,3),(2,9),(3,34)],.agg [.int .i64 0,.int .i64 0,.str [],.slice 4 .nil []]⟩),
 (51,⟨1,8,.map 3 4,.junk⟩),
 (54,⟨5,64,.struct [(0,3),(1,36)],.agg [.int .i64 0,.int .i64 0,.int .i64 0,.str [],.slice 4 .nil []]⟩),
 (92,⟨1,8,.other,.junk⟩),
 (97,⟨1,24,.slice 3,.slice 1 .nil []⟩),
 (117,⟨1,8,.int .u64,.int .u64 0⟩)]
theorem mixed:aA.follows .mixedOrders=true:=by kernel_rfl
theorem br{bH:List (Nat×dG)}(aC:fX aA bH=true){f:FuncId}{fn:Func}(aO:aA.funcs[f]? =some fn){c:C}{eX:List bW}{n:Nat}(eh:b7 bH c eX n fn=true){args:List aj}{r:aj}(he:gO args->dd aA [] c (bz eX r) ⟨kg 0 args,[],[],0,[]⟩)(aw:args.length<=n:=by simp)(aN:aK (fun _=>eI) r:=by simp[aK]):bR aA f args r:=bR.mk mixed aC aO eh aw aN he
theorem fY:fX aA bH=true:=by kernel_rfl
theorem amj:b7 bH Sv [.tmp 4] 2 Tryz.f24=true:=by kernel_rfl
theorem ams:b7 bH SE [.cell 4 true 4,.tmp 5] 2 Tryz.f29=true:=by kernel_rfl
theorem E1:b7 bH AH [.cell 2 true 4] 1 Tryz.f37=true:=by kernel_rfl
theorem amF:b7 bH SR [.tmp 4] 2 Tryz.f57=true:=by kernel_rfl
theorem amk:b7 bH Sw [.tmp 4] 3 Tryz.f58=true:=by kernel_rfl
theorem amu:b7 bH SG [.cell 4 true 4,.tmp 5] 2 Tryz.f60=true:=by kernel_rfl
theorem amt:b7 bH SF [.cell 3 true 4,.tmp 4] 2 Tryz.f61=true:=by kernel_rfl
theorem al3:b7 bH Se [.tmp 2] 1 Tryz.f62=true:=by kernel_rfl
theorem amh:b7 bH St [.tmp 4] 2 Tryz.f64=true:=by kernel_rfl
theorem anl:b7 bH Tz [.cell 4 true 4] 2 Tryz.f83=true:=by kernel_rfl
theorem YY:b7 bH Lp [.cell 2 true 4] 1 Tryz.f84=true:=by kernel_rfl
theorem YR:b7 bH Ld [.tmp 2] 1 Tryz.f87=true:=by kernel_rfl
theorem al1:b7 bH Sc [.tmp 2] 1 Tryz.f89=true:=by kernel_rfl
theorem B7:b7 bH yC [] 2 Tryz.f107=true:=by kernel_rfl
theorem alR:b7 bH R0 [.tmp 2] 1 Tryz.f109=true:=by kernel_rfl
theorem zG:b7 bH w2 [.tmp 4] 2 Tryz.f112=true:=by kernel_rfl
theorem amv:b7 bH SH [.tmp 3] 2 Tryz.f113=true:=by kernel_rfl
theorem amn:b7 bH Sz [.tmp 4] 2 Tryz.f114=true:=by kernel_rfl
theorem B8:b7 bH yD [.cell 4 true 4] 2 Tryz.f115=true:=by kernel_rfl
theorem OO:b7 bH GN [.tmp 4] 2 Tryz.f117=true:=by kernel_rfl
theorem YP:b7 bH Lb [.cell 2 true 4] 1 Tryz.f136=true:=by kernel_rfl
theorem amr:b7 bH SD [.cell 4 true 4] 2 Tryz.f154=true:=by kernel_rfl
theorem amq:b7 bH SC [.tmp 4] 2 Tryz.f155=true:=by kernel_rfl
theorem amx:b7 bH SJ [.tmp 2] 1 Tryz.f166=true:=by kernel_rfl
end
end Go.Proofs.YtohaalphocaebaaGreatDoor
namespace Go.Pv
section
open Go Go.RowKit
theorem en{α:Type}{l:List α}{i:Nat}(h:i<l.length):∃b,l[i]? =some b/\∀h,(l[i]'h)=b:=⟨l[i],cm h,fun _=>rfl⟩
def PX(st:bt)(i:eB):Prop:=match nf st i with|some (c,_)=>c|none=>eI
def PY(st:bt)(i:eB):bt:=match nf st i with|some (_,s)=>s|none=>st
def Gg(P:cM)(r:List dh)(K:bt->Prop)(st:bt):Prop:=iI P r st K
def Av(P:cM)(ob:List aM)(c:C)(Q:Exit->bt->Prop)(st:bt):Prop:=dd P ob c Q st
def qX(P:cM)(v:aj)(s:Nat)(w:Bool)(i:ev)(r:List dh)(st:bt)(K:bt->Prop):Prop:=
 match v with
 | .bool b=>(b=w->iI P (⟨none,i⟩::r) {st with t:=put s (.bool w) st.t} K)/\(b= !w->iI P r {st with t:=e6 i.dst (.tuple []) (put s (.bool !w) st.t)} K)
 | .tuple []=>iI P r {st with t:=e6 i.dst (.tuple []) st.t} K
 |_=>eI
def vt(P:cM)(ob:List aM)(v:aj)(x:dA)(t e:C)(Q:Exit->bt->Prop)(st:bt):Prop:=
 match v with
 | .bool b=>(b=true->dd P ob t Q (tv st x true))/\(b=false->dd P ob e Q (tv st x false))
 |_=>eI
def LP(P:cM)(v:aj)(d:Option Nat)(xs:List aj)(r:List dh)(st:bt)(K:bt->Prop):Prop:=
 match v with
 | .func n dv=>cY P n (du (xs++dv)) st d (Gg P r K)
 |_=>eI
section
variable {P:cM} {ob:List aM} {st:bt} {K:bt->Prop} {r:List dh} {Q:Exit->bt->Prop} {a b c t e:C}
theorem aeA:iI P [] st K=K st:=rfl
theorem aeB{i:eB}:iI P (⟨none,.s i⟩::r) st K=(PX st i/\iI P r (PY st i) K):=by
 simp only[iI,vs,PX,PY];cases nf st i with
 |none=>simp
 |some x=>rfl
theorem aex{d:Option Nat}{f:dA}{xs:List dA}:iI P (⟨none,.call d f xs⟩::r) st K=LP P (cy st.t f) d (xs.map (cy st.t)) r st K:=by simp only[iI,vs,LP];rfl
theorem aez{d:Nat}{x:dA}:iI P (⟨none,.next d x⟩::r) st K=uf st d (cy st.t x) (Gg P r K):=by simp only[iI,vs];rfl
def yr(P:cM)(ob:List aM)(c:C)(Q:Exit->bt->Prop):Option bt->Prop
 |some st=>dd P ob c Q st
 |none=>eI
theorem acv:yr P ob c Q (some st)=dd P ob c Q st:=rfl
theorem aec{s:Nat}:dd P ob (.pub s c) Q st=yr P ob c Q (xW st s):=by simp only[dd];cases xW st s<;>rfl
theorem ad8{qw:Bool}{s:Nat}:dd P ob (.fg qw s c) Q st=dd P ob c Q {st with t:=put s (AX qw (get s st.t)) st.t}:=rfl
theorem ad9{qw:Bool}{s:Nat}{d:C}:dd P ob (.seq (.fg qw s c) d) Q st=dd P ob (.seq c d) Q {st with t:=put s (AX qw (get s st.t)) st.t}:=rfl
theorem aea{gN:Bool}{s:Nat}:dd P ob (.fz gN s c) Q st=yr P ob c Q (w9 st gN s):=by simp only[dd];cases w9 st gN s<;>rfl
theorem aeb{gN:Bool}{s:Nat}{d:C}:dd P ob (.seq (.fz gN s c) d) Q st=yr P ob (.seq c d) Q (w9 st gN s):=by simp only[dd];cases w9 st gN s<;>rfl
theorem aed{s:Nat}:dd P ob (.pubB s c) Q st=yr P ob c Q (xV st s):=by simp only[dd];cases xV st s<;>rfl
theorem aew{n:Nat}{dv:List aj}{d:Option Nat}{xs:List aj}:LP P (.func n dv) d xs r st K=cY P n (du (xs++dv)) st d (Gg P r K):=rfl
theorem aey{s:Nat}{w:Bool}{i:ev}:iI P (⟨some (s,w),i⟩::r) st K=qX P (get s st.t) s w i r st K:=by simp only[iI,qX];try rfl
theorem aeG{s:Nat}{i:ev}:qX P (.bool true) s true i r st K=iI P (⟨none,i⟩::r) {st with t:=put s (.bool true) st.t} K:=by simp[qX]
theorem aeC{s:Nat}{i:ev}:qX P (.bool false) s false i r st K=iI P (⟨none,i⟩::r) {st with t:=put s (.bool false) st.t} K:=by simp[qX]
theorem aeF{s:Nat}{i:ev}:qX P (.bool true) s false i r st K=iI P r {st with t:=e6 i.dst (.tuple []) (put s (.bool true) st.t)} K:=by simp[qX]
theorem aeD{s:Nat}{i:ev}:qX P (.bool false) s true i r st K=iI P r {st with t:=e6 i.dst (.tuple []) (put s (.bool false) st.t)} K:=by simp[qX]
theorem aeE{s:Nat}{w:Bool}{i:ev}:qX P (.tuple []) s w i r st K=iI P r {st with t:=e6 i.dst (.tuple []) st.t} K:=by simp[qX]
theorem bP{x:Bool}{s:Nat}{w:Bool}{i:ev}(I:x=w->iI P (⟨none,i⟩::r) {st with t:=put s (.bool w) st.t} K)(U:x= !w->iI P r {st with t:=e6 i.dst (.tuple []) (put s (.bool !w) st.t)} K):qX P (.bool x) s w i r st K:=⟨I,U⟩
theorem adX:dd P ob (.seq (.seq a b) c) Q st=dd P ob (.seq a (.seq b c)) Q st:=by simp only[dd];congr 1;funext e st';cases e<;>rfl
theorem aei:dd P ob (.seq .skip c) Q st=dd P ob c Q st:=rfl
theorem aeg:dd P ob (.seq .ret c) Q st=Q .ret st:=rfl
theorem ad6{n:Nat}:dd P ob (.seq (.exit n) c) Q st=Q (.exit n) st:=rfl
theorem aej:dd P ob .skip Q st=Q .normal st:=rfl
theorem aeh:dd P ob .ret Q st=Q .ret st:=rfl
theorem ad7{n:Nat}:dd P ob (.exit n) Q st=Q (.exit n) st:=rfl
theorem aee{gs:List dh}:dd P ob (.seq (.region gs) c) Q st=iI P gs st (Av P ob c Q):=rfl
theorem aef{gs:List dh}:dd P ob (.region gs) Q st=iI P gs st (Q .normal):=rfl
theorem ad0{x:dA}:dd P ob (.seq (.cond x t e) c) Q st=vt P ob (cy st.t x) x (.seq t c) (.seq e c) Q st:=by simp only[dd,vt];try rfl
theorem ad1{x:dA}:dd P ob (.cond x t e) Q st=vt P ob (cy st.t x) x t e Q st:=by simp only[dd,vt];try rfl
theorem ael{x:dA}:vt P ob (.bool true) x t e Q st=dd P ob t Q (tv st x true):=by simp[vt]
theorem aek{x:dA}:vt P ob (.bool false) x t e Q st=dd P ob e Q (tv st x false):=by simp[vt]
theorem bN{v:Bool}{x:dA}(I:v=true->dd P ob t Q (tv st x true))(U:v=false->dd P ob e Q (tv st x false)):vt P ob (.bool v) x t e Q st:=⟨I,U⟩
def Ap(P:cM)(ob:List aM)(id:Nat)(c:C)(Q:Exit->bt->Prop)(e:Exit)(st:bt):Prop:=
 match e with
 | .normal=>dd P ob c Q st
 | .exit j=>if j=id then dd P ob c Q st else Q (.exit j) st
 |e=>Q e st
theorem adY{id:Nat}:dd P ob (.seq (.block id a) c) Q st=dd P ob a (Ap P ob id c Q) st:=by
 simp only[dd];congr 1;funext e st';cases e with
 |exit j=>rfl
 |_=>rfl
theorem adZ{id:Nat}:dd P ob (.block id a) Q st=dd P ob a (Ap P ob id .skip Q) st:=by
 simp only[dd];congr 1;funext e st';cases e with
 |exit j=>simp only[Ap];by_cases ag:j=id<;>simp[ag,dd]
 |_=>rfl
theorem acg{id:Nat}:Ap P ob id c Q .normal st=Av P ob c Q st:=rfl
theorem acf{id j:Nat}:Ap P ob id c Q (.exit j) st=if j=id then Av P ob c Q st else Q (.exit j) st:=rfl
theorem ach{id:Nat}:Ap P ob id c Q .ret st=Q .ret st:=rfl
def bS(ob:List aM)(hF:Nat->bt->Prop)(k:Nat)(Q:Exit->bt->Prop)(e:Exit)(st:bt):Prop:=
 match e with
 | .normal=> ∃bJ pX,bJ<k/\jD ob st pX/\hF bJ pX
 |e=>Q e st
theorem Gd{hF:Nat->bt->Prop}{k:Nat}:bS ob hF k Q .normal st= ∃bJ pX,bJ<k/\jD ob st pX/\hF bJ pX:=rfl
theorem acp{hF:Nat->bt->Prop}{k n:Nat}:bS ob hF k Q (.exit n) st=Q (.exit n) st:=rfl
theorem acq{hF:Nat->bt->Prop}{k:Nat}:bS ob hF k Q .ret st=Q .ret st:=rfl
theorem oT(hF:Nat->bt->Prop)(m:Nat)(x6:bt)(hw:jD ob st x6)(bB:hF m x6)(h:∀k s,hF k s->(∀i,gj (get i s.t))->(∀j cs,look j s.b=some cs->iq cs=true->gE cs)->dd P ob a (bS ob hF k Q) s):dd P ob (.loop a) Q st:=by
 simp only[dd];refine⟨hF,m,x6,hw,bB,fun k s I U ao=>?_⟩;have:=h k s I U ao;have bs:(bS ob hF k Q)=(fun e ai=>match e with| .normal=> ∃bJ pX,bJ<k/\jD ob ai pX/\hF bJ pX|e=>Q e ai):=by funext e ai;cases e<;>rfl
 rw[bs]at this;exact this
end
/-Regions cJ draw lU order. -/
def PV(n0:Nat)(st:bt)(i:eB):Prop:=match eT (qj n0 i) st.n (qj n0 i::st.o) st i with|some (c,_)=>c|none=>eI
def PW(n0:Nat)(st:bt)(i:eB):bt:=match eT (qj n0 i) st.n (qj n0 i::st.o) st i with|some (_,s)=>s|none=>st
def Kx(P:cM)(q:Bool)(nw:List Nat)(n0:Nat)(r:List dh)(K:bt->Prop)(st:bt):Prop:=iy P q nw n0 r st K
def qW(P:cM)(q:Bool)(nw:List Nat)(n0:Nat)(v:aj)(s:Nat)(w:Bool)(i:ev)(r:List dh)(st:bt)(K:bt->Prop):Prop:=
 match v with
 | .bool b=>(b=w->iy P q nw n0 (⟨none,i⟩::r) {st with t:=put s (.bool w) st.t} K)/\(b= !w->iy P q nw n0 r {st with t:=e6 i.dst (.tuple []) (put s (.bool !w) st.t)} K)
 | .tuple []=>iy P q nw n0 r {st with t:=e6 i.dst (.tuple []) st.t} K
 |_=>eI
def LO(P:cM)(q:Bool)(nw:List Nat)(n0:Nat)(v:aj)(d:Option Nat)(xs:List aj)(r:List dh)(st:bt)(K:bt->Prop):Prop:=
 match v with
 | .func n dv=>hs P q nw n (du (xs++dv)) st d (Kx P q nw n0 r K)
 |_=>eI
section
variable {P:cM} {ob:List aM} {st:bt} {K:bt->Prop} {r:List dh} {Q:Exit->bt->Prop} {c:C} {q:Bool} {nw:List Nat} {n0 N:Nat}
theorem aep:iy P q nw n0 [] st K=K st:=rfl
theorem aeq{i:eB}:iy P q nw n0 (⟨none,.s i⟩::r) st K=(mR q nw n0 st i/\PV n0 st i/\iy P q nw n0 r (PW n0 st i) K):=by
 simp only[iy,k9,PV,PW];cases eT (qj n0 i) st.n (qj n0 i::st.o) st i with
 |none=>simp
 |some x=>rfl
theorem aen{d:Option Nat}{f:dA}{xs:List dA}:iy P q nw n0 (⟨none,.call d f xs⟩::r) st K=LO P q nw n0 (cy st.t f) d (xs.map (cy st.t)) r st K:=by simp only[iy,k9,LO];rfl
theorem aem{n:Nat}{dv:List aj}{d:Option Nat}{xs:List aj}:LO P q nw n0 (.func n dv) d xs r st K=hs P q nw n (du (xs++dv)) st d (Kx P q nw n0 r K):=rfl
theorem aeo{s:Nat}{w:Bool}{i:ev}:iy P q nw n0 (⟨some (s,w),i⟩::r) st K=qW P q nw n0 (get s st.t) s w i r st K:=by simp only[iy,qW];try rfl
theorem aev{s:Nat}{i:ev}:qW P q nw n0 (.bool true) s true i r st K=iy P q nw n0 (⟨none,i⟩::r) {st with t:=put s (.bool true) st.t} K:=by simp[qW]
theorem aer{s:Nat}{i:ev}:qW P q nw n0 (.bool false) s false i r st K=iy P q nw n0 (⟨none,i⟩::r) {st with t:=put s (.bool false) st.t} K:=by simp[qW]
theorem aeu{s:Nat}{i:ev}:qW P q nw n0 (.bool true) s false i r st K=iy P q nw n0 r {st with t:=e6 i.dst (.tuple []) (put s (.bool true) st.t)} K:=by simp[qW]
theorem aes{s:Nat}{i:ev}:qW P q nw n0 (.bool false) s true i r st K=iy P q nw n0 r {st with t:=e6 i.dst (.tuple []) (put s (.bool false) st.t)} K:=by simp[qW]
theorem aet{s:Nat}{w:Bool}{i:ev}:qW P q nw n0 (.tuple []) s w i r st K=iy P q nw n0 r {st with t:=e6 i.dst (.tuple []) st.t} K:=by simp[qW]
theorem bO{x:Bool}{s:Nat}{w:Bool}{i:ev}(I:x=w->iy P q nw n0 (⟨none,i⟩::r) {st with t:=put s (.bool w) st.t} K)(U:x= !w->iy P q nw n0 r {st with t:=e6 i.dst (.tuple []) (put s (.bool !w) st.t)} K):qW P q nw n0 (.bool x) s w i r st K:=⟨I,U⟩
theorem ad2{gs:List dh}:dd P ob (.seq (.drawn q N gs) c) Q st=iy P q [] st.n gs st (vd (st.n+N) st.o (Av P ob c Q)):=rfl
theorem ad3{gs:List dh}:dd P ob (.drawn q N gs) Q st=iy P q [] st.n gs st (vd (st.n+N) st.o (Q .normal)):=rfl
theorem ad4{gs:List dh}:dd P ob (.seq (.drawnW nw N gs) c) Q st=((∀j∈nw,.obj j∉st.o)/\iy P false nw st.n gs st (vd (st.n+N) (nw.map aM.obj++st.o) (Av P ob c Q))):=rfl
theorem ad5{gs:List dh}:dd P ob (.drawnW nw N gs) Q st=((∀j∈nw,.obj j∉st.o)/\iy P false nw st.n gs st (vd (st.n+N) (nw.map aM.obj++st.o) (Q .normal))):=rfl
theorem hs.val{n:Nat}{args:List aj}{d:Option Nat}{r:aj}(ae:aP (fun _=>eI) args)(aO:bR P n args r)(h:K {st with t:=e6 d r st.t}):hs P q nw n args st d K:=by
 refine .inr ⟨⟨[],[]⟩,⟨[],[]⟩,r,none,fun k cs ae=>by simp[look]at ae,fun k cs ae=>by simp[look]at ae,wk,wk,⟨fun k h=>.inl h,fun k h=>.inl h,fun k h=>h,fun k h=>h,fun k h=>by cases h⟩,kJ (fun _ h=>h.elim) _ ae,aO,fun _=>⟨rfl,rfl⟩,?_⟩;have:({after st ⟨[],[]⟩ ⟨[],[]⟩ d r with o:=st.o}:bt)={st with t:=e6 d r st.t}:=by simp[after,QW]
 rw[this];exact h
theorem aG{n:Nat}{args:List aj}{d:Option Nat}{r:aj}(aO:bR P n args r)(h:K {st with t:=e6 d r st.t})(ae:aP (fun _=>eI) args:=by simp):hs P q nw n args st d K:=hs.val ae aO h
end
section
variable {k:IntKind} {n:Int} {b:Bool} {s:List UInt8} {sz:Nat} {tag:C2} {xs:List aj} {key:aM} {off f:Nat} {x:aj}
@[simp]theorem avC:e7 (.int k n)=true:=rfl
@[simp]theorem avq:e7 (.bool b)=true:=rfl
@[simp]theorem avJ:e7 (.str s)=true:=rfl
@[simp]theorem avI:e7 (.slice sz tag xs)=true:=rfl
@[simp]theorem avn:e7 (.agg xs)=true:=rfl
@[simp]theorem avG:e7 (.ptr key off)=true:=rfl
@[simp]theorem avy:e7 (.eptr x)=true:=rfl
@[simp]theorem avB{t:Nat}:e7 (.iface t x)=true:=rfl
@[simp]theorem asx{t:Nat}:cells (.iface t x)=[.iface t x]:=rfl
@[simp]theorem avs{a:Option Addr}{n c:Nat}:e7 (.cst (.slice a n c))=true:=rfl
@[simp]theorem avt{s}:e7 (.cst (.string s))=true:=rfl
@[simp]theorem avF:e7 .nilp=true:=rfl
@[simp]theorem avz:e7 (.func f xs)=true:=rfl
@[simp]theorem avA:e7 (.gmap key)=true:=rfl
@[simp]theorem avH{n:Nat}:e7 (.row sz key n)=true:=rfl
@[simp]theorem asE{n:Nat}:cells (.row sz key n)=[.row sz key n]:=rfl
@[simp]theorem asy:cells (.int k n)=[.int k n]:=rfl
@[simp]theorem aso:cells (.bool b)=[.bool b]:=rfl
@[simp]theorem asG:cells (.str s)=[.str s]:=rfl
@[simp]theorem asF:cells (.slice sz tag xs)=[.slice sz tag xs]:=rfl
@[simp]theorem asl:cells (.agg xs)=xs:=rfl
@[simp]theorem asD:cells (.ptr key off)=[.ptr key off]:=rfl
@[simp]theorem asu:cells (.eptr x)=[.eptr x]:=rfl
@[simp]theorem asC:cells .nilp=[.nilp]:=rfl
@[simp]theorem asv:cells (.func f xs)=[.func f xs]:=rfl
@[simp]theorem asw:cells (.gmap key)=[.gmap key]:=rfl
end
section
variable {b:List (aM×List aj)} {e:List (aM×fU)} {agg:Bool} {sz off:Nat} {k:aM} {p:aj} {cs xs bc:List aj} {fL:IntKind} {n i:Int} {m j:Nat} {tag:C2} {s:List UInt8} {RL:Bool} {lo hi:Option aj}
@[simp]theorem auu{dN:Nat}{f:Nat}:nL b e agg sz (.rptr dN k m j f)=zW agg sz dN m j f (look k e):=rfl
@[simp]theorem aut:nL b e agg sz (.ptr k off)=(match look k b with
  |some cs=>if agg then some (iq cs=true/\off+sz<=cs.length,.agg ((cs.drop off).take sz))else(cs[off]?).map fun p=>(iq cs=true,p)
  |none=>none):=rfl
@[simp]theorem aus:nL b e agg sz (.eptr p)=if agg then some (isAgg sz p,p)else some (e7 p=true/\cells p=[p],p):=rfl
@[simp]theorem as3:DE agg sz (.eptr p)=if agg then some (isAgg sz p,p)else some (e7 p=true/\cells p=[p],p):=rfl
@[simp]theorem asV{o:Nat}:sE off agg sz (.ptr k o)=some (True,.ptr k (o+off)):=rfl
@[simp]theorem asW{dN f:Nat}:sE off agg sz (.rptr dN k m j f)=some (True,.rptr dN k m j (f+off)):=rfl
@[simp]theorem asQ:sE off agg sz (.eptr (.agg cs))=if agg then some (off+sz<=cs.length,.eptr (.agg ((cs.drop off).take sz)))else(cs[off]?).map fun p=>(e7 p=true/\cells p=[p],.eptr p):=rfl
@[simp]theorem asY:vx off agg sz (.agg cs)=if agg then some (off+sz<=cs.length,.agg ((cs.drop off).take sz))else(cs[off]?).map fun p=>(True,p):=rfl
@[simp]theorem atG{dN:Nat}:BC sz (.slice dN tag xs) (.int fL i)=if dN=sz then some (0<=i/\i<xs.length,.eptr (xs.getD i.toNat .junk))else none:=rfl
@[simp]theorem atF{dN:Nat}:BC sz (.row dN k m) (.int fL i)=if dN=sz then some (0<=i/\i<m,.rptr dN k m i.toNat 0)else none:=rfl
@[simp]theorem aur{dN:Nat}:BO (.slice dN tag xs)=some (True,.int .i64 xs.length):=rfl
@[simp]theorem auq{dN:Nat}:BO (.row dN k m)=some (True,.int .i64 m):=rfl
@[simp]theorem aup{a:Option Addr}{n c:Nat}:BO (.cst (.slice a n c))=some (True,.int .i64 n):=rfl
@[simp]theorem avl{s}:FJ (.cst (.string s))=some (True,.int .i64 s.size):=rfl
@[simp]theorem avm:FJ (.str s)=some (True,.int .i64 s.length):=rfl
@[simp]theorem asP:AS j (.tuple bc)=(bc[j]?).map fun p=>(True,p):=rfl
@[simp]theorem auX:B1 (.ptr k off)=some (True,.ptr k off):=rfl
@[simp]theorem auV:B1 (.eptr p)=some (True,.eptr p):=rfl
@[simp]theorem auW:B1 (.func j cs)=some (True,.func j cs):=rfl
@[simp]theorem auY:I3 (.bool RL)=some (True,.bool (!RL)):=rfl
@[simp]theorem avk:JZ (.str s) (.int fL i)=some (0<=i/\i<s.length,.int .u8 (s.getD i.toNat 0).toNat):=rfl
@[simp]theorem avK:J5 (.str s) lo hi=(match r4 0 lo,r4 s.length hi with
  |some l,some h=>some (0<=l/\l<=h/\h<=s.length,.str ((s.take h.toNat).drop l.toNat))
  |_,_=>none):=rfl
@[simp]theorem auv{dN:Nat}:IM sz (.slice dN tag xs) lo hi=(if dN=sz then match r4 0 lo,r4 xs.length hi with
  |some l,some h=>some (0<=l/\l<=h/\h<=xs.length,.slice sz .no ((xs.take h.toNat).drop l.toNat))
  |_,_=>none else none):=rfl
theorem Ot{f:aM->Option (List aj)}{cj:kn}{z q:aj}{ok:Bool}:nN f cj z ok (.gmap k) q=(match f k with
  |some (.hdm _ _::kvs)=>if vV cj q=false then none else match uR cj q kvs with
   |some (some v)=>some (True,if ok then .tuple [v,.bool true]else v)
   |some none=>some (True,if ok then .tuple [z,.bool false]else z)
   |none=>none
  |_=>none):=rfl
theorem X5{f:aM->Option (List aj)}:qy f (.ptr k 0)=(match f k with
  |some [.hdi _ seen last,.gmap mk]=>match f mk with
   |some (.hdm clock borns::kvs)=>match seen.getLast? with
    |some n=>(nM n borns kvs).map fun p=>(clock=last,p)
    |none=>none
   |_=>none
  |_=>none):=rfl
@[simp]theorem avi{dN f n' el j4:Nat}:zW agg sz dN m j f (some ⟨n',el,j4,some xs⟩)=(if n'=m/\j4=dN then
   (match xs[j]? with
    |some p=>if agg then some (e7 p=true/\f+sz<=(cells p).length,.agg (((cells p).drop f).take sz))else((cells p)[f]?).map fun q=>(e7 p=true,q)
    |none=>none)else none):=rfl
end
attribute [simp] adX aee adY ad0 aei aeg ad6 aej aeh ad7 aef adZ ad1 Av acg acf ach acp acq aeA aeB aex aew aey
 aeG aeC aeF aeD aeE ael aek PX PY nf hQ kg cy get put kx ra oy oz cI r4 b9 cp J6 pa vp Jd IZ G2 IX
 look e6 eB.dst ev.dst tv Gg tU du ej aK aP
 ad2 ad3 ad4 ad5 aep aeq aen aem aeo aev aer aeu aes aet PV PW eT qj mR yN gk.loadO vd Kx zl iq tW aez aec aed ad8 ad9 aea aeb w9 Mh ub AX acv xW Ff xV sd qG jj IT
theorem aF{P:cM}{n:Nat}{args:List aj}{st:bt}{d:Option Nat}{K:bt->Prop}{r:aj}(aO:bR P n args r)(h:K {st with t:=e6 d r st.t})(ae:aP (fun _=>eI) args:=by simp):cY P n args st d K:=cY.val ae aO h
theorem ak{a b:Prop}(ad:b)(bk:a:=by first|omega|(unfold pQ;omega)|(unfold lim;omega)):a/\b:=⟨bk,ad⟩
theorem cf{p:Prop}(h:eI:=by first|contradiction|omega):p:=h.elim
theorem cu{p:Prop}(h:p:=by(try simp[*]);(repeat' first|with_reducible refine ak ?_|with_reducible refine aF (by assumption) ?_|with_reducible refine aG (by assumption) ?_|simp[*]);(all_goals first|done|(simp[bz,aY,a6,aX, *];done))):p:=h
end
section
open Go Go.RowKit
structure dP (s:cU):Prop where
 obj:jv s
 kb:∀k cs,look k s.b=some cs->aP (inObs s) cs
 ke:∀k o,look k s.e=some o->ee (inObs s) o
structure Same (s ai:cU):Prop where
 b:∀k,(look k s.b).isSome=(look k ai.b).isSome
 e:∀k,(look k s.e).isSome=(look k ai.e).isSome
theorem Same.refl(s:cU):Same s s:=⟨fun _=>rfl,fun _=>rfl⟩
theorem Same.inObs{s ai:cU}(h:Same s ai)(k:aM):inObs s k↔inObs ai k:=by unfold Pv.inObs;rw[h.b,h.e]
theorem wb{α:Type}{k:aM}{x:α}:∀{l:List (aM×α)},(k,x)∈l->(look k l).isSome
 |(i,y)::r,h=>by
  simp only[look];split
  ·rfl
  ·rename_i cG;rcases eU.1 h with h|h
   ·cases h;exact absurd rfl cG
   ·exact wb h
theorem WZ{s:cU}{k:aM}(h:k∈dc s):inObs s k:=by
 unfold dc at h;rcases h3.1 h with h|h
 ·obtain⟨⟨bJ,x⟩,I,rfl⟩:=hU.1 h;exact .inl (wb I)
 ·obtain⟨⟨bJ,x⟩,I,rfl⟩:=hU.1 h;exact .inr (wb I)
theorem kM{s:cU}(h:jv s)(m:Nat):aM.loc m∉dc s:=fun hm=>by
 rcases WZ hm with I|I
 ·rw[h.1 m]at I;cases I
 ·rw[h.2 m]at I;cases I
theorem jw{α β:Type}(s:List (aM×β)):∀(a b:List (aM×α)),cc s (a++b)=cc s a++cc s b
 |[],b=>rfl
 |(k,x)::r,b=>by
  simp only[bQ,cc];cases look k s with
  |none=>simp[jw s r b]
  |some _=>exact jw s r b
theorem QX{α β:Type}(s:List (aM×β)):∀(l:List (aM×α)),(∀k x,(k,x)∈l->(look k s).isSome)->cc s l=[]
 |[],_=>rfl
 |(k,x)::r,h=>by
  have I:=h k x Ψ;simp only[cc];cases aw:look k s with
  |none=>rw[aw]at I;cases I
  |some _=>exact QX s r fun k x ab=>h k x (by simp[ab])
theorem hC{α:Type}(s:List (aM×α)):cc s s=[]:=QX s s fun k x h=>wb h
theorem kR{α:Type}{k:aM}{x:α}:∀{l:List (aM×α)},look k l=none->cI k x l=l++[(k,x)]
 |[],_=>rfl
 |(i,y)::r,h=>by
  simp only[look]at h;split at h
  ·cases h
  ·rename_i cG;simp[cI,cG,kR h]
theorem cX{α:Type}(k:aM):∀(a b:List (aM×α)),look k (a++b)=match look k a with|some x=>some x|none=>look k b
 |[],b=>rfl
 |(i,y)::r,b=>by
  simp only[bQ,look];split
  ·rfl
  ·exact cX k r b
theorem cY.ob{P:cM}{n:Nat}{args:List aj}{st:bt}{d:Option Nat}{K:bt->Prop}{s:cU}{Q:aj->cU->Prop}(aO:bL P n args s Q)(af:dP s)(ad:∀k cs,look k s.b=some cs->look k st.b=some cs)(he:∀k o,look k s.e=some o->look k st.e=some o)
  (ae:aP (inObs s) args) (h:∀r ai,Q r ai->Same s ai/\K ⟨e6 d r st.t,cc s.b st.b++ai.b,cc s.e st.e++ai.e,st.n,st.o++dc ai⟩):cY P n args st d K:=by
 refine .inl ⟨s,Q,fun k cs aq=>⟨ad k cs aq,.inl g9,af.kb k cs aq⟩,fun k o ax=>⟨he k o ax,.inr (by simp[ax]),af.ke k o ax⟩,af.obj,ae,aO,fun r ai bs=>?_⟩;obtain⟨I,U⟩:=h r ai bs;exact⟨⟨fun m hm=>.inl (by rw[I.b];exact hm),fun m hm=>.inl (by rw[I.e];exact hm)⟩,U⟩
theorem cR.ob{eX:List bW}{s ai:cU}{Q:aj->cU->Prop}{e:Exit}{st:bt}{c:Prop}{cC:List aj}(sQ:e= .ret\/e= .normal)(sW:aY st eX=some (c,cC))(aq:c)(af:dP ai)(fB:Same s ai)(ad:∀k cs,look k ai.b=some cs->look k st.b=some cs)(c3:∀k o,look k ai.e=some o->look k st.e=some o)
  (ae:aK (inObs ai) (ej (aX cC))) (bs:Q (ej (aX cC)) ai):cR eX s Q e st:=by
 refine⟨sQ,?_⟩;rw[sW];have Wd:∀{α:Type} (l:List (aM×α)),(∀k x,(k,x)∈l->inObs ai k)->kI ai l:=by
  intro α l;induction l with
  |nil=>intro _;trivial
  |cons x r bK=>obtain⟨k,x⟩:=x;intro h;exact⟨h k x Ψ,bK fun k x ab=>h k x (by simp[ab])⟩
 exact⟨aq,ai,Wd _ fun k x ab=>.inl (by rw[<-fB.b];exact wb ab),Wd _ fun k x ab=>.inr (by rw[<-fB.e];exact wb ab),fun k cs dj=>⟨ad k cs dj,.inl (by simp[dj]),af.kb k cs dj⟩,fun k o ax=>⟨c3 k o ax,.inr (by simp[ax]),af.ke k o ax⟩,af.obj,ae,bs⟩
theorem bL.mono{P:cM}{f:FuncId}{args:List aj}{s:cU}{Q ry:aj->cU->Prop}(h:bL P f args s Q)(bs:∀r ai,Q r ai->ry r ai):bL P f args s ry:=by
 intro w Z bc I U ao;have hm:∀(e:Ending) (w':World),(∃v r ai bo,e= .returned v/\Q r ai/\be w' bo r v/\Good (fun bl=>fE Z s bl\/w.heap.size<=bl) w' bo ai.b ai.e/\pE bo ai/\jv ai/\qR ⟨w,Z,fE Z s,0,dc s⟩ w' bo)->(∃v r ai bo,e= .returned v/\ry r ai/\be w' bo r v/\Good (fun bl=>fE Z s bl\/w.heap.size<=bl) w' bo ai.b ai.e/\pE bo ai/\jv ai/\qR ⟨w,Z,fE Z s,0,dc s⟩ w' bo):=by rintro e w' ⟨v,r,ai,bo,bF,a2,a3⟩;exact⟨v,r,ai,bo,bF,bs _ _ a2,a3⟩
 rcases h w Z bc I U ao with⟨qs,aq⟩|⟨v,w',aq,aN⟩
 ·exact .inl ⟨qs,aq.mono hm⟩
 ·exact .inr ⟨v,w',aq,hm _ _ aN⟩
theorem EX{s:cU}{k:aM}(h:inObs s k):¬fresh 0 (dc s) k:=fun aO=>aO.2 (uU h)
theorem jD.ob{s:cU}(af:dP s){st:bt}{dH:List (Nat×aj)}(aC:∀x∈dH,get x.1 st.t=x.2/\aK (inObs s) x.2)(ad:∀k cs,look k s.b=some cs->look k st.b=some cs)(he:∀k o,look k s.e=some o->look k st.e=some o):
  jD (dc s) st ⟨dH,s.b,s.e,0,dc s⟩:=
 ⟨fun x ab=>⟨(aC x ab).1,xH (fun k ae=>EX ae) _ (aC x ab).2⟩,fun k cs aq=>⟨ad k cs aq,EX (.inl g9),kJ (fun k ae=>EX ae) _ (af.kb k cs aq)⟩,
  fun k o ax=>⟨he k o ax,EX (.inr (by simp[ax])),fun xs ab=>kJ (fun k ae=>EX ae) _ (af.ke k o ax xs ab)⟩,fun m hm=>hm⟩
def cV(st:bt)(eX:List bW)(R:aj->Prop):Prop:=match aY st eX with
 |some (c,cC)=>c/\R (ej (aX cC))
 |none=>eI
theorem cR.at{eX:List bW}{s:cU}{Q:aj->cU->Prop}{e:Exit}{st:bt}(ai:cU)(sQ:e= .ret\/e= .normal)(af:dP ai)(fB:Same s ai)(ad:∀k cs,look k ai.b=some cs->look k st.b=some cs)(c3:∀k o,look k ai.e=some o->look k st.e=some o)
  (h:cV st eX fun r=>aK (inObs ai) r/\Q r ai):cR eX s Q e st:=by
 unfold cV at h;split at h
 ·rename_i c cC aN;exact cR.ob sQ aN h.1 af fB ad c3 h.2.1 h.2.2
 ·exact h.elim
theorem hs.ob{P:cM}{nw:List Nat}{n:Nat}{args:List aj}{st:bt}{d:Option Nat}{K:bt->Prop}{s ai:cU}{r:aj}(aO:bL P n args s fun e2 dH=>e2=r/\dH=ai)(af:dP s)(gb:dP ai)(fB:Same s ai)(ad:∀k cs,look k s.b=some cs->look k st.b=some cs)(he:∀k o,look k s.e=some o->look k st.e=some o)
  (ae:aP (inObs s) args) (h:K ⟨e6 d r st.t,cc s.b st.b++ai.b,cc s.e st.e++ai.e,st.n,st.o⟩):hs P false nw n args st d K:=
 .inr ⟨s,ai,r,none,fun k cs aq=>⟨ad k cs aq,.inl g9,af.kb k cs aq⟩,fun k o ax=>⟨he k o ax,.inr (by simp[ax]),af.ke k o ax⟩,af.obj,gb.obj,⟨fun k ae=>.inl (by rw[fB.b];exact ae),fun k ae=>.inl (by rw[fB.e];exact ae),fun k ae=>by rw[<-fB.b];exact ae,fun k ae=>by rw[<-fB.e];exact ae,fun k ae=>by cases ae⟩,ae,aO,(fun e=>by cases e),h⟩
theorem dP.of{s:cU}(ax:jv s)(ad:∀x∈s.b,aP (inObs s) x.2)(he:∀x∈s.e,∀xs,x.2.xs=some xs->aP (inObs s) xs):dP s:=⟨ax,fun k cs ae=>ad (k,cs) (uN ae),fun k o ae xs ab=>he (k,o) (uN ae) xs ab⟩
@[simp]theorem au0(b:List (aM×List aj))(e:List (aM×fU)):dc ⟨b,e⟩=b.map (·.1)++e.map (·.1):=rfl
theorem CL{α:Type}{k:aM}{p:α}:∀{a r:List (aM×α)},look k a=none->cI k p (a++r)=a++cI k p r
 |[],_,_=>rfl
 |(i,y)::a,r,h=>by
  simp only[look]at h;split at h
  ·cases h
  ·rename_i cG;simp[cI,cG,CL h]
theorem akT{α:Type}{s b:List (aM×α)}(h:∀p∈s,look p.1 b=some p.2):∀k x,look k s=some x->look k b=some x:=fun k x ab=>h (k,x) (uN ab)
theorem et{S:aM->Prop}{b3 b:List (aM×List aj)}(h:∀p∈b3,look p.1 b=some p.2/\S p.1/\aP S p.2):gR S b3 b:=fun k x ab=>h (k,x) (uN ab)
theorem eu{S:aM->Prop}{b3 b:List (aM×fU)}(h:∀p∈b3,look p.1 b=some p.2/\S p.1/\ee S p.2):oG S b3 b:=fun k x ab=>h (k,x) (uN ab)
theorem aL{α:Type}{s b:List (aM×α)}(h:∀k x,look k s=some x->look k b=some x:=by first|(refine akT ?_;simp;done)|(intro k x ab;first|exact ab|(simp[ab,hC];done)|(simp[cX,hC,ab];done)|(cases k<;>simp_all[cX];done))):∀k x,look k s=some x->look k b=some x:=h
theorem b0{ob:List aM}{st st':bt}(I:∀x∈st'.t,get x.1 st.t=x.2/\aK (fun k=> ¬fresh st'.n st'.o k) x.2:=by simp[fresh,aP,aK,cq,inObs,Pv.look])(U:∀p∈st'.b,look p.1 st.b=some p.2/\(¬fresh st'.n st'.o p.1)/\aP (fun k=> ¬fresh st'.n st'.o k) p.2:=by simp[fresh,aP,aK,cq,inObs,Pv.look])(ao:∀p∈st'.e,look p.1 st.e=some p.2/\(¬fresh st'.n st'.o p.1)/\ee (fun k=> ¬fresh st'.n st'.o k) p.2:=by simp[fresh,aP,aK,ee,inObs,Pv.look])(a7:∀m∈ob,m∈st'.o:=by simp):jD ob st st':=⟨I,et U,eu ao,a7⟩
theorem bS.next{ob:List aM}{hF:Nat->bt->Prop}{k:Nat}{Q:Exit->bt->Prop}{st:bt}(bJ:Nat){ai:bt}(ae:bJ<k)(hi:hF bJ ai)(hw:jD ob st ai):bS ob hF k Q .normal st:=⟨bJ,ai,ae,hw,hi⟩
def la:List (Int×aj)->List aj
 |[]=>[]
 |(k,v)::r=>.int .i64 k::v::la r
def kv(l:List (Int×aj)):List aj:= .hdm l.length (List.range l.length)::la l
def tV(k:Int):List (Int×aj)->Option aj
 |[]=>none
 |(i,v)::r=>if k=i then some v else tV k r
def qd(k:Int)(v:aj):List (Int×aj)->Option (List (Int×aj))
 |[]=>none
 |(i,w)::r=>if k=i then some ((k,v)::r)else match qd k v r with|some e2=>some ((i,w)::e2)|none=>none
def Gw(k:Int)(v:aj)(l:List (Int×aj)):List (Int×aj):=match qd k v l with|some ba=>ba|none=>l++[(k,v)]
@[simp]theorem auG:[aj.hdm 0 []]=kv []:=rfl
theorem U8:∀a b,la (a++b)=la a++la b
 |[],_=>rfl
 |(k,v)::r,b=>by simp[la,U8 r b]
theorem X6(k:Int):∀l,uR .i (.int .i64 k) (la l)=some (tV k l)
 |[]=>rfl
 |(i,v)::r=>by
  simp only[la,uR,rW,tV];by_cases h:k=i
  ·simp[h]
  ·have:(k==i)=false:=by simp[h]
   simp[h,X6 k r,this]
theorem RC{k:Int}{v:aj}:∀{l ba},qd k v l=some ba->ba.length=l.length
 |[],_,h=>by simp[qd]at h
 |(i,w)::r,ba,h=>by
  simp only[qd]at h;split at h
  ·cases h;rfl
  ·split at h
   ·rename_i e2 aN;cases h;simp[RC aN]
   ·cases h
theorem Yr(k:Int)(v:aj):∀l,ti .i (.int .i64 k) v (la l)=some ((qd k v l).map la)
 |[]=>rfl
 |(i,w)::r=>by
  simp only[la,ti,rW,qd];by_cases h:k=i
  ·subst h;simp[la]
  ·simp only[and_self,if_true,h,if_false,dO,Yr k v r];have:(k==i)=false:=by simp[h]
   rw[this];cases qd k v r<;>simp[la]
@[simp]theorem Yp(k:Int)(v:aj)(l:List (Int×aj)):ov .i (.int .i64 k) v (kv l)=some (kv (Gw k v l)):=by
 simp only[kv,ov,Xq,Bool.true_eq_false,reduceCtorEq,if_false,Yr,Gw];cases h:qd k v l with
 |some ba=>simp[RC h]
 |none=>simp[U8,la,List.range_succ]
@[simp]theorem X9(f:aM->Option (List aj))(m:aM)(l:List (Int×aj))(z:aj)(ok:Bool)(k:Int)(hm:f m=some (kv l)):nN f .i z ok (.gmap m) (.int .i64 k)=(match tV k l with
  |some v=>some (True,if ok then .tuple [v,.bool true]else v)
  |none=>some (True,if ok then .tuple [z,.bool false]else z)):=by
 simp only[Ot,hm,kv,Xq,Bool.true_eq_false,reduceCtorEq,if_false,X6];cases tV k l<;>rfl
def cq(n:Nat)(seen:List Nat)(m:aM):List aj:=[.hdi n seen n,.gmap m]
@[simp]theorem avf(m:aM)(l:List (Int×aj)):zP m (kv l)=some (cq l.length [] m):=rfl
@[simp]theorem au9(l:List (Int×aj)):iq (kv l)=false:=rfl
theorem Og(b:Nat):∀(n:Nat) (l:List (Int×aj)),nM b (List.range' n l.length) (la l)=(if n<=b then(l[b-n]?).map fun x=>.tuple [.int .i64 x.1,x.2]else none)
 |n,[]=>by simp[nM,la]
 |n,(k,v)::r=>by
  simp only[mM,List.range'_succ,la,nM];by_cases h:n=b
  ·subst h;simp
  ·rw[if_neg h,Og b (n+1) r];by_cases U:n<=b
   ·rw[if_pos U,if_pos Ω];have:b-n=(b-(n+1))+1:=Ω
    rw[this];simp
   ·rw[if_neg U,if_neg Ω]
@[simp]theorem X4(f:aM->Option (List aj))(fL mk:aM)(n:Nat)(seen:List Nat)(b:Nat)(l:List (Int×aj))(hi:f fL=some (cq n (seen++[b]) mk))(hm:f mk=some (kv l))(au:n=l.length):qy f (.ptr fL 0)=(l[b]?).map fun x=>(True,.tuple [.int .i64 x.1,x.2]):=by subst au;simp only[X5,hi,hm,cq,kv,List.getLast?_append,List.getLast?_singleton,Option.some_or,List.range_eq_range',Og,Nat.zero_le,if_true,Nat.sub_zero,Option.map_map];cases l[b]?<;>simp
theorem UC{st:bt}{d:Nat}{K:bt->Prop}{fL mk:aM}{n:Nat}{seen:List Nat}{l:List (Int×aj)}(hi:look fL st.b=some (cq n seen mk))(hm:look mk st.b=some (kv l))(au:n=l.length)
  (I:(∀b,b<n->b∈seen)->K {st with t:=put d (.tuple [.bool false]) st.t}) (U:∀b k v,l[b]? =some (k,v)->b∉seen->K {st with t:=put d (.tuple [.bool true,.int .i64 k,v]) st.t,b:=cI fL (cq n (seen++[b]) mk) st.b}):
  uf st d (.ptr fL 0) K:=by
 subst au;simp only[uf,hi,cq,hm,kv,OA,and_self,true_and];refine⟨fun h=>I fun b ad=>h b (by simpa using ad),fun b k v za ad=>?_⟩;rw[List.range_eq_range',Og]at za;simp only[Nat.zero_le,if_true,Nat.sub_zero,gB,aj.tuple.injEq,yn,and_true]at za;obtain⟨⟨bJ,v'⟩,ar,aE,bA⟩:=za;simp only at aE bA;subst aE bA;exact U b bJ v' ar ad
theorem anT{n:Nat}{seen:List Nat}(aD:seen.Nodup)(bD:∀b∈seen,b<n)(lI:∀b,b<n->b∈seen):seen.Perm (List.range n):=(List.perm_ext_iff_of_nodup aD List.nodup_range).2 fun b=>⟨fun h=>by simpa using bD b h,fun h=>lI b (by simpa using h)⟩
theorem JW{n:Nat}{seen:List Nat}(aD:seen.Nodup)(bD:∀b∈seen,b<n):seen.length<=n:=by have:=Gb aD (l₂:=List.range n) (fun b ad=>by simpa using bD b ad);simpa using this
theorem P2{n b:Nat}{seen:List Nat}(aD:seen.Nodup)(bD:∀b∈seen,b<n)(ad:b<n)(au:b∉seen):seen.length<n:=by have I:(b::seen).Nodup:=List.nodup_cons.2 ⟨au,aD⟩;have:=JW I (n:=n) (by simp;exact⟨ad,bD⟩);simp at this;omega
theorem Z6{α:Type}:∀(l pre:List α),(List.range' pre.length l.length).filterMap (fun b=>(pre++l)[b]?)=l
 |[],_=>rfl
 |x::r,pre=>by have bK:=Z6 r (pre++[x]);simp only[pn,List.length_singleton,List.append_assoc,List.singleton_append]at bK;simp[List.range'_succ,bK]
theorem P1{α:Type}{l:List α}{seen:List Nat}(aD:seen.Nodup)(bD:∀b∈seen,b<l.length)(lI:∀b,b<l.length->b∈seen):(seen.filterMap fun b=>l[b]?).Perm l:=by have I:=(anT aD bD lI).filterMap fun b=>l[b]?;have U:=Z6 l [];simp only[List.length_nil,bU,<-List.range_eq_range']at U;rwa[U]at I
theorem OE{b:Nat}{seen:List Nat}(aD:seen.Nodup)(au:b∉seen):(seen++[b]).Nodup:=by rw[List.nodup_append];exact⟨aD,Ψ,by simp;intro a bk e;subst e;exact au bk⟩
theorem c7.start{w:World}{Z:bg}{s:cU}{args:List aj}{bc:Array Value}(oi:jv s)(aT:Good (fE Z s) w Z s.b s.e)(ab:pE Z s)(aN:cZ w Z args bc.toList):
  c7 ⟨w,Z,fE Z s,bc.size,dc s⟩ ⟨kg 0 args,s.b,s.e,0,dc s⟩ {tmps:=bc,defers:=[]} w Z:=by
 have kH:=zT aN;have lh:bc.size=args.length:=by simpa using kH
 have pK:∀k,fresh 0 (dc s) k->Z.bx k=none/\Z.ow k=none/\∀j b,¬Z.tr k j b:=by
  intro k ae;cases k with
  |loc m=>exact⟨(ab _).1 (oi.1 m),(ab _).2.1 (oi.2 m),(ab _).2.2⟩
  |obj m=>
   simp only[fresh,true_and]at ae;refine⟨?_,?_,(ab _).2.2⟩
   ·refine(ab _).1 ?_;cases h:look (.obj m) s.b with
    |none=>rfl
    |some x=>exact absurd (uU (.inl (by simp[h]))) ae
   ·refine(ab _).2.1 ?_;cases h:look (.obj m) s.e with
    |none=>rfl
    |some x=>exact absurd (uU (.inr (by simp[h]))) ae
 have gZ:∀m,(Z.bx (.obj m)≠none\/Z.ow (.obj m)≠none)-> .obj m∈dc s:=by
  intro m hm;refine Classical.byContradiction fun aq=>?_;obtain⟨I,U,_⟩:=pK (.obj m) ⟨trivial,aq⟩;rcases hm with hm|hm
  ·exact hm I
  ·exact hm U
 refine⟨⟨aT.alt,fun k cs ae=>?_,aT.inj,fun g o dF=>?_,aT.oinj,aT.obx,aT.one,aT.otr⟩,⟨rfl,rfl,rfl,eo _,fun _ _ _=>rfl,fun b o h=>⟨h,rfl⟩,fun b o h=>.inl h,fun n b h=>h,fun n b h=>gZ n (.inl (by rw[h];simp)),fun m n u h=>⟨n,u,h,.inl ⟨rfl,rfl⟩⟩,fun m n u h=>gZ m (.inr (by rw[h];simp)),fun k j _ _ b h=>absurd h ((ab k).2.2 j b),fun k j b h=>absurd h ((ab k).2.2 j b),fun k j b h=>absurd h ((ab k).2.2 j b),fun _ _ _=>rfl⟩,rfl,rfl,fun i=>?_,pK⟩
 ·obtain⟨bl,us,el,g1,g2,g3⟩:=aT.box k cs ae;exact⟨bl,us,el,g1,.inl g2,g3⟩
 ·obtain⟨v,us,g1,g2,g3,g4⟩:=aT.own g o dF;exact⟨v,us,g1,g2,fun bl fA=>⟨.inl (g3 bl fA).1,(g3 bl fA).2⟩,g4⟩
 ·rw[Hs];by_cases hi:i<args.length
  ·rw[if_pos Ω];have rP:args[i]? =some args[i]:=cm hi;obtain⟨v,ar,aE⟩:=Fu i aN rP;have Dm:bc[i]? =some v:=by simpa using ar
   show be w Z _ (bc.getD i undef);rw[Array.getD_eq_getD_getElem?,Dm];simpa[List.getD,rP]using aE
  ·rw[if_neg Ω];simp[be]
theorem bL.sem{P:cM}{f:FuncId}{args:List aj}{s:cU}{Q:aj->cU->Prop}(oi:jv s)
  (h:∀(w:World) (Z:bg) (bc:Array Value),bc.size=args.length->c7 ⟨w,Z,fE Z s,bc.size,dc s⟩ ⟨kg 0 args,s.b,s.e,0,dc s⟩ {tmps:=bc,defers:=[]} w Z->
   yo P f bc w fun e w'=> ∃v st' bq bo r ai,e= .returned v/\c7 ⟨w,Z,fE Z s,bc.size,dc s⟩ st' bq w' bo/\be w' bo r v/\kI ai s.b/\kI ai s.e/\gR (inObs ai) ai.b st'.b/\oG (inObs ai) ai.e st'.e/\jv ai/\aK (inObs ai) r/\Q r ai):bL P f args s Q:=by
 intro w Z bc aT ab aN;have lh:bc.size=args.length:=by simpa using zT aN
 have pM:=c7.start oi aT ab aN;have hm:∀(e:Ending) (w':World),(∃v st' bq bo r ai,e= .returned v/\c7 ⟨w,Z,fE Z s,bc.size,dc s⟩ st' bq w' bo/\be w' bo r v/\kI ai s.b/\kI ai s.e/\gR (inObs ai) ai.b st'.b/\oG (inObs ai) ai.e st'.e/\jv ai/\aK (inObs ai) r/\Q r ai)->
   ∃v r ai bo,e= .returned v/\Q r ai/\be w' bo r v/\Good (fun bl=>fE Z s bl\/w.heap.size<=bl) w' bo ai.b ai.e/\pE bo ai/\jv ai/\qR ⟨w,Z,fE Z s,0,dc s⟩ w' bo:=by
  rintro e w' ⟨v,st',bq,bo,r,ai,rfl,dq,pW,kb,ke,aW,bj,bM,cL,c2⟩;refine⟨v,r,ai,bo.cut (inObs ai),rfl,c2,k4 (pq.cut _ w' bo) _ _ cL pW,dq.good.cut aW bj (fun bl h _=>h),?_,bM,?_⟩
  ·intro k;refine⟨?_,?_,?_⟩;rotate_left 2
   ·rintro j b ⟨af,ad⟩;obtain⟨t1,t2⟩:=dq.fr.trn k j b ad;rcases af with af|af<;>obtain⟨x,iZ⟩:=fH.1 af
    ·obtain⟨bl,ck,el,ar,_⟩:=dq.good.box k x (aW k x iZ).1;rw[t1]at ar;cases ar
    ·obtain⟨v',ck,ar,_⟩:=dq.good.own k x (bj k x iZ).1;rw[t2]at ar;cases ar
   ·intro ae;by_cases af:inObs ai k
    ·rw[bg.cut_bx af];rcases af with af|af
     ·rw[ae]at af;cases af
     ·obtain⟨x,iZ⟩:=fH.1 af;obtain⟨v',ck,ar,_⟩:=dq.good.own k x (bj k x iZ).1;rcases dq.good.one k with I|I
      ·exact I
      ·rw[I]at ar;cases ar
    ·exact(bg.cut_no af).1
   ·intro ae;by_cases af:inObs ai k
    ·rw[bg.cut_ow af];rcases af with af|af
     ·obtain⟨x,iZ⟩:=fH.1 af;obtain⟨bl,ck,el,ar,_⟩:=dq.good.box k x (aW k x iZ).1;rcases dq.good.one k with I|I
      ·rw[I]at ar;cases ar
      ·exact I
     ·rw[ae]at af;cases af
    ·exact(bg.cut_no af).2.1
  ·refine⟨dq.fr.os,dq.fr.tape,dq.fr.output,dq.fr.size,dq.fr.block,dq.fr.keep,dq.fr.fresh,fun n b h=>?_,dq.fr.obn,fun m n u h=>?_,dq.fr.obr,fun k j bJ dL b I U=>dq.fr.trd k j bJ dL b I.2 U.2,fun k j b ad=>dq.fr.trb k j b ad.2,fun k j b ad=>(by rw[bg.cut_bx ad.1,bg.cut_ow ad.1];exact dq.fr.trn k j b ad.2),dq.fr.sh⟩
   ·have af:inObs ai (.obj n):=by
     cases aw:look (.obj n) s.b with
     |none=>rw[(ab _).1 aw]at h;cases h
     |some x=>exact BJ kb _ (by simp[aw])
    rw[bg.cut_bx af];exact dq.fr.obj n b h
   ·have af:inObs ai (.obj m):=by
     cases aw:look (.obj m) s.e with
     |none=>rw[(ab _).2.1 aw]at h;cases h
     |some x=>exact BJ ke _ (by simp[aw])
    rw[bg.cut_ow af];exact dq.fr.row m n u h
 rcases h w Z bc lh pM with⟨qs,aq⟩|⟨v,w',aq,sW⟩
 ·exact .inl ⟨qs,aq.mono hm⟩
 ·exact .inr ⟨v,w',aq,hm _ _ sW⟩
theorem c7.grown{C:fv}{st:bt}{a:Act}{w w':World}{Z:bg}(h:c7 C st a w Z)(aT:w.grownBy w' none):c7 C st a w' Z:=by
 have lK:mj w Z w' Z:=⟨fun b o bm=>⟨bm,GZ aT (h.good.alt b o bm)⟩,fun _ _ _ h=>h,fun _ n u _ h=>⟨n,u,h,.inl ⟨rfl,rfl⟩⟩,fun b o bm=>x3 (aT.block b (h.good.alt b o bm) Ψ),fun _ _ _ _ h=>h⟩;refine h.over lK rfl ⟨fun b o bm=>Nat.lt_of_lt_of_le (h.good.alt b o bm) aT.size,fun k cs ae=>?_,h.good.inj,fun g o dF=>?_,h.good.oinj,h.good.obx,h.good.one,h.good.otr⟩
  ⟨aT.os.trans h.fr.os,aT.tape.trans h.fr.tape,aT.output.trans h.fr.output,hn h.fr.size aT.size,fun k ae hm=>?_,fun b o bm=>?_,h.fr.fresh,h.fr.obj,h.fr.obn,h.fr.row,h.fr.obr,h.fr.trd,fun k j b ad=>⟨(h.fr.trb k j b ad).1,Nat.lt_of_lt_of_le (h.fr.trb k j b ad).2 aT.size⟩,h.fr.trn,fun b o bm=>(lK.sh b o (h.fr.keep b o bm).1).trans (h.fr.sh b o bm)⟩ h.new
 ·obtain⟨bl,us,el,g1,g2,g3,g4,g5⟩:=h.good.box k cs ae;exact⟨bl,us,el,g1,g2,g3,by rw[aT.block bl (Array.getElem?_eq_some_iff.1 g4).1 Ψ];exact g4,rj lK g5⟩
 ·obtain⟨v,us,g1,g2,g3,g4⟩:=h.good.own g o dF;exact⟨v,us,g1,g2.kept aT (by cases v.ownBlock<;>simp),g3,tw lK (fun _ _ _ h=>h) g4⟩
 ·rw[aT.block k (Nat.lt_of_lt_of_le ae h.fr.size) Ψ];exact h.fr.block k ae hm
 ·obtain⟨aS,bh⟩:=h.fr.keep b o bm;exact⟨aS,(lK.A b o aS).2.trans bh⟩
theorem cY.new{P:cM}{n:Nat}{args:List aj}{st:bt}{d:Option Nat}{K:bt->Prop}{s:cU}{Q:aj->cU->Prop}(aO:bL P n args s Q)(af:dP s)(ad:∀k cs,look k s.b=some cs->look k st.b=some cs)(he:∀k o,look k s.e=some o->look k st.e=some o)
  (ae:aP (inObs s) args) (h:∀r ai,Q r ai->(∀m,inObs ai (.obj m)->inObs s (.obj m)/\Same s ai\/ .obj m∉st.o)/\K ⟨e6 d r st.t,cc s.b st.b++ai.b,cc s.e st.e++ai.e,st.n,st.o++dc ai⟩):cY P n args st d K:=by
 refine .inl ⟨s,Q,fun k cs aq=>⟨ad k cs aq,.inl g9,af.kb k cs aq⟩,fun k o ax=>⟨he k o ax,.inr (by simp[ax]),af.ke k o ax⟩,af.obj,ae,aO,fun r ai bs=>?_⟩;obtain⟨I,U⟩:=h r ai bs;refine⟨⟨fun m hm=>?_,fun m hm=>?_⟩,U⟩
 ·rcases I m (.inl hm)with⟨_,ao⟩|ao
  ·exact .inl (by rw[ao.b];exact hm)
  ·exact .inr ao
 ·rcases I m (.inr hm)with⟨_,ao⟩|ao
  ·exact .inl (by rw[ao.e];exact hm)
  ·exact .inr ao
theorem cR.new{eX:List bW}{s:cU}{Q:aj->cU->Prop}{e:Exit}{st:bt}(ai:cU)(sQ:e= .ret\/e= .normal)(af:dP ai)(fB:kI ai s.b/\kI ai s.e)(ad:∀k cs,look k ai.b=some cs->look k st.b=some cs)(c3:∀k o,look k ai.e=some o->look k st.e=some o)
  (h:cV st eX fun r=>aK (inObs ai) r/\Q r ai):cR eX s Q e st:=by
 unfold cV at h;split at h
 ·rename_i c cC aN;refine⟨sQ,?_⟩;rw[aN];exact⟨h.1,ai,fB.1,fB.2,fun k cs dj=>⟨ad k cs dj,.inl (by simp[dj]),af.kb k cs dj⟩,fun k o ax=>⟨c3 k o ax,.inr (by simp[ax]),af.ke k o ax⟩,af.obj,h.2.1,h.2.2⟩
 ·exact h.elim
@[simp]theorem asM{P:cM}{ob:List aM}{c d:C}{Q:Exit->bt->Prop}{st:bt}{s:Nat}:dd P ob (.seq (.pub s c) d) Q st=yr P ob (.seq c d) Q (xW st s):=by simp only[dd];cases xW st s<;>rfl
@[simp]theorem asL{P:cM}{ob:List aM}{c d:C}{Q:Exit->bt->Prop}{st:bt}{s:Nat}:dd P ob (.seq (.pubB s c) d) Q st=yr P ob (.seq c d) Q (xV st s):=by simp only[dd];cases xV st s<;>rfl
end
section
open Go Go.RowKit
def vU(t:List (Nat×aj))(cj:List Nat):List (Nat×aj):=cj.map fun k=>(k,get k t)
@[simp]theorem atT(t:List (Nat×aj)):vU t []=[]:=rfl
@[simp]theorem atS(t:List (Nat×aj))(k:Nat)(cj:List Nat):vU t (k::cj)=(k,get k t)::vU t cj:=rfl
def qA(st:bt)(cj:List Nat)(cs:List (Nat×aj)):bt:=⟨vU st.t cj++cs,st.b,st.e,st.n,st.o⟩
theorem alv(t:List (Nat×aj))(b:List (aM×List aj))(e:List (aM×fU))(n:Nat)(o:List aM)(cj:List Nat)(cs:List (Nat×aj)):qA ⟨t,b,e,n,o⟩ cj cs=⟨vU t cj++cs,b,e,n,o⟩:=rfl
def Aq{α:Type}(S:Nat->α->bt)(n:Nat)(ht:Nat->α->Prop)(k:Nat)(st:bt):Prop:= ∃i a,i<=n/\k=n-i/\ht i a/\st=S i a
section
variable {P:cM} {ob:List aM} {st:bt} {Q:Exit->bt->Prop} {c:C} {α:Type}
theorem hH(S:Nat->α->bt)(n:Nat)(ht:Nat->α->Prop)(a0:α)(hw:jD ob st (S 0 a0))(bB:ht 0 a0)(ur:∀a,ht n a->(∀i,gj (get i (S n a).t))->dd P ob c (bS ob (Aq S n ht) 0 Q) (S n a))
  (ku:∀i a,i<n->ht i a->(∀j,gj (get j (S i a).t))->dd P ob c (bS ob (Aq S n ht) (n-i) Q) (S i a)):dd P ob (.loop c) Q st:=by
 refine oT (Aq S n ht) n _ hw ⟨0,a0,Ω,Ω,bB,rfl⟩ ?_;rintro k s ⟨i,a,hi,rfl,ag,rfl⟩ ad _;rcases Nat.lt_or_ge i n with h|h
 ·exact ku i a h ag ad
 ·obtain rfl:i=n:=Ω
  rw[Nat.sub_self];exact ur a ag ad
theorem bS.rng{S:Nat->α->bt}{n:Nat}{ht:Nat->α->Prop}{i:Nat}(bq:α)(hi:i<n)(ag:ht (i+1) bq)(hw:jD ob st (S (i+1) bq)):bS ob (Aq S n ht) (n-i) Q .normal st:=⟨n-(i+1),_,Ω,hw,i+1,bq,Ω,rfl,ag,rfl⟩
def CW{α:Type}(S:α->bt)(μ:α->Nat)(ht:α->Prop)(k:Nat)(st:bt):Prop:= ∃a,k=μ a/\ht a/\st=S a
theorem n2(S:α->bt)(μ:α->Nat)(ht:α->Prop)(a0:α)(hw:jD ob st (S a0))(bB:ht a0)
  (ku:∀a,ht a->(∀j,gj (get j (S a).t))->dd P ob c (bS ob (CW S μ ht) (μ a) Q) (S a)):dd P ob (.loop c) Q st:=by
 refine oT (CW S μ ht) (μ a0) _ hw ⟨a0,rfl,bB,rfl⟩ ?_;rintro k s ⟨a,rfl,ag,rfl⟩ ad _;exact ku a ag ad
theorem bS.whl{S:α->bt}{μ:α->Nat}{ht:α->Prop}{k:Nat}(bq:α)(hm:μ bq<k)(ag:ht bq)(hw:jD ob st (S bq)):bS ob (CW S μ ht) k Q .normal st:=⟨μ bq,_,hm,hw,bq,rfl,ag,rfl⟩
end
theorem hj{p:Prop}(h:p:=by(try simp[*]);(repeat' first|with_reducible refine ak ?_|with_reducible refine aF (by assumption) ?_|with_reducible refine aG (by assumption) ?_|simp[*]);(all_goals first|exact bS.rng () (by assumption) (by first|assumption|trivial) b0|exact bS.rng _ (by assumption) (by assumption) b0)):p:=h
end
section
open Go Go.RowKit
def nc(s:cU)(n:Nat)(k:aM):Prop:=inObs s k\/ ∃m,m<n/\k= .loc m
@[simp]theorem YA(s:cU)(n m:Nat)(hm:m<n):nc s n (.loc m):= .inr ⟨m,hm,rfl⟩
theorem B4{s:cU}{n:Nat}{l:List aj}(h:aP (inObs s) l):aP (nc s n) l:=kJ (fun _ h=>.inl h) l h
theorem zB{s ai:cU}(fB:Same s ai){n:Nat}{k:aM}(h:nc ai n k):¬fresh n (dc s) k:=by
 rcases h with h|⟨m,hm,rfl⟩
 ·exact fun aO=>aO.2 (uU ((fB.inObs k).2 h))
 ·intro aO;have:=aO.1;simp at this;omega
theorem jD.obL{s ai:cU}(gb:dP ai)(fB:Same s ai){st:bt}{dH:List (Nat×aj)}{L:List (aM×List aj)}{n:Nat}(aC:∀x∈dH,get x.1 st.t=x.2/\aK (nc ai n) x.2)(e1:∀x∈L,look x.1 st.b=some x.2/\nc ai n x.1/\aP (nc ai n) x.2)
  (ad:∀k cs,look k ai.b=some cs->look k st.b=some cs) (he:∀k o,look k ai.e=some o->look k st.e=some o):jD (dc s) st ⟨dH,L++ai.b,ai.e,n,dc s⟩:=by
 refine⟨fun x ab=>⟨(aC x ab).1,xH (fun k ae=>zB fB ae) _ (aC x ab).2⟩,fun k cs ae=>?_,fun k o ax=>?_,fun m hm=>hm⟩
 ·simp only at ae;rw[cX]at ae;cases aw:look k L with
  |some x=>rw[aw]at ae;simp only[dD]at ae;subst ae;obtain⟨I,U,ao⟩:=e1 _ (uN aw);exact⟨I,zB fB U,kJ (fun k ae=>zB fB ae) _ ao⟩
  |none=>rw[aw]at ae;exact⟨ad k cs ae,zB fB (.inl (.inl (by simp[ae]))),kJ (fun k ae=>zB fB (.inl ae)) _ (gb.kb k cs ae)⟩
 ·exact⟨he k o ax,zB fB (.inl (.inr (by simp at ax;simp[ax]))),fun xs ab=>kJ (fun k ae=>zB fB (.inl ae)) _ (gb.ke k o ax xs ab)⟩
def hL{α:Type}(l:List α)(i j:Nat):List α:=match l[i]?,l[j]? with
 |some x,some y=>(l.set i y).set j x
 |_,_=>l
section
variable {α:Type}
@[simp]theorem ak1(l:List α)(i j:Nat):(hL l i j).length=l.length:=by unfold hL;split<;>simp
theorem BR(l:List α)(i j k:Nat)(hi:i<l.length)(ag:j<l.length):(hL l i j)[k]? =if k=i then l[j]? else if k=j then l[i]? else l[k]?:=by
 unfold hL;rw[cm hi,cm ag];simp only[List.getElem?_set,List.length_set];by_cases I:j=k
 ·subst I;by_cases U:j=i
  ·subst U;simp[hi]
  ·simp[U,ag]
 ·by_cases U:i=k
  ·subst U;simp[I,hi]
  ·simp[I,U,lY I,lY U]
theorem XR(l:List α)(i j:Nat):(hL l i j).Perm l:=by
 unfold hL;split
 ·rename_i x y ab aB;obtain⟨hi,rfl⟩:=fG.1 ab;obtain⟨ag,rfl⟩:=fG.1 aB;exact List.set_set_perm hi ag
 ·exact .refl _
inductive gM (a b:Nat):List α->List α->Prop
 |refl (l:List α):gM a b l l
 |step {l m:List α} {i j:Nat}:gM a b l m->a<=i->i<b->a<=j->j<b->i<m.length->j<m.length->gM a b l (hL m i j)
theorem gM.length{a b:Nat}{l m:List α}(h:gM a b l m):m.length=l.length:=by
 induction h with
 |refl=>rfl
 |step _ _ _ _ _ _ _ bK=>rw[ak1,bK]
theorem gM.perm{a b:Nat}{l m:List α}(h:gM a b l m):m.Perm l:=by
 induction h with
 |refl=>exact .refl _
 |step _ _ _ _ _ _ _ bK=>exact(XR _ _ _).trans bK
theorem gM.out{a b:Nat}{l m:List α}(h:gM a b l m)(k:Nat)(ae:k<a\/b<=k):m[k]? =l[k]?:=by
 induction h with
 |refl=>rfl
 |step _ I U ao a7 b8 c6 bK=>rw[BR _ _ _ _ b8 c6,if_neg Ω,if_neg Ω];exact bK
theorem gM.all{a b:Nat}{l m:List α}(h:gM a b l m)(p:α->Prop)(bG:∀k x,a<=k->k<b->l[k]? =some x->p x):∀k x,a<=k->k<b->m[k]? =some x->p x:=by
 induction h with
 |refl=>exact bG
 |step _ I U ao a7 b8 c6 bK=>
  intro k x gQ jo ab;rw[BR _ _ _ _ b8 c6]at ab;split at ab
  ·exact bK _ _ ao a7 ab
  ·split at ab
   ·exact bK _ _ I U ab
   ·exact bK _ _ gQ jo ab
theorem gM.trans{a b:Nat}{l m r:List α}(h:gM a b l m)(b4:gM a b m r):gM a b l r:=by
 induction b4 with
 |refl=>exact h
 |step _ I U ao a7 b8 c6 bK=>exact .step bK I U ao a7 b8 c6
theorem gM.mono{a b bq b3:Nat}{l m:List α}(h:gM a b l m)(bk:bq<=a)(ad:b<=b3):gM bq b3 l m:=by
 induction h with
 |refl=>exact .refl _
 |step _ I U ao a7 b8 c6 bK=>exact .step bK Ω Ω Ω Ω b8 c6
def fx(lt:α->α->Bool)(a b:Nat)(l:List α):Prop:= ∀i j x y,a<=i->i<j->j<b->l[i]? =some x->l[j]? =some y->lt y x=false
structure rv (lt:α->α->Bool):Prop where
 asym:∀x y,lt x y=true->lt y x=false
 ntr:∀x y z,lt y x=false->lt z y=false->lt z x=false
theorem fx.pairwise{lt:α->α->Bool}{l:List α}(h:fx lt 0 l.length l):l.Pairwise fun x y=>lt y x=false:=by rw[p6];intro i j hi ag mv;exact h i j _ _ Ω mv ag (cm hi) (cm ag)
def iF(a m b k:Nat):Nat:=if k<a then k else if k<a+(b-m)then k+(m-a)else if k<b then k-(b-m)else k
def tF(a b c k:Nat):Nat:=if a<=k/\k<a+c then b+(k-a)else if b<=k/\k<b+c then a+(k-b)else k
end
theorem HC(i j:Nat)(h:i+j<=1099511627776):nR.wrap (Int.fdiv (hT.wrap ((i:Int)+j)) (2 ^ (min 1 hT.bits)))=((i+j)/2:Nat):=by
 have hw:hT.wrap ((i:Int)+j)=i+j:=by simp[tM,oK,sn];omega
 have MB:hT.bits=64:=rfl;rw[hw,MB,show(2:Int) ^ (min 1 64)=2 from by decide,Int.fdiv_eq_ediv_of_nonneg _ Ω,nl]
 ·omega
 ·omega
end
section
open Go Go.RowKit
section
variable {P:cM} {ob:List aM} {st:bt} {Q:Exit->bt->Prop} {c:C} {α:Type}
theorem ep(cj:List Nat)(cs:Nat->α->List (Nat×aj))(n:Nat)(ht:Nat->α->Prop)(a0:α)(hw:jD ob st (qA st cj (cs 0 a0)))(bB:ht 0 a0)(ur:∀a,ht n a->(∀i,gj (get i (qA st cj (cs n a)).t))->dd P ob c (bS ob (Aq (fun i a=>qA st cj (cs i a)) n ht) 0 Q) (qA st cj (cs n a)))
  (ku:∀i a,i<n->ht i a->(∀j,gj (get j (qA st cj (cs i a)).t))->dd P ob c (bS ob (Aq (fun i a=>qA st cj (cs i a)) n ht) (n-i) Q) (qA st cj (cs i a))):dd P ob (.loop c) Q st:=
 hH (fun i a=>qA st cj (cs i a)) n ht a0 hw bB ur ku
theorem w6(cj:List Nat)(cs:α->List (Nat×aj))(μ:α->Nat)(ht:α->Prop)(a0:α)(hw:jD ob st (qA st cj (cs a0)))(bB:ht a0)
  (ku:∀a,ht a->(∀j,gj (get j (qA st cj (cs a)).t))->dd P ob c (bS ob (CW (fun a=>qA st cj (cs a)) μ ht) (μ a) Q) (qA st cj (cs a))):dd P ob (.loop c) Q st:=
 n2 (fun a=>qA st cj (cs a)) μ ht a0 hw bB ku
end
attribute [simp] alv
end
end Go.Pv
namespace Go.Proofs.YtohaalphocaebaaGreatDoor
section
open Go Go.Pv
def Ti:C:=(aa [cP 6 fD] (aa [J 7 0,J 8 1,ch 9 21 7 8,J 10 2,c4 11 20 [.t 9,.t 10,(ef 5)],bu 5 6 11] .ret))
def Tj:C:=(aa [cP 8 dk] (aa [J 9 0,J 10 1,ch 11 21 9 10,J 12 2,J 13 3,c4 14 35 [.t 11,.t 12,.t 13],bu 4 8 14] .ret))
def Th:C:=(aa [cb 4 0] (aa [J 6 0,J 7 1,ch 8 21 6 7,J 5 8] (aa [J 9 5,cD 10 44 9,aU 11 .mul 10 256,J 12 5,cD 13 44 12,bC 14 .add 11 13,J 4 14] .ret)))
def TS:C:=(aa [cP 6 fD] (aa [J 12 1,gr 13 fD [(0,1,(.t 12))],cP 7 fD,bu 5 7 13] (.seq (aa [J 14 0,J 15 2,aU 16 .add 15 1,ch 17 48 14 16,J 8 17] (.block 0 (.loop (.seq (aa [J 18 8,aU 19 .gtr 18 0] (a1 19 .skip (.exit 0))) (.seq (.block 1 (aa [J 22 0,J 23 1,c4 24 35 [.t 22,(ef 3),.t 23],cP 9 dk,bu 4 9 24] (.seq (.drawn false 46 [aZ 26 5 7,J 27 0,c4 28 48 [.t 27,(ef 4)],aZ 29 4 9,J 30 0,J 31 1,c4 32 35 [.t 30,(ef 5),.t 31],J 33 0,c4 34 48 [.t 33,(ef 2)],bT 35 (.bin .add false (ef 2) (.t 34)),J 36 0,cS (.bsl 37 1 9 [(.c (.str [97])),(.c (.str [98]))]),ch 38 50 36 37,c4 39 49 [.t 26,.t 28,.t 29,.t 32,.t 35,.t 38],J 25 39,cg 40 0 25,cg 41 1 25,cP 10 fD,bu 5 10 40,J 11 41]) (aa [J 42 11] (a1 42 (.region [aZ 43 5 10,bu 5 7 43]) .skip))))) (.region [J 20 8,aU 21 .sub 20 1,J 8 21])))))) (aa [aZ 44 5 7,cD 45 51 44,bu 5 6 45] .ret))))
def TV:C:=(aa [bT 4 (.mov (.c (.nilp)))] (aa [J 7 0,cD 8 52 7,J 5 8] (.seq (aa [cb 6 0] (.block 0 (.loop (.seq (aa [J 9 6,J 10 1,bC 11 .lss 9 10] (a1 11 .skip (.exit 0))) (.seq (.block 1 (.region [J 14 5,cD 15 44 14])) (.region [J 12 6,aU 13 .add 12 1,J 6 13])))))) (aa [J 16 5,J 4 16] .ret))))
def Tu:C:=(aa [cP 6 dk] (aa [J 9 0,c4 10 48 [.t 9,(ef 8)],J 7 10] (.seq (aa [J 11 1,aU 12 .gtr 11 2,J 13 12,b6 13 true 14 7,av 13 true (aU 15 .geq 14 3),dB 16 13 15] (a1 16 (aa [J 17 0,J 18 1,aU 19 .quo 18 2,J 20 2,c4 21 35 [.t 17,.t 19,.t 20],cP 8 dk,bu 4 8 21] (.seq (.drawn false 42 [aZ 22 4 8,J 23 0,J 24 1,aU 25 .quo 24 2,J 26 2,c4 27 35 [.t 23,.t 25,.t 26],ch 28 83 22 27,bu 4 6 28]) .ret)) .skip)) (.seq (aa [J 29 2,aU 30 .gtr 29 0,J 31 30,b6 31 true 32 7,av 31 true (aU 33 .rem 32 2),av 31 true (aU 34 .eql 33 0),dB 35 31 34] (a1 35 (aa [J 36 0,J 37 2,ch 38 48 36 37,cD 39 84 38,bu 4 6 39] .ret) .skip)) (aa [J 40 0,cD 41 85 40,bu 4 6 41] .ret)))))
def Lo:C:=(aa [cb 2 0] (aa [J 4 0,J 5 0,eZ 6 5,aJ 7 2 1 6,ay 8 1 7,bT 9 (.bin .mul true (.t 8) (ef 6364136223846793005)),bT 10 (.bin .add true (.t 9) (ef 1442695040888963407)),eZ 11 4,aJ 12 2 1 11,bu 1 12 10] (.seq (.drawn true 58 [J 13 0,eZ 14 13,aJ 15 2 1 14,ay 16 1 15,bT 17 (.bin .shr false (.t 16) (.c (.int .u64 33))),J 18 0,eZ 19 18,aJ 20 2 1 19,ay 21 1 20,bT 22 (.bin .shr false (.t 21) (.c (.int .u64 45))),bC 23 .xor 17 22,aU 24 .and 23 255,J 3 24]) (.seq (.seq (.drawn true 58 [J 25 0,eZ 26 25,aJ 27 1 1 26,ay 28 1 27,J 29 0,eZ 30 29,aJ 31 0 1 30,ay 32 1 31,cH 33 32,bC 34 .lss 28 33]) (a1 34 (.seq (.drawn true 58 [J 35 3,J 36 0,eZ 37 36,aJ 38 0 1 37,ay 39 1 38,J 40 0,eZ 41 40,aJ 42 1 1 41,ay 43 1 42,cE 44 1 39 43,ay 45 1 44,bT 46 (.conv .i64 (.t 45)),bC 47 .add 35 46,aU 48 .and 47 255,J 3 48]) (.region [J 49 0,J 50 0,eZ 51 50,aJ 52 1 1 51,ay 53 1 52,aU 54 .add 53 1,eZ 55 49,aJ 56 1 1 55,bu 1 56 54])) .skip)) (aa [J 57 3,J 2 57] .ret)))))
def To:C:=(aa [cb 4 0] (.seq (aa [J 5 1,aU 6 .leq 5 0] (a1 6 (aa [cb 4 0] .ret) .skip)) (aa [J 7 0,cD 8 44 7,J 9 1,bC 10 .rem 8 9,J 4 10] .ret)))
def Tr:C:=(aa [bT 4 (.mov (.c (.str [])))] (aa [J 5 1,J 6 0,J 7 1,cH 8 7,ch 9 48 6 8,cE 10 1 5 9,ay 11 1 10,J 4 11] .ret))
def Tq:C:=(aa [bT 2 (.mov (.c (.nilp)))] (aa [J 5 0,cH 6 5,bT 7 (.bin .add false (ef 90411) (.t 6)),J 3 7] (.seq (aa [cb 4 0] (.block 0 (.loop (.seq (aa [J 8 4,J 9 0,cH 10 9,bC 11 .lss 8 10,J 12 11,b6 12 true 13 4,av 12 true (aU 14 .lss 13 4000),dB 15 12 14] (a1 15 .skip (.exit 0))) (.seq (.block 1 (.region [J 18 3,aU 19 .mul 18 131,J 20 0,J 21 4,cE 22 1 20 21,ay 23 1 22,bT 24 (.conv .i64 (.t 23)),bC 25 .add 19 24,aU 26 .add 25 7,aU 27 .and 26 1073741823,J 3 27])) (.region [J 16 4,aU 17 .add 16 1,J 4 17])))))) (aa [J 28 0,J 29 3,bT 30 (.build [.slice 1 .nil [],.int .i64 0,.int .i64 0] [(0,1,(.t 28)),(2,1,(.t 29))]),cS (.box 31 (some 401) (.t 30)),J 2 31] .ret))))
def Ts:C:=(aa [cP 2 dk] (aa [J 4 0,c4 5 48 [.t 4,(ef 7)],J 3 5] (.seq (aa [J 6 3,aU 7 .lss 6 2] (a1 7 (aa [J 8 3,cD 9 133 8,bu 4 2 9] .ret) .skip)) (.seq (aa [J 10 3,aU 11 .lss 10 5] (a1 11 (aa [cS (.bsl 12 1 9 [(.c (.str [97])),(.c (.str [98])),(.c (.str [99]))]),J 13 3,aU 14 .sub 13 2,cE 15 1 12 14,ay 16 1 15,cD 17 134 16,bu 4 2 17] .ret) .skip)) (aa [gr 18 dk [],bu 4 2 18] .ret)))))
def Tx:C:=(aa [cP 2 dk] (aa [J 3 0,gr 4 dk [(0,1,(ef 3)),(1,1,(.t 3))],bu 4 2 4] .ret))
def TC:C:=(aa [cP 2 dk] (aa [J 3 0,gr 4 dk [(0,1,(ef 2)),(2,1,(.t 3))],bu 4 2 4] .ret))
def qM:List (Nat×dG):=[
 (3,⟨1,8,.int .i64,.int .i64 0⟩),
 (5,⟨1,1,.int .u8,.int .u8 0⟩),
 (9,⟨1,16,.str,.str []⟩),
 (22,⟨1,24,.slice 5,.slice 1 .nil []⟩),
 (23,⟨1,24,.slice 54,.slice 5 .nil []⟩),
 (24,⟨1,24,.slice 23,.slice 1 .nil []⟩),
 (25,⟨1,24,.slice 59,.slice 2 .nil []⟩),
 (26,⟨1,24,.slice 56,.slice 2 .nil []⟩),
 (28,⟨5,104,.struct [(0,3),(1,23),(2,24),(3,25),(4,26)],.agg [.int .i64 0,.slice 5 .nil [],.slice 1 .nil [],.slice 2 .nil [],.slice 2 .nil []]⟩),
 (34,⟨1,24,.slice 36,.slice 4 .nil []⟩),
 (36,⟨4,56,.struct [(0,3),(1,3),(2,9),(3,34)],.agg [.int .i64 0,.int .i64 0,.str [],.slice 4 .nil []]⟩),
 (84,⟨1,24,.slice 9,.slice 1 .nil []⟩),
 (116,⟨3,40,.struct [(0,22),(1,3),(2,3)],.agg [.slice 1 .nil [],.int .i64 0,.int .i64 0]⟩)]
theorem qN:fX aA qM=true:=by kernel_rfl
theorem am3:b7 qM Ti [.cell 6 true 5] 3 Tryz.f6=true:=by kernel_rfl
theorem am4:b7 qM Tj [.cell 8 true 4] 4 Tryz.f10=true:=by kernel_rfl
theorem am2:b7 qM Th [.tmp 4] 2 Tryz.f18=true:=by kernel_rfl
theorem anF:b7 qM TS [.cell 6 true 5] 3 Tryz.f20=true:=by kernel_rfl
theorem anI:b7 qM TV [.tmp 4] 2 Tryz.f21=true:=by kernel_rfl
theorem ang:b7 qM Tu [.cell 6 true 4] 3 Tryz.f35=true:=by kernel_rfl
theorem YX:b7 qM Lo [.tmp 2] 1 Tryz.f44=true:=by kernel_rfl
theorem am9:b7 qM To [.tmp 4] 2 Tryz.f48=true:=by kernel_rfl
theorem anc:b7 qM Tr [.tmp 4] 2 Tryz.f50=true:=by kernel_rfl
theorem anb:b7 qM Tq [.tmp 2] 1 Tryz.f52=true:=by kernel_rfl
theorem ane:b7 qM Ts [.cell 2 true 4] 1 Tryz.f85=true:=by kernel_rfl
theorem anj:b7 qM Tx [.cell 2 true 4] 1 Tryz.f133=true:=by kernel_rfl
theorem ano:b7 qM TC [.cell 2 true 4] 1 Tryz.f134=true:=by kernel_rfl
end
end Go.Proofs.YtohaalphocaebaaGreatDoor
namespace Go.Pv
section
open Go
inductive bZ where
 |mk (kind n:Int) (name:List UInt8) (args:List bZ)
def bZ.kind:bZ->Int| .mk k _ _ _=>k
def bZ.num:bZ->Int| .mk _ n _ _=>n
def bZ.name:bZ->List UInt8| .mk _ _ s _=>s
def bZ.args:bZ->List bZ| .mk _ _ _ a=>a
mutual
def enc:bZ->aj
 | .mk k n s a=>.agg [.int .i64 k,.int .i64 n,.str s,.slice 4 .no (rJ a)]
def rJ:List bZ->List aj
 |[]=>[]
 |x::xs=>enc x::rJ xs
end
theorem Hb:∀l,rJ l=l.map enc
 |[]=>rfl
 |x::xs=>by simp[rJ,Hb xs]
theorem Dp(t:bZ):enc t= .agg [.int .i64 t.kind,.int .i64 t.num,.str t.name,.slice 4 .no (t.args.map enc)]:=by cases t;simp[enc,Hb,bZ.kind,bZ.num,bZ.name,bZ.args]
mutual
theorem XD(S:aM->Prop):∀t:bZ,aK S (enc t)
 | .mk k n s a=>by simp[enc,aK,aP,NR S a]
theorem NR(S:aM->Prop):∀l:List bZ,aP S (rJ l)
 |[]=>by simp[rJ,aP]
 |x::xs=>by simp[rJ,aP,XD S x,NR S xs]
end
mutual
theorem aaS:∀t:bZ,ej (enc t)=enc t
 | .mk k n s a=>by simp[enc,ej,du,Qf a]
theorem Qf:∀l:List bZ,du (rJ l)=rJ l
 |[]=>by simp[rJ,du]
 |x::xs=>by simp[rJ,du,aaS x,Qf xs]
end
@[simp]theorem aug(S:aM->Prop)(t:bZ):aK S (enc t)=True:=eq_true (XD S t)
@[simp]theorem at4(S:aM->Prop)(l:List bZ):aP S (l.map enc)=True:=by rw[<-Hb];exact eq_true (NR S l)
theorem apZ(l:List bZ):du (l.map enc)=l.map enc:=by rw[<-Hb];exact Qf l
attribute [simp] aaS apZ
@[simp]theorem avx(t:bZ):e7 (enc t)=true:=by rw[Dp];rfl
@[simp]theorem ast(t:bZ):cells (enc t)=[.int .i64 t.kind,.int .i64 t.num,.str t.name,.slice 4 .no (t.args.map enc)]:=by rw[Dp];rfl
@[simp]theorem arQ(t:bZ):aj.agg [.int .i64 t.kind,.int .i64 t.num,.str t.name,.slice 4 .no (t.args.map enc)]=enc t:=(Dp t).symm
@[simp]theorem atN(t:bZ):Pv.isAgg 4 (enc t):=by rw[Dp];exact⟨_,rfl,rfl⟩
inductive T where
 |nil
 |var (n:Int)
 |sym (s:List UInt8)
 |num (n:Int)
 |pair (a b:T)
 deriving nk,Inhabited
def T.tm:T->bZ
 | .nil=>.mk 0 0 [] []
 | .var n=>.mk 1 n [] []
 | .sym s=>.mk 2 0 s []
 | .num n=>.mk 3 n [] []
 | .pair a b=>.mk 4 0 [] [a.tm,b.tm]
def T.e:T->aj
 | .nil=>.agg [.int .i64 0,.int .i64 0,.str [],.slice 4 .no []]
 | .var n=>.agg [.int .i64 1,.int .i64 n,.str [],.slice 4 .no []]
 | .sym s=>.agg [.int .i64 2,.int .i64 0,.str s,.slice 4 .no []]
 | .num n=>.agg [.int .i64 3,.int .i64 n,.str [],.slice 4 .no []]
 | .pair a b=>.agg [.int .i64 4,.int .i64 0,.str [],.slice 4 .no [a.e,b.e]]
theorem mq:∀t:T,enc t.tm=t.e
 | .nil| .var _| .sym _| .num _=>rfl
 | .pair a b=>by simp[T.tm,enc,rJ,T.e,mq a,mq b]
def T.kind:T->Int
 | .nil=>0| .var _=>1| .sym _=>2| .num _=>3| .pair _ _=>4
def T.int:T->Int
 | .var n=>n| .num n=>n|_=>0
def T.name:T->List UInt8
 | .sym s=>s|_=>[]
def T.args:T->List T
 | .pair a b=>[a,b]|_=>[]
theorem T.e_eq(t:T):t.e= .agg [.int .i64 t.kind,.int .i64 t.int,.str t.name,.slice 4 .no (t.args.map T.e)]:=by cases t<;>rfl
@[simp]theorem arP(t:T):aj.agg [.int .i64 t.kind,.int .i64 t.int,.str t.name,.slice 4 .no (t.args.map T.e)]=t.e:=(T.e_eq t).symm
@[simp]theorem arR:aj.agg [.int .i64 0,.int .i64 0,.str [],.slice 4 .no []]=T.nil.e:=rfl
@[simp]theorem arV(n:Int):aj.agg [.int .i64 1,.int .i64 n,.str [],.slice 4 .no []]=(T.var n).e:=rfl
@[simp]theorem arU(s:List UInt8):aj.agg [.int .i64 2,.int .i64 0,.str s,.slice 4 .no []]=(T.sym s).e:=rfl
@[simp]theorem arS(n:Int):aj.agg [.int .i64 3,.int .i64 n,.str [],.slice 4 .no []]=(T.num n).e:=rfl
@[simp]theorem arT(a b:T):aj.agg [.int .i64 4,.int .i64 0,.str [],.slice 4 .no [a.e,b.e]]=(T.pair a b).e:=rfl
@[simp]theorem akM:(T.nil).kind=0:=rfl
@[simp]theorem akb:(T.nil).int=0:=rfl
@[simp]theorem alz:(T.nil).name=[]:=rfl
@[simp]theorem acX:(T.nil).args=[]:=rfl
@[simp]theorem akQ(n:Int):(T.var n).kind=1:=rfl
@[simp]theorem akf(n:Int):(T.var n).int=n:=rfl
@[simp]theorem alD(n:Int):(T.var n).name=[]:=rfl
@[simp]theorem ac1(n:Int):(T.var n).args=[]:=rfl
@[simp]theorem akP(s:List UInt8):(T.sym s).kind=2:=rfl
@[simp]theorem ake(s:List UInt8):(T.sym s).int=0:=rfl
@[simp]theorem alC(s:List UInt8):(T.sym s).name=s:=rfl
@[simp]theorem ac0(s:List UInt8):(T.sym s).args=[]:=rfl
@[simp]theorem akN(n:Int):(T.num n).kind=3:=rfl
@[simp]theorem akc(n:Int):(T.num n).int=n:=rfl
@[simp]theorem alA(n:Int):(T.num n).name=[]:=rfl
@[simp]theorem acY(n:Int):(T.num n).args=[]:=rfl
@[simp]theorem akO(a b:T):(T.pair a b).kind=4:=rfl
@[simp]theorem akd(a b:T):(T.pair a b).int=0:=rfl
@[simp]theorem alB(a b:T):(T.pair a b).name=[]:=rfl
@[simp]theorem acZ(a b:T):(T.pair a b).args=[a,b]:=rfl
@[simp]theorem auf(S:aM->Prop)(t:T):aK S t.e=True:=by rw[<-mq];simp
@[simp]theorem avR(t:T):ej t.e=t.e:=by rw[<-mq];simp
theorem Xy(S:aM->Prop):∀l:List T,aP S (l.map T.e)
 |[]=>by simp[aP]
 |x::xs=>by simp[aP,Xy S xs]
@[simp]theorem Xx(S:aM->Prop)(l:List T):aP S (l.map T.e)=True:=eq_true (Xy S l)
@[simp]theorem apY:∀l:List T,du (l.map T.e)=l.map T.e
 |[]=>rfl
 |x::xs=>by simp[du,apY xs]
@[simp]theorem avw(t:T):e7 t.e=true:=by rw[T.e_eq];rfl
@[simp]theorem ass(t:T):cells t.e=[.int .i64 t.kind,.int .i64 t.int,.str t.name,.slice 4 .no (t.args.map T.e)]:=by rw[T.e_eq];rfl
@[simp]theorem atM(t:T):Pv.isAgg 4 t.e:=by rw[T.e_eq];exact⟨_,rfl,rfl⟩
def T.size:T->Nat
 | .pair a b=>1+a.size+b.size
 |_=>1
theorem T.size_pos(t:T):1<=t.size:=by cases t<;>simp[T.size]<;>omega
def low(b:UInt8):Bool:=decide (97<=b.toNat/\b.toNat<=122)
def nG(b:UInt8):Bool:=low b||decide (48<=b.toNat/\b.toNat<=57)||b.toNat==45
def iB(s:List UInt8):Bool:=decide (1<=s.length/\s.length<=12)&&low (s.getD 0 0)&&(s.drop 1).all nG
def T.ok:T->Bool
 | .nil=>true
 | .var n=>decide (0<=n/\n<=100000)
 | .sym s=>iB s
 | .num n=>decide (-1000000000<=n/\n<=1000000000)
 | .pair a b=>a.ok&&b.ok
def l8(k n:Int)(s:List UInt8):Bool:=if k=0 then n==0&&s==[]else if k=1 then decide (0<=n/\n<=100000)&&s==[]else if k=2 then n==0&&iB s else if k=3 then decide (-1000000000<=n/\n<=1000000000)&&s==[]else false
def fN:bZ->Int->Int
 | .mk k n s [a,b],room=>if room<1\/k≠4\/n≠0\/s≠[]then-1 else if fN a (room-1)<0 then-1 else if fN b (room-1-fN a (room-1))<0 then-1 else 1+fN a (room-1)+fN b (room-1-fN a (room-1))
 | .mk k n s args,room=>if room<1\/k=4\/args≠[]\/l8 k n s=false then-1 else 1
theorem OB(k n:Int)(s:List UInt8)(args:List bZ)(room:Int):fN (.mk k n s args) room=if room<1 then-1 else if k≠4 then(if args≠[]then-1 else if l8 k n s then 1 else-1)else if n≠0\/s≠[]then-1 else match args with
  |[a,b]=>if fN a (room-1)<0 then-1 else if fN b (room-1-fN a (room-1))<0 then-1 else 1+fN a (room-1)+fN b (room-1-fN a (room-1))
  |_=> -1:=by
 match args with
 |[]=>simp only[fN];by_cases I:room<1<;>by_cases U:k=4<;>by_cases ao:l8 k n s=true<;>simp[I,U,ao]
 |[a]=>simp[fN]
 |[a,b]=>simp only[fN];by_cases I:room<1<;>by_cases U:k=4<;>simp[I,U]
 |a::b::c::r=>simp[fN]
theorem I2:∀(t:T) (room:Int),fN t.tm room=if t.ok=true/\(t.size:Int)<=room then(t.size:Int)else-1
 | .nil,room=>by simp[T.tm,fN,T.ok,T.size,l8];split<;>rename_i h<;>simp_all<;>omega
 | .var n,room=>by simp[T.tm,fN,T.ok,T.size,l8];split<;>split<;>simp_all<;>omega
 | .sym s,room=>by simp[T.tm,fN,T.ok,T.size,l8];by_cases I:room<1<;>by_cases U:iB s=true<;>simp[I,U]<;>omega
 | .num n,room=>by simp[T.tm,fN,T.ok,T.size,l8];split<;>split<;>simp_all<;>omega
 | .pair a b,room=>by
  have bk:=a.size_pos;have ad:=b.size_pos;simp only[T.tm,fN,I2 a,I2 b,T.ok,T.size,cv];by_cases I:room<1
  ·simp[I];omega
  ·by_cases U:a.ok=true/\(a.size:Int)<=room-1
   ·rw[if_pos U];by_cases ao:b.ok=true/\(b.size:Int)<=room-1-a.size
    ·rw[if_pos ao];simp[I,U.1,ao.1];split<;>omega
    ·rw[if_neg ao];simp[I,U.1];intro kC;have:=ao;simp[kC]at this;omega
   ·rw[if_neg U];simp[I];intro l5;have:=U;simp[l5]at this;omega
theorem EW:∀(t:bZ) (room:Int),fN t room= -1\/1<=fN t room
 | .mk k n s [a,b],room=>by
  simp only[fN];split
  ·exact .inl rfl
  ·split
   ·exact .inl rfl
   ·split
    ·exact .inl rfl
    ·right;omega
 | .mk k n s [],room=>by simp only[fN];split<;>simp
 | .mk k n s [a],room=>by simp[fN]
 | .mk k n s (a::b::c::r),room=>by simp[fN]
theorem OD:∀(t:bZ) (room:Int),0<fN t room->∃x:T,x.tm=t
 | .mk k n s [a,b],room,h=>by
  simp only[fN]at h;split at h
  ·omega
  ·rename_i I;simp only[not_or,Int.not_lt,ne_eq,av0]at I;obtain⟨I,rfl,rfl,rfl⟩:=I;split at h
   ·omega
   ·split at h
    ·omega
    ·obtain⟨x,rfl⟩:=OD a (room-1) (by rcases EW a (room-1)with h|h<;>omega);obtain⟨y,rfl⟩:=OD b (room-1-fN x.tm (room-1)) (by rcases EW b (room-1-fN x.tm (room-1))with h|h<;>omega);exact⟨.pair x y,rfl⟩
 | .mk k n s [],room,h=>by
  simp only[fN]at h;split at h
  ·omega
  ·rename_i I;simp only[not_or,ne_eq,not_true_eq_false,not_false_eq_true,true_and,Bool.not_eq_false]at I;obtain⟨_,_,I⟩:=I;unfold l8 at I;split at I
   ·rename_i e;subst e;simp at I;obtain⟨rfl,rfl⟩:=I;exact⟨.nil,rfl⟩
   ·split at I
    ·rename_i e;subst e;simp at I;obtain⟨_,rfl⟩:=I;exact⟨.var n,rfl⟩
    ·split at I
     ·rename_i e;subst e;simp at I;obtain⟨rfl,_⟩:=I;exact⟨.sym s,rfl⟩
     ·split at I
      ·rename_i e;subst e;simp at I;obtain⟨_,rfl⟩:=I;exact⟨.num n,rfl⟩
      ·cases I
 | .mk k n s [a],room,h=>by simp[fN]at h
 | .mk k n s (a::b::c::r),room,h=>by simp[fN]at h
theorem OC:∀(t:bZ) (room:Int),fN t room<=room\/fN t room= -1
 | .mk k n s [a,b],room=>by
  simp only[fN];split
  ·exact .inr rfl
  ·split
   ·exact .inr rfl
   ·split
    ·exact .inr rfl
    ·rcases OC b (room-1-fN a (room-1))with h|h<;>omega
 | .mk k n s [],room=>by simp only[fN];split<;>simp;rename_i h;omega
 | .mk k n s [a],room=>by simp[fN]
 | .mk k n s (a::b::c::r),room=>by simp[fN]
mutual
def bZ.sz:bZ->Nat
 | .mk _ _ _ a=>1+bZ.szL a
def bZ.szL:List bZ->Nat
 |[]=>0
 |x::xs=>x.sz+bZ.szL xs
end
theorem aaV:∀{l:List bZ} {x:bZ},x∈l->x.sz<=bZ.szL l
 |y::l,x,h=>by
  rcases eU.1 h with rfl|h
  ·simp[bZ.szL]
  ·have:=aaV h;simp[bZ.szL];omega
theorem ap4{t x:bZ}(h:x∈t.args):x.sz<t.sz:=by cases t;simp[bZ.args]at h;have:=aaV h;simp[bZ.sz];omega
def T.fit(t:T):Bool:=t.ok&&decide (t.size<=5000)
def bZ.fits(t:bZ):Bool:=decide (0<fN t 5000)
theorem bZ.fits_T(t:T):t.tm.fits=t.fit:=by
 unfold bZ.fits T.fit;rw[I2];have:=t.size_pos;by_cases I:t.ok=true<;>by_cases U:t.size<=5000
 ·rw[if_pos ⟨I,Ω⟩];simp[I,U];omega
 ·rw[if_neg Ω];simp[U]
 ·rw[if_neg (by simp[I])];simp[I]
 ·rw[if_neg (by simp[I])];simp[I]
theorem bZ.fits_ex{t:bZ}(h:t.fits=true):∃x:T,x.tm=t/\x.fit=true:=by obtain⟨x,rfl⟩:=OD t 5000 (by simpa[bZ.fits]using h);exact⟨x,rfl,by rw[<-bZ.fits_T];exact h⟩
structure ah where
 v:Int
 t:T
 deriving nk,Inhabited
def ah.e(b:ah):aj:= .agg [.int .i64 b.v,.int .i64 b.t.kind,.int .i64 b.t.int,.str b.t.name,.slice 4 .no (b.t.args.map T.e)]
@[simp]theorem ah.eta(b:ah):ah.mk b.v b.t=b:=rfl
@[simp]theorem Rp(v:Int)(t:T):aj.agg [.int .i64 v,.int .i64 t.kind,.int .i64 t.int,.str t.name,.slice 4 .no (t.args.map T.e)]=(ah.mk v t).e:=rfl
@[simp]theorem arK(v:Int):aj.agg [.int .i64 v,.int .i64 0,.int .i64 0,.str [],.slice 4 .no []]=(ah.mk v .nil).e:=rfl
@[simp]theorem arO(v n:Int):aj.agg [.int .i64 v,.int .i64 1,.int .i64 n,.str [],.slice 4 .no []]=(ah.mk v (.var n)).e:=rfl
@[simp]theorem arN(v:Int)(s:List UInt8):aj.agg [.int .i64 v,.int .i64 2,.int .i64 0,.str s,.slice 4 .no []]=(ah.mk v (.sym s)).e:=rfl
@[simp]theorem arL(v n:Int):aj.agg [.int .i64 v,.int .i64 3,.int .i64 n,.str [],.slice 4 .no []]=(ah.mk v (.num n)).e:=rfl
@[simp]theorem arM(v:Int)(a b:T):aj.agg [.int .i64 v,.int .i64 4,.int .i64 0,.str [],.slice 4 .no [a.e,b.e]]=(ah.mk v (.pair a b)).e:=rfl
@[simp]theorem aub(S:aM->Prop)(b:ah):aK S b.e=True:=by simp[ah.e,-Rp]
@[simp]theorem avM(b:ah):ej b.e=b.e:=by simp[ah.e,-Rp]
theorem Xv(S:aM->Prop):∀l:List ah,aP S (l.map ah.e)
 |[]=>by simp[aP]
 |x::xs=>by simp[aP,Xv S xs]
@[simp]theorem at1(S:aM->Prop)(l:List ah):aP S (l.map ah.e)=True:=eq_true (Xv S l)
@[simp]theorem aaR:∀l:List ah,du (l.map ah.e)=l.map ah.e
 |[]=>rfl
 |x::xs=>by simp[du,aaR xs]
@[simp]theorem avp(b:ah):e7 b.e=true:=rfl
@[simp]theorem asn(b:ah):cells b.e=[.int .i64 b.v,.int .i64 b.t.kind,.int .i64 b.t.int,.str b.t.name,.slice 4 .no (b.t.args.map T.e)]:=rfl
@[simp]theorem atK(b:ah):Pv.isAgg 5 b.e:=⟨_,rfl,rfl⟩
@[simp]theorem asZ(off:Nat)(gN:Bool)(sz:Nat)(b:ah):vx off gN sz b.e=if gN then some (off+sz<=5,.agg (([.int .i64 b.v,.int .i64 b.t.kind,.int .i64 b.t.int,.str b.t.name,.slice 4 .no (b.t.args.map T.e)].drop off).take sz))else(([.int .i64 b.v,.int .i64 b.t.kind,.int .i64 b.t.int,.str b.t.name,.slice 4 .no (b.t.args.map T.e)]:List aj)[off]?).map fun p=>(True,p):=rfl
@[simp]theorem asR(off:Nat)(gN:Bool)(sz:Nat)(b:ah):sE off gN sz (.eptr b.e)=if gN then some (off+sz<=5,.eptr (.agg (([.int .i64 b.v,.int .i64 b.t.kind,.int .i64 b.t.int,.str b.t.name,.slice 4 .no (b.t.args.map T.e)].drop off).take sz)))else(([.int .i64 b.v,.int .i64 b.t.kind,.int .i64 b.t.int,.str b.t.name,.slice 4 .no (b.t.args.map T.e)]:List aj)[off]?).map fun p=>(e7 p=true/\cells p=[p],.eptr p):=rfl
def T.occ(v:Int):T->Bool
 | .var n=>n==v
 | .pair a b=>a.occ v||b.occ v
 |_=>false
def eN(a b:Int):Int:=if a<b then-1 else if b<a then 1 else 0
def lr(a b:List UInt8):Int:=if a=b then 0 else if h2 a b then-1 else 1
def eM:T->T->Int
 | .pair a b,.pair c d=>if eM a c=0 then eM b d else eM a c
 |x,y=>if x.kind≠y.kind then eN x.kind y.kind else if x.int≠y.int then eN x.int y.int else lr x.name y.name
structure dS where
 v:Int
 t:bZ
def dS.e(b:dS):aj:= .agg [.int .i64 b.v,.int .i64 b.t.kind,.int .i64 b.t.num,.str b.t.name,.slice 4 .no (b.t.args.map enc)]
def ah.b(b:ah):dS:=⟨b.v,b.t.tm⟩
theorem ah.b_e(b:ah):b.b.e=b.e:=by obtain⟨v,t⟩:=b;cases t<;>simp only[ah.b,dS.e,ah.e,T.tm,bZ.kind,bZ.num,bZ.name,bZ.args,mq,akM,akQ,akP,akN,akO,akb,akf,ake,akc,akd,alz,alD,alC,alA,alB,acX,ac1,ac0,acY,acZ,hc,nS]
@[simp]theorem dS.eta(b:dS):dS.mk b.v b.t=b:=rfl
@[simp]theorem Rq(v:Int)(t:bZ):aj.agg [.int .i64 v,.int .i64 t.kind,.int .i64 t.num,.str t.name,.slice 4 .no (t.args.map enc)]=(dS.mk v t).e:=rfl
@[simp]theorem auc(S:aM->Prop)(b:dS):aK S b.e=True:=by simp[dS.e,-Rq]
@[simp]theorem avN(b:dS):ej b.e=b.e:=by simp[dS.e,-Rq]
theorem Xw(S:aM->Prop):∀l:List dS,aP S (l.map dS.e)
 |[]=>by simp[aP]
 |x::xs=>by simp[aP,Xw S xs]
@[simp]theorem at2(S:aM->Prop)(l:List dS):aP S (l.map dS.e)=True:=eq_true (Xw S l)
@[simp]theorem apX:∀l:List dS,du (l.map dS.e)=l.map dS.e
 |[]=>rfl
 |x::xs=>by simp[du,apX xs]
@[simp]theorem avr(b:dS):e7 b.e=true:=rfl
@[simp]theorem asp(b:dS):cells b.e=[.int .i64 b.v,.int .i64 b.t.kind,.int .i64 b.t.num,.str b.t.name,.slice 4 .no (b.t.args.map enc)]:=rfl
@[simp]theorem atL(b:dS):Pv.isAgg 5 b.e:=⟨_,rfl,rfl⟩
@[simp]theorem as0(off:Nat)(gN:Bool)(sz:Nat)(b:dS):vx off gN sz b.e=if gN then some (off+sz<=5,.agg (([.int .i64 b.v,.int .i64 b.t.kind,.int .i64 b.t.num,.str b.t.name,.slice 4 .no (b.t.args.map enc)].drop off).take sz))else(([.int .i64 b.v,.int .i64 b.t.kind,.int .i64 b.t.num,.str b.t.name,.slice 4 .no (b.t.args.map enc)]:List aj)[off]?).map fun p=>(True,p):=rfl
@[simp]theorem asS(off:Nat)(gN:Bool)(sz:Nat)(b:dS):sE off gN sz (.eptr b.e)=if gN then some (off+sz<=5,.eptr (.agg (([.int .i64 b.v,.int .i64 b.t.kind,.int .i64 b.t.num,.str b.t.name,.slice 4 .no (b.t.args.map enc)].drop off).take sz)))else(([.int .i64 b.v,.int .i64 b.t.kind,.int .i64 b.t.num,.str b.t.name,.slice 4 .no (b.t.args.map enc)]:List aj)[off]?).map fun p=>(e7 p=true/\cells p=[p],.eptr p):=rfl
def B6(l:List dS)(i:Nat):Prop:= ∀b,l[i]? =some b->(0<=b.v/\b.v<=100000)/\(∀c,0<i->l[i-1]? =some c->c.v<b.v)/\b.t.fits=true
def wV(l:List dS):Prop:=l.length<=400/\∀i,i<l.length->B6 l i
theorem r5:∀a b:T,eM a b=0↔a=b
 | .pair a b,.pair c d=>by
  simp only[eM,T.pair.injEq];split
  ·rename_i h;rw[r5 b d,<-r5 a c];simp[h]
  ·rename_i h;simp[h,<-r5 a c]
 | .nil,y=>by cases y<;>simp[eM,eN,lr]
 | .var n,y=>by cases y<;>simp[eM,eN,lr]<;>omega
 | .sym s,y=>by cases y<;>simp[eM,eN,lr];rename_i ai;by_cases h:s=ai<;>simp[h];by_cases U:h2 s ai=true<;>simp[U]
 | .num n,y=>by cases y<;>simp[eM,eN,lr]<;>omega
 | .pair a b,.nil| .pair a b,.var _| .pair a b,.sym _| .pair a b,.num _=>by simp[eM,eN]
def T.sub(f:Int->Option T):T->T
 | .var n=>match f n with|some x=>x|none=>.var n
 | .pair a b=>.pair (a.sub f) (b.sub f)
 |t=>t
def ma(f:Int->Int):T->Int
 | .var n=>if 5001<f n then 5001 else f n
 | .pair a b=>if 5000<ma f a then ma f a else if 5001<1+ma f a+ma f b then 5001 else 1+ma f a+ma f b
 |_=>1
theorem J0(f:Int->Int)(aO:∀v,-1<=f v):∀t,-1<=ma f t/\ma f t<=5001
 | .var n=>by have:=aO n;simp only[ma];split<;>omega
 | .pair a b=>by have:=J0 f aO a;have:=J0 f aO b;simp only[ma];split<;>(try split)<;>omega
 | .nil| .sym _| .num _=>by simp[ma]
def cO(l:List ah)(v:Int):Option T:=(l.find? fun b=>b.v==v).map (·.t)
end
end Go.Pv
namespace Go.Proofs.YtohaalphocaebaaGreatDoor
section
open Go Go.Pv
structure dW where
 d:List Int
 i:Nat
 h:Int
def iv(d:List Int):List aj:=d.map (aj.int .u8)
def dW.e(c:dW):List aj:=[.slice 1 .no (iv c.d),.int .i64 c.i,.int .i64 c.h]
def cx(c:dW):cU:=⟨[(.obj 401,c.e)],[]⟩
@[simp]theorem atW(S:aM->Prop)(d:List Int):aP S (iv d)=True:=by
 apply eq_true;induction d with
 |nil=>simp[-cp,-b9,iv,aP]
 |cons x r bK=>simp only[iv,hc,aP,aK]at bK⊢;exact⟨trivial,bK⟩
@[simp]theorem avO(d:List Int):du (iv d)=iv d:=by
 induction d with
 |nil=>rfl
 |cons x r bK=>simp only[iv,hc,du,ej]at bK⊢;rw[bK]
@[simp]theorem asi(d:List Int):(iv d).length=d.length:=by simp[-cp,-b9,iv]
theorem K1{d:List Int}{i:Nat}{x:Int}(h:d[i]? =some x):(iv d)[i]? =some (.int .u8 x):=by simp[-cp,-b9,iv,h]
theorem gK(c:dW):dP (cx c):=by unfold cx;exact dP.of ⟨by intro m;simp[-cp,-b9,Pv.look],by intro m;simp[-cp,-b9,Pv.look]⟩ (by simp[-cp,-b9,dW.e,aP,aK]) (by simp[-cp,-b9])
theorem ji(c cr:dW):Same (cx c) (cx cr):=by refine⟨fun k=>?_,fun k=>rfl⟩;simp only[cx,Pv.look];split<;>rfl
def sv(d:List Int):Prop:= ∀x∈d,0<=x/\x<256
def B3(h:Int):Int:=nR.wrap (nR.wrap (h*6364136223846793005)+1442695040888963407)
def yy(k:IntKind)(a b:Int):Int:=k.wrap (mL k.bits a&&& mL k.bits b).toNat
def ab8(k:IntKind)(a b:Int):Int:=k.wrap (mL k.bits a ^^^ mL k.bits b).toNat
def P5(k:IntKind)(a b:Int):Int:=a.fdiv (2 ^ (min b.toNat k.bits))
section
variable (a b:Int)
@[simp]theorem arZ:b9 .add false (.int .i64 a) (.int .i64 b)=some (pQ (a+b),.int .i64 (a+b)):=by unfold b9 cp;simp[-cp,-b9]
@[simp]theorem ar0:b9 .add true (.int .i64 a) (.int .i64 b)=some (True,.int .i64 (nR.wrap (a+b))):=rfl
@[simp]theorem ase:b9 .sub false (.int .i64 a) (.int .i64 b)=some (pQ (a-b),.int .i64 (a-b)):=by unfold b9 cp;simp[-cp,-b9]
@[simp]theorem ar7:b9 .mul false (.int .i64 a) (.int .i64 b)=some (pQ (a*b),.int .i64 (a*b)):=by unfold b9 cp;simp[-cp,-b9]
@[simp]theorem ar8:b9 .mul true (.int .i64 a) (.int .i64 b)=some (True,.int .i64 (nR.wrap (a*b))):=rfl
@[simp]theorem asa:b9 .quo false (.int .i64 a) (.int .i64 b)=some (b≠0,.int .i64 (nR.wrap (a.tdiv b))):=rfl
@[simp]theorem asb:b9 .rem false (.int .i64 a) (.int .i64 b)=some (b≠0,.int .i64 (a.tmod b)):=rfl
@[simp]theorem ar2:b9 .eql false (.int .i64 a) (.int .i64 b)=some (True,.bool (a==b)):=rfl
@[simp]theorem ar9:b9 .neq false (.int .i64 a) (.int .i64 b)=some (True,.bool (a !=b)):=rfl
@[simp]theorem ar6:b9 .lss false (.int .i64 a) (.int .i64 b)=some (True,.bool (decide (a<b))):=rfl
@[simp]theorem ar5:b9 .leq false (.int .i64 a) (.int .i64 b)=some (True,.bool (decide (a<=b))):=rfl
@[simp]theorem ar4:b9 .gtr false (.int .i64 a) (.int .i64 b)=some (True,.bool (decide (b<a))):=rfl
@[simp]theorem ar3:b9 .geq false (.int .i64 a) (.int .i64 b)=some (True,.bool (decide (b<=a))):=rfl
@[simp]theorem ar1:b9 .and false (.int .i64 a) (.int .i64 b)=some (True,.int .i64 (yy .i64 a b)):=rfl
@[simp]theorem asf:b9 .xor false (.int .i64 a) (.int .i64 b)=some (True,.int .i64 (ab8 .i64 a b)):=rfl
@[simp]theorem asd(k:IntKind):b9 .shr false (.int .i64 a) (.int k b)=some (0<=b,.int .i64 (P5 .i64 a b)):=rfl
end
theorem KQ(x m:Int)(bB:0<=m)(I:m<9223372036854775807):0<=yy .i64 x m/\yy .i64 x m<=m:=by
 have hm:(mL 64 m).toNat=m.toNat:=by rw[BitVec.toNat_ofInt];omega
 have h:(mL 64 x&&& mL 64 m).toNat<=m.toNat:=by rw[BitVec.toNat_and,hm];exact Nat.and_le_right
 unfold yy;rw[show nR.bits=64 from rfl,nl _ Ω];omega
def zA(h:Int):Int:=yy .i64 (ab8 .i64 (P5 .i64 h 33) (P5 .i64 h 45)) 255
theorem Yk(h:Int):0<=zA h/\zA h<=255:=KQ _ _ Ω Ω
def dW.byte(c:dW):Int:=match c.d[c.i]? with|some x=>yy .i64 (zA (B3 c.h)+x) 255|none=>zA (B3 c.h)
def dW.next(c:dW):dW:=⟨c.d,if c.i<c.d.length then c.i+1 else c.i,B3 c.h⟩
theorem dW.byte_le(c:dW):0<=c.byte/\c.byte<=255:=by
 unfold dW.byte;split
 ·exact KQ _ _ Ω Ω
 ·exact Yk _
structure dW.ok (c:dW):Prop where
 d:sv c.d
 l:c.d.length<=10000000
 i:c.i<=c.d.length
theorem dW.ok.next{c:dW}(h:c.ok):c.next.ok:=⟨h.d,h.l,by have:=h.i;simp only[dW.next];split<;>omega⟩
theorem Hp(c:dW)(aq:c.ok):bL aA 44 [.ptr (.obj 401) 0] (cx c) fun r ai=>r= .int .i64 c.byte/\ai=cx c.next:=by
 have af:=gK c;have gb:=gK c.next;have dU:=ji c c.next;obtain⟨d,i,h⟩:=c;obtain⟨aD,aw,hi⟩:=aq;simp only at aD aw hi;have oe:=Yk (B3 h);simp only[zA]at oe;by_cases bD:i<d.length
 ·obtain⟨x,ab⟩:∃x,d[i]? =some x:=⟨_,cm bD⟩;have ld:∀h,(iv d)[i]'h= .int .u8 x:=fun h=>by have:=K1 ab;rw[cm h]at this;simpa using this
  have o3:=aD x (ek ab);have hw:nR.wrap x=x:=nl _ Ω;simp only[cx,dW.e,dW.next,bD,if_true]at af gb dU⊢;refine bL.mk mixed qN Tryz.func44 YX (by simp[-cp,-b9]) af.obj fun aR cN=>?_;unfold Lo;simp[-cp,-b9,bD,ld,hw,<-B3.eq_1];(with_reducible repeat' first|((first|apply bN|apply bP|apply bO)<;>intro h<;>try simp[-cp,-b9]at h)|refine ak ?_|simp[-cp,-b9]);refine cR.at _ (.inl rfl) gb dU aL aL ?_;simp[-cp,-b9,cV,aY,a6,aX];simp[-cp,-b9,dW.byte,ab,zA]
 ·have ab:d[i]? =none:=by simp[-cp,-b9];omega
  simp only[cx,dW.e,dW.next,bD,if_false]at af gb dU⊢;refine bL.mk mixed qN Tryz.func44 YX (by simp[-cp,-b9]) af.obj fun aR cN=>?_;unfold Lo;simp[-cp,-b9,bD,<-B3.eq_1];(with_reducible repeat' first|((first|apply bN|apply bP|apply bO)<;>intro h<;>try simp[-cp,-b9]at h)|refine ak ?_|simp[-cp,-b9]);refine cR.at _ (.inl rfl) gb dU aL aL ?_;simp[-cp,-b9,cV,aY,a6,aX];simp[-cp,-b9,dW.byte,ab,zA]
end
section
open Go Go.Pv
def akk(s:List UInt8)(k:Nat)(st:bt):Prop:=∃i:Nat,1<=i/\i<=s.length/\k=s.length-i/\((s.drop 1).all nG=(s.drop i).all nG)/\st=⟨[(0,.str s),(3,.int .i64 i)],[],[],0,[]⟩
theorem u7(s:List UInt8):bR aA 109 [.str s] (.bool (iB s)):=by
 refine bR.mk mixed fY Tryz.func109 alR Ψ d6 fun ad=>?_;unfold R0;simp;(with_reducible repeat' first|((first|refine bN (fun h=>?_) fun h=>?_|refine bP (fun h=>?_) fun h=>?_|refine bO (fun h=>?_) fun h=>?_)<;>try simp at h)|refine ak ?_|simp);case refine_1.refine_1.refine_1.refine_2=>
  have ajc:iB s=(s.drop 1).all nG:=by simp[iB,low];omega
  rw[ajc];refine oT (akk s) (s.length-1) _ ⟨Ψ,by simp[gR],by simp[oG],Ψ⟩ ⟨1,Ω,Ω,rfl,rfl,rfl⟩ ?_;rintro k st ⟨i,mW,h9,ae,lI,rfl⟩ kr cN;rw[lI];simp;refine bN (fun bD=>?_) (fun xk=>?_)
  ·simp at bD;have aD:s.drop i=s[i]?.getD 0::s.drop (i+1):=by rw[lA bD];simp[bD]
   simp;(with_reducible repeat' first|((first|refine bN (fun h=>?_) fun h=>?_|refine bP (fun h=>?_) fun h=>?_|refine bO (fun h=>?_) fun h=>?_)<;>try simp at h)|refine ak ?_|simp);all_goals first
    |(simp[bz,aY,a6,aX,aD,nG,low];omega)
    |(simp only[Gd];refine⟨s.length-(i+1),_,Ω,⟨Ψ,by simp[gR],by simp[oG],Ψ⟩,i+1,Ω,Ω,rfl,?_,rfl⟩;rw[lI,aD];simp[nG,low];omega)
  ·simp at xk;have:s.drop i=[]:=by simp;omega
   simp[bz,aY,a6,aX,this]
 all_goals simp[bz,aY,a6,aX,iB,low]
 all_goals omega
theorem abP(m:Nat):∀(t:bZ),t.sz<=m->∀(room:Int),0<=room/\room<=10000->bR aA 114 [enc t,.int .i64 room] (.int .i64 (fN t room)):=by
 induction m with
 |zero=>intro t aC;cases t;simp[bZ.sz]at aC
 |succ m bK=>
 rintro⟨k,n,s,args⟩ aC room sX;refine br fY Tryz.func114 amn fun aR=>?_;unfold Sz;simp[bZ.kind,bZ.num,bZ.name,bZ.args];(with_reducible repeat' first|((first|refine bN (fun h=>?_) fun h=>?_|refine bP (fun h=>?_) fun h=>?_|refine bO (fun h=>?_) fun h=>?_)<;>try simp at h)|refine ak ?_|simp);all_goals try refine cY.val Ψ (u7 _) ?_
 all_goals try simp
 (with_reducible repeat' first|((first|refine bN (fun h=>?_) fun h=>?_|refine bP (fun h=>?_) fun h=>?_|refine bO (fun h=>?_) fun h=>?_)<;>try simp at h)|refine ak ?_|simp);all_goals try simp[bz,aY,a6,aX]
 case succ.refine_2.refine_2.refine_1.refine_1.refine_2=>
  rename_i bB I U ao;match args,h with
  |[a,b],_=>
  simp[bZ.sz,bZ.szL]at aC;subst I U ao;simp;(with_reducible repeat' first|((first|refine bN (fun h=>?_) fun h=>?_|refine bP (fun h=>?_) fun h=>?_|refine bO (fun h=>?_) fun h=>?_)<;>try simp at h)|refine ak ?_|simp);refine cY.val Ψ (bK a Ω (room-1) Ω) ?_;simp;have bk:=OC a (room-1);have n7:=EW a (room-1);(with_reducible repeat' first|((first|refine bN (fun h=>?_) fun h=>?_|refine bP (fun h=>?_) fun h=>?_|refine bO (fun h=>?_) fun h=>?_)<;>try simp at h)|refine ak ?_|simp)
  ·simp[bz,aY,a6,aX];rw[OB];simp;omega
  ·refine cY.val Ψ (bK b Ω (room-1-fN a (room-1)) Ω) ?_;simp;have ad:=OC b (room-1-fN a (room-1));have gn:=EW b (room-1-fN a (room-1));(with_reducible repeat' first|((first|refine bN (fun h=>?_) fun h=>?_|refine bP (fun h=>?_) fun h=>?_|refine bO (fun h=>?_) fun h=>?_)<;>try simp at h)|refine ak ?_|simp);all_goals simp[bz,aY,a6,aX]
   all_goals rw[OB];simp;omega
 all_goals rw[OB]
 all_goals simp_all[l8]
 all_goals first|omega|(split<;>simp at h⊢)
theorem Kg(t:bZ):bR aA 89 [enc t] (.bool t.fits):=by refine br fY Tryz.func89 al1 fun aR=>?_;unfold Sc;simp;refine cY.val Ψ (abP t.sz t (eo _) 5000 Ω) ?_;simp;simp[bz,aY,a6,aX];simp[bZ.fits]
theorem aqB(t:T):bR aA 89 [t.e] (.bool t.fit):=by have:=Kg t.tm;rwa[mq,bZ.fits_T]at this
theorem Kn(a b:T):bR aA 154 [a.e,b.e] (T.pair a b).e:=by refine br fY Tryz.func154 amr fun aR=>?_;unfold SD;simp;(with_reducible repeat' first|((first|refine bN (fun h=>?_) fun h=>?_|refine bP (fun h=>?_) fun h=>?_|refine bO (fun h=>?_) fun h=>?_)<;>try simp at h)|refine ak ?_|simp);all_goals try simp[bz,aY,a6,aX]
theorem CO(a b:T):bR aA 83 [a.e,b.e] (T.pair a b).e:=by refine br fY Tryz.func83 anl fun aR=>?_;unfold Tz;simp;(with_reducible repeat' first|((first|refine bN (fun h=>?_) fun h=>?_|refine bP (fun h=>?_) fun h=>?_|refine bO (fun h=>?_) fun h=>?_)<;>try simp at h)|refine ak ?_|simp);all_goals try simp[bz,aY,a6,aX]
theorem u9(t:T):bR aA 136 [t.e] t.e:=by
 induction t with
 |pair a b dQ dR=>refine br fY Tryz.func136 YP fun aR=>?_;unfold Lb;exact cu
 |_=>refine br fY Tryz.func136 YP fun aR=>?_;unfold Lb;exact cu
theorem pg(a b:Int):bR aA 155 [.int .i64 a,.int .i64 b] (.int .i64 (eN a b)):=by
 refine br fY Tryz.func155 amq fun aR=>?_;unfold SC;simp;((with_reducible repeat' first|refine ak ?_|simp|((first|apply bN|apply bP|apply bO)<;>intro h<;>try simp at h))<;>(try exact cf));all_goals simp[bz,aY,a6,aX]
 all_goals simp[eN]
 all_goals omega
theorem CQ(a:T):∀b:T,bR aA 117 [a.e,b.e] (.int .i64 (eM a b)):=by
 induction a with
 |pair bF a2 Ij Ik=>
  intro b;cases b with
  |pair b1 b2=>
   refine br fY Tryz.func117 OO fun aR=>?_;unfold GN;simp;((with_reducible repeat' first|refine ak ?_|refine aF (Ij _) ?_|refine aG (Ij _) ?_|refine aF (Ik _) ?_|refine aG (Ik _) ?_|refine aF (pg _ _) ?_|refine aG (pg _ _) ?_|simp|((first|apply bN|apply bP|apply bO)<;>intro h<;>try simp at h))<;>(try exact cf));all_goals simp[bz,aY,a6,aX]
   all_goals simp_all[eM]
  |_=>
   refine br fY Tryz.func117 OO fun aR=>?_;unfold GN;simp;(with_reducible repeat' first|refine ak ?_|refine aF (pg _ _) ?_|refine aG (pg _ _) ?_|simp);all_goals simp[bz,aY,a6,aX]
   all_goals simp_all[eM]
 |_=>
  intro b;cases b<;>
  (refine br fY Tryz.func117 OO fun aR=>?_;unfold GN
   simp
   (with_reducible repeat' first|((first|apply bN|apply bP|apply bO)<;>intro h<;>try simp at h)|refine ak ?_|refine aF (pg _ _) ?_|refine aG (pg _ _) ?_|simp)
   all_goals simp[bz,aY,a6,aX]
   all_goals simp_all[eM,lr])
theorem va(a b:T):bR aA 64 [a.e,b.e] (.bool (decide (a=b))):=by
 refine br fY Tryz.func64 amh fun aR=>?_;unfold St;simp;(with_reducible repeat' first|refine ak ?_|refine aF (CQ _ _) ?_|refine aG (CQ _ _) ?_|simp);all_goals simp[bz,aY,a6,aX]
 have:=r5 a b;by_cases h:eM a b=0<;>simp_all
open Classical in
def akp(l:List dS)(k:Nat)(st:bt):Prop:=∃i:Nat,i<=l.length/\k=l.length-i/\(∀j,j<i->B6 l j)/\st=⟨[(0,.slice 5 .no (l.map dS.e)),(8,.slice 5 .no (l.map dS.e)),(9,.int .i64 l.length),(10,.int .i64 i)],[],[],0,[]⟩
open Classical in
theorem aqC(l:List dS):bR aA 62 [.slice 5 .no (l.map dS.e)] (.bool (decide (wV l))):=by
 refine br fY Tryz.func62 al3 fun aR=>?_;unfold Se;simp;(with_reducible repeat' first|((first|apply bN|apply bP|apply bO)<;>intro h<;>try simp at h)|refine ak ?_|simp)
 ·simp[bz,aY,a6,aX];intro b4;have:=b4.1;omega
 ·refine oT (akp l) l.length _ ⟨Ψ,by simp[gR],by simp[oG],Ψ⟩ ⟨0,Ω,Ω,Ψ,rfl⟩ ?_;rintro k st ⟨i,hi,ae,lI,rfl⟩ kr cN;simp;refine bN (fun bD=>?_) (fun xk=>?_)
  ·simp at bD;obtain⟨b,ad⟩:∃b,l[i]? =some b:=⟨_,cm bD⟩;obtain⟨c,aq⟩:∃c,l[i-1]? =some c:=⟨_,cm Ω⟩;clear kr cN;simp[ad,aq];((with_reducible repeat' first|refine ak ?_|refine aF (Kg _) ?_|refine aG (Kg _) ?_|simp[aq]|((first|apply bN|apply bP|apply bO)<;>intro h<;>try simp at h))<;>(try exact cf));all_goals first
    |(simp[bz,aY,a6,aX];intro b4;have I:=b4.2 i bD b ad;have U:=I.2.1 c;have ao:=I.2.2;first|omega|(have:=U Ω aq;omega)|(rw[ao]at h;cases h)|simp_all)
    |(simp only[Gd];refine⟨l.length-(i+1),_,Ω,⟨Ψ,by simp[gR],by simp[oG],Ψ⟩,i+1,Ω,rfl,fun j ag=>?_,rfl⟩
      by_cases e:j=i
      ·subst e;intro b3 gn;rw[ad]at gn;cases gn;refine⟨Ω,fun cr bB hJ=>?_,by assumption⟩;rw[aq]at hJ;cases hJ;omega
      ·exact lI j Ω)
  ·simp at xk;simp[bz,aY,a6,aX];exact⟨Ω,fun j ag=>lI j Ω⟩
def dW.below(c:dW)(n:Int):Int:=if n<=0 then 0 else c.byte.tmod n
def dW.belowC(c:dW)(n:Int):dW:=if n<=0 then c else c.next
theorem dW.ok.below{c:dW}(h:c.ok)(n:Int):(c.belowC n).ok:=by unfold dW.belowC;split;exact h;exact h.next
theorem dW.below_le(c:dW)(n:Int)(au:0<n):0<=c.below n/\c.below n<n:=by have:=c.byte_le;unfold dW.below;rw[if_neg Ω];exact⟨Int.tmod_nonneg _ this.1,Int.tmod_lt_of_pos _ au⟩
theorem yP(c:dW)(aq:c.ok)(n:Int):bL aA 48 [.ptr (.obj 401) 0,.int .i64 n] (cx c) fun r ai=>r= .int .i64 (c.below n)/\ai=cx (c.belowC n):=by
 have af:=gK c;have dU:=ji c;refine bL.mk mixed qN Tryz.func48 am9 (by simp[-cp,-b9]) af.obj fun aR cN=>?_;unfold To;unfold cx;simp[-cp,-b9];(with_reducible repeat' first|((first|apply bN|apply bP|apply bO)<;>intro h<;>try simp[-cp,-b9]at h)|refine ak ?_|simp[-cp,-b9])
 ·(refine cR.at (cx (c)) (.inl rfl) (gK _) (ji _ _) co co ?_;simp[-cp,-b9,cV,aY,a6,aX,cx]);simp[-cp,-b9,dW.below,dW.belowC,h]
 ·(refine cY.ob (Hp c aq) (gK _) co co (by simp[-cp,-b9,inObs,cx,Pv.look]) ?_;rintro r ai ⟨rfl,rfl⟩;refine⟨ji _ _,?_⟩;unfold cx;simp[-cp,-b9,cc]);((with_reducible repeat' first|refine ak ?_|simp[-cp,-b9]|((first|apply bN|apply bP|apply bO)<;>intro h<;>try simp[-cp,-b9]at h))<;>(try exact cf));(refine cR.at (cx (c.next)) (.inl rfl) (gK _) (ji _ _) co co ?_;simp[-cp,-b9,cV,aY,a6,aX,cx]);have:¬n<=0:=Ω
  simp[-cp,-b9,dW.below,dW.belowC,this]
theorem abG(n:Int):bR aA 84 [.int .i64 n] (T.var n).e:=by refine br fY Tryz.func84 YY fun aR=>?_;unfold Lp;simp[-cp,-b9];simp[-cp,-b9,bz,aY,a6,aX]
theorem abE(n:Int):bR aA 133 [.int .i64 n] (T.num n).e:=by refine br qN Tryz.func133 anj fun aR=>?_;unfold Tx;simp[-cp,-b9];simp[-cp,-b9,bz,aY,a6,aX]
theorem abF(s:List UInt8):bR aA 134 [.str s] (T.sym s).e:=by refine br qN Tryz.func134 ano fun aR=>?_;unfold TC;simp[-cp,-b9];simp[-cp,-b9,bz,aY,a6,aX]
def su(k:Int):T:=if k<2 then .num k else if k<5 then .sym (([[97],[98],[99]]:List (List UInt8)).getD (k-2).toNat [])else .nil
theorem ahk(c:dW)(aq:c.ok):bL aA 85 [.ptr (.obj 401) 0] (cx c) fun r ai=>r=(su (c.below 7)).e/\ai=cx c.next:=by
 have af:=gK c;have ad:=c.below_le 7 Ω;have hy:c.belowC 7=c.next:=by simp[-cp,-b9,dW.belowC]
 refine bL.mk mixed qN Tryz.func85 ane (by simp[-cp,-b9]) af.obj fun aR cN=>?_;unfold Ts;unfold cx;simp[-cp,-b9];(refine cY.ob (yP c aq 7) (gK _) co co (by simp[-cp,-b9,inObs,cx,Pv.look]) ?_;rintro r ai ⟨rfl,rfl⟩;refine⟨ji _ _,?_⟩;unfold cx;simp[-cp,-b9,cc]);rw[hy];generalize ae:c.below 7=k at ad⊢;obtain⟨bJ,rfl⟩:∃bJ:Nat,k=bJ:=⟨k.toNat,Ω⟩;rcases(by omega:bJ=0\/bJ=1\/bJ=2\/bJ=3\/bJ=4\/bJ=5\/bJ=6)with rfl|rfl|rfl|rfl|rfl|rfl|rfl;all_goals simp[-cp,-b9]
 all_goals(with_reducible repeat' first|refine ak ?_|refine aF (abE _) ?_|refine aG (abE _) ?_|refine aF (abF _) ?_|refine aG (abF _) ?_|simp[-cp,-b9])
 all_goals(refine cR.at (cx (c.next)) (.inl rfl) (gK _) (ji _ _) co co ?_;simp[-cp,-b9,cV,aY,a6,aX,cx])
 all_goals simp[-cp,-b9,su]
def eC(size:Nat)(vars:Int)(c:dW):T×dW:=
 if 2<size/\3<=c.below 8 then
  (.pair (eC (size/2) vars c.next).1 (eC (size/2) vars (eC (size/2) vars c.next).2).1,(eC (size/2) vars (eC (size/2) vars c.next).2).2)
 else if 0<vars/\(c.below 8).tmod 2=0 then(.var (c.next.below vars),c.next.belowC vars)
 else(su (c.next.below 7),c.next.next)
termination_by size
theorem Dl(size:Nat)(vars:Int):∀c:dW,c.ok->(eC size vars c).2.ok:=by
 induction size using qQ with
 |ind size bK=>
  intro c aq;rw[eC];split
  ·rename_i h;exact bK _ Ω _ (bK _ Ω _ aq.next)
  ·split
   ·exact aq.next.below _
   ·exact aq.next.next
theorem Mj(vars:Int)(az:vars<=1000000)(size:Nat)(a8:size<=1000000):∀(c:dW),c.ok->bL aA 35 [.ptr (.obj 401) 0,.int .i64 size,.int .i64 vars] (cx c) fun r ai=>r=(eC size vars c).1.e/\ai=cx (eC size vars c).2:=by
 induction size using qQ with
 |ind size bK=>
  intro c aq;have af:=gK c;have ad:=c.below_le 8 Ω;have hy:c.belowC 8=c.next:=by simp[-cp,-b9,dW.belowC]
  obtain⟨z,WT⟩:∃z,z=size/2:=⟨_,rfl⟩;have hdiv:nR.wrap ((size:Int)/2)=(z:Int):=by rw[nl _ Ω];omega
  have oW:∀h:2<size/\3<=c.below 8,eC size vars c=(.pair (eC z vars c.next).1 (eC z vars (eC z vars c.next).2).1,(eC z vars (eC z vars c.next).2).2):=fun h=>by rw[eC,if_pos h,WT]
  have aiu:∀(h:¬(2<size/\3<=c.below 8)) (b4:0<vars/\(c.below 8).tmod 2=0),eC size vars c=(.var (c.next.below vars),c.next.belowC vars):=fun h b4=>by rw[eC,if_neg h,if_pos b4]
  have air:∀(h:¬(2<size/\3<=c.below 8)) (b4:¬(0<vars/\(c.below 8).tmod 2=0)),eC size vars c=(su (c.next.below 7),c.next.next):=fun h b4=>by rw[eC,if_neg h,if_neg b4]
  have Ep:2<size->∀c:dW,c.ok->bL aA 35 [.ptr (.obj 401) 0,.int .i64 z,.int .i64 vars] (cx c) fun r ai=>r=(eC z vars c).1.e/\ai=cx (eC z vars c).2:=fun h=>bK z Ω Ω;clear bK;refine bL.mk mixed qN Tryz.func35 ang (by simp[-cp,-b9]) af.obj fun aR cN=>?_;unfold Tu;unfold cx;simp[-cp,-b9];(refine cY.ob (yP c aq 8) (gK _) co co (by simp[-cp,-b9,inObs,cx,Pv.look]) ?_;rintro r ai ⟨rfl,rfl⟩;refine⟨ji _ _,?_⟩;unfold cx;simp[-cp,-b9,cc]);rw[hy];(with_reducible repeat' first|((first|apply bN|apply bP|apply bO)<;>intro h<;>try simp[-cp,-b9]at h)|refine ak ?_|simp[-cp,-b9,hdiv])
  ·rename_i U;(refine cY.ob (Ep Ω c.next aq.next) (gK _) co co (by simp[-cp,-b9,inObs,cx,Pv.look]) ?_;rintro r ai ⟨rfl,rfl⟩;refine⟨ji _ _,?_⟩;unfold cx;simp[-cp,-b9,cc]);((with_reducible repeat' first|refine ak ?_|simp[-cp,-b9,hdiv]|((first|apply bN|apply bP|apply bO)<;>intro h<;>try simp[-cp,-b9]at h))<;>(try exact cf));(refine hs.ob (Ep Ω (eC z vars c.next).2 (Dl _ _ _ aq.next)) (gK _) (gK _) (ji _ _) co co (by simp[-cp,-b9,inObs,cx,Pv.look]) ?_;unfold cx;simp[-cp,-b9,cc]);(with_reducible repeat' first|refine ak ?_|refine aF (CO _ _) ?_|refine aG (CO _ _) ?_|simp[-cp,-b9]);rw[oW Ω];(refine cR.at (cx ((eC z vars (eC z vars c.next).2).2)) (.inl rfl) (gK _) (ji _ _) co co ?_;simp[-cp,-b9,cV,aY,a6,aX,cx])
  all_goals first
   |(rw[aiu Ω ⟨Ω,by assumption⟩];(refine cY.ob (yP c.next aq.next vars) (gK _) co co (by simp[-cp,-b9,inObs,cx,Pv.look]) ?_;rintro r ai ⟨rfl,rfl⟩;refine⟨ji _ _,?_⟩;unfold cx;simp[-cp,-b9,cc]);(with_reducible repeat' first|refine ak ?_|refine aF (abG _) ?_|refine aG (abG _) ?_|simp[-cp,-b9]);(refine cR.at (cx (c.next.belowC vars)) (.inl rfl) (gK _) (ji _ _) co co ?_;simp[-cp,-b9,cV,aY,a6,aX,cx]);done)
   |(rw[air Ω (by rintro⟨I,U⟩;first|omega|contradiction|(simp_all;done))];(refine cY.ob (ahk c.next aq.next) (gK _) co co (by simp[-cp,-b9,inObs,cx,Pv.look]) ?_;rintro r ai ⟨rfl,rfl⟩;refine⟨ji _ _,?_⟩;unfold cx;simp[-cp,-b9,cc]);(with_reducible repeat' first|refine ak ?_|simp[-cp,-b9]);(refine cR.at (cx (c.next.next)) (.inl rfl) (gK _) (ji _ _) co co ?_;simp[-cp,-b9,cV,aY,a6,aX,cx]);done)
def CB:List Int->Int->Int
 |[],h=>h
 |x::r,h=>CB r (yy .i64 (h*131+x+7) 1073741823)
def xN(d:List Int):dW:=⟨d,0,CB (d.take 4000) (90411+d.length)⟩
def akm(d:List Int)(k:Nat)(st:bt):Prop:=∃(i:Nat) (h:Int),i<=d.length/\i<=4000/\k=d.length-i/\0<=h/\h<=2000000000/\CB ((d.take 4000).drop i) h=CB (d.take 4000) (90411+d.length)/\st=⟨[(0,.slice 1 .no (iv d)),(3,.int .i64 h),(4,.int .i64 i)],[],[],0,[]⟩
theorem ahi(d:List Int)(aD:sv d)(aw:d.length<=10000000):bL aA 52 [.slice 1 .no (iv d)] ⟨[],[]⟩ fun r ai=>r= .ptr (.obj 401) 0/\ai=cx (xN d):=by
 have af:dP ⟨[],[]⟩:=(dP.of ⟨by intro m;simp[-cp,-b9,Pv.look],by intro m;simp[-cp,-b9,Pv.look]⟩ (by simp[-cp,-b9,aP,aK,inObs,Pv.look]) (by simp[-cp,-b9,aP,aK,inObs,Pv.look]));refine bL.mk mixed qN Tryz.func52 anb (by simp[-cp,-b9]) af.obj fun aR cN=>?_;unfold Tq;simp[-cp,-b9];(with_reducible repeat' first|refine ak ?_|simp[-cp,-b9]);refine oT (akm d) d.length _ ⟨by simp[-cp,-b9],by simp[-cp,-b9,gR],by simp[-cp,-b9,oG],by simp[-cp,-b9]⟩ ⟨0,90411+d.length,Ω,Ω,Ω,Ω,Ω,by simp[-cp,-b9],rfl⟩ ?_;rintro k st ⟨i,g,hi,atm,ae,bB,I,jU,rfl⟩ kr cN;clear kr cN;have ur:¬(i<d.length/\i<4000)->g=CB (d.take 4000) (90411+d.length):=by intro au;rw[List.drop_of_length_le (by simp[-cp,-b9];omega)]at jU;exact jU
 have kG:¬(i<d.length/\i<4000)->xN d=⟨d,0,g⟩:=fun au=>by simp[-cp,-b9,xN,ur au]
 simp[-cp,-b9];(with_reducible repeat' first|((first|apply bN|apply bP|apply bO)<;>intro h<;>try simp[-cp,-b9]at h)|refine ak ?_|simp[-cp,-b9])
 ·have bD:i<d.length:=Ω
  obtain⟨x,ab⟩:∃x,d[i]? =some x:=⟨_,cm bD⟩;have ld:∀h,(iv d)[i]'h= .int .u8 x:=fun h=>by have:=K1 ab;rw[cm h]at this;simpa using this
  have o3:=aD x (ek ab);have hw:nR.wrap x=x:=nl _ Ω;have mS:=KQ (g*131+x+7) 1073741823 Ω Ω;simp[-cp,-b9,K1 ab,hw];(with_reducible repeat' first|refine ak ?_|simp[-cp,-b9]);refine bS.next (d.length-(i+1)) Ω ⟨i+1,_,Ω,Ω,rfl,mS.1,Ω,?_,rfl⟩ ⟨by simp[-cp,-b9],by simp[-cp,-b9,gR],by simp[-cp,-b9,oG],by simp[-cp,-b9]⟩;rw[<-jU,lA (l:=d.take 4000) (i:=i) (by simp[-cp,-b9];omega)];have:(d.take 4000)[i]'(by simp[-cp,-b9];omega)=x:=by have:=ab;rw[cm bD]at this;simpa using this
  rw[this,CB]
 all_goals rw[kG Ω]
 all_goals refine cR.new (cx ⟨d,0,g⟩) (.inl rfl) (gK _) (by simp[-cp,-b9,kI]) co co ?_
 all_goals simp[-cp,-b9,cV,aY,a6,aX,cx,inObs,Pv.look]
def tC:Nat->dW->dW
 |0,c=>c
 |n+1,c=>(tC n c).next
theorem P6{c:dW}(h:c.ok):∀n,(tC n c).ok
 |0=>h
 |n+1=>(P6 h n).next
theorem Yv{d:List Int}(aD:sv d)(aw:d.length<=10000000):(xN d).ok:=⟨aD,aw,by simp[-cp,-b9,xN]⟩
def kp(d:List Int)(n:Nat):dW:=tC n (xN d)
theorem G4{d:List Int}(aD:sv d)(aw:d.length<=10000000)(n:Nat):(kp d n).ok:=P6 (Yv aD aw) n
theorem rX(S:aM->Prop)(c:dW):aP S c.e:=by simp[-cp,-b9,dW.e,aP,aK]
def akh(c:dW)(n:Nat)(k:Nat)(st:bt):Prop:=∃i:Nat,i<=n/\k=n-i/\st=⟨[(1,.int .i64 n),(5,.ptr (.obj 401) 0),(6,.int .i64 i)],[(.obj 401,(tC i c).e)],[],0,[.obj 401]⟩
theorem Mk(d:List Int)(aD:sv d)(aw:d.length<=10000000)(n:Nat)(au:n<=1000000):bL aA 21 [.slice 1 .no (iv d),.int .i64 n] ⟨[],[]⟩ fun r ai=>r= .ptr (.obj 401) 0/\ai=cx (kp d n):=by
 unfold kp;have af:dP ⟨[],[]⟩:=(dP.of ⟨by intro m;simp[-cp,-b9,Pv.look],by intro m;simp[-cp,-b9,Pv.look]⟩ (by simp[-cp,-b9,aP,aK,inObs,Pv.look]) (by simp[-cp,-b9,aP,aK,inObs,Pv.look]));refine bL.mk mixed qN Tryz.func21 anI (by simp[-cp,-b9]) af.obj fun aR cN=>?_;unfold TV;simp[-cp,-b9];refine cY.new (ahi d aD aw) af aL aL (by simp[-cp,-b9]) ?_;rintro r ai ⟨rfl,rfl⟩;refine⟨fun m _=>.inr (by simp[-cp,-b9]),?_⟩;unfold cx;simp[-cp,-b9,cc];refine oT (akh (xN d) n) n _ ⟨by simp[-cp,-b9,fresh,aP,aK,cq,inObs,Pv.look,rX,tC],et (by simp[-cp,-b9,fresh,aP,aK,cq,inObs,Pv.look,rX,tC]),eu (by simp[-cp,-b9,fresh,aP,aK,ee,inObs,Pv.look,rX,tC]),by simp[-cp,-b9]⟩ ⟨0,Ω,rfl,rfl⟩ ?_;rintro k st ⟨i,hi,ae,rfl⟩ kr cN;clear kr cN;simp[-cp,-b9];(with_reducible repeat' first|((first|apply bN|apply bP|apply bO)<;>intro h<;>try simp[-cp,-b9]at h)|refine ak ?_|simp[-cp,-b9])
 ·(refine cY.ob (Hp _ (P6 (Yv aD aw) i)) (gK _) co co (by simp[-cp,-b9,inObs,cx,Pv.look]) ?_;rintro r ai ⟨rfl,rfl⟩;refine⟨ji _ _,?_⟩;unfold cx;simp[-cp,-b9,cc]);(with_reducible repeat' first|((first|apply bN|apply bP|apply bO)<;>intro h<;>try simp[-cp,-b9]at h)|refine ak ?_|simp[-cp,-b9]);refine bS.next (n-(i+1)) Ω ⟨i+1,Ω,rfl,rfl⟩ ⟨by simp[-cp,-b9,fresh,aP,aK,cq,inObs,Pv.look,rX,tC],et (by simp[-cp,-b9,fresh,aP,aK,cq,inObs,Pv.look,rX,tC]),eu (by simp[-cp,-b9,fresh,aP,aK,ee,inObs,Pv.look,rX,tC]),by simp[-cp,-b9]⟩
 ·obtain rfl:i=n:=Ω
  refine cR.new (cx (tC i (xN d))) (.inl rfl) (gK _) (by simp[-cp,-b9,kI]) co co ?_;simp[-cp,-b9,cV,aY,a6,aX,cx,inObs,Pv.look]
theorem abp(d:List Int)(aD:sv d)(aw:d.length<=10000000)(n:Nat)(au:n<=1000000)(size:Nat)(a8:size<=1000000)(vars:Int)(az:vars<=1000000):bR aA 10 [.slice 1 .no (iv d),.int .i64 n,.int .i64 size,.int .i64 vars] (eC size vars (kp d n)).1.e:=by refine br qN Tryz.func10 am4 fun aR=>?_;unfold Tj;simp[-cp,-b9];refine cY.new (Mk d aD aw n au) ((dP.of ⟨by intro m;simp[-cp,-b9,Pv.look],by intro m;simp[-cp,-b9,Pv.look]⟩ (by simp[-cp,-b9,aP,aK,inObs,Pv.look]) (by simp[-cp,-b9,aP,aK,inObs,Pv.look]))) aL aL (by simp[-cp,-b9]) ?_;rintro r ai ⟨rfl,rfl⟩;refine⟨fun m _=>.inr (by simp[-cp,-b9]),?_⟩;unfold cx;simp[-cp,-b9,cc];(refine cY.ob (Mj vars az size a8 _ (G4 aD aw n)) (gK _) co co (by simp[-cp,-b9,inObs,cx,Pv.look]) ?_;rintro r ai ⟨rfl,rfl⟩;refine⟨ji _ _,?_⟩;unfold cx;simp[-cp,-b9,cc]);simp[-cp,-b9,bz,aY,a6,aX]
/-What is drawn. -/
theorem ac6(k:Int)(bB:0<=k)(I:k<7):(su k).ok=true/\(∀v,(su k).occ v=false)/\(su k).size=1:=by obtain⟨n,rfl⟩:∃n:Nat,k=n:=⟨k.toNat,Ω⟩;rcases(by omega:n=0\/n=1\/n=2\/n=3\/n=4\/n=5\/n=6)with rfl|rfl|rfl|rfl|rfl|rfl|rfl<;>refine⟨?_,fun v=>?_,?_⟩<;>first|rfl|decide
theorem adA(vars:Int)(az:vars<=100001)(n:Nat):∀c:dW,(eC n vars c).1.ok=true/\(∀v,(eC n vars c).1.occ v=true->0<=v/\v<vars)/\(eC n vars c).1.size<=2*n-1+(if n=0 then 1 else 0):=by
 induction n using qQ with
 |ind n bK=>
  intro c;have dM:=c.next.below_le 7 Ω;rw[eC];split
  ·rename_i h;obtain⟨bF,a2,a3⟩:=bK (n/2) Ω c.next;obtain⟨b1,b2,fy⟩:=bK (n/2) Ω (eC (n/2) vars c.next).2;refine⟨by simp[T.ok,bF,b1],fun v az=>?_,?_⟩
   ·simp only[T.occ,mg]at az;rcases az with az|az
    ·exact a2 v az
    ·exact b2 v az
   ·simp only[T.size];split at a3<;>split at fy<;>split<;>omega
  ·split
   ·rename_i h;have:=c.next.below_le vars h.1;refine⟨by simp[T.ok];omega,fun v az=>?_,by simp only[T.size];split<;>omega⟩;simp[T.occ]at az;omega
   ·obtain⟨bF,a2,a3⟩:=ac6 _ dM.1 dM.2;refine⟨bF,fun v az=>?_,?_⟩
    ·simp only[a2 v]at az;cases az
    ·simp only[a3];split<;>omega
theorem aqw(d:List Int)(aD:sv d)(aw:d.length<=10000000)(n:Nat)(au:n<=1000000):bR aA 18 [.slice 1 .no (iv d),.int .i64 n] (.int .i64 ((kp d n).byte*256+(kp d n).next.byte)):=by have b1:=(kp d n).byte_le;have b2:=(kp d n).next.byte_le;refine br qN Tryz.func18 am2 fun aR=>?_;unfold Th;simp[-cp,-b9];refine cY.new (Mk d aD aw n au) ((dP.of ⟨by intro m;simp[-cp,-b9,Pv.look],by intro m;simp[-cp,-b9,Pv.look]⟩ (by simp[-cp,-b9,aP,aK,inObs,Pv.look]) (by simp[-cp,-b9,aP,aK,inObs,Pv.look]))) aL aL (by simp[-cp,-b9]) ?_;rintro r ai ⟨rfl,rfl⟩;refine⟨fun m _=>.inr (by simp[-cp,-b9]),?_⟩;unfold cx;simp[-cp,-b9,cc];(refine cY.ob (Hp _ (G4 aD aw n)) (gK _) co co (by simp[-cp,-b9,inObs,cx,Pv.look]) ?_;rintro r ai ⟨rfl,rfl⟩;refine⟨ji _ _,?_⟩;unfold cx;simp[-cp,-b9,cc]);(with_reducible repeat' first|refine ak ?_|simp[-cp,-b9]);(refine cY.ob (Hp _ (G4 aD aw n).next) (gK _) co co (by simp[-cp,-b9,inObs,cx,Pv.look]) ?_;rintro r ai ⟨rfl,rfl⟩;refine⟨ji _ _,?_⟩;unfold cx;simp[-cp,-b9,cc]);exact cu
def ng(p:Nat->Bool)(i j:Nat):Nat:=if i<j then(if p ((i+j)/2)then ng p i ((i+j)/2)else ng p ((i+j)/2+1) j)else i
termination_by j-i
def ako(s:cU)(n g:Nat)(dv:List aj)(p:Nat->Bool)(k:Nat)(st:bt):Prop:=∃i j:Nat,i<=j/\j<=n/\k=j-i/\ng p i j=ng p 0 n/\st=⟨[(1,.func g dv),(5,.int .i64 i),(6,.int .i64 j)],s.b,s.e,0,dc s⟩
theorem ag8(s:cU)(af:dP s)(n g:Nat)(au:n<=1000000)(dv:List aj)(aq:aP (inObs s) dv)(da:du dv=dv)(p:Nat->Bool)(aO:∀i:Nat,i<n->bL aA g (.int .i64 i::dv) s fun r ai=>r= .bool (p i)/\ai=s):
  bL aA 57 [.int .i64 n,.func g dv] s fun r ai=>r= .int .i64 (ng p 0 n)/\ai=s:=by
 refine bL.mk mixed fY Tryz.func57 amF Ψ af.obj fun aR cN=>?_;unfold SR;simp;refine oT (ako s n g dv p) n _ (jD.ob af g9 aL aL) ⟨0,n,Ω,Ω,rfl,rfl,rfl⟩ ?_;rintro k st ⟨i,j,mv,ag,ae,Nh,rfl⟩ kr cN;clear kr cN;simp;refine bN (fun bD=>?_) (fun xk=>?_)
 ·simp at bD;have hw:hT.wrap ((i:Int)+j)=i+j:=by simp[tM,oK,sn];omega
  obtain⟨m,hm⟩:∃m,m=(i+j)/2:=⟨_,rfl⟩;have aD:Int.fdiv ((i:Int)+j) 2=(m:Int):=by rw[Int.fdiv_eq_ediv_of_nonneg _ Ω];omega
  have nF:nR.wrap (m:Int)=m:=by rw[nl];omega
  have MB:hT.bits=64:=rfl;simp[hw,da,MB,aD,nF];refine⟨by unfold pQ;omega,?_⟩;refine cY.ob (aO m Ω) af aL aL g9 ?_;rintro r ai ⟨rfl,rfl⟩;refine⟨Same.refl _,?_⟩;simp[hC];(with_reducible repeat' first|((first|apply bN|apply bP|apply bO)<;>intro h<;>try simp at h)|refine ak ?_|simp)
  ·simp only[Gd];refine⟨j-(m+1),_,Ω,jD.ob af g9 aL aL,m+1,j,Ω,Ω,rfl,?_,rfl⟩;rw[<-Nh];conv=>rhs;unfold ng
   simp[bD,<-hm,h]
  ·simp only[Gd];refine⟨m-i,_,Ω,jD.ob af g9 aL aL,i,m,Ω,Ω,rfl,?_,rfl⟩;rw[<-Nh];conv=>rhs;unfold ng
   simp[bD,<-hm,h]
 ·simp at xk;have:ng p 0 n=i:=by rw[<-Nh];unfold ng;rw[if_neg Ω]
  rw[this];simp;refine cR.at s (.inl rfl) af (Same.refl s) aL aL ?_;simp[cV,aY,a6,aX]
def kB(l:List ah)(v:Int):Int:=
 let i:=ng (fun i=>match l[i]? with|some b=>decide (v<=b.v)|none=>false) 0 l.length
 match l[i]? with|some b=>if b.v=v then i else-1|none=> -1
theorem ahf(l:List ah)(v:Int)(i:Nat)(b:ah)(ad:l[i]? =some b):bL aA 58 [.int .i64 i,.ptr (.obj 101) 0,.ptr (.obj 102) 0] ⟨[(.obj 101,[.slice 5 .no (l.map ah.e)]),(.obj 102,[.int .i64 v])],[]⟩ fun r ai=>r= .bool (decide (v<=b.v))/\ai=⟨[(.obj 101,[.slice 5 .no (l.map ah.e)]),(.obj 102,[.int .i64 v])],[]⟩:=by have af:dP ⟨[(.obj 101,[.slice 5 .no (l.map ah.e)]),(.obj 102,[.int .i64 v])],[]⟩:=(dP.of ⟨by intro m;simp[Pv.look],by intro m;simp[Pv.look]⟩ d9 d9);have bD:i<l.length:=(fG.1 ad).1;refine bL.mk mixed fY Tryz.func58 amk Ψ af.obj fun aR cN=>?_;unfold Sw;simp[ad];(with_reducible repeat' first|refine ak ?_|simp);refine cR.at _ (.inl rfl) af (Same.refl _) aL aL ?_;simp[cV,aY,a6,aX]
theorem tI(l:List ah)(v:Int)(aw:l.length<=1000000):bR aA 24 [.slice 5 .no (l.map ah.e),.int .i64 v] (.int .i64 (kB l v)):=by
 refine br fY Tryz.func24 amj fun aR=>?_;unfold Sv;simp;have af:dP ⟨[(.obj 101,[.slice 5 .no (l.map ah.e)]),(.obj 102,[.int .i64 v])],[]⟩:=(dP.of ⟨by intro m;simp[Pv.look],by intro m;simp[Pv.look]⟩ d9 d9);refine cY.ob (ag8 ⟨[(.obj 101,[.slice 5 .no (l.map ah.e)]),(.obj 102,[.int .i64 v])],[]⟩ af l.length 58 aw [.ptr (.obj 101) 0,.ptr (.obj 102) 0] (by simp[inObs]) Ψ (fun i=>match l[i]? with|some b=>decide (v<=b.v)|none=>false) fun i hi=>?_) af aL aL (by simp[inObs]) ?_
 ·obtain⟨b,ad⟩:∃b,l[i]? =some b:=⟨_,cm hi⟩;simp only[ad];exact ahf l v i b ad
 rintro r ai ⟨rfl,rfl⟩;refine⟨Same.refl _,?_⟩;unfold kB;generalize ng _ 0 l.length=i;cases ad:l[i]? with
 |none=>
  have bD:¬i<l.length:=by simpa using ad
  simp[cc,bD];exact cu
 |some b=>
  have bD:i<l.length:=(fG.1 ad).1;simp[cc,ad,bD];((with_reducible repeat' first|refine ak ?_|simp[ad]|((first|apply bN|apply bP|apply bO)<;>intro h<;>try simp at h))<;>(try exact cf));all_goals simp[bz,aY,a6,aX]
  all_goals simp_all
def r6(l:List ah)(v:Int):Option T:=if kB l v<0 then none else(l[(kB l v).toNat]?).map (·.t)
theorem Mc(l:List ah)(v:Int):kB l v<l.length/\ -1<=kB l v:=by
 unfold kB;simp only;split
 ·rename_i b ad;have:=(fG.1 ad).1;split<;>omega
 ·omega
theorem Vq(l:List ah)(v:Int)(aw:l.length<=1000000)(o:Option T)(ax:o=r6 l v):bL aA 61 [.int .i64 v,.ptr (.obj 201) 0] ⟨[(.obj 201,[.slice 5 .no (l.map ah.e)])],[]⟩ fun r ai=>r= .tuple [(o.getD .nil).e,.bool o.isSome]/\ai=⟨[(.obj 201,[.slice 5 .no (l.map ah.e)])],[]⟩:=by
 have af:dP ⟨[(.obj 201,[.slice 5 .no (l.map ah.e)])],[]⟩:=(dP.of ⟨by intro m;simp[Pv.look],by intro m;simp[Pv.look]⟩ d9 d9);have bD:=(Mc l v).1;unfold r6 at ax;refine bL.mk mixed fY Tryz.func61 amt Ψ af.obj fun aR cN=>?_;unfold SF;simp;(with_reducible repeat' first|((first|apply bN|apply bP|apply bO)<;>intro h<;>try simp at h)|refine ak ?_|refine aF (tI l v aw) ?_|refine aG (tI l v aw) ?_|simp)
 ·obtain⟨b,ad⟩:∃b,l[(kB l v).toNat]? =some b:=⟨_,cm Ω⟩;have iA:o=some b.t:=by rw[ax,if_neg Ω,ad];rfl
  simp[ad];(with_reducible repeat' first|((first|apply bN|apply bP|apply bO)<;>intro h<;>try simp at h)|refine ak ?_|simp[ad]);refine cR.at _ (.inl rfl) af (Same.refl _) aL aL ?_;simp[cV,aY,a6,aX];simp[iA]
 ·have iA:o=none:=by rw[ax,if_pos h]
  refine cR.at _ (.inl rfl) af (Same.refl _) aL aL ?_;simp[cV,aY,a6,aX];simp[iA]
theorem ahz(s:cU)(af:dP s)(g:Nat)(dv:List aj)(aq:aP (inObs s) dv)(da:du dv=dv)(f:Int->Int)(DY:∀v,-1<=f v)(t:T)(aO:∀v,t.occ v=true->bL aA g (.int .i64 v::dv) s fun r ai=>r= .int .i64 (f v)/\ai=s):
  bL aA 112 [t.e,.func g dv] s fun r ai=>r= .int .i64 (ma f t)/\ai=s:=by
 have au:∀m,Pv.look (.loc m) s.b=none:=af.obj.1;have hu:∀m cs,cI (.loc m) cs s.b=s.b++[(.loc m,cs)]:=fun m cs=>kR (au m);have ax:∀m,aM.loc m∉dc s:=kM af.obj;induction t with
 |pair a b dQ dR=>
  have atE:=J0 f DY a;have atH:=J0 f DY b;refine bL.mk mixed fY Tryz.func112 zG Ψ af.obj fun aR cN=>?_;unfold w2;simp[hu,ax,cX,au,da];(with_reducible repeat' first|refine ak ?_|simp[hu,ax,cX,au]);refine cY.ob (dQ fun v az=>aO v (by simp[T.occ,az])) af aL aL g9 ?_;rintro r ai ⟨rfl,rfl⟩;refine⟨Same.refl _,?_⟩;simp[hC,jw,cc,au];(with_reducible repeat' first|((first|apply bN|apply bP|apply bO)<;>intro h<;>try simp at h)|refine ak ?_|simp[hu,ax,cX,au])
  ·refine cR.at ai (.inl rfl) af (Same.refl _) aL aL ?_;simp[cV,aY,a6,aX];simp[ma];omega
  ·rw[da];refine cY.ob (dR fun v az=>aO v (by simp[T.occ,az])) af aL aL g9 ?_;rintro r s2 ⟨rfl,rfl⟩;refine⟨Same.refl _,?_⟩;simp[hC,jw,cc,au];(with_reducible repeat' first|((first|apply bN|apply bP|apply bO)<;>intro h<;>try simp at h)|refine ak ?_|simp[hu,ax,cX,au]);refine cR.at s2 (.inl rfl) af (Same.refl _) aL aL ?_;simp[cV,aY,a6,aX];simp[ma];omega
 |var n=>refine bL.mk mixed fY Tryz.func112 zG Ψ af.obj fun aR cN=>?_;unfold w2;simp[hu,ax,cX,au,da];(with_reducible repeat' first|refine ak ?_|simp[hu,ax,cX,au]);refine cY.ob (aO n (by simp[T.occ])) af aL aL g9 ?_;rintro r ai ⟨rfl,rfl⟩;refine⟨Same.refl _,?_⟩;simp[hC,jw,cc,au];refine cR.at ai (.inl rfl) af (Same.refl _) aL aL ?_;simp[cV,aY,a6,aX];simp[ma]
 |_=>refine bL.mk mixed fY Tryz.func112 zG Ψ af.obj fun aR cN=>?_;unfold w2;simp[hu,ax,cX,au,da];(with_reducible repeat' first|refine ak ?_|simp[hu,ax,cX,au]);refine cR.at s (.inl rfl) af (Same.refl _) aL aL ?_;simp[cV,aY,a6,aX];simp[ma]
theorem ahm(s:cU)(af:dP s)(g:Nat)(dv:List aj)(aq:aP (inObs s) dv)(da:du dv=dv)(f:Int->Option T)(t:T)(aO:∀v,t.occ v=true->bL aA g (.int .i64 v::dv) s fun r ai=>r= .tuple [((f v).getD .nil).e,.bool (f v).isSome]/\ai=s):
  bL aA 115 [t.e,.func g dv] s fun r ai=>r=(t.sub f).e/\ai=s:=by
 have au:∀m,Pv.look (.loc m) s.b=none:=af.obj.1;have cG:∀m,Pv.look (.loc m) s.e=none:=af.obj.2;have hu:∀m cs,cI (.loc m) cs s.b=s.b++[(.loc m,cs)]:=fun m cs=>kR (au m);have ax:∀m,aM.loc m∉dc s:=kM af.obj;have mC:∀m p r,cI (.loc m) p (s.b++r)=s.b++cI (.loc m) p r:=fun m p r=>CL (au m);induction t with
 |pair a b dQ dR=>refine bL.mk mixed fY Tryz.func115 B8 Ψ af.obj fun aR cN=>?_;unfold yD;simp[hu,ax,cX,au,cG,da,mC];(with_reducible repeat' first|refine ak ?_|simp[hu,ax,cX,au,cG,mC]);refine hs.ob (dQ fun v az=>aO v (by simp[T.occ,az])) af af (Same.refl _) aL aL g9 ?_;simp[hC,jw,cc,au,da];refine hs.ob (dR fun v az=>aO v (by simp[T.occ,az])) af af (Same.refl _) aL aL g9 ?_;simp[hC,jw,cc,au,da];(with_reducible repeat' first|refine ak ?_|refine aF (Kn _ _) ?_|refine aG (Kn _ _) ?_|simp);refine cR.at s (.inl rfl) af (Same.refl _) aL aL ?_;simp[cV,aY,a6,aX,cX,au];simp[T.sub]
 |var n=>
  refine bL.mk mixed fY Tryz.func115 B8 Ψ af.obj fun aR cN=>?_;unfold yD;simp[hu,ax,cX,au,da,mC];(with_reducible repeat' first|refine ak ?_|simp[hu,ax,cX,au,mC]);refine cY.ob (aO n (by simp[T.occ])) af aL aL g9 ?_;rintro r ai ⟨rfl,rfl⟩;refine⟨Same.refl _,?_⟩;simp[hC,jw,cc,au,hu,ax,cX];(with_reducible repeat' first|((first|apply bN|apply bP|apply bO)<;>intro h<;>try simp at h)|refine ak ?_|refine aF (u9 _) ?_|refine aG (u9 _) ?_|simp[hu,ax,cX,au,mC]);all_goals refine cR.at ai (.inl rfl) af (Same.refl _) aL aL ?_
  all_goals simp[cV,aY,a6,aX,cX,au]
  all_goals cases qs:f n<;>simp_all[T.sub]
 |_=>refine bL.mk mixed fY Tryz.func115 B8 Ψ af.obj fun aR cN=>?_;unfold yD;simp[hu,ax,cX,au,da,mC];(with_reducible repeat' first|((first|apply bN|apply bP|apply bO)<;>intro h<;>try simp at h)|refine ak ?_|simp[hu,ax,cX,au,mC]);refine cR.at s (.inl rfl) af (Same.refl _) aL aL ?_;simp[cV,aY,a6,aX,cX,au];simp[T.sub]
def ps(l:List ah):cU:=⟨[(.obj 201,[.slice 5 .no (l.map ah.e)])],[]⟩
def sr(l:List ah):cU:=⟨[(.obj 201,[.slice 5 .no (l.map ah.e)]),(.obj 202,[.func 61 [.ptr (.obj 201) 0]])],[]⟩
theorem C0(l:List ah):dP (ps l):=by unfold ps;exact(dP.of ⟨by intro m;simp[Pv.look],by intro m;simp[Pv.look]⟩ d9 d9)
theorem Ky(l:List ah):dP (sr l):=by unfold sr;exact(dP.of ⟨by intro m;simp[Pv.look],by intro m;simp[Pv.look]⟩ d9 d9)
def vB(l:List ah)(v:Int):Int:=match r6 l v with|some x=>fN x.tm 5000|none=>1
theorem ag1(l:List ah)(v:Int): -1<=vB l v:=by
 unfold vB;split
 ·rename_i x _;rcases EW x.tm 5000 with h|h<;>omega
 ·omega
theorem abQ(t:T):bR aA 114 [t.e,.int .i64 5000] (.int .i64 (fN t.tm 5000)):=by have:=abP t.tm.sz t.tm (eo _) 5000 Ω;rwa[mq]at this
theorem ahw(l:List ah)(v:Int)(aw:l.length<=1000000):bL aA 113 [.int .i64 v,.ptr (.obj 202) 0] (sr l) fun r ai=>r= .int .i64 (vB l v)/\ai=sr l:=by
 have af:=Ky l;unfold sr at af⊢;refine bL.mk mixed fY Tryz.func113 amv Ψ af.obj fun aR cN=>?_;unfold SH;simp;refine cY.ob (Vq l v aw _ rfl) (C0 l) aL aL (by simp[inObs]) ?_;rintro r ai ⟨rfl,rfl⟩;refine⟨Same.refl _,?_⟩;simp[cc];(with_reducible repeat' first|((first|apply bN|apply bP|apply bO)<;>intro h<;>try simp at h)|refine ak ?_|refine aF (abQ _) ?_|refine aG (abQ _) ?_|simp);all_goals refine cR.at _ (.inl rfl) af (Same.refl _) aL aL ?_
 all_goals simp[cV,aY,a6,aX]
 all_goals unfold vB
 all_goals cases bG:r6 l v<;>simp_all
def Fg(l:List ah)(t:T):T:=t.sub (r6 l)
def uV(l:List ah)(t:T):Bool:=decide (ma (vB l) t<=5000)
theorem ahv(l:List ah)(t:T)(aw:l.length<=1000000):bL aA 60 [t.e,.func 61 [.ptr (.obj 201) 0]] (ps l) fun r ai=>r= .tuple [(if uV l t then Fg l t else .nil).e,.bool (uV l t)]/\ai=ps l:=by
 have af:=C0 l;unfold ps at af⊢;refine bL.mk mixed fY Tryz.func60 amu Ψ af.obj fun aR cN=>?_;unfold SG;simp;refine cY.ob (ahz (sr l) (Ky l) 113 [.ptr (.obj 202) 0] (by simp[inObs,sr]) Ψ (vB l) (ag1 l) t fun v az=>ahw l v aw) (Ky l) (by unfold sr;exact aL) (by unfold sr;exact aL) (by simp[inObs,sr]) ?_;rintro r ai ⟨rfl,rfl⟩;refine⟨Same.refl _,?_⟩;unfold sr;simp[cc];(with_reducible repeat' first|((first|apply bN|apply bP|apply bO)<;>intro h<;>try simp at h)|refine ak ?_|simp)
 ·refine cR.at _ (.inl rfl) af (Same.refl _) aL aL ?_;simp[cV,aY,a6,aX];have:uV l t=false:=by simp[uV];omega
  simp[this]
 ·refine cY.ob (ahm (ps l) (C0 l) 61 [.ptr (.obj 201) 0] (by simp[inObs,ps]) Ψ (r6 l) t fun v az=>Vq l v aw _ rfl) (C0 l) (by unfold ps;exact aL) (by unfold ps;exact aL) (by simp[inObs,ps]) ?_;rintro r ai ⟨rfl,rfl⟩;refine⟨Same.refl _,?_⟩;unfold ps;simp[cc];refine cR.at _ (.inl rfl) af (Same.refl _) aL aL ?_;simp[cV,aY,a6,aX];have:uV l t=true:=by simp[uV];omega
  simp[this,Fg]
theorem aq7(l:List ah)(t:T)(aw:l.length<=1000000):bR aA 29 [.slice 5 .no (l.map ah.e),t.e] (.tuple [(if uV l t then Fg l t else .nil).e,.bool (uV l t)]):=by refine br fY Tryz.func29 ams fun aR=>?_;unfold SE;simp;refine cY.ob (ahv l t aw) (C0 l) (by unfold ps;exact aL) (by unfold ps;exact aL) (by simp[inObs,ps]) ?_;rintro r ai ⟨rfl,rfl⟩;refine⟨Same.refl _,?_⟩;unfold ps;simp[cc];simp[bz,aY,a6,aX]
end
end Go.Proofs.YtohaalphocaebaaGreatDoor
namespace Go.Pv
section
open Go
def T.ap(θ:Int->T):T->T
 | .var n=>θ n
 | .pair a b=>.pair (a.ap θ) (b.ap θ)
 |t=>t
theorem yz(f g:Int->T)(t:T):(t.ap f).ap g=t.ap fun v=>(f v).ap g:=by
 induction t with
 |pair a b dQ dR=>simp[T.ap,dQ,dR]
 |_=>simp[T.ap]
theorem mP{f g:Int->T}{t:T}(h:∀v,t.occ v=true->f v=g v):t.ap f=t.ap g:=by
 induction t with
 |var n=>exact h n (by simp[T.occ])
 |pair a b dQ dR=>simp only[T.ap];rw[dQ fun v az=>h v (by simp[T.occ,az]),dR fun v az=>h v (by simp[T.occ,az])]
 |_=>rfl
theorem Rx(t:T):t.ap .var=t:=by induction t<;>simp_all[T.ap]
theorem Gu{f:Int->T}{t:T}(h:∀v,t.occ v=true->f v= .var v):t.ap f=t:=(mP h).trans (Rx t)
theorem aaT(f:Int->Option T)(t:T):t.sub f=t.ap fun v=>(f v).getD (.var v):=by
 induction t with
 |var n=>simp only[T.sub,T.ap];cases f n<;>rfl
 |pair a b dQ dR=>simp[T.sub,T.ap,dQ,dR]
 |_=>rfl
theorem acV(θ:Int->T)(t:T):t.size<=(t.ap θ).size:=by
 induction t with
 |var n=>exact T.size_pos _
 |pair a b dQ dR=>simp only[T.ap,T.size];omega
 |_=>exact eo _
theorem zC(θ:Int->T){v:Int}{t:T}(h:t.occ v=true):(θ v).size<=(t.ap θ).size/\(t.kind≠1->(θ v).size<(t.ap θ).size):=by
 induction t with
 |var n=>simp[T.occ]at h;subst h;simp[T.ap,T.kind]
 |pair a b dQ dR=>
  simp only[T.occ,mg]at h;simp only[T.ap,T.size];rcases h with h|h
  ·have:=(dQ h).1;exact⟨Ω,fun _=>Ω⟩
  ·have:=(dR h).1;exact⟨Ω,fun _=>Ω⟩
 |_=>simp[T.occ]at h
theorem B5{θ:Int->T}{v:Int}{t:T}:(t.ap θ).occ v=true↔∃w,t.occ w=true/\(θ w).occ v=true:=by
 induction t with
 |var n=>simp[T.ap,T.occ]
 |pair a b dQ dR=>
  simp only[T.ap,T.occ,mg,dQ,dR];constructor
  ·rintro(⟨w,I,U⟩|⟨w,I,U⟩)
   ·exact⟨w,.inl I,U⟩
   ·exact⟨w,.inr I,U⟩
  ·rintro⟨w,I|I,U⟩
   ·exact .inl ⟨w,I,U⟩
   ·exact .inr ⟨w,I,U⟩
 |_=>simp[T.ap,T.occ]
def aV(s:List ah)(v:Int):T:=(cO s v).getD (.var v)
abbrev gD(s:List ah):Prop:=s.Pairwise fun x y=>x.v<y.v
def df(s:List ah)(θ:Int->T):Prop:= ∀b∈s,θ b.v=b.t.ap θ
structure eQ (s:List ah):Prop where
 asc:gD s
 free:∀b∈s,∀w,b.t.occ w=true->cO s w=none
 ori:∀b∈s,∀w,b.t= .var w->w<b.v
theorem vn(b:ah)(s:List ah)(v:Int):cO (b::s) v=if b.v=v then some b.t else cO s v:=by
 unfold cO;by_cases h:b.v=v
 ·simp[h]
 ·have:(b.v==v)=false:=by simp[h]
  simp[this,h,List.find?_cons]
theorem iX{v:Int}{t:T}:∀{s:List ah},cO s v=some t->(⟨v,t⟩:ah)∈s
 |[],h=>by simp[cO]at h
 |b::s,h=>by
  rw[vn]at h;split at h
  ·rename_i e;cases h;subst e;simp
  ·exact mh _ (iX h)
theorem wX{v:Int}:∀{s:List ah},cO s v=none↔∀b∈s,b.v≠v
 |[]=>by simp[cO]
 |b::s=>by
  rw[vn];by_cases h:b.v=v
  ·simp[h]
  ·simp[h,wX (s:=s)]
theorem oP{b:ah}:∀{s:List ah},gD s->b∈s->cO s b.v=some b.t
 |[],_,h=>by simp at h
 |c::s,bk,h=>by
  rw[vn];have n7:=nm.1 bk;rcases eU.1 h with rfl|h
  ·simp
  ·have:=n7.1 b h;rw[if_neg Ω];exact oP n7.2 h
theorem Rz:∀{s ai:List ah},gD s->gD ai->(∀v,cO s v=cO ai v)->s=ai
 |[],[],_,_,_=>rfl
 |[],c::ai,_,_,h=>by have:=h c.v;rw[vn]at this;simp[cO]at this
 |c::s,[],_,_,h=>by have:=h c.v;rw[vn]at this;simp[cO]at this
 |b::s,c::ai,bk,ad,h=>by
  have gn:=nm.1 ad;have n7:=nm.1 bk;have I:(⟨b.v,b.t⟩:ah)∈c::ai:=iX (by rw[<-h b.v,vn];simp);have U:(⟨c.v,c.t⟩:ah)∈b::s:=iX (by rw[h c.v,vn];simp);have VQ:b=c:=by
   rcases eU.1 I with e|e
   ·exact e
   ·rcases eU.1 U with aE|aE
    ·exact aE.symm
    ·have aW:=gn.1 _ e;have bj:=n7.1 _ aE;simp only at aW bj;omega
  subst VQ;rw[Rz n7.2 gn.2 fun v=>?_];have:=h v;rw[vn,vn]at this;by_cases e:b.v=v
  ·have lX:cO s v=none:=wX.2 fun x ab=>by have:=n7.1 x ab;omega
   have z2:cO ai v=none:=wX.2 fun x ab=>by have:=gn.1 x ab;omega
   rw[lX,z2]
  ·simpa[e]using this
theorem Qa{s:List ah}(bk:gD s){θ:Int->T}:df s θ↔∀v,θ v=(aV s v).ap θ:=by
 constructor
 ·intro h v;unfold aV;cases e:cO s v with
  |none=>rfl
  |some t=>exact h _ (iX e)
 ·intro h b ad;have:=h b.v;rw[aV,oP bk ad]at this;exact this
theorem P9{s:List ah}{θ:Int->T}(h:df s θ)(t:T):t.ap θ=(t.ap (aV s)).ap θ:=by
 rw[yz];refine mP fun v _=>?_;unfold aV;cases e:cO s v with
 |none=>rfl
 |some t=>exact h _ (iX e)
theorem apv{s:List ah}(af:eQ s){t:T}(h:∀w,t.occ w=true->cO s w=none):t.ap (aV s)=t:=Gu fun v az=>by simp[aV,h v az]
theorem u2{s:List ah}(af:eQ s):df s (aV s):=fun b ad=>by rw[apv af (af.free b ad),aV,oP af.asc ad];rfl
theorem IY{s ai:List ah}(af:eQ s)(gb:eQ ai)(h:∀θ,df ai θ->df s θ){v:Int}(az:cO ai v=none):cO s v=none:=by
 cases e:cO s v with
 |none=>rfl
 |some t=>
  have I:=h _ (u2 gb) _ (iX e);simp only[aV,az,jy]at I;cases t with
  |var w=>
   have U:w<v:=af.ori _ (iX e) w rfl;simp only[T.ap,aV]at I;cases bA:cO ai w with
   |none=>rw[bA]at I;simp at I;omega
   |some u=>rw[bA]at I;simp only[ib]at I;subst I;have:=gb.ori _ (iX bA) v rfl;simp only at this;omega
  |_=>simp[T.ap]at I
theorem alx{s ai:List ah}(gb:eQ ai)(h:∀θ,df ai θ->df s θ){v:Int}:(aV s v).size<=(aV ai v).size:=by
 have I:=h _ (u2 gb);unfold aV;cases e:cO s v with
 |none=>exact T.size_pos _
 |some t=>have:=I _ (iX e);show t.size<=(aV ai v).size;simp only at this;rw[this];exact acV _ _
theorem J4{s ai:List ah}(af:eQ s)(gb:eQ ai)(h:∀θ,df s θ↔df ai θ):s=ai:=by
 refine Rz af.asc gb.asc fun v=>?_;have d1:∀w,cO s w=none↔cO ai w=none:=fun w=>⟨IY gb af (fun θ=>(h θ).1),IY af gb fun θ=>(h θ).2⟩;cases e:cO s v with
 |none=>exact((d1 v).1 e).symm
 |some t=>
  cases fJ:cO ai v with
  |none=>rw[(d1 v).2 fJ]at e;cases e
  |some dH=>have I:=(h _).2 (u2 gb) _ (iX e);simp only[aV,fJ,ib]at I;rw[I];exact eW some (Gu fun w hw=>by have:=(d1 w).1 (af.free _ (iX e) w hw);simp[aV,this]).symm
def fT(s:List ah):Prop:=s.length<=400/\∀b∈s,b.t.size<=5000
theorem ac5{s:List ah}(h:gD s):(s.map (·.v)).Nodup:=by rw[List.nodup_iff_pairwise_ne,List.pairwise_map];exact h.imp fun h=>Ω
theorem U4{s ai:List ah}(af:eQ s)(gb:eQ ai)(h:∀θ,df ai θ->df s θ)(aO:fT ai):fT s:=by
 have aD:∀x∈s.map (·.v),x∈ai.map (·.v):=by
  intro x ab;obtain⟨b,ad,rfl⟩:=hU.1 ab;cases e:cO ai b.v with
  |none=>have:=IY af gb h e;rw[oP af.asc ad]at this;cases this
  |some t=>exact hU.2 ⟨_,iX e,rfl⟩
 have aw:=Gb (ac5 af.asc) aD;simp only[List.length_map]at aw;refine⟨hn aw aO.1,fun b ad=>?_⟩;have I:=alx (s:=s) gb h (v:=b.v);rw[aV,oP af.asc ad]at I;obtain⟨c,aq,e⟩:=hU.1 (aD b.v (hU.2 ⟨b,ad,rfl⟩));have U:=aO.2 c aq;rw[aV,<-e,oP gb.asc aq]at I;exact hn I U
def iu(E:List (T×T))(θ:Int->T):Prop:= ∀e∈E,e.1.ap θ=e.2.ap θ
theorem FM(θ:Int->T):iu [] θ:=fun _ h=>by simp at h
theorem sa{e:T×T}{E:List (T×T)}{θ:Int->T}:iu (e::E) θ↔e.1.ap θ=e.2.ap θ/\iu E θ:=by simp[iu]
theorem FL{E mN:List (T×T)}{θ:Int->T}:iu (E++mN) θ↔iu E θ/\iu mN θ:=by simp only[iu,h3];exact⟨fun h=>⟨fun e he=>h e (.inl he),fun e he=>h e (.inr he)⟩,fun h e he=>he.elim (h.1 e) (h.2 e)⟩
def jC(s:List ah)(E:List (T×T)):Option (List ah)->Prop
 |some ai=>(eQ ai/\fT ai)/\∀θ,df ai θ↔df s θ/\iu E θ
 |none=> ∀ai,eQ ai->(∀θ,df ai θ->df s θ/\iu E θ)->¬fT ai
theorem acF{s:List ah}{E:List (T×T)}:∀{o o':Option (List ah)},jC s E o->jC s E o'->o=o'
 |none,none,_,_=>rfl
 |some s1,none,h,b4=>absurd h.1.2 (b4 s1 h.1.1 fun θ=>(h.2 θ).1)
 |none,some s1,b4,h=>absurd h.1.2 (b4 s1 h.1.1 fun θ=>(h.2 θ).1)
 |some s1,some s2,h,b4=>by rw[J4 h.1.1 b4.1.1 fun θ=>(h.2 θ).trans (b4.2 θ).symm]
theorem Aw{s s2:List ah}{E Q8:List (T×T)}(h:∀θ,(df s θ/\iu E θ)↔(df s2 θ/\iu Q8 θ)):∀{o:Option (List ah)},jC s E o->jC s2 Q8 o
 |none,aN=>fun ai I U=>aN ai I fun θ fl=>(h θ).2 (U θ fl)
 |some s1,aN=>⟨aN.1,fun θ=>(aN.2 θ).trans (h θ)⟩
theorem KH{s s1:List ah}{E mN:List (T×T)}(h:jC s E (some s1)):∀{o:Option (List ah)},jC s1 mN o->jC s (E++mN) o
 |none,aN=>fun ai I U=>aN ai I fun θ fl=>⟨(h.2 θ).2 ⟨(U θ fl).1,(FL.1 (U θ fl).2).1⟩,(FL.1 (U θ fl).2).2⟩
 |some s2,aN=>⟨aN.1,fun θ=>by rw[aN.2 θ,h.2 θ,FL,and_assoc]⟩
theorem Gp{s:List ah}{E:List (T×T)}(mN:List (T×T))(h:jC s E none):jC s (E++mN) none:=fun ai I U=>h ai I fun θ fl=>⟨(U θ fl).1,(FL.1 (U θ fl).2).1⟩
theorem Gn{s:List ah}{E:List (T×T)}(h:∀θ,df s θ->¬iu E θ):jC s E none:=fun ai I U=>absurd (U _ (u2 I)).2 (h _ (U _ (u2 I)).1)
theorem KI{s:List ah}(af:eQ s)(aO:fT s):jC s [] (some s):=⟨⟨af,aO⟩,fun θ=>⟨fun h=>⟨h,FM θ⟩,fun h=>h.1⟩⟩
def one(v:Int)(x:T)(w:Int):T:=if w=v then x else .var w
def pR(b:ah):List ah->List ah
 |[]=>[b]
 |c::s=>if b.v<c.v then b::c::s else c::pR b s
def nr(s:List ah)(v:Int)(x:T):List ah:=pR ⟨v,x⟩ (s.map fun b=>⟨b.v,b.t.ap (one v x)⟩)
theorem Ol{b x:ah}:∀{s:List ah},x∈pR b s↔x=b\/x∈s
 |[]=>by simp[pR]
 |c::s=>by
  simp only[pR];split
  ·simp
  ·simp only[eU,Ol (s:=s)];constructor
   ·rintro(h|h|h)
    ·exact .inr (.inl h)
    ·exact .inl h
    ·exact .inr (.inr h)
   ·rintro(h|h|h)
    ·exact .inr (.inl h)
    ·exact .inl h
    ·exact .inr (.inr h)
theorem XJ{b:ah}:∀{s:List ah},(pR b s).length=s.length+1
 |[]=>rfl
 |c::s=>by simp only[pR];split<;>simp[XJ]
theorem RA{b:ah}:∀{s:List ah},gD s->(∀c∈s,c.v≠b.v)->gD (pR b s)
 |[],_,_=>by simp[pR]
 |c::s,bk,au=>by
  have n7:=nm.1 bk;simp only[pR];split
  ·rename_i bD;refine nm.2 ⟨fun x ab=>?_,bk⟩;rcases eU.1 ab with rfl|ab
   ·exact bD
   ·have:=n7.1 x ab;omega
  ·rename_i xk;refine nm.2 ⟨fun x ab=>?_,RA n7.2 fun c aq=>au c g9⟩;rcases Ol.1 ab with rfl|ab
   ·have:=au c Ψ;omega
   ·exact n7.1 x ab
theorem rf{s:List ah}{v:Int}{x:T}{b:ah}:b∈nr s v x↔b=⟨v,x⟩\/ ∃c∈s,b=⟨c.v,c.t.ap (one v x)⟩:=by unfold nr;rw[Ol,hU];refine or_congr Iff.rfl ⟨fun⟨c,I,U⟩=>⟨c,I,U.symm⟩,fun⟨c,I,U⟩=>⟨c,I,U.symm⟩⟩
theorem Y0{v:Int}{x:T}{θ:Int->T}(h:θ v=x.ap θ)(t:T):(t.ap (one v x)).ap θ=t.ap θ:=by
 rw[yz];refine mP fun w _=>?_;unfold one;split
 ·rename_i e;subst e;exact h.symm
 ·rfl
theorem Gx{s:List ah}{v w:Int}{x:T}:cO (nr s v x) w=none↔w≠v/\cO s w=none:=by
 rw[wX,wX];constructor
 ·intro h;exact⟨fun e=>h ⟨v,x⟩ (rf.2 (.inl rfl)) e.symm,fun b ad=>h ⟨b.v,b.t.ap (one v x)⟩ (rf.2 (.inr ⟨b,ad,rfl⟩))⟩
 ·rintro⟨I,U⟩ b ad;rcases rf.1 ad with rfl|⟨c,aq,rfl⟩
  ·exact fun e=>I e.symm
  ·exact U c aq
theorem P4{s:List ah}(af:eQ s){t:T}{w:Int}(h:(t.ap (aV s)).occ w=true):cO s w=none:=by
 obtain⟨u,_,U⟩:=B5.1 h;unfold aV at U;cases e:cO s u with
 |none=>rw[e]at U;simp[T.occ]at U;subst U;exact e
 |some t=>rw[e]at U;exact af.free _ (iX e) w U
theorem apP{s:List ah}(af:eQ s){v:Int}{t:T}(az:cO s v=none)(ax:(t.ap (aV s)).occ v=false)(nD:∀w,t.ap (aV s)= .var w->w<v):eQ (nr s v (t.ap (aV s))):=by
 have ab:∀w,(t.ap (aV s)).occ w=true->cO (nr s v (t.ap (aV s))) w=none:=fun w hw=>Gx.2 ⟨fun e=>(by subst e;rw[ax]at hw;cases hw),P4 af hw⟩;refine⟨RA ?_ ?_,fun b ad w hw=>?_,fun b ad w hw=>?_⟩
 ·rw[gD,List.pairwise_map];exact af.asc
 ·intro c aq;obtain⟨b,ad,rfl⟩:=hU.1 aq;exact wX.1 az b ad
 ·rcases rf.1 ad with rfl|⟨c,aq,rfl⟩
  ·exact ab w hw
  ·obtain⟨u,I,U⟩:=B5.1 hw;unfold one at U;split at U
   ·exact ab w U
   ·rename_i cG;simp[T.occ]at U;subst U;exact Gx.2 ⟨cG,af.free c aq _ I⟩
 ·rcases rf.1 ad with rfl|⟨c,aq,rfl⟩
  ·exact nD w hw
  ·simp only at hw⊢;cases e:c.t with
   |var u=>
    have:=af.ori c aq u e;rw[e]at hw;simp only[T.ap,one]at hw;split at hw
    ·rename_i aE;subst aE;have:=nD w hw;omega
    ·cases hw;exact this
   |_=>rw[e]at hw;simp[T.ap]at hw
theorem aaJ{s:List ah}{v:Int}{t:T}(θ:Int->T):df (nr s v (t.ap (aV s))) θ↔df s θ/\iu [(.var v,t)] θ:=by
 have ar:iu [(.var v,t)] θ↔θ v=t.ap θ:=by simp[iu,T.ap]
 rw[ar];constructor
 ·intro h;have bB:θ v=(t.ap (aV s)).ap θ:=h _ (rf.2 (.inl rfl));have I:df s θ:=fun b ad=>by have:=h _ (rf.2 (.inr ⟨b,ad,rfl⟩));simp only at this;rw[Y0 bB]at this;exact this
  exact⟨I,by rw[P9 I t];exact bB⟩
 ·rintro⟨I,U⟩ b ad;have bB:θ v=(t.ap (aV s)).ap θ:=by rw[<-P9 I t];exact U
  rcases rf.1 ad with rfl|⟨c,aq,rfl⟩
  ·exact bB
  ·simp only;rw[Y0 bB];exact I c aq
open Classical in
theorem acC{s:List ah}(af:eQ s){v:Int}{t:T}(az:cO s v=none)(ax:(t.ap (aV s)).occ v=false)(nD:∀w,t.ap (aV s)= .var w->w<v):jC s [(.var v,t)] (if fT (nr s v (t.ap (aV s)))then some (nr s v (t.ap (aV s)))else none):=by
 have I:=apP af az ax nD;split
 ·rename_i aO;exact⟨⟨I,aO⟩,aaJ⟩
 ·rename_i aO;exact fun ai U ao a7=>aO (U4 I U (fun θ fl=>(aaJ θ).2 (ao θ fl)) a7)
def hS(s:List ah):T->T
 | .var n=>aV s n
 |t=>t
def oQ(s:List ah)(v:Int)(t:T):Option (List ah):=if(t.ap (aV s)).size<=5000/\(t.ap (aV s)).occ v=false/\s.length<400/\∀b∈s,(b.t.ap (one v (t.ap (aV s)))).size<=5000 then some (nr s v (t.ap (aV s)))else none
def kQ(rec:List ah->T->T->Option (Option (List ah)))(s:List ah):T->T->Option (Option (List ah))
 | .var i,.var j=>some (if i<j then oQ s j (.var i)else if i=j then some s else oQ s i (.var j))
 | .var i,y=>some (oQ s i y)
 |x,.var j=>some (oQ s j x)
 | .pair bF a2,.pair b1 b2=>match rec s bF b1 with
  |none=>none
  |some none=>some none
  |some (some s1)=>rec s1 a2 b2
 |x,y=>some (if x=y then some s else none)
def ly:Nat->List ah->T->T->Option (Option (List ah))
 |0,_,_,_=>none
 |n+1,s,a,b=>kQ (ly n) s (hS s a) (hS s b)
theorem aqe{rec PF:List ah->T->T->Option (Option (List ah))}(h:∀s a b o,rec s a b=some o->PF s a b=some o){s:List ah}{x y:T}{o:Option (List ah)}(he:kQ rec s x y=some o):kQ PF s x y=some o:=by
 cases x<;>cases y<;>simp only[kQ]at he⊢ <;>try exact he
 rename_i bF a2 b1 b2;cases e:rec s bF b1 with
 |none=>rw[e]at he;cases he
 |some hh=>
  rw[e]at he;rw[h _ _ _ _ e];cases hh with
  |none=>exact he
  |some s1=>exact h _ _ _ _ he
theorem FR:∀{n m:Nat} {s:List ah} {a b:T} {o:Option (List ah)},n<=m->ly n s a b=some o->ly m s a b=some o
 |0,_,_,_,_,_,_,h=>by simp[ly]at h
 |n+1,0,_,_,_,_,hm,_=>Ω
 |n+1,m+1,s,a,b,o,hm,h=>by simp only[ly]at h⊢;exact aqe (fun s a b o h=>FR Ω h) h
theorem Ma{s:List ah}{v:Int}{x:T}:fT (nr s v x)↔(x.size<=5000/\s.length<400/\∀b∈s,(b.t.ap (one v x)).size<=5000):=by
 have aw:(nr s v x).length=s.length+1:=by simp[nr,XJ]
 unfold fT;rw[aw];constructor
 ·rintro⟨I,U⟩;exact⟨U _ (rf.2 (.inl rfl)),Ω,fun b ad=>U _ (rf.2 (.inr ⟨b,ad,rfl⟩))⟩
 ·rintro⟨I,U,ao⟩;refine⟨Ω,fun b ad=>?_⟩;rcases rf.1 ad with rfl|⟨c,aq,rfl⟩
  ·exact I
  ·exact ao c aq
theorem acD{s:List ah}(af:eQ s){v:Int}{t:T}(az:cO s v=none)(cG:t.ap (aV s)≠ .var v)(nD:∀w,t.ap (aV s)= .var w->w<v):jC s [(.var v,t)] (oQ s v t):=by
 unfold oQ;cases ax:(t.ap (aV s)).occ v with
 |true=>
  rw[if_neg Ψ];refine Gn fun θ I U=>?_;have ao:=(sa.1 U).1;simp only[T.ap]at ao;rw[P9 I t]at ao;have ae:(t.ap (aV s)).kind≠1:=by
   intro ae;cases e:t.ap (aV s)with
   |var w=>rw[e]at ax;simp[T.occ]at ax;subst ax;exact cG e
   |_=>rw[e]at ae;simp[T.kind]at ae
  have:=(zC θ ax).2 ae;rw[<-ao]at this;omega
 |false=>
  have I:=acC af az ax nD;by_cases aO:fT (nr s v (t.ap (aV s)))
  ·rw[if_pos aO]at I;rw[if_pos ⟨(Ma.1 aO).1,rfl,(Ma.1 aO).2⟩];exact I
  ·rw[if_neg aO]at I;rw[if_neg fun h=>aO (Ma.2 ⟨h.1,h.2.2⟩)];exact I
theorem abV{s:List ah}(af:eQ s){t:T}{i:Int}(h:hS s t= .var i):cO s i=none:=by
 cases t with
 |var n=>
  simp only[hS,aV]at h;cases e:cO s n with
  |none=>rw[e]at h;simp at h;subst h;exact e
  |some u=>rw[e]at h;simp at h;subst h;exact af.free _ (iX e) i (by simp[T.occ])
 |_=>simp[hS]at h
theorem QT{s:List ah}{θ:Int->T}(h:df s θ)(t:T):(hS s t).ap θ=t.ap θ:=by
 cases t with
 |var n=>
  simp only[hS,T.ap,aV];cases e:cO s n with
  |none=>rfl
  |some u=>exact(h _ (iX e)).symm
 |_=>rfl
theorem abX{s:List ah}(af:eQ s)(t:T):(hS s t).ap (aV s)=t.ap (aV s):=QT (u2 af) t
def q6(V:List Int)(t:T):Prop:= ∀w,t.occ w=true->w∈V
def zk(V:List Int)(s:List ah):Prop:= ∀b∈s,b.v∈V/\q6 V b.t
def AM(V:List Int)(s:List ah):Nat:=(V.filter fun v=>(cO s v).isNone).length
theorem U0{α:Type}{p q:α->Bool}{v:α}:∀{V:List α},(∀x∈V,q x=true->p x=true)->v∈V->p v=true->q v=false->(V.filter q).length<(V.filter p).length
 |[],_,h,_,_=>by simp at h
 |x::V,h,az,bG,bs=>by
  have hle:∀W:List α,(∀x∈W,q x=true->p x=true)->(W.filter q).length<=(W.filter p).length:=by
   intro W;induction W with
   |nil=>intro _;simp
   |cons y W bK=>intro yT;have:=bK fun x ab=>yT x (by simp[ab]);have aB:=yT y Ψ;simp only[List.filter_cons];cases e:q y<;>cases aE:p y<;>simp_all<;>omega
  simp only[List.filter_cons];rcases eU.1 az with rfl|az
  ·have:=hle V fun x ab=>h x (by simp[ab]);simp[bG,bs];omega
  ·have:=U0 (fun x ab=>h x (mh _ ab)) az bG bs;have ab:=h x Ψ;cases e:q x<;>cases aE:p x<;>simp_all<;>omega
theorem adv{V:List Int}{s:List ah}{v:Int}{x:T}(az:v∈V)(au:cO s v=none):AM V (nr s v x)<AM V s:=by
 unfold AM;refine U0 (v:=v) (fun w _ h=>?_) az (by simp[au]) ?_
 ·rw[Option.isNone_iff_eq_none,Gx]at h;simp[h.2]
 ·cases e:cO (nr s v x) v with
  |none=>exact absurd rfl (Gx.1 e).1
  |some _=>rfl
theorem W0{V:List Int}{s:List ah}(h:zk V s){t:T}(aC:q6 V t):q6 V (t.ap (aV s)):=fun w hw=>by
 obtain⟨u,I,U⟩:=B5.1 hw;unfold aV at U;cases e:cO s u with
 |none=>rw[e]at U;simp[T.occ]at U;subst U;exact aC _ I
 |some x=>rw[e]at U;exact(h _ (iX e)).2 w U
theorem aj9{V:List Int}{s:List ah}(h:zk V s){v:Int}{x:T}(az:v∈V)(ab:q6 V x):zk V (nr s v x):=fun b ad=>by
 rcases rf.1 ad with rfl|⟨c,aq,rfl⟩
 ·exact⟨az,ab⟩
 ·refine⟨(h c aq).1,fun w hw=>?_⟩;obtain⟨u,I,U⟩:=B5.1 hw;unfold one at U;split at U
  ·exact ab w U
  ·simp[T.occ]at U;subst U;exact(h c aq).2 _ I
theorem W1{V:List Int}{s:List ah}(h:zk V s){t:T}(aC:q6 V t):q6 V (hS s t):=by
 cases t with
 |var n=>have:=W0 h aC;simpa[hS,T.ap]using this
 |_=>exact aC
def C3(V:List Int)(s:List ah)(a b:T)(o:Option (List ah)):Prop:=jC s [(a,b)] o/\∀ai,o=some ai->zk V ai/\(ai=s\/AM V ai<AM V s)
theorem FT{V:List Int}{s:List ah}(af:eQ s)(gX:zk V s){v:Int}{t a b:T}(az:v∈V)(aC:q6 V t)(au:cO s v=none)(cG:t.ap (aV s)≠ .var v)(nD:∀w,t.ap (aV s)= .var w->w<v)(aq:∀θ,df s θ->(θ v=t.ap θ↔a.ap θ=b.ap θ)):C3 V s a b (oQ s v t):=by
 refine⟨Aw (fun θ=>?_) (acD af au cG nD),fun ai h=>?_⟩
 ·refine and_congr_right fun h=>?_;rw[sa,sa];simp only[T.ap,aq θ h]
 ·unfold oQ at h;split at h
  ·cases h;exact⟨aj9 gX az (W0 gX aC),.inr (adv az au)⟩
  ·cases h
theorem CC{s:List ah}{i:Int}(h:cO s i=none):aV s i= .var i:=by simp[aV,h]
theorem aa5(V:List Int)(k:Nat):∀(m:Nat) (s:List ah) (a b:T),eQ s->fT s->zk V s->q6 V a->q6 V b->AM V s=k->(a.ap (aV s)).size+(b.ap (aV s)).size=m->
  ∃n o,ly n s a b=some o/\C3 V s a b o:=by
 induction k using qQ with
 |ind k Nx=>
 intro m;induction m using qQ with
 |ind m BD=>
 intro s a b af aO gX bk ad ae hm;have ab:=W1 gX bk;have aB:=W1 gX ad;have Qj:=abX af a;have Qk:=abX af b;have vm:=fun θ (h:df s θ)=>QT h a;have oO:=fun θ (h:df s θ)=>QT h b;have rM:=fun i=>abV af (t:=a) (i:=i);have Mg:=fun i=>abV af (t:=b) (i:=i);have key:∀(rec:List ah->T->T->Option (Option (List ah))) (o:Option (List ah)),kQ rec s (hS s a) (hS s b)=some o->(∀bF a2 b1 b2,hS s a= .pair bF a2->hS s b= .pair b1 b2->C3 V s a b o)->C3 V s a b o:=by
  intro rec o he bG;cases ex:hS s a with
  |var i=>
   have AY:=rM i ex;have rC:=fun θ h=>(vm θ h).symm.trans (by rw[ex]);cases iJ:hS s b with
   |var j=>
    have yM:=Mg j iJ;have qe:=fun θ h=>(oO θ h).symm.trans (by rw[iJ]);rw[ex,iJ]at he;simp only[kQ]at he;have hi:i∈V:=by rw[ex]at ab;exact ab i (by simp[T.occ])
    have ag:j∈V:=by rw[iJ]at aB;exact aB j (by simp[T.occ])
    rcases Int.lt_trichotomy i j with h|h|h
    ·rw[if_pos h]at he;cases he;refine FT af gX ag (by rw[ex]at ab;exact ab) yM (by simp[T.ap,CC AY];omega) (fun w hw=>by simp[T.ap,CC AY]at hw;omega) fun θ fl=>?_;rw[rC θ fl,qe θ fl];simp only[T.ap];exact⟨Eq.symm,Eq.symm⟩
    ·subst h;rw[if_neg Ω,if_pos rfl]at he;cases he;refine⟨⟨⟨af,aO⟩,fun θ=>⟨fun h=>⟨h,sa.2 ⟨?_,FM θ⟩⟩,fun h=>h.1⟩⟩,fun ai e=>by cases e;exact⟨gX,.inl rfl⟩⟩;simp only;rw[rC θ h,qe θ h]
    ·rw[if_neg Ω,if_neg Ω]at he;cases he;refine FT af gX hi (by rw[iJ]at aB;exact aB) AY (by simp[T.ap,CC yM];omega) (fun w hw=>by simp[T.ap,CC yM]at hw;omega) fun θ fl=>?_;rw[rC θ fl,qe θ fl];simp only[T.ap]
   |_=>have qe:=fun θ h=>(oO θ h).symm.trans (by rw[iJ]);rw[ex,iJ]at he;simp only[kQ]at he;cases he;refine FT af gX (by rw[ex]at ab;exact ab i (by simp[T.occ])) (by rw[iJ]at aB;exact aB) AY (by simp[T.ap]) (fun w hw=>by simp[T.ap]at hw) fun θ fl=>?_;rw[rC θ fl,qe θ fl];simp only[T.ap]
  |pair bF a2=>
   cases iJ:hS s b with
   |pair b1 b2=>exact bG bF a2 b1 b2 ex iJ
   |var j=>have yM:=Mg j iJ;have rC:=fun θ h=>(vm θ h).symm.trans (by rw[ex]);have qe:=fun θ h=>(oO θ h).symm.trans (by rw[iJ]);rw[ex,iJ]at he;simp only[kQ]at he;cases he;refine FT af gX (by rw[iJ]at aB;exact aB j (by simp[T.occ])) (by rw[ex]at ab;exact ab) yM (by simp[T.ap]) (fun w hw=>by simp[T.ap]at hw) fun θ fl=>?_;rw[rC θ fl,qe θ fl];simp only[T.ap];exact⟨Eq.symm,Eq.symm⟩
   |_=>have rC:=fun θ h=>(vm θ h).symm.trans (by rw[ex]);have qe:=fun θ h=>(oO θ h).symm.trans (by rw[iJ]);rw[ex,iJ]at he;simp only[kQ]at he;simp at he;subst he;refine⟨Gn fun θ I U=>?_,fun ai e=>by cases e⟩;have:=(sa.1 U).1;simp only at this;rw[rC θ I,qe θ I]at this;simp[T.ap]at this
  |_=>
   have rC:=fun θ h=>(vm θ h).symm.trans (by rw[ex]);cases iJ:hS s b with
   |var j=>have yM:=Mg j iJ;have qe:=fun θ h=>(oO θ h).symm.trans (by rw[iJ]);rw[ex,iJ]at he;simp only[kQ]at he;cases he;refine FT af gX (by rw[iJ]at aB;exact aB j (by simp[T.occ])) (by rw[ex]at ab;exact ab) yM (by simp[T.ap]) (fun w hw=>by simp[T.ap]at hw) fun θ fl=>?_;rw[rC θ fl,qe θ fl];simp only[T.ap];exact⟨Eq.symm,Eq.symm⟩
   |_=>
    have qe:=fun θ h=>(oO θ h).symm.trans (by rw[iJ]);rw[ex,iJ]at he;simp only[kQ,dD]at he;split at he
    ·rename_i e;subst he;refine⟨⟨⟨af,aO⟩,fun θ=>⟨fun h=>⟨h,sa.2 ⟨?_,FM θ⟩⟩,fun h=>h.1⟩⟩,fun ai e=>by cases e;exact⟨gX,.inl rfl⟩⟩;simp only;rw[rC θ h,qe θ h];try rw[e]
    ·rename_i e;subst he;refine⟨Gn fun θ I U=>?_,fun ai e=>by cases e⟩;have:=(sa.1 U).1;simp only at this;rw[rC θ I,qe θ I]at this;simp[T.ap]at this e;try exact e this
 by_cases H3:∃bF a2 b1 b2,hS s a= .pair bF a2/\hS s b= .pair b1 b2
 ·obtain⟨bF,a2,b1,b2,ex,iJ⟩:=H3;have dY:(bF.ap (aV s)).size+(b1.ap (aV s)).size<m/\(a2.ap (aV s)).size+(b2.ap (aV s)).size<m:=by rw[ex]at Qj;rw[iJ]at Qk;simp only[T.ap]at Qj Qk;rw[<-hm,<-Qj,<-Qk];simp only[T.size];omega
  have l5:q6 V bF:=fun w hw=>by rw[ex]at ab;exact ab w (by simp[T.occ,hw])
  have qY:q6 V a2:=fun w hw=>by rw[ex]at ab;exact ab w (by simp[T.occ,hw])
  have kC:q6 V b1:=fun w hw=>by rw[iJ]at aB;exact aB w (by simp[T.occ,hw])
  have od:q6 V b2:=fun w hw=>by rw[iJ]at aB;exact aB w (by simp[T.occ,hw])
  have V0:∀θ,(df s θ/\iu ([(bF,b1)]++[(a2,b2)]) θ)↔(df s θ/\iu [(a,b)] θ):=fun θ=>and_congr_right fun h=>by simp only[List.singleton_append,sa,FM,and_true];rw[<-vm θ h,<-oO θ h,ex,iJ];simp[T.ap]
  obtain⟨jc,hh,ar,cT⟩:=BD _ dY.1 s bF b1 af aO gX l5 kC ae rfl;cases hh with
  |none=>refine⟨jc+1,none,?_,Aw V0 (Gp _ cT.1),fun ai e=>by cases e⟩;simp only[ly,ex,iJ,kQ,ar]
  |some s1=>
   obtain⟨v1,v2⟩:=cT.2 s1 rfl;have Ef:∃gG hb,ly gG s1 a2 b2=some hb/\C3 V s1 a2 b2 hb:=by
    rcases v2 with rfl|v2
    ·exact BD _ dY.2 _ a2 b2 af aO gX qY od ae rfl
    ·exact Nx _ Ω _ s1 a2 b2 cT.1.1.1 cT.1.1.2 v1 qY od rfl rfl
   obtain⟨gG,hb,aE,dm⟩:=Ef;refine⟨max jc gG+1,hb,?_,Aw V0 (KH cT.1 dm.1),fun ai e=>?_⟩
   ·simp only[ly,ex,iJ,kQ,FR (Nat.le_max_left jc gG) ar];exact FR (Nat.le_max_right jc gG) aE
   ·obtain⟨fP,dV⟩:=dm.2 ai e;refine⟨fP,?_⟩;rcases v2 with rfl|v2
    ·exact dV
    ·rcases dV with rfl|dV
     ·exact .inr v2
     ·exact .inr Ω
 ·have Wr:∀bF a2 b1 b2,hS s a= .pair bF a2->hS s b= .pair b1 b2->eI:=fun bF a2 b1 b2 I U=>H3 ⟨bF,a2,b1,b2,I,U⟩;have:∃o,kQ (ly 0) s (hS s a) (hS s b)=some o:=by cases ex:hS s a<;>cases iJ:hS s b<;>simp only[kQ]<;>first|exact⟨_,rfl⟩|exact(Wr _ _ _ _ ex iJ).elim
  obtain⟨o,ax⟩:=this;exact⟨1,o,ax,key _ o ax fun bF a2 b1 b2 I U=>(Wr bF a2 b1 b2 I U).elim⟩
def tg{α:Type}(k:Int):List (Int×α)->Option α
 |[]=>none
 |(i,v)::r=>if k=i then some v else tg k r
def e8{α:Type}(k:Int)(v:α):List (Int×α)->List (Int×α)
 |[]=>[(k,v)]
 |(i,w)::r=>if k=i then(i,v)::r else(i,w)::e8 k v r
def cz{α:Type}(m:List (Int×α)):List Int:=m.map (·.1)
theorem nQ{α:Type}(k:Int)(v:α)(j:Int):∀m:List (Int×α),tg j (e8 k v m)=if j=k then some v else tg j m
 |[]=>by simp only[e8,tg]
 |(i,w)::r=>by
  simp only[e8];by_cases h:k=i
  ·subst h;by_cases U:j=k<;>simp[tg,U]
  ·by_cases U:j=i
   ·subst U;have:¬j=k:=fun e=>h e.symm;simp[tg,h,this]
   ·simp[tg,h,U,nQ k v j r]
theorem J8{α:Type}{k:Int}:∀{m:List (Int×α)},(tg k m).isSome=true↔k∈cz m
 |[]=>by simp[tg,cz]
 |(i,w)::r=>by
  simp only[tg,cz,hc,eU];by_cases h:k=i
  ·simp[h]
  ·simp only[h,if_false,false_or];exact J8
theorem ap9{α:Type}{k:Int}{m:List (Int×α)}:tg k m=none↔k∉cz m:=by rw[<-J8];cases tg k m<;>simp
theorem ED{α:Type}{k:Int}{v:α}:∀{m:List (Int×α)},k∈cz m->cz (e8 k v m)=cz m
 |[],h=>by simp[cz]at h
 |(i,w)::r,h=>by
  simp only[e8];by_cases e:k=i
  ·simp[e,cz]
  ·rw[if_neg e];have b4:k∈cz r:=by simpa[cz,e]using h
   have:=ED (v:=v) b4;simp only[cz]at this⊢;simp[this]
theorem Xt{α:Type}{k:Int}{v:α}:∀{m:List (Int×α)},k∉cz m->cz (e8 k v m)=cz m++[k]
 |[],h=>by simp[cz,e8]
 |(i,w)::r,h=>by have e:¬k=i:=fun e=>h (by simp[cz,e]);have b4:k∉cz r:=fun ae=>h (by simp[cz]at ae⊢;exact .inr ae);have:=Xt (v:=v) b4;simp only[e8,if_neg e];simp only[cz]at this⊢;simp[this]
structure bE where
 up:List (Int×Int)
 shape:List (Int×T)
 shaped:List (Int×Bool)
 color:List (Int×Int)
 size:List (Int×Int)
 full:List (Int×T)
def bE.shd(c:bE)(x:Int):Bool:=(tg x c.shaped).getD false
def bE.shp(c:bE)(x:Int):T:=(tg x c.shape).getD .nil
def bE.col(c:bE)(x:Int):Int:=(tg x c.color).getD 0
def bE.sz(c:bE)(x:Int):Int:=(tg x c.size).getD 0
def hO(m:List (Int×Int))(v:Int):Int:=(tg v m).getD 0
def x1:Nat->List (Int×Int)->Int->Option (Int×List (Int×Int))
 |0,_,_=>none
 |n+1,m,v=>if hO m v=v then some (v,m)else x1 n (e8 v (hO m (hO m v)) m) (hO (e8 v (hO m (hO m v)) m) v)
def Ax(v:Int)(m:List (Int×Int)):List (Int×Int):=if(tg v m).isSome then m else e8 v v m
def rt(c:bE)(v:Int):Option (Int×bE):=(x1 (v.toNat+1) (Ax v c.up) v).map fun p=>(p.1,{c with up:=p.2})
def T.foldO{α:Type}(f:Int->α->Option α):T->α->Option α
 | .var n,a=>f n a
 | .pair x y,a=>(x.foldO f a).bind (y.foldO f)
 |_,a=>some a
def T.mapO{α:Type}(f:Int->α->Option (T×α)):T->α->Option (T×α)
 | .var n,a=>f n a
 | .pair x y,a=>(x.mapO f a).bind fun p=>(y.mapO f p.2).map fun q=>(.pair p.1 q.1,q.2)
 |t,a=>some (t,a)
def T.sizeO{α:Type}(f:Int->α->Option (Int×α)):T->α->Option (Int×α)
 | .var n,a=>(f n a).map fun p=>(if 5001<p.1 then 5001 else p.1,p.2)
 | .pair x y,a=>(x.sizeO f a).bind fun p=>if 5000<p.1 then some p else(y.sizeO f p.2).map fun q=>(if 5001<1+p.1+q.1 then 5001 else 1+p.1+q.1,q.2)
 |_,a=>some (1,a)
def BT(t:T)(c:bE):Option bE:=t.foldO (fun v c=>(rt c v).map (·.2)) c
structure vg where
 c:bE
 seen:List (Int×Bool)
 found:Bool
def x0(rec:T->bE->List (Int×Bool)->Option vg)(x:Int)(v:Int)(a:vg):Option vg:=
 (rt a.c v).bind fun p=>if a.found=true\/p.1=x then some ⟨p.2,a.seen,true⟩
  else if(tg p.1 a.seen).getD false=false/\p.2.shd p.1=true then rec (p.2.shp p.1) p.2 (e8 p.1 true a.seen)
  else some ⟨p.2,a.seen,a.found⟩
def qD:Nat->Int->T->bE->List (Int×Bool)->Option vg
 |0,_,_,_,_=>none
 |n+1,x,t,c,seen=>t.foldO (x0 (qD n x) x) ⟨c,seen,false⟩
def bE.know(c:bE)(x:Int)(t:T):bE:={c with shape:=e8 x t c.shape,shaped:=e8 x true c.shaped}
def vZ(n:Nat)(x:Int)(t:T)(c:bE):Option (Bool×bE):=(qD n x t (c.know x t) []).map fun a=>(!a.found,a.c)
def bE.join(c:bE)(x y:Int):bE:={c with up:=e8 y x c.up}
def sA(rec:T->T->bE->Option (Bool×bE))(n:Nat)(x y:Int)(c:bE):Option (Bool×bE):=
 if c.shd y=false then
  (if c.shd x=false then some (true,c)else(qD n x (c.shp x) c []).map fun a=>(!a.found,a.c))
 else if c.shd x=false then vZ n x (c.shp y) c
 else(qD n x (c.shp y) c []).bind fun a=>if a.found=true then some (false,a.c)else
  (qD n x (a.c.shp x) a.c []).bind fun b=>if b.found=true then some (false,b.c)else rec (b.c.shp x) (c.shp y) b.c
def gV:Nat->T->T->bE->Option (Bool×bE)
 |0,_,_,_=>none
 |n+1,.var i,.var j,c=>(rt c i).bind fun p=>(rt p.2 j).bind fun q=>if p.1=q.1 then some (true,q.2)else if q.1<p.1 then sA (gV n) n q.1 p.1 (q.2.join q.1 p.1)else sA (gV n) n p.1 q.1 (q.2.join p.1 q.1)
 |n+1,.var i,b,c=>(rt c i).bind fun p=>if p.2.shd p.1=false then vZ n p.1 b p.2 else gV n (p.2.shp p.1) b p.2
 |n+1,a,.var j,c=>gV n (.var j) a c
 |n+1,.pair bF a2,.pair b1 b2,c=>(gV n bF b1 c).bind fun p=>if p.1=true then gV n a2 b2 p.2 else some (false,p.2)
 |_+1,a,b,c=>some (decide (a=b),c)
structure ko (m:List (Int×Int)) (ρ:Int->Int):Prop where
 up:∀v u,tg v m=some u->(0<=u/\u<=v/\u∈cz m)/\ρ u=ρ v/\(ρ v=v↔u=v)
 no:∀v,v∉cz m->ρ v=v
theorem ko.get{m:List (Int×Int)}{ρ:Int->Int}(h:ko m ρ){v:Int}(az:v∈cz m):∃u,tg v m=some u/\hO m v=u:=by have:=J8.2 az;obtain⟨u,hu⟩:=fH.1 this;exact⟨u,hu,by simp[hO,hu]⟩
theorem ko.root{m:List (Int×Int)}{ρ:Int->Int}(h:ko m ρ):∀(n:Nat) (v:Int),v.toNat<=n->(ρ v<=v/\ρ (ρ v)=ρ v/\(v∈cz m->ρ v∈cz m/\0<=ρ v)):=by
 intro n;induction n using qQ with
 |ind n bK=>
 intro v au;by_cases az:v∈cz m
 ·obtain⟨u,I,_⟩:=h.get az;obtain⟨⟨bF,a2,a3⟩,a4,a5⟩:=h.up v u I;by_cases e:u=v
  ·have:=a5.2 e;subst e;rw[this];exact⟨Ω,this,fun _=>⟨a3,bF⟩⟩
  ·obtain⟨b1,b2,fy⟩:=bK (u.toNat) Ω u Ω;rw[<-a4];exact⟨Ω,b2,fun _=>fy a3⟩
 ·have:=h.no v az;rw[this];exact⟨Ω,this,fun h=>absurd h az⟩
theorem ko.le{m:List (Int×Int)}{ρ:Int->Int}(h:ko m ρ)(v:Int):ρ v<=v:=(h.root v.toNat v (eo _)).1
theorem ko.idem{m:List (Int×Int)}{ρ:Int->Int}(h:ko m ρ)(v:Int):ρ (ρ v)=ρ v:=(h.root v.toNat v (eo _)).2.1
theorem ko.mem{m:List (Int×Int)}{ρ:Int->Int}(h:ko m ρ){v:Int}(az:v∈cz m):ρ v∈cz m/\0<=ρ v:=(h.root v.toNat v (eo _)).2.2 az
theorem aav{ρ:Int->Int}:∀(n:Nat) (m:List (Int×Int)) (v:Int),ko m ρ->v∈cz m->v.toNat<n->∃iD,x1 n m v=some (ρ v,iD)/\ko iD ρ/\cz iD=cz m
 |0,_,_,_,_,au=>Ω
 |n+1,m,v,h,az,au=>by
  obtain⟨u,I,U⟩:=h.get az;obtain⟨⟨bF,a2,a3⟩,a4,a5⟩:=h.up v u I;simp only[x1,U];by_cases e:u=v
  ·rw[if_pos e];have:=a5.2 e;exact⟨m,by rw[this],h,rfl⟩
  ·rw[if_neg e];obtain⟨x,g1,g2⟩:=h.get a3;obtain⟨⟨b1,b2,fy⟩,np,b5⟩:=h.up u x g1;rw[g2];have ae:=ED (v:=x) az;have mY:ko (e8 v x m) ρ:=by
    refine⟨fun w y hw=>?_,fun w hw=>h.no w (by rw[ae]at hw;exact hw)⟩;rw[nQ]at hw;rw[ae];by_cases ew:w=v
    ·subst ew;rw[if_pos rfl]at hw;cases hw;refine⟨⟨b1,Ω,fy⟩,by rw[np,a4],⟨fun aN=>absurd (a5.1 aN) e,fun ab=>?_⟩⟩;have:u=w:=Ω
     exact absurd this e
    ·rw[if_neg ew]at hw;exact h.up w y hw
   have Bx:hO (e8 v x m) v=x:=by simp[hO,nQ]
   rw[Bx];obtain⟨iD,bY,cB,dE⟩:=aav n (e8 v x m) x mY (by rw[ae];exact fy) Ω;exact⟨iD,by rw[bY,np,a4],cB,by rw[dE,ae]⟩
structure jB (ρ:Int->Int) (c cr:bE):Prop where
 ru:ko cr.up ρ
 keys:cz cr.up=cz c.up
 eq:cr={c with up:=cr.up}
theorem jB.refl{ρ:Int->Int}{c:bE}(h:ko c.up ρ):jB ρ c c:=⟨h,rfl,rfl⟩
theorem jB.trans{ρ:Int->Int}{a b c:bE}(h:jB ρ a b)(k:jB ρ b c):jB ρ a c:=⟨k.ru,k.keys.trans h.keys,by rw[k.eq,h.eq]⟩
theorem jB.shd{ρ:Int->Int}{c cr:bE}(h:jB ρ c cr)(x:Int):cr.shd x=c.shd x:=by rw[h.eq];rfl
theorem jB.shp{ρ:Int->Int}{c cr:bE}(h:jB ρ c cr)(x:Int):cr.shp x=c.shp x:=by rw[h.eq];rfl
theorem uZ{ρ:Int->Int}{c:bE}{v:Int}(h:ko c.up ρ)(az:v∈cz c.up):∃cr,rt c v=some (ρ v,cr)/\jB ρ c cr:=by
 have bk:Ax v c.up=c.up:=by simp[Ax,J8.2 az]
 obtain⟨iD,I,U,ao⟩:=aav (v.toNat+1) c.up v h az Ω;exact⟨{c with up:=iD},by simp[rt,bk,I],⟨U,ao,rfl⟩⟩
theorem ao8{ρ:Int->Int}{c:bE}{v:Int}(h:ko c.up ρ)(bB:0<=v)(az:v∉cz c.up):rt c v=some (v,{c with up:=e8 v v c.up})/\ko (e8 v v c.up) ρ/\cz (e8 v v c.up)=cz c.up++[v]:=by
 have au:=ap9.2 az;have ae:=Xt (v:=v) az;refine⟨?_,⟨fun w u hw=>?_,fun w hw=>h.no w fun hm=>hw (by rw[ae];simp[hm])⟩,ae⟩
 ·simp[rt,Ax,au,x1,hO,nQ]
 ·rw[nQ]at hw;rw[ae];by_cases e:w=v
  ·subst e;rw[if_pos rfl]at hw;cases hw;exact⟨⟨bB,Ω,Ψ⟩,rfl,⟨fun _=>rfl,fun _=>h.no _ az⟩⟩
  ·rw[if_neg e]at hw;obtain⟨⟨bF,a2,a3⟩,a4⟩:=h.up w u hw;exact⟨⟨bF,a2,by simp[a3]⟩,a4⟩
def bE.ph(c:bE)(x:Int):Option T:=if c.shd x then some (c.shp x)else none
theorem jB.ph{ρ:Int->Int}{c cr:bE}(h:jB ρ c cr):cr.ph=c.ph:=by funext x;simp only[bE.ph,h.shd,h.shp]
def kU(ph:Int->Option T)(ρ:Int->Int)(θ:Int->T):Prop:=(∀v,θ v=θ (ρ v))/\∀x t,ρ x=x->ph x=some t->θ x=t.ap θ
def jP(ph:Int->Option T)(ρ:Int->Int)(z u:Int):Prop:=ρ z=z/\∃t w,ph z=some t/\t.occ w=true/\ρ w=u
inductive nU (E:Int->Int->Prop):Int->Int->Prop
 |refl (a:Int):nU E a a
 |step {a b c:Int}:E a b->nU E b c->nU E a c
def pw(V:List Int)(ph:Int->Option T):Prop:= ∀x t,ph x=some t->t.kind≠1/\(∀w,t.occ w=true->w∈V)/\x∈V
def Kd(V:List Int)(ph:Int->Option T)(seen:List (Int×Bool)):Nat:=(V.filter fun v=>(ph v).isSome&& !((tg v seen).getD false)).length
def nH(seen:List (Int×Bool))(z:Int):Prop:=(tg z seen).getD false=true
structure acw (V:List Int) (ph:Int->Option T) (ρ:Int->Int) (x:Int) (occ:Int->Prop) (a bq:vg):Prop where
 sm:jB ρ a.c bq.c
 sub:∀z,nH a.seen z->nH bq.seen z
 yes:bq.found=true->a.found=true\/ ∃w,occ w/\nU (jP ph ρ) (ρ w) x
 kept:a.found=true->bq.found=true
 no:bq.found=false->(∀w,occ w->ρ w≠x/\((ph (ρ w)).isSome=true->nH bq.seen (ρ w)))/\∀r,nH bq.seen r->¬nH a.seen r->∀u,jP ph ρ r u->u≠x/\((ph u).isSome=true->nH bq.seen u)
theorem Hj{α:Type}{p q:α->Bool}:∀{V:List α},(∀x∈V,q x=true->p x=true)->(V.filter q).length<=(V.filter p).length
 |[],_=>by simp
 |y::V,h=>by have:=Hj (p:=p) (q:=q) (V:=V) fun x ab=>h x (by simp[ab]);have aB:=h y Ψ;simp only[List.filter_cons];cases e:q y<;>cases aE:p y<;>simp_all<;>omega
theorem Hk{α:Type}{p q:α->Bool}{v:α}:∀{V:List α},(∀x∈V,q x=true->p x=true)->v∈V->p v=true->q v=false->(V.filter q).length<(V.filter p).length
 |[],_,h,_,_=>by simp at h
 |x::V,h,az,bG,bs=>by
  have hle:=Hj (p:=p) (q:=q) (V:=V) fun x ab=>h x (mh _ ab);simp only[List.filter_cons];rcases eU.1 az with rfl|az
  ·simp[bG,bs];omega
  ·have:=Hk (fun x ab=>h x (mh _ ab)) az bG bs;have ab:=h x Ψ;cases e:q x<;>cases aE:p x<;>simp_all<;>omega
theorem aqg{V:List Int}{ph:Int->Option T}{s ai:List (Int×Bool)}(h:∀z,nH s z->nH ai z):Kd V ph ai<=Kd V ph s:=
 Hj fun x _ ab=>by
  simp only[cv,oJ]at ab⊢;refine⟨ab.1,?_⟩;cases e:(tg x s).getD false with
  |false=>rfl
  |true=>have:=h x e;unfold nH at this;rw[ab.2]at this;cases this
theorem Ny{s:List (Int×Bool)}{r z:Int}:nH (e8 r true s) z↔z=r\/nH s z:=by unfold nH;rw[nQ];by_cases h:z=r<;>simp[h]
theorem aoX{V:List Int}{ph:Int->Option T}{ρ:Int->Int}{x:Int}(hf:pw V ph)(k:Nat):∀(t:T) (a:vg),ko a.c.up ρ->cz a.c.up=V->a.c.ph=ph->(∀w,t.occ w=true->w∈V)->Kd V ph a.seen<=k->
  ∃N bq,(∀n,N<=n->t.foldO (x0 (qD n x) x) a=some bq)/\acw V ph ρ x (fun w=>t.occ w=true) a bq:=by
 induction k using qQ with
 |ind k Nx=>
 intro t;induction t with
 |var v=>
  intro a mY ae ka aC q5;obtain⟨bY,I,U⟩:=uZ mY (by rw[ae];exact aC v (by simp[T.occ]));have jU:bY.shd (ρ v)=(ph (ρ v)).isSome:=by rw[U.shd,<-ka];simp only[bE.ph];split<;>simp_all
  by_cases aO:a.found=true\/ρ v=x
  ·refine⟨0,⟨bY,a.seen,true⟩,fun n _=>by simp[T.foldO,x0,I,aO],U,fun z a8=>a8,fun _=>?_,fun _=>rfl,fun h=>by cases h⟩;rcases aO with aO|aO
   ·exact .inl aO
   ·exact .inr ⟨v,by simp[T.occ],by rw[aO];exact .refl _⟩
  ·by_cases af:(tg (ρ v) a.seen).getD false=false/\bY.shd (ρ v)=true
   ·have H2:ph (ρ v)=some (bY.shp (ρ v)):=by rw[<-ka];simp only[bE.ph,U.shp];rw[if_pos (by rw[<-U.shd];exact af.2)]
    obtain⟨g1,g2,g3⟩:=hf _ _ H2;have bD:Kd V ph (e8 (ρ v) true a.seen)<k:=by
     refine Nat.lt_of_lt_of_le (Hk (v:=ρ v) (fun z _ a8=>?_) g3 ?_ ?_) q5
     ·simp only[cv,oJ]at a8⊢;refine⟨a8.1,?_⟩;rw[nQ]at a8;by_cases e:z=ρ v
      ·subst e;exact af.1
      ·rw[if_neg e]at a8;exact a8.2
     ·simp[H2,af.1]
     ·simp[nQ]
    obtain⟨N,bq,ar,cT⟩:=Nx _ bD (bY.shp (ρ v)) ⟨bY,e8 (ρ v) true a.seen,false⟩ U.ru (by rw[U.keys];exact ae) (by rw[U.ph];exact ka) g2 (eo _);refine⟨N+1,bq,fun n au=>?_,U.trans cT.sm,fun z a8=>cT.sub z (Ny.2 (.inr a8)),fun aB=>?_,fun h=>absurd (.inl h) aO,fun cW=>?_⟩
    ·obtain⟨n',rfl⟩:∃n',n=n'+1:=⟨n-1,Ω⟩;simp only[T.foldO,x0,I,hE,if_neg aO,if_pos af,qD];exact ar n' Ω
    ·rcases cT.yes aB with h|⟨w,aW,bj⟩
     ·cases h
     ·exact .inr ⟨v,by simp[T.occ],.step ⟨by rw[ko.idem mY],_,w,H2,aW,rfl⟩ bj⟩
    ·obtain⟨aW,bj⟩:=cT.no cW;have gZ:nH bq.seen (ρ v):=cT.sub _ (Ny.2 (.inl rfl));refine⟨fun w hw=>?_,fun r aN dq u hu=>?_⟩
     ·simp[T.occ]at hw;subst hw;exact⟨fun e=>aO (.inr e),fun _=>gZ⟩
     ·by_cases rK:r=ρ v
      ·subst rK;obtain⟨_,dH,w,lX,z2,rfl⟩:=hu;rw[H2]at lX;cases lX;exact aW w z2
      ·exact bj r aN (fun h=>(Ny.1 h).elim rK dq) u hu
   ·have DY:a.found=false:=by cases e:a.found with
     |false=>rfl
     |true=>exact absurd (.inl e) aO
    refine⟨0,⟨bY,a.seen,a.found⟩,fun n _=>by simp only[T.foldO,x0,I,hE,if_neg aO,if_neg af],U,fun z a8=>a8,fun h=>.inl h,fun h=>h,fun _=>⟨fun w hw=>?_,fun r I U=>absurd I U⟩⟩;simp[T.occ]at hw;subst hw;refine⟨fun e=>aO (.inr e),fun bG=>?_⟩;unfold nH;cases e:(tg (ρ v) a.seen).getD false with
    |true=>rfl
    |false=>exact absurd ⟨e,by rw[jU];exact bG⟩ af
 |pair p q aj0 aj1=>
  intro a mY ae ka aC q5;obtain⟨ic,bF,ar,cT⟩:=aj0 a mY ae ka (fun w hw=>aC w (by simp[T.occ,hw])) q5;obtain⟨jS,a2,aE,dm⟩:=aj1 bF cT.sm.ru (by rw[cT.sm.keys];exact ae) (by rw[cT.sm.ph];exact ka) (fun w hw=>aC w (by simp[T.occ,hw])) (hn (aqg cT.sub) q5);refine⟨max ic jS,a2,fun n au=>by simp only[T.foldO];rw[ar n Ω];exact aE n Ω,cT.sm.trans dm.sm,fun z a8=>dm.sub z (cT.sub z a8),fun aB=>?_,fun h=>dm.kept (cT.kept h),fun cW=>?_⟩
  ·rcases dm.yes aB with h|⟨w,aW,bj⟩
   ·rcases cT.yes h with h|⟨w,aW,bj⟩
    ·exact .inl h
    ·exact .inr ⟨w,by simp[T.occ,aW],bj⟩
   ·exact .inr ⟨w,by simp[T.occ,aW],bj⟩
  ·have ahT:bF.found=false:=by cases e:bF.found with
    |false=>rfl
    |true=>have:=dm.kept e;rw[cW]at this;cases this
   obtain⟨fc,gh⟩:=cT.no ahT;obtain⟨s1,s2⟩:=dm.no cW;refine⟨fun w hw=>?_,fun r aN dq u hu=>?_⟩
   ·simp only[T.occ,mg]at hw;rcases hw with hw|hw
    ·exact⟨(fc w hw).1,fun h=>dm.sub _ ((fc w hw).2 h)⟩
    ·exact s1 w hw
   ·by_cases h:nH bF.seen r
    ·exact⟨(gh r h dq u hu).1,fun cA=>dm.sub _ ((gh r h dq u hu).2 cA)⟩
    ·exact s2 r aN h u hu
 |_=>intro a mY ae ka aC q5;exact⟨0,a,fun n _=>rfl,jB.refl mY,fun z a8=>a8,fun h=>.inl h,fun h=>h,fun _=>⟨fun w hw=>by simp[T.occ]at hw,fun r I U=>absurd I U⟩⟩
theorem JA{ρ:Int->Int}{x:Int}{c:bE}{t:T}(mY:ko c.up ρ)(hf:pw (cz c.up) c.ph)(aC:∀w,t.occ w=true->w∈cz c.up):
  ∃N a,(∀n,N<=n->qD n x t c []=some a)/\jB ρ c a.c/\(a.found=true↔∃w,t.occ w=true/\nU (jP c.ph ρ) (ρ w) x):=by
 obtain⟨N,a,I,U⟩:=aoX (x:=x) hf _ t ⟨c,[],false⟩ mY rfl rfl aC (eo _);refine⟨N+1,a,fun n au=>?_,U.sm,fun h=>?_,fun⟨w,hw,aN⟩=>?_⟩
 ·obtain⟨n',rfl⟩:∃n',n=n'+1:=⟨n-1,Ω⟩;exact I n' Ω
 ·rcases U.yes h with h|h
  ·cases h
  ·exact h
 ·cases e:a.found with
  |true=>rfl
  |false=>
   obtain⟨aW,bj⟩:=U.no e;have key:∀z,nU (jP c.ph ρ) z x->z≠x->((c.ph z).isSome=true->nH a.seen z)->eI:=by
    have:∀z y,nU (jP c.ph ρ) z y->y=x->z≠x->((c.ph z).isSome=true->nH a.seen z)->eI:=by
     intro z y aB;induction aB with
     |refl z=>intro h b4;exact absurd h b4
     | @step z b cr he _ bK=>intro ab cG gZ;obtain⟨_,dH,w',lX,_,_⟩:=id he;have af:=gZ (by simp[lX]);obtain⟨g1,g2⟩:=bj z af (by simp[nH,tg]) b he;exact bK ab g1 g2
    exact fun z a8=>this z x a8 rfl
   exact(key _ aN (aW w hw).1 (aW w hw).2).elim
end
end Go.Pv
