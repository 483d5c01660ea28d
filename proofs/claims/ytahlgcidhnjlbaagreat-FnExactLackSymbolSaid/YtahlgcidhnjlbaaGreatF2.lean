/- The most general unifier within the limits. -/
import Derived.Deep.LoopGhost
import Derived.Test.YtahlgcidhnjlbaaGreatF1
set_option linter.all false
set_option maxHeartbeats 4000000
set_option maxRecDepth 4000
open Array renaming getElem?_toList->vn
open Bool renaming and_eq_true->cR,false_eq_true->hT,not_eq_true'->sN,or_eq_true->og
open Decidable renaming not_not->ayi
open Go renaming Program->cI,TypeId->gQ
open Go.IntKind renaming bits->ps,i64->vo,signed->uc,u64->im,wrap->ud
open Go.IntWalk renaming i64_in->pt
open Go.Op renaming bytesLess->iw
open Go.Region renaming wanted->qd
open Go.Result renaming andThen_ok->gC
open Go.Sem renaming run_bind->gy,run_pure->hG
open Go.Value renaming cells->pw
open List renaming all_eq_true->j7,cons_append->b6,drop_eq_getElem_cons->lH,getElem?_append_left->rS,getElem?_eq_getElem->cl,getElem?_eq_none->q3,getElem?_eq_some_iff->fH,length_append->qe,length_cons->mw,map_cons->ha,mem_append->kg,mem_cons->gJ,mem_cons_of_mem->qf,mem_filter->oW,mem_map->hb,nil_append->ca,nodup_append->rT,pairwise_cons->oh,pairwise_iff_getElem->q4
open List.Nodup renaming length_le_of_subset->Rf
open List.Pairwise renaming imp_of_mem->atG,nil->ayr
open List.Perm renaming eq_of_pairwise->Rg
open List.cons renaming injEq->rR
open Nat renaming le_refl->dP,le_trans->kE
open Option renaming bind_some->lI,getD_none->k5,getD_some->lJ,isSome_iff_exists->fx,isSome_none->kh,map_eq_some_iff->hs,map_some->pB
open Option.some renaming inj->e7,injEq->dU
open Prod.mk renaming injEq->js
open _root_ renaming False->er,Option->be,UInt8->cJ,and_true->jf,beq_iff_eq->ey,congrArg->fy,decide_eq_false->mx,decide_eq_false_iff_not->iR,decide_eq_true_eq->gz,eq_true->h4
namespace Go.Pv
section
open Go Go.RowKit
def ana(A:dE)(s a:cT)(rm:be aB):Prop:=(∀k,(ae k a.b).isSome->(ae k s.b).isSome\/rm=some k)/\(∀k,(ae k a.e).isSome->(ae k s.e).isSome\/rm=some k)/\(∀k,(ae k s.b).isSome->(ae k a.b).isSome)/\(∀k,(ae k s.e).isSome->(ae k a.e).isSome)/\
 (∀k,rm=some k->(∃j,k= .obj j)/\A.F k/\A.b k=none/\A.e k=none/\((ae k a.b).isSome\/(ae k a.e).isSome))
def ado(P:cI)(n:Nat)(args:List af)(A:dE)(d:be Nat)(x:lL):Prop:=
 ∃s a r rm,(∀k cs,ae k s.b=some cs->A.b k=some cs/\aH (aM s) cs)/\(∀k o,ae k s.e=some o->A.e k=some o/\dV (aM s) o)/\h0 s/\h0 a/\ana A s a rm/\aH (aM s) args/\
  bH P n args s (fun b t'=>b=r/\t'=a)/\x=⟨d,r,a.b,a.e,rm⟩
def adp(P:cI)(n0 n:Nat)(args:List af)(A:dE)(d:be Nat)(x:lL):Prop:=
 ∃cU r,d=some cU/\(A.F (.loc (n0+cU))/\A.b (.loc (n0+cU))=none/\A.e (.loc (n0+cU))=none)/\aH (fun _=>er) args/\
  uh P n (n0+cU) args ⟨[],[]⟩ (fun a t'=>a=r/\t'=⟨[],[]⟩)/\x=⟨d,r,[],[],some (.loc (n0+cU))⟩
def zE:af->Bool
 | .ptr (.loc _) _=>true
 | .eptr _=>true
 |_=>false
def gR.isB:gR->Bool
 | .loadB _ _ _=>true
 | .mgetB _ _ _ _ _=>true
 |_=>false
def gR.ptrOf(t:Nat->af):gR->af
 | .load _ _ x=>dY t x
 | .loadB _ _ x=>dY t x
 |_=>.junk
def e1(P:cI)(q:Bool)(n0:Nat):eV->dE->lL->Prop
 | .s (.v d i),A,x=> ∃c p,qZ A.t A.b A.e i=some (c,p)/\c/\(i.isLoad=true->i.isB=true\/q=true\/zE (i.ptrOf A.t)=true)/\x=⟨some d,p,[],[],none⟩
 | .s (.box d none v),A,x=>(A.F (.loc (n0+d))/\A.b (.loc (n0+d))=none/\A.e (.loc (n0+d))=none)/\eU (dY A.t v)=true/\x=⟨some d,.ptr (.loc (n0+d)) 0,[(.loc (n0+d),cells (dY A.t v))],[],some (.loc (n0+d))⟩
 | .s (.alloc d none z),A,x=>(A.F (.loc (n0+d))/\A.b (.loc (n0+d))=none/\A.e (.loc (n0+d))=none)/\x=⟨some d,.ptr (.loc (n0+d)) 0,[(.loc (n0+d),cells z)],[],some (.loc (n0+d))⟩
 | .s (.store sz u v),A,x=> ∃k off cs,dY A.t u= .ptr k off/\A.b k=some cs/\(gY cs=true/\eU (dY A.t v)=true/\(cells (dY A.t v)).length=sz/\off+sz<=cs.length)/\x=⟨none,.junk,[(k,nB cs off (cells (dY A.t v)))],[],none⟩
 | .s (.bsl d sz el xs),A,x=>(A.F (.loc (n0+d))/\A.b (.loc (n0+d))=none/\A.e (.loc (n0+d))=none)/\uq sz (xs.map (dY A.t))/\x=⟨some d,.slice sz (.own (.loc (n0+d))) (xs.map (dY A.t)),[],[(.loc (n0+d),⟨xs.length,el,sz,none⟩)],some (.loc (n0+d))⟩
 | .s (.app d sz el u v),A,x=> ∃tag xs a ys,dY A.t u= .slice sz tag xs/\dY A.t v= .slice sz a ys/\
   ((∃k o,tag= .own k/\A.e k=some o/\(o.xs=none/\o.n=xs.length/\o.el=el/\o.sz=sz/\xs.length+ys.length<=lim)/\x=⟨some d,.slice sz (.own k) (xs++ys),[],[(k,⟨xs.length+ys.length,el,sz,none⟩)],none⟩)\/
    (tag= .nil/\ys.length<=lim/\(A.F (.loc (n0+d))/\A.b (.loc (n0+d))=none/\A.e (.loc (n0+d))=none)/\x=⟨some d,.slice sz (.own (.loc (n0+d))) ys,[],[(.loc (n0+d),⟨ys.length,el,sz,none⟩)],some (.loc (n0+d))⟩))
 | .s (.appm d _ sz el u v),A,x=> ∃k n xs a ys,dY A.t u= .row sz k n/\dY A.t v= .slice sz a ys/\A.e k=some ⟨n,el,sz,some xs⟩/\xs.length+ys.length<=lim/\x=⟨some d,.row sz k (xs.length+ys.length),[],[(k,⟨xs.length+ys.length,el,sz,some (xs++ys)⟩)],none⟩
 | .s (.storeE sz u v),A,x=> ∃k n i f el b xs q,dY A.t u= .rptr b k n i f/\A.e k=some ⟨n,el,b,some xs⟩/\xs[i]? =some q/\(eU q=true/\eU (dY A.t v)=true/\(cells (dY A.t v)).length=sz/\f+sz<=(cells q).length/\0<sz)/\x=⟨none,.junk,[],[(k,⟨n,el,b,some (xs.set i (od q f (cells (dY A.t v))))⟩)],none⟩
 | .s (.mkmap d (some m)),A,x=>(A.F (.obj m)/\A.b (.obj m)=none/\A.e (.obj m)=none)/\x=⟨some d,.gmap (.obj m),[(.obj m,[.hdm 0 []])],[],some (.obj m)⟩
 | .s (.mput e u k v),A,x=> ∃m cs cs',dY A.t u= .gmap m/\A.b m=some cs/\qO e (dY A.t k) (dY A.t v) cs=some cs'/\x=⟨none,.junk,[(m,cs')],[],none⟩
 | .call d f xs,A,x=> ∃n dH,dY A.t f= .func n dH/\((ado P n (cf (xs.map (dY A.t)++dH)) A d x/\(q=true->x.bw=[]/\x.ew=[]))\/adp P n0 n (cf (xs.map (dY A.t)++dH)) A d x)
 |_,_,_=>er
inductive Dd where
 |v|l|n|s|w|a|c|m|r|k
 deriving DecidableEq
def eV.mode:eV->Dd
 | .s (.v _ (.loadB _ _ _))=>.m
 | .s (.v _ (.mgetB _ _ _ _ _))=>.m
 | .s (.v _ i)=>if i.isLoad then .l else .v
 | .s (.storeE _ _ _)=>.r
 | .s (.box _ _ _)=>.n
 | .s (.alloc _ _ _)=>.n
 | .s (.store _ _ _)=>.w
 | .s (.bsl _ _ _ _)=>.s
 | .s (.app _ _ _ _ _)=>.a
 | .s (.bslm _ _ _ _ _)=>.w
 | .s (.mks _ _ _ _ _ _)=>.w
 | .s (.appm _ _ _ _ _ _)=>.r
 | .s (.mkmap _ _)=>.k
 | .s (.mput _ _ _ _)=>.w
 | .s (.range _ _ _)=>.w
 | .call _ _ _=>.c
 | .next _ _=>.w
structure KK (q:Bool) (n0:Nat) (m:Dd) (dst:be Nat) (A:dE) (x:lL):Prop where
 d:x.d=dst
 b:∀k,(ae k x.bw).isSome->(m= .n/\∃d,dst=some d/\k= .loc (n0+d)/\A.b k=none/\A.e k=none)\/m= .w\/(m= .c/\(∃j,k= .obj j)/\q=false)\/(m= .k/\(∃j,k= .obj j)/\A.b k=none/\A.e k=none)
 e:∀k,(ae k x.ew).isSome->(m= .s/\∃d,dst=some d/\k= .loc (n0+d)/\A.b k=none/\A.e k=none)\/(m= .a/\(A.e k≠none\/ ∃d,dst=some d/\k= .loc (n0+d)/\A.b k=none/\A.e k=none))\/(m= .c/\(∃j,k= .obj j)/\q=false)\/(m= .r/\∃o,A.e k=some o/\o.xs≠none)
 r:∀k,x.rm=some k->(∃d,dst=some d/\k= .loc (n0+d))\/((m= .c\/m= .k)/\(∃j,k= .obj j)/\((ae k x.bw).isSome\/(ae k x.ew).isSome))
 ex:m= .a->∀k o,(ae k x.ew).isSome->A.e k=some o->o.xs=none
 xn:m= .a\/m= .s->∀k o,ae k x.ew=some o->o.xs=none
def u2{α:Type}{k bs:aB}{x:α}(h:(ae k [(bs,x)]).isSome):k=bs:=by
 simp only[ae]at h;split at h
 ·rename_i e;exact e.symm
 ·cases h
def Ol{k bs:aB}{n el sz:Nat}{o:dW}(h:ae k [(bs,(⟨n,el,sz,none⟩:dW))]=some o):o.xs=none:=by
 simp only[ae]at h;split at h
 ·cases h;rfl
 ·cases h
def acf{P:cI}{q:Bool}{n0:Nat}{i:eV}{A:dE}{x:lL}(h:e1 P q n0 i A x):KK q n0 i.mode i.dst A x:=by
 cases i with
 |s i=>
  cases i with
  |v d i=>simp only[e1]at h;obtain⟨c,p,_,_,_,rfl⟩:=h;exact⟨rfl,fun k ab=>by simp[ae]at ab,fun k ab=>by simp[ae]at ab,fun k ab=>by simp at ab,fun _ k o ab=>by simp[ae]at ab,fun _ k o ab=>by simp[ae]at ab⟩
  |box d key v=>
   cases key with
   |some m=>simp only[e1]at h
   |none=>simp only[e1]at h;obtain⟨⟨_,U,a⟩,_,rfl⟩:=h;exact⟨rfl,fun k ab=>by obtain rfl:=u2 ab;exact .inl ⟨rfl,d,rfl,rfl,U,a⟩,fun k ab=>by simp[ae]at ab,fun k ab=>by simp at ab;exact .inl ⟨d,rfl,ab.symm⟩,fun _ k o ab=>by simp[ae]at ab,fun _ k o ab=>by simp[ae]at ab⟩
  |alloc d key z=>
   cases key with
   |some m=>simp only[e1]at h
   |none=>simp only[e1]at h;obtain⟨⟨_,U,a⟩,rfl⟩:=h;exact⟨rfl,fun k ab=>by obtain rfl:=u2 ab;exact .inl ⟨rfl,d,rfl,rfl,U,a⟩,fun k ab=>by simp[ae]at ab,fun k ab=>by simp at ab;exact .inl ⟨d,rfl,ab.symm⟩,fun _ k o ab=>by simp[ae]at ab,fun _ k o ab=>by simp[ae]at ab⟩
  |store sz u v=>simp only[e1]at h;obtain⟨k,off,cs,_,_,_,rfl⟩:=h;exact⟨rfl,fun k ab=>.inr (.inl rfl),fun k ab=>by simp[ae]at ab,fun k ab=>by simp at ab,fun _ k o ab=>by simp[ae]at ab,fun _ k o ab=>by simp[ae]at ab⟩
  |bsl d sz el xs=>simp only[e1]at h;obtain⟨⟨_,U,a⟩,_,rfl⟩:=h;exact⟨rfl,fun k ab=>by simp[ae]at ab,fun k ab=>by obtain rfl:=u2 ab;exact .inl ⟨rfl,d,rfl,rfl,U,a⟩,fun k ab=>by simp at ab;exact .inl ⟨d,rfl,ab.symm⟩,fun e=>by simp[eV.mode]at e,fun _ k o ab=>Ol ab⟩
  |app d sz el u v=>
   simp only[e1]at h;obtain⟨tag,xs,j,ys,_,_,h⟩:=h;rcases h with⟨k,o,_,J,⟨l,_⟩,rfl⟩|⟨_,_,⟨_,U,a⟩,rfl⟩
   ·exact⟨rfl,fun k ab=>by simp[ae]at ab,fun k ab=>by obtain rfl:=u2 ab;exact .inr (.inl ⟨rfl,.inl (by rw[J];simp)⟩),fun k ab=>by simp at ab,fun _ bs o' ab ar=>by obtain rfl:=u2 ab;rw[J]at ar;cases ar;exact l,fun _ k o ab=>Ol ab⟩
   ·exact⟨rfl,fun k ab=>by simp[ae]at ab,fun k ab=>by obtain rfl:=u2 ab;exact .inr (.inl ⟨rfl,.inr ⟨d,rfl,rfl,U,a⟩⟩),fun k ab=>by simp at ab;exact .inl ⟨d,rfl,ab.symm⟩,fun _ bs o' ab ar=>(by obtain rfl:=u2 ab;rw[a]at ar;cases ar),fun _ k o ab=>Ol ab⟩
  |bslm d key sz el xs=>simp only[e1]at h
  |mks d key sz el z x=>simp only[e1]at h
  |appm d key sz el u v=>simp only[e1]at h;obtain⟨k,n,xs,j,ys,_,_,J,_,rfl⟩:=h;exact⟨rfl,fun k ab=>by simp[ae]at ab,fun k ab=>by obtain rfl:=u2 ab;exact .inr (.inr (.inr ⟨rfl,_,J,Ψ⟩)),fun k ab=>by simp at ab,fun e=>by simp[eV.mode]at e,fun e=>by simp[eV.mode]at e⟩
  |storeE sz u v=>simp only[e1]at h;obtain⟨k,n,i,f,el,t,xs,q,_,J,_,_,rfl⟩:=h;exact⟨rfl,fun k ab=>by simp[ae]at ab,fun k ab=>by obtain rfl:=u2 ab;exact .inr (.inr (.inr ⟨rfl,_,J,Ψ⟩)),fun k ab=>by simp at ab,fun e=>by simp[eV.mode]at e,fun e=>by simp[eV.mode]at e⟩
  |mkmap d key=>
   cases key with
   |none=>simp only[e1]at h
   |some m=>simp only[e1]at h;obtain⟨⟨_,U,a⟩,rfl⟩:=h;exact⟨rfl,fun k ab=>by obtain rfl:=u2 ab;exact .inr (.inr (.inr ⟨rfl,⟨m,rfl⟩,U,a⟩)),fun k ab=>by simp[ae]at ab,fun k ab=>by simp at ab;subst ab;exact .inr ⟨.inr rfl,⟨m,rfl⟩,.inl (by simp[ae])⟩,fun e=>by simp[eV.mode]at e,fun e=>by simp[eV.mode]at e⟩
  |mput w x k v=>simp only[e1]at h;obtain⟨m,cs,cs',_,_,_,rfl⟩:=h;exact⟨rfl,fun k ab=>.inr (.inl rfl),fun k ab=>by simp[ae]at ab,fun k ab=>by simp at ab,fun e=>by simp[eV.mode]at e,fun e=>by simp[eV.mode]at e⟩
  |range d key x=>simp only[e1]at h
 |next d x=>simp only[e1]at h
 |call d f xs=>
  simp only[e1]at h;obtain⟨n,dH,_,h⟩:=h;rcases h with⟨⟨s,y,r,rm,_,_,_,ar,g,_,_,rfl⟩,b⟩|⟨cU,r,rfl,_,_,_,rfl⟩;rotate_left
  ·exact⟨rfl,fun k ab=>by simp[ae]at ab,fun k ab=>by simp[ae]at ab,fun k ab=>by simp at ab;exact .inl ⟨cU,rfl,ab.symm⟩,fun _ k o ab=>by simp[ae]at ab,fun _ k o ab=>by simp[ae]at ab⟩
  refine⟨rfl,fun k ab=>.inr (.inr (.inl ⟨rfl,?_,?_⟩)),fun k ab=>.inr (.inr (.inl ⟨rfl,?_,?_⟩)),fun k ab=>.inr ⟨.inl rfl,(g.2.2.2.2 k ab).1,(g.2.2.2.2 k ab).2.2.2.2⟩,fun e=>by simp[eV.mode]at e,fun e=>by simp[eV.mode]at e⟩
  ·cases k with
   |loc m=>rw[ar.1 m]at ab;cases ab
   |obj m=>exact⟨m,rfl⟩
  ·cases q with
   |false=>rfl
   |true=>rw[(b rfl).1]at ab;simp[ae]at ab
  ·cases k with
   |loc m=>rw[ar.2 m]at ab;cases ab
   |obj m=>exact⟨m,rfl⟩
  ·cases q with
   |false=>rfl
   |true=>rw[(b rfl).2]at ab;simp[ae]at ab
def Rj{P:cI}{q:Bool}{n0:Nat}{i:eV}{A b:dE}{x:lL}(h:e1 P q n0 i A x)(a:r3 i.looks A.t b.t)
  (av:i.mode= .l->∀k,(q=true\/ ∃m,k= .loc m)->A.b k≠none->b.b k=A.b k) (WA:i.mode= .m->∀k,A.b k≠none->b.b k=A.b k)
  (lq:i.mode= .l->q=true->∀k o,A.e k=some o->o.xs≠none->b.e k=some o)
  (G:∀d,i.dst=some d->(i.mode= .n\/i.mode= .s\/i.mode= .a\/i.mode= .c)->(A.F (.loc (n0+d))/\A.b (.loc (n0+d))=none/\A.e (.loc (n0+d))=none)->(b.F (.loc (n0+d))/\b.b (.loc (n0+d))=none/\b.e (.loc (n0+d))=none))
  (bO:i.mode= .a->∀k o,A.e k=some o->b.e k=some o) (hw:i.mode= .w->∀k,b.b k=A.b k) (W:i.mode= .k->∀m,(A.F (.obj m)/\A.b (.obj m)=none/\A.e (.obj m)=none)->(b.F (.obj m)/\b.b (.obj m)=none/\b.e (.obj m)=none)) (Ey:i.mode= .r->∀k o,A.e k=some o->o.xs≠none->b.e k=some o)
  (aw:i.mode= .c->∀m,b.b (.obj m)=A.b (.obj m)/\b.e (.obj m)=A.e (.obj m)/\(A.F (.obj m)->b.F (.obj m))):e1 P q n0 i b x:=by
 cases i with
 |s i=>
  cases i with
  |v d i=>
   simp only[e1]at h⊢;obtain⟨c,p,J,U,l,B⟩:=h;by_cases K:∃agg sz y,i= .loadB agg sz y
   ·obtain⟨agg,sz,y,rfl⟩:=K;simp only[eV.looks,eY.looks,gR.looks]at a;have H:=hp a;refine⟨c,p,?_,U,fun _=>.inl rfl,B⟩;rw[<-J];simp only[qZ,<-H];have hm:=WA (by simp[eV.mode]);simp only[qZ]at J;cases w:dY A.t y<;>simp only[tE];rename_i key off;rw[w]at J;simp only[tE]at J;cases t:A.b key with
    |none=>simp[t]at J
    |some cs=>have:b.b key=A.b key:=hm key (by rw[t];simp);rw[this,t]
   by_cases M:∃L zero ok y z,i= .mgetB L zero ok y z
   ·obtain⟨L,zero,ok,y,z,rfl⟩:=M;simp only[eV.looks,eY.looks,gR.looks]at a;obtain⟨t1,t2⟩:=k7 a;refine⟨c,p,?_,U,fun _=>.inl rfl,B⟩;simp only[qZ]at J⊢;rw[<-hp t1,<-hp t2];exact YC (WA (by simp[eV.mode])) J
   replace l:i.isLoad=true->q=true\/zE (i.ptrOf A.t)=true:=fun g=>(l g).resolve_left (fun t=>by cases i<;>simp[gR.isB]at t;exact K ⟨_,_,_,rfl⟩;exact M ⟨_,_,_,_,_,rfl⟩);have Y:i.isLoad=true->(eV.s (.v d i)).mode= .l:=by intro g;cases i<;>simp only[gR.isLoad]at g<;>first|(cases g;done)|(simp[eV.mode,gR.isLoad];done)|exact absurd ⟨_,_,_,rfl⟩ K|exact absurd ⟨_,_,_,_,_,rfl⟩ M
   by_cases g:i.isLoad=true
   ·have V:∀(w:zE (i.ptrOf A.t)=false),∀k,A.b k≠none->b.b k=A.b k:=fun w k ab=>av (Y g) k (.inl ((l g).resolve_right (by rw[w];simp))) ab;cases i<;>simp only[gR.isLoad]at g<;>try(cases g;done)
    case mget L zero ok y z=>simp only[eV.looks,eY.looks,gR.looks]at a;obtain⟨t1,t2⟩:=k7 a;refine⟨c,p,?_,U,fun _=>.inr (l rfl),B⟩;simp only[qZ]at J⊢;rw[<-hp t1,<-hp t2];exact YC (V rfl) J
    case ment y=>simp only[eV.looks,eY.looks,gR.looks]at a;refine⟨c,p,?_,U,fun _=>.inr (l rfl),B⟩;simp only[qZ]at J⊢;rw[<-hp a];exact amD (V rfl) J
    case mlen y=>simp only[eV.looks,eY.looks,gR.looks]at a;refine⟨c,p,?_,U,fun _=>.inr (l rfl),B⟩;simp only[qZ]at J⊢;rw[<-hp a];exact am2 (V rfl) J
    case loadB agg sz y=>exact absurd ⟨_,_,_,rfl⟩ K
    case mgetB=>exact absurd ⟨_,_,_,_,_,rfl⟩ M
    rename_i agg sz y;simp only[eV.looks,eY.looks,gR.looks]at a;have H:=hp a;refine⟨c,p,?_,U,fun _=>.inr (by have:=l rfl;simpa only[gR.ptrOf,<-H]using this),B⟩;rw[<-J];simp only[qZ,<-H];have hm:=av (by simp[eV.mode,gR.isLoad]);simp only[qZ]at J;have E:=l rfl;simp only[gR.ptrOf]at E;cases w:dY A.t y<;>simp only[tE]
    ·rename_i key off;rw[w]at J E;simp only[tE]at J;cases t:A.b key with
     |none=>simp[t]at J
     |some cs=>have:b.b key=A.b key:=hm key (by rcases E with h|h;exact .inl h;cases key;exact .inr ⟨_,rfl⟩;simp[zE]at h) (by rw[t];simp);rw[this,t]
    ·rename_i ee key n i f;rw[w]at J E;simp only[tE]at J;have WX:q=true:=E.resolve_right (by simp[zE]);unfold Af at J;split at J
     ·rename_i n' el j6 xs he;rw[he,lq (by simp[eV.mode,gR.isLoad]) WX key _ he Ψ]
     ·cases J
   ·have g:i.isLoad=false:=by simpa using g
    refine⟨c,p,?_,U,(fun e=>by rw[g]at e;cases e),B⟩;rw[<-J];exact(ar0 (by simpa only[eV.looks,eY.looks]using a) g).symm
  |box d key v=>
   cases key with
   |some m=>simp only[e1]at h
   |none=>simp only[e1,eV.looks,eY.looks]at h a⊢;obtain⟨J,U,l⟩:=h;rw[<-hp a];exact⟨G d rfl (.inl rfl) J,U,l⟩
  |alloc d key z=>
   cases key with
   |some m=>simp only[e1]at h
   |none=>simp only[e1]at h⊢;exact⟨G d rfl (.inl rfl) h.1,h.2⟩
  |store sz u v=>simp only[e1,eV.looks,eY.looks]at h a⊢;obtain⟨J,U⟩:=k7 a;rw[<-hp J,<-hp U];obtain⟨k,off,cs,g1,g2,g3,g4⟩:=h;exact⟨k,off,cs,g1,by rw[hw rfl];exact g2,g3,g4⟩
  |bsl d sz el xs=>simp only[e1,eV.looks,eY.looks]at h a⊢;rw[<-IN a];exact⟨G d rfl (.inr (.inl rfl)) h.1,h.2⟩
  |app d sz el u v=>
   simp only[e1,eV.looks,eY.looks]at h a⊢;obtain⟨J,U⟩:=k7 a;rw[<-hp J,<-hp U];obtain⟨tag,xs,N,ys,g1,g2,h⟩:=h;refine⟨tag,xs,N,ys,g1,g2,?_⟩;rcases h with⟨k,o,X,Z,R⟩|⟨X,Z,R,b3⟩
   ·exact .inl ⟨k,o,X,bO rfl k o Z,R⟩
   ·exact .inr ⟨X,Z,G d rfl (.inr (.inr (.inl rfl))) R,b3⟩
  |bslm d key sz el xs=>simp only[e1]at h
  |mks d key sz el z x=>simp only[e1]at h
  |appm d key sz el u v=>simp only[e1,eV.looks,eY.looks]at h a⊢;obtain⟨J,U⟩:=k7 a;rw[<-hp J,<-hp U];obtain⟨k,n,xs,N,ys,g1,g2,g3,g4,g5⟩:=h;exact⟨k,n,xs,N,ys,g1,g2,Ey rfl k _ g3 Ψ,g4,g5⟩
  |storeE sz u v=>simp only[e1,eV.looks,eY.looks]at h a⊢;obtain⟨J,U⟩:=k7 a;rw[<-hp J,<-hp U];obtain⟨k,n,i,f,el,ee,xs,q,g1,g2,g3⟩:=h;exact⟨k,n,i,f,el,ee,xs,q,g1,Ey rfl k _ g2 Ψ,g3⟩
  |mkmap d key=>
   cases key with
   |none=>simp only[e1]at h
   |some m=>simp only[e1]at h⊢;exact⟨W rfl m h.1,h.2⟩
  |mput L u k v=>simp only[e1,eV.looks,eY.looks]at h a⊢;obtain⟨t1,t3⟩:=k7 a;obtain⟨t1,t2⟩:=k7 t1;obtain⟨m,cs,cs',g1,g2,g3,g4⟩:=h;rw[<-hp t1,<-hp t2,<-hp t3];exact⟨m,cs,cs',g1,by rw[hw rfl];exact g2,g3,g4⟩
  |range d key x=>simp only[e1]at h
 |next d x=>simp only[e1]at h
 |call d f xs=>
  simp only[e1,eV.looks]at h a⊢;obtain⟨J,U⟩:=k7 a;rw[<-hp J,<-IN U];obtain⟨n,dH,g1,h⟩:=h;rcases h with⟨⟨s,ak,r,rm,S,Q,O,h7,F,qn⟩,g3⟩|⟨cU,r,rfl,S,Q⟩;rotate_left
  ·exact⟨n,dH,g1,.inr ⟨cU,r,rfl,G cU rfl (.inr (.inr (.inr rfl))) S,Q⟩⟩
  refine⟨n,dH,g1,.inl ⟨⟨s,ak,r,rm,fun k cs ab=>?_,fun k o ab=>?_,O,h7,⟨F.1,F.2.1,F.2.2.1,F.2.2.2.1,fun k ab=>?_⟩,qn⟩,g3⟩⟩
  ·cases k with
   |loc m=>rw[O.1 m]at ab;cases ab
   |obj m=>rw[(aw rfl m).1];exact S _ _ ab
  ·cases k with
   |loc m=>rw[O.2 m]at ab;cases ab
   |obj m=>rw[(aw rfl m).2.1];exact Q _ _ ab
  ·obtain⟨⟨j,rfl⟩,d2,d3,d4,d5⟩:=F.2.2.2.2 k ab;exact⟨⟨j,rfl⟩,(aw rfl j).2.2 d2,by rw[(aw rfl j).1];exact d3,by rw[(aw rfl j).2.1];exact d4,d5⟩
def mq(d:be Nat):lL:=⟨d,.tuple [],[],[],none⟩
def lM(P:cI)(q:Bool)(n0:Nat)(g:du)(A:dE)(x:lL):Prop:=
 match g.g with
 |none=>e1 P q n0 g.i A x
 |some (s,w)=>match A.t s with
  | .bool b=>(b=w/\e1 P q n0 g.i A x)\/(b= !w/\x=mq g.i.dst)
  | .tuple []=>x=mq g.i.dst
  |_=>er
def fW:Dd->Dd->Bool
 | .v,_=>true
 |_,.v=>true
 | .l,.l| .l,.n| .l,.s| .l,.a| .l,.c=>true
 | .n,.n| .n,.s| .n,.a| .n,.c=>true
 | .s,.l| .s,.n| .s,.s| .s,.c=>true
 | .a,.l| .a,.n| .a,.s=>true
 | .c,.l| .c,.n| .c,.s=>true
 | .l,.m| .m,.l| .m,.m| .m,.n| .m,.s| .m,.a| .s,.m| .a,.m=>true
 | .l,.k| .m,.k| .n,.k| .s,.k=>true
 | .m,.r| .r,.m| .r,.n| .r,.s| .n,.r| .s,.r| .r,.w| .w,.r=>true
 |_,_=>false
def Bg(g h:du):Bool:=(match g.i.dst with|some d=> !(h.looks.contains d)&&h.i.dst !=some d|none=>true)&&(match h.i.dst with|some d=> !(g.looks.contains d)|none=>true)&&fW g.i.mode h.i.mode
def acg(q:Bool)(n0:Nat)(m:Dd)(d:be Nat)(A:dE):KK q n0 m d A (mq d):=⟨rfl,fun k ab=>by simp[mq,ae]at ab,fun k ab=>by simp[mq,ae]at ab,fun k ab=>by simp[mq]at ab,fun _ k o ab=>by simp[mq,ae]at ab,fun _ k o ab=>by simp[mq,ae]at ab⟩
def QO{P:cI}{q:Bool}{n0:Nat}{g:du}{A:dE}{x:lL}(h:lM P q n0 g A x):KK q n0 g.i.mode g.i.dst A x:=by
 unfold lM at h;split at h
 ·exact acf h
 ·split at h
  ·rcases h with⟨_,h⟩|⟨_,rfl⟩
   ·exact acf h
   ·exact acg _ _ _ _ _
  ·subst h;exact acg _ _ _ _ _
  ·exact h.elim
def uy{A:dE}{x:lL}{k:aB}(h:ae k x.bw=none):(A.do x).b k=A.b k:=by simp[dE.do,jw,h]
def uz{A:dE}{x:lL}{k:aB}(h:ae k x.ew=none):(A.do x).e k=A.e k:=by simp[dE.do,jw,h]
def LI{A:dE}{x:lL}{k:aB}(h:(A.do x).b k=none):A.b k=none:=by
 simp only[dE.do,jw]at h;split at h
 ·cases h
 ·exact h
def LJ{A:dE}{x:lL}{k:aB}(h:(A.do x).e k=none):A.e k=none:=by
 simp only[dE.do,jw]at h;split at h
 ·cases h
 ·exact h
def mP{α:Type}{o:be α}(h:¬o.isSome):o=none:=by cases o<;>simp at h⊢
def Rl{P:cI}{q:Bool}{n0:Nat}{g:du}{A a:dE}{x:lL}(h:lM P q n0 g A x)(b:r3 g.looks A.t a.t)(hm:e1 P q n0 g.i A x->e1 P q n0 g.i a x):lM P q n0 g a x:=by
 unfold lM at h⊢;cases a7:g.g with
 |none=>simp only[a7]at h⊢;exact hm h
 |some c=>
  obtain⟨s,w⟩:=c;have:A.t s=a.t s:=b s (by simp[du.looks,a7]);simp only[a7,this]at h⊢;split at h
  ·rcases h with⟨J,U⟩|h
   ·exact .inl ⟨J,hm U⟩
   ·exact .inr h
  ·exact h
  ·exact h
def swap{P:cI}{q:Bool}{n0:Nat}{g h:du}(R:Bg g h=true){A:dE}{x y:lL}(O:lM P q n0 g A x)(W:lM P q n0 h (A.do x) y):
  lM P q n0 h A y/\lM P q n0 g (A.do y) x/\x.apart y:=by
 simp only[Bg,cR]at R;obtain⟨⟨G,N⟩,hm⟩:=R;have c8:=QO O;have v:∀d l,g.i.dst=some d->h.i.dst=some l->d≠l:=by intro d l a b e;simp only[a,cR,bne_iff_ne]at G;exact G.2 (by rw[b,e])
 have V:r3 h.looks (A.do x).t A.t:=by intro i hi;simp only[dE.do];rw[if_neg];intro e;rw[c8.d]at e;simp only[e,cR,sN,List.contains_eq_mem,iR]at G;exact G.1 hi
 have B:∀k,(ae k x.bw).isSome->_:=c8.b;have hle:∀k,(ae k x.ew).isSome->_:=c8.e;have Q:lM P q n0 h A y:=by
  refine Rl W V fun H=>Rj H (fun i hi=>V i (by simp[du.looks,hi])) (fun e k ab z=>?_) (fun e k z=>?_) (fun e K k o ar w=>?_) (fun d F U f=>?_) (fun e k o ar=>?_) (fun e k=>?_) (fun e m f=>⟨f.1.1,LI f.2.1,LJ f.2.2⟩) (fun e k o ar w=>?_) (fun e m=>?_)
  ·rw[uy (mP fun c=>?_)];rcases B k c with⟨a,_⟩|a|⟨a,⟨j,b⟩,r⟩|⟨a,_⟩;rotate_left 3
   ·rw[e,a]at hm;simp[fW]at hm
   ·rw[e,a]at hm;simp[fW]at hm
   ·rw[e,a]at hm;simp[fW]at hm
   ·rcases ab with ab|⟨m,ab⟩
    ·rw[ab]at r;cases r
    ·rw[ab]at b;cases b
  ·rw[uy (mP fun c=>?_)];rcases B k c with⟨a,_⟩|a|⟨a,_⟩|⟨a,_⟩<;>(rw[e,a]at hm;simp[fW]at hm)
  ·rw[e]at hm;cases u:ae k x.ew with
   |none=>rw[uz u]at ar;exact ar
   |some o'=>
    exfalso;have L:(A.do x).e k=some o':=by simp[dE.do,jw,u]
    rw[L]at ar;cases ar;rcases hle k (by simp[u])with⟨a,_⟩|⟨a,_⟩|⟨a,_,r⟩|⟨a,_⟩
    ·exact w (c8.xn (.inr a) k _ u)
    ·exact w (c8.xn (.inl a) k _ u)
    ·rw[K]at r;cases r
    ·rw[a]at hm;simp[fW]at hm
  ·exact⟨f.1.1,LI f.2.1,LJ f.2.2⟩
  ·rw[uz (mP fun c=>?_)]at ar
   ·exact ar
   ·rw[e]at hm;rcases hle k c with⟨a,_⟩|⟨a,_⟩|⟨a,_⟩|⟨a,_⟩<;>(rw[a]at hm;simp[fW]at hm)
  ·rw[uy (mP fun c=>?_)];rw[e]at hm;rcases B k c with⟨a,_⟩|a|⟨a,_⟩|⟨a,_⟩<;>(rw[a]at hm;simp[fW]at hm)
  ·rw[e]at hm;cases u:ae k x.ew with
   |none=>rw[uz u]at ar;exact ar
   |some o'=>
    exfalso;have L:(A.do x).e k=some o':=by simp[dE.do,jw,u]
    rw[L]at ar;cases ar;rcases hle k (by simp[u])with⟨a,_⟩|⟨a,_⟩|⟨a,_⟩|⟨a,_⟩
    ·exact w (c8.xn (.inr a) k _ u)
    ·rw[a]at hm;simp[fW]at hm
    ·rw[a]at hm;simp[fW]at hm
    ·rw[a]at hm;simp[fW]at hm
  ·rw[e]at hm;refine⟨?_,?_,fun J=>J.1⟩
   ·rw[uy (mP fun c=>?_)];rcases B _ c with⟨a,d,_,b,_⟩|a|⟨a,_⟩|⟨a,_⟩;rotate_left 3
    ·rw[a]at hm;simp[fW]at hm
    ·cases b
    ·rw[a]at hm;simp[fW]at hm
    ·rw[a]at hm;simp[fW]at hm
   ·rw[uz (mP fun c=>?_)];rcases hle _ c with⟨a,d,_,b,_⟩|⟨a,_⟩|⟨a,_⟩|⟨a,_⟩
    ·cases b
    ·rw[a]at hm;simp[fW]at hm
    ·rw[a]at hm;simp[fW]at hm
    ·rw[a]at hm;simp[fW]at hm
 have ty:=QO Q;have S:r3 g.looks A.t (A.do y).t:=by intro i hi;simp only[dE.do];rw[if_neg];intro e;rw[ty.d]at e;simp only[e,sN,List.contains_eq_mem,iR]at N;exact N hi
 refine⟨Q,?_,?_⟩
 ·refine Rl O S fun H=>Rj H (fun i hi=>S i (by simp[du.looks,hi])) (fun e k ab z=>?_) (fun e k z=>?_) (fun e K k o ar w=>?_) (fun d F U f=>?_) (fun e k o ar=>?_) (fun e k=>?_) (fun e m f=>?_) (fun e k o ar w=>?_) (fun e m=>?_)
  ·refine uy (mP fun c=>?_);rcases ty.b k c with⟨a,d,_,_,b,_⟩|a|⟨a,⟨j,b⟩,r⟩|⟨_,_,b,_⟩;rotate_left 3
   ·exact z b
   ·exact z b
   ·rw[e,a]at hm;simp[fW]at hm
   ·rcases ab with ab|⟨m,ab⟩
    ·rw[ab]at r;cases r
    ·rw[ab]at b;cases b
  ·refine uy (mP fun c=>?_);rcases ty.b k c with⟨a,d,_,_,b,_⟩|a|⟨a,_⟩|⟨_,_,b,_⟩;rotate_left 3
   ·exact z b
   ·exact z b
   ·rw[e,a]at hm;simp[fW]at hm
   ·rw[e,a]at hm;simp[fW]at hm
  ·rw[uz (mP fun c=>?_)]
   ·exact ar
   ·rcases ty.e k c with⟨a,d,_,_,_,b⟩|⟨a,b⟩|⟨a,_,r⟩|⟨a,_⟩
    ·rw[b]at ar;cases ar
    ·exact w (ty.ex a k o c ar)
    ·rw[K]at r;cases r
    ·rw[e,a]at hm;simp[fW]at hm
  ·refine⟨⟨f.1,fun E=>?_⟩,?_,?_⟩
   ·rcases ty.r _ E with⟨l,a,b⟩|⟨_,⟨j,b⟩,_⟩
    ·simp only[aB.loc.injEq]at b;exact v d l F a Ω
    ·cases b
   ·rw[uy (mP fun c=>?_)]
    ·exact f.2.1
    ·rcases ty.b _ c with⟨a,l,b,r,_⟩|a|⟨a,⟨j,b⟩,_⟩|⟨a,⟨j,b⟩,_⟩;rotate_left 3
     ·cases b
     ·simp only[aB.loc.injEq]at r;exact v d l F b Ω
     ·rcases U with b|b|b|b<;>(rw[a,b]at hm;simp[fW]at hm)
     ·cases b
   ·rw[uz (mP fun c=>?_)]
    ·exact f.2.2
    ·rcases ty.e _ c with⟨a,l,b,r,_⟩|⟨a,b⟩|⟨a,⟨j,b⟩,_⟩|⟨a,o,b,_⟩
     ·simp only[aB.loc.injEq]at r;exact v d l F b Ω
     ·rcases b with b|⟨l,b,r,_⟩
      ·exact b f.2.2
      ·simp only[aB.loc.injEq]at r;exact v d l F b Ω
     ·cases b
     ·rw[f.2.2]at b;cases b
  ·rw[uz (mP fun c=>?_)]
   ·exact ar
   ·rw[e]at hm;rcases ty.e k c with⟨a,d,_,_,_,b⟩|⟨a,_⟩|⟨a,_⟩|⟨a,_⟩
    ·rw[b]at ar;cases ar
    ·rw[a]at hm;simp[fW]at hm
    ·rw[a]at hm;simp[fW]at hm
    ·rw[a]at hm;simp[fW]at hm
  ·refine uy (mP fun c=>?_);rw[e]at hm;rcases ty.b k c with⟨a,_⟩|a|⟨a,_⟩|⟨a,_⟩<;>(rw[a]at hm;simp[fW]at hm)
  ·rw[e]at hm;refine⟨⟨f.1,fun E=>?_⟩,?_,?_⟩
   ·rcases ty.r _ E with⟨l,a,b⟩|⟨a|a,_⟩
    ·cases b
    ·rw[a]at hm;simp[fW]at hm
    ·rw[a]at hm;simp[fW]at hm
   ·rw[uy (mP fun c=>?_)]
    ·exact f.2.1
    ·rcases ty.b _ c with⟨a,_⟩|a|⟨a,_⟩|⟨a,_⟩<;>(rw[a]at hm;simp[fW]at hm)
   ·rw[uz (mP fun c=>?_)]
    ·exact f.2.2
    ·rcases ty.e _ c with⟨a,_⟩|⟨a,_⟩|⟨a,_⟩|⟨a,o,b,_⟩
     ·rw[a]at hm;simp[fW]at hm
     ·rw[a]at hm;simp[fW]at hm
     ·rw[a]at hm;simp[fW]at hm
     ·rw[f.2.2]at b;cases b
  ·rw[uz (mP fun c=>?_)]
   ·exact ar
   ·rw[e]at hm;rcases ty.e k c with⟨a,d,_,_,_,b⟩|⟨a,_⟩|⟨a,_⟩|⟨a,_⟩
    ·rw[b]at ar;cases ar
    ·rw[a]at hm;simp[fW]at hm
    ·rw[a]at hm;simp[fW]at hm
    ·rw[a]at hm;simp[fW]at hm
  ·rw[e]at hm;refine⟨?_,?_,fun J=>⟨J,fun E=>?_⟩⟩;rotate_left 2
   ·rcases ty.r _ E with⟨l,_,b⟩|⟨b|b,_⟩
    ·cases b
    ·rw[b]at hm;simp[fW]at hm
    ·rw[b]at hm;simp[fW]at hm
   ·refine uy (mP fun c=>?_);rcases ty.b _ c with⟨a,d,_,b,_⟩|a|⟨a,_⟩|⟨a,_⟩;rotate_left 3
    ·rw[a]at hm;simp[fW]at hm
    ·cases b
    ·rw[a]at hm;simp[fW]at hm
    ·rw[a]at hm;simp[fW]at hm
   ·refine uz (mP fun c=>?_);rcases ty.e _ c with⟨a,d,_,b,_⟩|⟨a,_⟩|⟨a,_⟩|⟨a,_⟩
    ·cases b
    ·rw[a]at hm;simp[fW]at hm
    ·rw[a]at hm;simp[fW]at hm
    ·rw[a]at hm;simp[fW]at hm
 ·refine⟨fun i hi e=>?_,fun k ab=>mP fun c=>?_,fun k ab=>mP fun c=>?_⟩
  ·rw[c8.d]at hi;rw[ty.d]at e;exact v i i hi e rfl
  ·rcases B k ab with⟨p,d,a2,a3,_⟩|p|⟨p,⟨j,a2⟩,_⟩|⟨p,_⟩<;>rcases ty.b k c with⟨n,l,s,t,_⟩|n|⟨n,⟨dh,s⟩,_⟩|⟨n,⟨dh,s⟩,_⟩;all_goals first|(rw[p,n]at hm;simp[fW]at hm;done)|skip
   ·rw[a3]at t;simp only[aB.loc.injEq]at t;exact v d l a2 s Ω
   ·rw[a3]at s;cases s
   ·rw[a3]at s;cases s
   ·rw[a2]at t;cases t
  ·rcases hle k ab with⟨p,d,a2,a3,_,a4⟩|⟨p,a2⟩|⟨p,⟨j,a2⟩,_⟩|⟨p,Y,a2,_⟩<;>rcases ty.e k c with⟨n,l,s,t,_,M⟩|⟨n,s⟩|⟨n,⟨dh,s⟩,_⟩|⟨n,X,s,_⟩
   ·rw[a3]at t;simp only[aB.loc.injEq]at t;exact v d l a2 s Ω
   ·rw[p,n]at hm;simp[fW]at hm
   ·rw[a3]at s;cases s
   ·rw[a4]at s;cases s
   ·rcases a2 with a2|⟨d,a2,a3,_⟩
    ·exact a2 M
    ·rw[a3]at t;simp only[aB.loc.injEq]at t;exact v d l a2 s Ω
   ·rw[p,n]at hm;simp[fW]at hm
   ·rw[p,n]at hm;simp[fW]at hm
   ·rw[p,n]at hm;simp[fW]at hm
   ·rw[a2]at t;cases t
   ·rw[p,n]at hm;simp[fW]at hm
   ·rw[p,n]at hm;simp[fW]at hm
   ·rw[p,n]at hm;simp[fW]at hm
   ·rw[M]at a2;cases a2
   ·rw[p,n]at hm;simp[fW]at hm
   ·rw[p,n]at hm;simp[fW]at hm
   ·rw[p,n]at hm;simp[fW]at hm
def yG(C:fq)(A:dE)(a:Act)(w:World):Prop:= ∃st ν,my st A/\(∀k,A.F k->fresh st.n st.o k)/\c9 C st a w ν
def Oh{st:bp}{A:dE}(h:my st A)(d:Nat)(p:af):my {st with t:=put d p st.t} (A.do ⟨some d,p,[],[],none⟩):=by
 refine⟨fun i=>?_,fun k=>?_,fun k=>?_⟩
 ·simp only[dE.do,qw,dU,h.t]
 ·simpa[dE.do,jw,ae]using h.b k
 ·simpa[dE.do,jw,ae]using h.e k
def Yi{st:bp}{A:dE}(h:my st A)(d:Nat)(p:af)(o':List aB)(rm:be aB):my {st with t:=put d p st.t,o:=o'} (A.do ⟨some d,p,[],[],rm⟩):=by have:=Oh h d p;exact⟨this.t,this.b,this.e⟩
def ac6{α:Type}{β:Type}:∀l:List (aB×α),cM ([]:List (aB×β)) l=l
 |[]=>rfl
 |(k,x)::r=>by simp[cM,ae,ac6 r]
def B3{st:bp}{A:dE}(h:my st A)(d:Nat)(p:af)(κ:aB)(cs:List af)(n':Nat)(o':List aB)(rm:be aB):my ⟨put d p st.t,cK κ cs st.b,st.e,n',o'⟩ (A.do ⟨some d,p,[(κ,cs)],[],rm⟩):=by
 refine⟨fun i=>?_,fun k=>?_,fun k=>?_⟩
 ·simp only[dE.do,qw,dU,h.t]
 ·simp only[dE.do,jw,ae,jm,h.b];by_cases e:κ=k<;>simp[e]
 ·simpa[dE.do,jw,ae]using h.e k
def IG{st:bp}{A:dE}(h:my st A)(κ:aB)(cs:List af)(p:af):my {st with b:=cK κ cs st.b} (A.do ⟨none,p,[(κ,cs)],[],none⟩):=by
 refine⟨fun i=>?_,fun k=>?_,fun k=>?_⟩
 ·simpa[dE.do]using h.t i
 ·simp only[dE.do,jw,ae,jm,h.b];by_cases e:κ=k<;>simp[e]
 ·simpa[dE.do,jw,ae]using h.e k
def xW{st:bp}{A:dE}(h:my st A)(d:Nat)(p:af)(κ:aB)(o:dW)(n':Nat)(o':List aB)(rm:be aB):my ⟨put d p st.t,st.b,cK κ o st.e,n',o'⟩ (A.do ⟨some d,p,[],[(κ,o)],rm⟩):=by
 refine⟨fun i=>?_,fun k=>?_,fun k=>?_⟩
 ·simp only[dE.do,qw,dU,h.t]
 ·simpa[dE.do,jw,ae]using h.b k
 ·simp only[dE.do,jw,ae,jm,h.e];by_cases e:κ=k<;>simp[e]
def Yh{st:bp}{A:dE}(h:my st A)(κ:aB)(o:dW)(p:af):my {st with e:=cK κ o st.e} (A.do ⟨none,p,[],[(κ,o)],none⟩):=by
 refine⟨fun i=>?_,fun k=>?_,fun k=>?_⟩
 ·simpa[dE.do]using h.t i
 ·simpa[dE.do,jw,ae]using h.b k
 ·simp only[dE.do,jw,ae,jm];by_cases e:κ=k<;>simp[e,h.e]
def OA{α:Type}{k:aB}:∀{l:List (aB×α)},k∈l.map (·.1)->(ae k l).isSome
 |[],h=>by simp at h
 |(i,x)::r,h=>by
  simp only[ae];split
  ·rfl
  ·rename_i e;simp only[ha,gJ]at h;rcases h with h|h
   ·exact absurd h.symm e
   ·exact OA h
def xf{n:Nat}{o:List aB}{κ:aB}:∀j,fresh n (κ::o) j->fresh n o j/\j≠κ:=by intro j a;simp only[fresh,gJ,not_or]at a⊢;exact⟨⟨a.1,a.2.2⟩,a.2.1⟩
def aiy{n:Nat}{o:List aB}{κ j:aB}(h:fresh n o j)(a:some κ≠some j):fresh n (κ::o) j:=by simp only[fresh,gJ,not_or]at h⊢;exact⟨h.1,fun e=>a (by rw[e]),h.2⟩
def Rk{P:cI}{aT:List (Nat×ev)}(M:h1 P aT=true){C:fq}{q:Bool}{n0:Nat}{i:eV}{o:Oper}(ar:wF C.N aT i o=true){A:dE}{x:lL}(j:e1 P q n0 i A x){a:Act}{w:World}(B:yG C A a w)
  {K:Act->World->Prop} {Q:Exit->Act->World->Prop} (G:∀br w',yG C (A.do x) br w'->K br w'):o.wp P a w K Q:=by
 obtain⟨st,ν,g,E,B⟩:=B;have za:∀(t:List (Nat×af)) (b:List (aB×List af)) (e:List (aB×dW)) (d:be Nat) (p:af) (bw:List (aB×List af)) (ew:List (aB×dW)),∀k,(A.do ⟨d,p,bw,ew,none⟩).F k->fresh st.n st.o k:=fun t b e d p bw ew k ab=>E k ab.1;have S:∀(d:be Nat) (p:af) (bw:List (aB×List af)) (ew:List (aB×dW)) (κ:aB),∀k,(A.do ⟨d,p,bw,ew,some κ⟩).F k->fresh st.n (κ::st.o) k:=fun d p bw ew κ k ab=>aiy (E k ab.1) ab.2;cases i with
 |s i=>
  have H:FL C.N aT i o=true:=by simpa only[wF]using ar
  cases i with
  |v d i=>simp only[e1]at j;obtain⟨c,p,J,U,_,rfl⟩:=j;rw[<-acm g]at J;refine kB (κ:= .loc 0) (n':=0) (o₁:=[]) M B H (fun h=>by simp[eY.makes]at h) (fun h=>by simp[eY.makes]at h) (st':={st with t:=put d p st.t}) (by simp only[fo,J]) U fun br w' bo l=>G _ _ ⟨_,bo,Oh g d p,fun k ab=>E k ab.1,l⟩
  |box d key v=>
   cases key with
   |some m=>simp only[e1]at j
   |none=>simp only[e1]at j;obtain⟨⟨J,_⟩,U,rfl⟩:=j;rw[<-jK g]at U;refine kB (κ:= .loc (n0+d)) (n':=st.n) (o₁:= .loc (n0+d)::st.o) M B H (fun _=>E _ J) (fun _=>xf) (st':=⟨put d (.ptr (.loc (n0+d)) 0) st.t,cK (.loc (n0+d)) (cells (cF st.t v)) st.b,st.e,st.n,.loc (n0+d)::st.o⟩) (by simp only[fo]) U fun br w' bo l=>G _ _ ⟨_,bo,?_,S _ _ _ _ _,l⟩;rw[jK g];exact B3 g d _ _ _ _ _ _
  |alloc d key z=>
   cases key with
   |some m=>simp only[e1]at j
   |none=>simp only[e1]at j;obtain⟨⟨J,_⟩,rfl⟩:=j;refine kB (κ:= .loc (n0+d)) (n':=st.n) (o₁:= .loc (n0+d)::st.o) M B H (fun _=>E _ J) (fun _=>xf) (st':=⟨put d (.ptr (.loc (n0+d)) 0) st.t,cK (.loc (n0+d)) (cells z) st.b,st.e,st.n,.loc (n0+d)::st.o⟩) (by simp only[fo]) trivial fun br w' bo l=>G _ _ ⟨_,bo,B3 g d _ _ _ _ _ _,S _ _ _ _ _,l⟩
  |store sz u v=>simp only[e1]at j;obtain⟨k,off,cs,J,U,F,rfl⟩:=j;rw[<-jK g]at J F;rw[<-g.b]at U;refine kB (κ:= .loc 0) (n':=0) (o₁:=[]) M B H (fun h=>by simp[eY.makes]at h) (fun h=>by simp[eY.makes]at h) (st':={st with b:=cK k (nB cs off (cells (cF st.t v))) st.b}) (by simp only[fo,J,U]) F fun br w' bo l=>G _ _ ⟨{st with b:=cK k (nB cs off (cells (cF st.t v))) st.b},bo,by rw[jK g];exact IG g k _ _,fun k ab=>E k ab.1,l⟩
  |bsl d sz el xs=>simp only[e1]at j;obtain⟨⟨J,_⟩,U,rfl⟩:=j;rw[<-vN g]at U;refine kB (κ:= .loc (n0+d)) (n':=st.n) (o₁:= .loc (n0+d)::st.o) M B H (fun _=>E _ J) (fun _=>xf) (st':=⟨put d (.slice sz (.own (.loc (n0+d))) (xs.map (cF st.t))) st.t,st.b,cK (.loc (n0+d)) ⟨xs.length,el,sz,none⟩ st.e,st.n,.loc (n0+d)::st.o⟩) (by simp only[fo]) U fun br w' bo l=>G _ _ ⟨_,bo,?_,S _ _ _ _ _,l⟩;rw[vN g];exact xW g d _ _ _ _ _ _
  |app d sz el u v=>
   simp only[e1]at j;obtain⟨tag,xs,l2,ys,J,U,j⟩:=j;rw[<-jK g]at J U;rcases j with⟨k,ow,rfl,F,O,rfl⟩|⟨rfl,F,⟨O,_⟩,rfl⟩
   ·rw[<-g.e]at F;refine kB (κ:= .loc 0) (n':=0) (o₁:=[]) M B H (fun h=>by simp[eY.makes,J]at h) (fun h=>by simp[eY.makes,J]at h) (st':=⟨put d (.slice sz (.own k) (xs++ys)) st.t,st.b,cK k ⟨xs.length+ys.length,el,sz,none⟩ st.e,st.n,st.o⟩) (by simp only[fo,J,U,F,and_self,if_true]) O.2 fun br w' bo l=>G _ _ ⟨_,bo,xW g d _ _ _ _ _ _,fun k ab=>E k ab.1,l⟩
   ·refine kB (κ:= .loc (n0+d)) (n':=st.n) (o₁:= .loc (n0+d)::st.o) M B H (fun _=>E _ O) (fun _=>xf) (st':=⟨put d (.slice sz (.own (.loc (n0+d))) ys) st.t,st.b,cK (.loc (n0+d)) ⟨ys.length,el,sz,none⟩ st.e,st.n,.loc (n0+d)::st.o⟩) (by simp only[fo,J,U,and_self,if_true]) F fun br w' bo l=>G _ _ ⟨_,bo,xW g d _ _ _ _ _ _,S _ _ _ _ _,l⟩
  |bslm d key sz el xs=>simp only[e1]at j
  |mks d key sz el z x=>simp only[e1]at j
  |appm d key sz el u v=>simp only[e1]at j;obtain⟨k,n,xs,l2,ys,J,U,F,O,rfl⟩:=j;rw[<-jK g]at J U;rw[<-g.e]at F;refine kB (κ:= .loc 0) (n':=0) (o₁:=[]) M B H (fun h=>by simp[eY.makes,J]at h) (fun h=>by simp[eY.makes,J]at h) (st':=⟨put d (.row sz k (xs.length+ys.length)) st.t,st.b,cK k ⟨xs.length+ys.length,el,sz,some (xs++ys)⟩ st.e,st.n,st.o⟩) (by simp only[fo,ur,J,U,F,and_self,if_true]) O fun br w' bo l=>G _ _ ⟨_,bo,xW g d _ _ _ _ _ _,fun k ab=>E k ab.1,l⟩
  |storeE sz u v=>simp only[e1]at j;obtain⟨k,n,i,f,el,ee,xs,q,J,U,F,O,rfl⟩:=j;rw[<-jK g]at J O;rw[<-g.e]at U;refine kB (κ:= .loc 0) (n':=0) (o₁:=[]) M B H (fun h=>by simp[eY.makes]at h) (fun h=>by simp[eY.makes]at h) (st':={st with e:=cK k ⟨n,el,ee,some (xs.set i (od q f (cells (cF st.t v))))⟩ st.e}) (by simp only[fo,sE,J,U,F,and_self,if_true]) O fun br w' bo l=>G _ _ ⟨{st with e:=cK k ⟨n,el,ee,some (xs.set i (od q f (cells (cF st.t v))))⟩ st.e},bo,by rw[jK g];exact Yh g k _ _,fun k ab=>E k ab.1,l⟩
  |mkmap d key=>
   cases key with
   |none=>simp only[e1]at j
   |some m=>simp only[e1]at j;obtain⟨⟨J,_⟩,rfl⟩:=j;exact kB (κ:= .obj m) (n':=st.n) (o₁:= .obj m::st.o) M B H (fun _=>E _ J) (fun _=>xf) (st':=⟨put d (.gmap (.obj m)) st.t,cK (.obj m) [.hdm 0 []] st.b,st.e,st.n,.obj m::st.o⟩) (by simp only[fo]) trivial fun br w' bo l=>G _ _ ⟨_,bo,B3 g d _ _ _ _ _ _,S _ _ _ _ _,l⟩
  |mput cA u k v=>simp only[e1]at j;obtain⟨m,cs,cs',J,U,F,rfl⟩:=j;rw[<-jK g]at J;rw[<-jK g,<-jK g]at F;rw[<-g.b]at U;exact kB (κ:= .loc 0) (n':=0) (o₁:=[]) M B H (fun h=>by simp[eY.makes]at h) (fun h=>by simp[eY.makes]at h) (st':={st with b:=cK m cs' st.b}) (by simp only[fo,J,U,F]) trivial fun br w' bo l=>G _ _ ⟨{st with b:=cK m cs' st.b},bo,IG g m _ _,fun k ab=>E k ab.1,l⟩
  |range d key x=>simp only[e1]at j
 |next d x=>simp only[e1]at j
 |call d f xs=>
  simp only[e1]at j;obtain⟨n,dH,J,j⟩:=j;rw[<-jK g]at J;rcases j with⟨⟨s,ak,r,rm,X,V,Z,h7,nc,qn,Dt,rfl⟩,_⟩|⟨cU,r,rfl,X,V,Z,rfl⟩;rotate_left
  ·rw[<-vN g]at V Z;simp only[wF]at ar;split at ar
   ·rename_i pN args CZ oG;simp only[cR,ey]at ar;obtain⟨⟨⟨al,aC⟩,bh⟩,b3⟩:=ar;have W:=e4 B bh;rw[J]at W;refine T0 B oG al aC W (FE B b3) (K:=fun st'=>st'={st with t:=put cU r st.t,o:= .loc (n0+cU)::st.o}) ⟨⟨[],[]⟩,_,some (n0+cU),st.n,fun _=>.loc (n0+cU)::st.o,fun k cs ab=>by simp[ae]at ab,fun k cs ab=>by simp[ae]at ab,⟨fun _=>rfl,fun _=>rfl⟩,jl (fun _ h=>h.elim) _ V,Z,fun m hm=>?_,fun k ec ak bM ab=>?_,?_⟩ ?_
    ·cases hm;exact E _ X.1
    ·obtain⟨_,rfl⟩:=bM;have:=xf k ab;exact⟨by simpa[cL]using this.1,fun m hm=>by cases hm;exact this.2⟩
    ·rintro ec p6 ⟨rfl,rfl⟩;refine⟨⟨fun m hm=>by simp[ae]at hm,fun m hm=>by simp[ae]at hm⟩,?_⟩;simp[after,ac6,e6]
    ·rintro st' br w' bo rfl l;exact G _ _ ⟨_,bo,Yi g cU r _ _,S _ _ _ _ _,l⟩
   ·cases ar
  rw[<-vN g]at qn Dt;simp only[wF]at ar;split at ar
  ·rename_i pN args CZ oG;simp only[cR,ey]at ar;obtain⟨⟨⟨al,aC⟩,bh⟩,b3⟩:=ar;have W:=e4 B bh;rw[J]at W;obtain⟨a8,bE,cq,eD,Y⟩:=nc;refine TZ B oG al aC W (FE B b3) (K:=fun st'=>st'=after st s ak d r) (.inl ⟨s,_,fun k cs ab=>⟨by rw[g.b];exact(X k cs ab).1,.inl (by simp[ab]),(X k cs ab).2⟩,fun k o' ab=>⟨by rw[g.e];exact(V k o' ab).1,.inr (by simp[ab]),(V k o' ab).2⟩,Z,qn,Dt,?_⟩) ?_
   ·rintro ec p6 ⟨rfl,rfl⟩;refine⟨⟨fun m hm=>?_,fun m hm=>?_⟩,rfl⟩
    ·rcases a8 _ hm with h|h
     ·exact .inl h
     ·exact .inr (E _ (Y _ h).2.1).2
    ·rcases bE _ hm with h|h
     ·exact .inl h
     ·exact .inr (E _ (Y _ h).2.1).2
   ·rintro st' br w' bo rfl l;refine G _ _ ⟨_,bo,⟨fun i=>?_,fun k=>?_,fun k=>?_⟩,fun k ab=>?_,l⟩
    ·simp only[after,dE.do];cases d with
     |none=>simpa[e6]using g.t i
     |some d=>simp only[e6,qw,dU,g.t]
    ·simp only[after,dE.do,jw,n4,tF];by_cases L:(ae k s.b).isSome
     ·have:=cq k L;obtain⟨y,R⟩:=fx.1 this;simp[L,R]
     ·cases aA:ae k ak.b with
      |none=>simp only[L,g.b];cases A.b k<;>simp
      |some y=>
       rcases a8 k (by simp[aA])with h|h
       ·exact absurd h L
       ·have:=Y k h;simp[L,g.b,this]
    ·simp only[after,dE.do,jw,n4,tF];by_cases L:(ae k s.e).isSome
     ·have:=eD k L;obtain⟨y,R⟩:=fx.1 this;simp[L,R]
     ·cases aA:ae k ak.e with
      |none=>simp only[L,g.e];cases A.e k<;>simp
      |some y=>
       rcases bE k (by simp[aA])with h|h
       ·exact absurd h L
       ·have:=Y k h;simp[L,g.e,this]
    ·have MV:=E k ab.1;have nS:=B.lookNone MV;simp only[after];refine⟨MV.1,fun N=>?_⟩;rcases kg.1 N with N|N
     ·exact MV.2 N
     ·rcases kg.1 N with N|N
      ·rcases a8 k (OA N)with h|h
       ·obtain⟨y,R⟩:=fx.1 h;have:=(X k y R).1;rw[<-g.b,nS.1]at this;cases this
       ·exact ab.2 h
      ·rcases bE k (OA N)with h|h
       ·obtain⟨y,R⟩:=fx.1 h;have:=(V k y R).1;rw[<-g.e,nS.2]at this;cases this
       ·exact ab.2 h
  ·cases ar
def adq{P:cI}{aT:List (Nat×ev)}(B:h1 P aT=true){C:fq}{q:Bool}{n0:Nat}{ops:Array Oper}{g:du}{o:Oper}{j:Nat}(N:ops[j]? =some o)(ar:DY C.N aT ops.toList g o=true){A:dE}{x:lL}(c:lM P q n0 g A x){a:Act}{w:World}(v:yG C A a w)
  {K:Act->World->Prop} {Q:Exit->Act->World->Prop} (r:∀br w',yG C (A.do x) br w'->K br w'):wpOp P ops Q j K a w:=by
 unfold wpOp;rw[N];simp only;simp only[DY,cR]at ar;obtain⟨m,y⟩:=ar;unfold lM at c;cases l:g.g with
 |none=>
  cases e:o.guard with
  |some x=>simp[e,l]at m
  |none=>
   have hw:qd o (yielded ops a.tmps)=true:=by simp[qd,e]
   rw[if_pos hw];simp only[l]at c;exact .inl (Rk B y c v r)
 |some R=>
  obtain⟨s,want⟩:=R;cases e:o.guard with
  |none=>simp[e,l]at m
  |some t=>
   obtain⟨L,b2⟩:=t;simp only[e,l,cR,ey,gz]at m;obtain⟨⟨⟨⟨rfl,U⟩,M⟩,O⟩,J⟩:=m;obtain⟨st,ν,f,H,z⟩:=id v;obtain⟨G,F⟩:=ade z U M;simp only[l]at c;have E:∀(h:x=mq g.i.dst),K (a.put o.dst undef) w:=by
    rintro rfl;rw[O];refine r _ _ ⟨_,ν,?_,fun k ab=>?_,z.put J (p:= .tuple []) (by simp[aU,c7,undef])⟩
    ·refine⟨fun i=>?_,fun k=>?_,fun k=>?_⟩
     ·simp only[dE.do,mq];cases g.i.dst with
      |none=>simpa[e6]using f.t i
      |some d=>simp only[e6,qw,dU,f.t]
     ·simpa[dE.do,jw,ae,mq]using f.b k
     ·simpa[dE.do,jw,ae,mq]using f.e k
    ·exact H k ab.1
   split at c
   ·rename_i b u;have n:=G b (by rw[f.t];exact u);rcases c with⟨rfl,c⟩|⟨rfl,c⟩
    ·have hw:qd o (yielded ops a.tmps)=true:=by simp[qd,e,n]
     rw[if_pos hw];exact .inl (Rk B y c v r)
    ·have hw:¬(qd o (yielded ops a.tmps)=true):=by simp[qd,e,n]
     rw[if_neg hw];exact E c
   ·rename_i u;have n:=F (by rw[f.t];exact u);have hw:¬(qd o (yielded ops a.tmps)=true):=by simp[qd,e,n]
    rw[if_neg hw];exact E c
   ·exact c.elim
def w8(P:cI)(q:Bool)(n0:Nat)(K:dE->Prop):List (Nat×du)->dE->Prop
 |[],A=>K A
 |(_,g)::r,A=> ∃x,lM P q n0 g A x/\w8 P q n0 K r (A.do x)
def RT{P:cI}{q:Bool}{n0:Nat}{K:dE->Prop}{i:Nat}{g:du}:∀(b a:List (Nat×du)) (A:dE),(∀x∈b,Bg x.2 g=true)->w8 P q n0 K (b++(i,g)::a) A->∃x,lM P q n0 g A x/\w8 P q n0 K (b++a) (A.do x)
 |[],a,A,_,h=>h
 |(j,f)::b,a,A,aw,h=>by simp only[b6,w8]at h;obtain⟨y,e,h⟩:=h;obtain⟨x,d,h⟩:=RT b a (A.do y) (fun z c=>aw z (qf _ c)) h;obtain⟨s1,s2,s3⟩:=swap (aw _ (List.mem_cons_self ..)) e d;refine⟨x,s1,y,s2,?_⟩;rw[<-dE.do_comm A s3];exact h
def rem(a:Array Bool):Nat->List du->List (Nat×du)
 |_,[]=>[]
 |k,g::r=>if a.getD k false then rem a (k+1) r else(k,g)::rem a (k+1) r
def aa7{l a:Array Bool}:∀(gs:List du) (k:Nat),(∀j,k<=j->l.getD j false=a.getD j false)->rem l k gs=rem a k gs
 |[],_,_=>rfl
 |g::r,k,h=>by simp only[rem,h k (dP _),aa7 r (k+1) fun j b=>h j Ω]
def HA{l:Array Bool}{i j:Nat}(h:i<l.size):(l.setIfInBounds i true).getD j false=if i=j then true else l.getD j false:=by
 simp only[Array.getD_eq_getD_getElem?];by_cases e:i=j
 ·subst e;simp[h]
 ·simp[e]
def PW{l:Array Bool}{i:Nat}(hi:i<l.size)(q:l.getD i false=false):∀(gs:List du) (k:Nat),k<=i->i<k+gs.length->∃b c g,gs[i-k]? =some g/\rem l k gs=b++(i,g)::c/\rem (l.setIfInBounds i true) k gs=b++c/\
  ∀x∈b,gs[x.1-k]? =some x.2/\k<=x.1/\x.1<i/\l.getD x.1 false=false
 |[],k,J,U=>by simp at U;omega
 |g::r,k,J,U=>by
  by_cases e:k=i
  ·subst e;refine⟨[],rem l (k+1) r,g,Ψ,by simp[rem,q],?_,fun x a=>by simp at a⟩;simp only[rem,HA hi,if_true,ca];exact aa7 r (k+1) fun j s=>by rw[HA hi,if_neg Ω]
  ·obtain⟨b,c,h,o,p,m,n⟩:=PW hi q r (k+1) Ω (by simp at U;omega);have d:i-k=(i-(k+1))+1:=Ω
   have f:(l.setIfInBounds i true).getD k false=l.getD k false:=by rw[HA hi,if_neg Ω]
   by_cases ab:l.getD k false=true
   ·refine⟨b,c,h,by rw[d];simpa using o,by simp only[rem,ab,if_true,p],by simp only[rem,f,ab,if_true,m],fun x a=>?_⟩;obtain⟨f1,f2,f3,f4⟩:=n x a;refine⟨?_,Ω,f3,f4⟩;have:x.1-k=(x.1-(k+1))+1:=Ω
    rw[this];simpa using f1
   ·have ab:l.getD k false=false:=by simpa using ab
    refine⟨(k,g)::b,c,h,by rw[d];simpa using o,by simp[rem,ab,p],by simp[rem,f,ab,m],fun x a=>?_⟩;rcases gJ.1 a with rfl|a
    ·exact⟨Ψ,dP _,by simp;omega,ab⟩
    ·obtain⟨f1,f2,f3,f4⟩:=n x a;refine⟨?_,Ω,f3,f4⟩;have:x.1-k=(x.1-(k+1))+1:=Ω
     rw[this];simpa using f1
def wz(acc:List Nat):List Edge->Nat
 |[]=>0
 |e::r=>if Region.binds .any e then(2 ^ e.on)|||(acc.getD e.on 0)|||wz acc r else wz acc r
def tH(acc:List Nat):List Oper->List Nat
 |[]=>acc
 |o::os=>tH (acc++[wz acc o.after.toList]) os
def FG(m:Nat)(h:du):Nat->List du->Bool
 |_,[]=>true
 |i,g::r=>(m.testBit i||Bg g h)&&FG m h (i+1) r
def Fs:List du->List du->List Nat->Bool
 |_,[],_=>true
 |pre,h::r,m::ms=>FG m h 0 pre&&Fs (pre++[h]) r ms
 |_,_,[]=>false
def DD:Nat->List Oper->Bool
 |_,[]=>true
 |k,o::os=>o.after.toList.all (fun e=> !Region.binds .any e||decide (e.on<k))&&DD (k+1) os
def Dl(gs:List du)(ops:List Oper):Bool:=DD 0 ops&&Fs [] gs (tH [] ops)
def Ot{acc:List Nat}{j:Nat}:∀{es:List Edge},(wz acc es).testBit j=true->∃e∈es,Region.binds .any e=true/\(j=e.on\/(acc.getD e.on 0).testBit j=true)
 |[],h=>by simp[wz]at h
 |e::r,h=>by
  simp only[wz]at h;split at h
  ·rename_i b;simp only[Nat.testBit_or,og]at h;rcases h with(h|h)|h
   ·refine⟨e,Ψ,b,.inl ?_⟩;rw[Nat.testBit_two_pow]at h;have c:e.on=j:=by simpa using h
    exact c.symm
   ·exact⟨e,Ψ,b,.inr h⟩
   ·obtain⟨a,J,U⟩:=Ot h;exact⟨a,by simp[J],U⟩
  ·obtain⟨a,J,U⟩:=Ot h;exact⟨a,by simp[J],U⟩
def Ou:∀(os:List Oper) (acc:List Nat) (k:Nat),k<acc.length->(tH acc os)[k]? =acc[k]?
 |[],acc,k,_=>rfl
 |o::os,acc,k,h=>by simp only[tH];rw[Ou os _ k d6,rS h]
def Ys:∀(os:List Oper) (acc:List Nat) (k:Nat) (o:Oper),os[k]? =some o->∃a,(tH acc os)[acc.length+k]? =some (wz a o.after.toList)/\a.length=acc.length+k/\∀i,i<a.length->a[i]? =(tH acc os)[i]?
 |[],acc,k,o,h=>by simp at h
 |o'::os,acc,0,o,h=>by
  simp only[List.getElem?_cons_zero,dU]at h;subst h;refine⟨acc,?_,Ψ,fun i hi=>?_⟩
  ·simp only[tH,Nat.add_zero];rw[Ou os _ _ Ψ];simp
  ·simp only[tH];rw[Ou os _ i d6,rS hi]
 |o'::os,acc,k+1,o,h=>by simp only[List.getElem?_cons_succ]at h;obtain⟨a,J,U,b⟩:=Ys os (acc++[wz acc o'.after.toList]) k o h;refine⟨a,?_,by rw[U];simp;omega,fun i hi=>by rw[b i hi];rfl⟩;simp only[tH];rw[show acc.length+(k+1)=(acc++[wz acc o'.after.toList]).length+k from by simp;omega];exact J
def Rh(ops:Array Oper)(a:Array Bool):Prop:= ∀k o,ops[k]? =some o->a.getD k false=true->∀e∈o.after.toList,Region.binds .any e=true->a.getD e.on false=true
def amz{ops:Array Oper}{b:Array Bool}(r:Rh ops b):∀(k:Nat) (o:Oper),ops[k]? =some o->(∀e∈o.after.toList,Region.binds .any e=true->b.getD e.on false=true)->∀j,((tH [] ops.toList).getD k 0).testBit j=true->b.getD j false=true:=by
 intro k;induction k using Nat.strongRecOn with
 |_ k p=>
  intro o ar f j g;obtain⟨c,J,U,q⟩:=Ys ops.toList [] k o (by simpa using ar);simp only[List.length_nil,Nat.zero_add]at J U;rw[List.getD_eq_getElem?_getD,J]at g;obtain⟨e,he,h,a⟩:=Ot g;rcases a with rfl|a
  ·exact f e he h
  ·by_cases n:e.on<c.length
   ·have hm:c.getD e.on 0=(tH [] ops.toList).getD e.on 0:=by rw[List.getD_eq_getElem?_getD,q _ n,List.getD_eq_getElem?_getD]
    have ab:k<ops.size:=(Array.getElem?_eq_some_iff.1 ar).1;have d:ops[e.on]? =some ops[e.on]:=Array.getElem?_eq_getElem Ω;rw[hm]at a;exact p e.on Ω _ d (fun l i m=>r e.on _ d (f e he h) l i m) j a
   ·rw[List.getD_eq_getElem?_getD,q3 Ω]at a;simp at a
def abn{m:Nat}{h:du}:∀{gs:List du} {i0:Nat},FG m h i0 gs=true->∀i g,gs[i]? =some g->m.testBit (i0+i)=true\/Bg g h=true
 |[],i0,_,i,g,a7=>by simp at a7
 |b::r,i0,a,0,g,a7=>by simp only[FG,cR,og]at a;simp only[List.getElem?_cons_zero,dU]at a7;subst a7;simpa using a.1
 |b::r,i0,a,i+1,g,a7=>by simp only[FG,cR]at a;have:=abn a.2 i g (by simpa using a7);rwa[show i0+1+i=i0+(i+1)from by omega]at this
def ZN:∀{gs pre:List du} {ms:List Nat},Fs pre gs ms=true->∀j h,gs[j]? =some h->∀i g,i<pre.length+j->(pre++gs)[i]? =some g->(ms.getD j 0).testBit i=true\/Bg g h=true
 |[],pre,ms,_,j,h,a,_,_,_,_=>by simp at a
 |c::r,pre,[],b,j,h,a,_,_,_,_=>by simp[Fs]at b
 |c::r,pre,m::ms,b,j,h,a,i,g,hi,a7=>by
  simp only[Fs,cR]at b;cases j with
  |zero=>simp only[List.getElem?_cons_zero,dU]at a;subst a;rw[rS Ω]at a7;simpa using abn b.1 i g a7
  |succ j=>have:=ZN b.2 j h (by simpa using a) i g d6 (by simpa using a7);simpa using this
def Ux:∀{os:List Oper} {k:Nat},DD k os=true->∀i o,os[i]? =some o->∀e∈o.after.toList,Region.binds .any e=true->e.on<k+i
 |[],k,_,i,o,ar,_,_,_=>by simp at ar
 |o'::os,k,h,0,o,ar,e,he,a=>by simp only[DD,cR,j7]at h;simp only[List.getElem?_cons_zero,dU]at ar;subst ar;have:=h.1 e he;simpa[a]using this
 |o'::os,k,h,i+1,o,ar,e,he,a=>by simp only[DD,cR]at h;have:=Ux h.2 i o (by simpa using ar) e he a;omega
def V0{N:Nat}{aT:List (Nat×ev)}{ops:List Oper}:∀{gs:List du} {os:List Oper},lb N aT ops gs os=true->∀(i:Nat) (g:du),gs[i]? =some g->∃o,os[i]? =some o/\DY N aT ops g o=true
 |[],[],_,i,g,h=>by simp at h
 |[],_::_,h,_,_,_=>by simp[lb]at h
 |_::_,[],h,_,_,_=>by simp[lb]at h
 |a::gs,o::os,h,0,g,a7=>by simp only[lb,cR]at h;simp only[List.getElem?_cons_zero,dU]at a7;subst a7;exact⟨o,Ψ,h.1⟩
 |a::gs,o::os,h,i+1,g,a7=>by simp only[lb,cR]at h;obtain⟨o',J,U⟩:=V0 h.2 i g (by simpa using a7);exact⟨o',by simpa using J,U⟩
def Mx{N:Nat}{aT:List (Nat×ev)}{ops:List Oper}:∀{gs:List du} {os:List Oper},lb N aT ops gs os=true->gs.length=os.length
 |[],[],_=>rfl
 |[],_::_,h=>by simp[lb]at h
 |_::_,[],h=>by simp[lb]at h
 |g::gs,o::os,h=>by simp only[lb,cR]at h;simp[Mx h.2]
def aa8{l:Array Bool}:∀(gs:List du) (k:Nat),rem l k gs=[]\/ ∃i g,i<gs.length/\gs[i]? =some g/\l.getD (k+i) false=false/\∀j,j<i->l.getD (k+j) false=true
 |[],_=>.inl rfl
 |g::r,k=>by
  by_cases h:l.getD k false=true
  ·rcases aa8 (l:=l) r (k+1)with J|⟨i,a,J,U,b,d⟩
   ·left;simp only[rem,h,if_true,J]
   ·refine .inr ⟨i+1,a,by simp;omega,by simpa using U,by rw[show k+(i+1)=k+1+i from by omega];exact b,fun j c=>?_⟩;cases j with
    |zero=>simpa using h
    |succ j=>rw[show k+(j+1)=k+1+j from by omega];exact d j Ω
  ·exact .inr ⟨0,g,Ψ,Ψ,by simpa using h,fun j c=>Ω⟩
def adR{P:cI}{aT:List (Nat×ev)}(aJ:h1 P aT=true){C:fq}{q:Bool}{n0:Nat}{ops:Array Oper}{gs:List du}(H:lb C.N aT ops.toList gs ops.toList=true)(S:Dl gs ops.toList=true){K:dE->Prop}{Q:Exit->Act->World->Prop}
  (V:∀A a w,K A->yG C A a w->Q .normal a w):∀(fuel:Nat) (b:Array Bool) (A:dE) (a:Act) (w:World),b.size=ops.size->Rh ops b->(rem b 0 gs).length<=fuel->w8 P q n0 K (rem b 0 gs) A->yG C A a w->wpAny P .any ops Q fuel b a w:=by
 simp only[Dl,cR]at S;obtain⟨MI,t⟩:=S;have hlen:gs.length=ops.size:=by simpa using Mx H
 have R:∀(b:Array Bool) (A:dE) (a:Act) (w:World),b.size=ops.size->w8 P q n0 K (rem b 0 gs) A->yG C A a w->Region.ready .any ops b=[]->Q .normal a w:=by
  intro b A a w m d j p;rcases aa8 (l:=b) gs 0 with h|⟨i,g,J,U,c,Z⟩
  ·rw[h]at d;exact V A a w d j
  ·exfalso;have hi:i<ops.size:=Ω
   have L:i∈Region.ready .any ops b:=by
    unfold Region.ready;simp only[oW,List.mem_range,cR,sN];refine⟨hi,?_,?_⟩
    ·rw[Nat.zero_add]at c;simp only[Array.getD_eq_getD_getElem?]at c⊢;rw[Array.getElem?_eq_getElem Ω]at c⊢;simpa using c
    ·rw[Array.getElem?_eq_getElem hi];simp only[pB,lJ];rw[<-Array.all_toList,j7];intro e he;by_cases f:Region.binds .any e=true
     ·have bP:=Ux MI i ops[i] (by simp[hi]) e he f;have:=Z e.on Ω;rw[Nat.zero_add]at this;simp[this]
     ·simp[f]
   rw[p]at L;simp at L
 intro fuel;induction fuel with
 |zero=>
  intro b A a w m v z d j;have HX:rem b 0 gs=[]:=List.eq_nil_of_length_eq_zero Ω;have p:Region.ready .any ops b=[]:=by
   rw[List.eq_nil_iff_forall_not_mem];intro i hi;unfold Region.ready at hi;simp only[oW,List.mem_range,cR,sN]at hi;obtain⟨J,U,_⟩:=hi;have B:b.getD i false=false:=by simp only[Array.getD_eq_getD_getElem?]at U⊢;rw[Array.getElem?_eq_getElem Ω]at U⊢;simpa using U
   obtain⟨G,F,g,_,n,_⟩:=PW Ω B gs 0 Ω Ω;rw[HX]at n;simp at n
  exact⟨p,R b A a w m d j p⟩
 |succ fuel X=>
  intro b A a w m v z d j;refine⟨R b A a w m d j,fun i hi=>?_⟩;unfold Region.ready at hi;simp only[oW,List.mem_range,cR,sN]at hi;obtain⟨J,U,c⟩:=hi;have B:b.getD i false=false:=by simp only[Array.getD_eq_getD_getElem?]at U⊢;rw[Array.getElem?_eq_getElem Ω]at U⊢;simpa using U
  have ar:ops[i]? =some ops[i]:=Array.getElem?_eq_getElem J;have O:∀e∈ops[i].after.toList,Region.binds .any e=true->b.getD e.on false=true:=by rw[ar]at c;simp only[pB,lJ]at c;rw[<-Array.all_toList,j7]at c;intro e he f;simpa[f]using c e he
  obtain⟨G,F,g,s,n,M,N⟩:=PW Ω B gs 0 Ω Ω;simp only[Nat.sub_zero]at s N;rw[n]at d;obtain⟨x,Y,u⟩:=RT G F A (fun y aK=>by
   obtain⟨f1,f2,f3,f4⟩:=N y aK;rcases ZN t i g s y.1 y.2 (by simpa using f3) (by simpa using f1)with h|h
   ·have:=amz v i ops[i] ar O y.1 h;rw[f4]at this;cases this
   ·exact h) d
  obtain⟨o',g1,g2⟩:=V0 H i g s;have:o'=ops[i]:=by rw[vn,ar]at g1;exact(e7 g1).symm
  subst this;refine adq aJ ar g2 Y j fun br w' W=>?_;refine X (b.setIfInBounds i true) (A.do x) br w' (by simpa using m) ?_ ?_ (by rw[M];exact u) W
  ·intro k o ab r e he f;rw[HA Ω]at r⊢;split
   ·rfl
   ·by_cases E:i=k
    ·subst E;rw[ar]at ab;cases ab;exact O e he f
    ·rw[if_neg E]at r;exact v k o ab r e he f
  ·rw[M];rw[n]at z;simp at z⊢;omega
def qv(n0 d:Nat)(st:bp):Prop:= .loc (n0+d)∉st.o/\ae (.loc (n0+d)) st.b=none/\ae (.loc (n0+d)) st.e=none
def gR.loadO(q:Bool)(t:List (Nat×af)):gR->Prop
 | .load _ _ x=>q=true\/zE (cF t x)=true
 | .loadB _ _ _=>True
 | .mgetB _ _ _ _ _=>True
 | .mget _ _ _ _ _=>q=true
 | .ment _=>q=true
 | .mlen _=>q=true
 |_=>True
def ng(q:Bool)(nw:List Nat)(n0:Nat)(st:bp):eY->Prop
 | .v _ i=>i.loadO q st.t
 | .box d none _=>qv n0 d st
 | .alloc d none _=>qv n0 d st
 | .box _ (some _) _=>er
 | .alloc _ (some _) _=>er
 | .store _ x _=>match cF st.t x with| .ptr _ _=>True|_=>er
 | .bslm _ _ _ _ _=>er
 | .mks _ _ _ _ _ _=>er
 | .appm _ _ _ _ x _=>match cF st.t x with| .row _ _ _=>True|_=>er
 | .storeE _ _ _=>True
 | .mkmap _ none=>er
 | .mkmap _ (some m)=>m∈nw/\ae (.obj m) st.b=none/\ae (.obj m) st.e=none
 | .mput _ _ _ _=>True
 | .range _ _ _=>er
 | .bsl d _ _ _=>qv n0 d st
 | .app d _ _ x _=>match cF st.t x with
  | .slice _ .nil _=>qv n0 d st
  | .slice _ (.own k) _=>(ae k st.e).bind (·.xs)=none
  |_=>True
def qo(n0:Nat):eY->aB
 | .mkmap _ (some m)=>.obj m
 | .v d _| .box d _ _| .alloc d _ _| .bsl d _ _ _| .app d _ _ _ _| .bslm d _ _ _ _| .appm d _ _ _ _ _| .mkmap d _| .range d _ _| .mks d _ _ _ _ _=>.loc (n0+d)
 | .store _ _ _| .mput _ _ _ _| .storeE _ _ _=>.loc n0
def al4(nw:List Nat)(st:bp)(s a:cT)(rm:be aB):Prop:=(∀k,(ae k a.b).isSome->(ae k s.b).isSome\/rm=some k)/\(∀k,(ae k a.e).isSome->(ae k s.e).isSome\/rm=some k)/\(∀k,(ae k s.b).isSome->(ae k a.b).isSome)/\(∀k,(ae k s.e).isSome->(ae k a.e).isSome)/\
 (∀k,rm=some k->(∃j,j∈nw/\k= .obj j)/\ae k st.b=none/\ae k st.e=none/\((ae k a.b).isSome\/(ae k a.e).isSome))
def hM(P:cI)(q:Bool)(nw:List Nat)(n:Nat)(args:List af)(st:bp)(d:be Nat)(K:bp->Prop):Prop:=
 (∃cU r,d=some cU/\qv st.n cU st/\aH (fun _=>er) args/\uh P n (st.n+cU) args ⟨[],[]⟩ (fun b t'=>b=r/\t'=⟨[],[]⟩)/\K {st with t:=put cU r st.t,o:= .loc (st.n+cU)::st.o})\/
 ∃s a r rm,hC (aM s) s.b st.b/\p9 (aM s) s.e st.e/\h0 s/\h0 a/\al4 nw st s a rm/\aH (aM s) args/\bH P n args s (fun b t'=>b=r/\t'=a)/\(q=true->a.b=[]/\a.e=[])/\K {after st s a d r with o:=st.o}
def la(P:cI)(q:Bool)(nw:List Nat)(n0:Nat)(st:bp)(K:bp->Prop):eV->Prop
 | .s i=>match fo (qo n0 i) st.n (qo n0 i::st.o) st i with
  |some (c,st')=>ng q nw n0 st i/\c/\K st'
  |none=>er
 | .call d f xs=>match cF st.t f with
  | .func n dH=>hM P q nw n (cf (xs.map (cF st.t)++dH)) st d K
  |_=>er
 | .next _ _=>er
def iT(P:cI)(q:Bool)(nw:List Nat)(n0:Nat):List du->bp->(bp->Prop)->Prop
 |[],st,K=>K st
 |⟨none,i⟩::r,st,K=>la P q nw n0 st (fun st'=>iT P q nw n0 r st' K) i
 |⟨some (s,want),i⟩::r,st,K=>match get s st.t with
  | .bool b=>(b=want->la P q nw n0 {st with t:=put s (.bool want) st.t} (fun st'=>iT P q nw n0 r st' K) i)/\(b= !want->iT P q nw n0 r {st with t:=e6 i.dst (.tuple []) (put s (.bool !want) st.t)} K)
  | .tuple []=>iT P q nw n0 r {st with t:=e6 i.dst (.tuple []) st.t} K
  |_=>er
structure ug (nw:List Nat) (n0 N:Nat) (qP:List aB) (st:bp) (A:dE):Prop where
 like:my st A
 n:st.n=n0
 F:∀k,fresh n0 st.o k->(∀j∈nw,k≠ .obj j)->A.F k
 o:∀k∈st.o,k∈qP\/(∃d,d<N/\k= .loc (n0+d))\/ ∃j∈nw,k= .obj j
def De(nw:List Nat)(A:dE):Prop:= ∀j∈nw,A.b (.obj j)=none->A.e (.obj j)=none->A.F (.obj j)
def De.do{P:cI}{q:Bool}{n0:Nat}{nw:List Nat}{A:dE}(h:De nw A){g:du}{x:lL}(k:lM P q n0 g A x):De nw (A.do x):=by
 intro j i c he;refine⟨h j i (LI c) (LJ he),fun f=>?_⟩;rcases(QO k).r _ f with⟨d,_,e⟩|⟨_,_,a⟩
 ·cases e
 ·rcases a with a|a
  ·obtain⟨y,b⟩:=fx.1 a;simp[dE.do,jw,b]at c
  ·obtain⟨y,b⟩:=fx.1 a;simp[dE.do,jw,b]at he
def UH{P:cI}{q:Bool}{nw:List Nat}{n0 N:Nat}{qP:List aB}{i:eV}(E:∀d,i.dst=some d->d<N){st:bp}{A:dE}(h:ug nw n0 N qP st A)(nh:De nw A){K:bp->Prop}(he:la P q nw n0 st K i):∃x st',e1 P q n0 i A x/\K st'/\ug nw n0 N qP st' (A.do x):=by
 have a:=h.like;have O:∀d,qv n0 d st->(A.F (.loc (n0+d))/\A.b (.loc (n0+d))=none/\A.e (.loc (n0+d))=none):=fun d t=>⟨h.F _ ⟨Ψ,t.1⟩ (fun _ _ e=>by cases e),by rw[<-a.b];exact t.2.1,by rw[<-a.e];exact t.2.2⟩;have G:∀(d:be Nat) (p:af) (bw:List (aB×List af)) (ew:List (aB×dW)) (κ:aB),∀k,fresh n0 (κ::st.o) k->(∀j∈nw,k≠ .obj j)->(A.do ⟨d,p,bw,ew,some κ⟩).F k:=fun d p bw ew κ k ab w=>⟨h.F k (xf k ab).1 w,fun e=>(xf k ab).2 (e7 e).symm⟩;have F:∀(d:be Nat) (p:af) (bw:List (aB×List af)) (ew:List (aB×dW)),∀k,fresh n0 st.o k->(∀j∈nw,k≠ .obj j)->(A.do ⟨d,p,bw,ew,none⟩).F k:=fun d p bw ew k ab w=>⟨h.F k ab w,Ψ⟩;have Q:∀d,d<N->∀k∈aB.loc (n0+d)::st.o,k∈qP\/(∃d,d<N/\k= .loc (n0+d))\/ ∃j∈nw,k= .obj j:=fun d E k ab=>by
  rcases gJ.1 ab with rfl|ab
  ·exact .inr (.inl ⟨d,E,rfl⟩)
  ·exact h.o k ab
 cases i with
 |s i=>
  cases i with
  |v d i=>
   simp only[la,fo]at he;cases g:h2 st i with
   |none=>simp[g]at he
   |some LF=>
    obtain⟨c,p⟩:=LF;simp only[g]at he;obtain⟨J,U,b⟩:=he;refine⟨⟨some d,p,[],[],none⟩,_,⟨c,p,by rw[<-acm a];exact g,U,fun pa=>?_,rfl⟩,b,Oh a d p,h.n,F _ _ _ _,h.o⟩;cases i<;>simp only[gR.isLoad]at pa<;>try(cases pa;done)
    case mget=>exact .inr (.inl J)
    case ment=>exact .inr (.inl J)
    case mlen=>exact .inr (.inl J)
    case loadB=>exact .inl rfl
    case mgetB=>exact .inl rfl
    simp only[ng,gR.loadO,jK a]at J;exact .inr (by simpa only[gR.ptrOf]using J)
  |box d key v=>
   cases key with
   |some m=>simp only[la,fo,ng,false_and]at he
   |none=>simp only[la,fo,ng,qo]at he;obtain⟨J,U,b⟩:=he;rw[jK a]at U;refine⟨_,_,⟨O d J,U,rfl⟩,b,?_,h.n,G _ _ _ _ _,Q d (E d rfl)⟩;rw[jK a];exact B3 a d _ _ _ _ _ _
  |alloc d key z=>
   cases key with
   |some m=>simp only[la,fo,ng,false_and]at he
   |none=>simp only[la,fo,ng,qo]at he;obtain⟨J,U,b⟩:=he;exact⟨_,_,⟨O d J,rfl⟩,b,B3 a d _ _ _ _ _ _,h.n,G _ _ _ _ _,Q d (E d rfl)⟩
  |store sz u v=>
   simp only[la,fo]at he;cases hu:cF st.t u with
   |ptr k off=>
    cases B:ae k st.b with
    |none=>simp[hu,B]at he
    |some cs=>simp only[hu,B]at he;obtain⟨J,U,b⟩:=he;rw[jK a]at U hu;refine⟨⟨none,.junk,[(k,nB cs off (cells (dY A.t v)))],[],none⟩,_,⟨k,off,cs,hu,by rw[<-a.b];exact B,U,rfl⟩,b,?_,h.n,F _ _ _ _,h.o⟩;rw[jK a];exact IG a k _ _
   |_=>
    exfalso;simp only[hu]at he;split at he
    ·have:=he.1;simp[ng,hu]at this
    ·exact he
  |bsl d sz el xs=>simp only[la,fo,ng,qo]at he;obtain⟨J,U,b⟩:=he;rw[vN a]at U;refine⟨_,_,⟨O d J,U,rfl⟩,b,?_,h.n,G _ _ _ _ _,Q d (E d rfl)⟩;rw[vN a];exact xW a d _ _ _ _ _ _
  |app d sz el u v=>
   simp only[la,fo]at he;cases hu:cF st.t u with
   |slice H tag xs=>
    cases g:cF st.t v with
    |slice Y X ys=>
     simp only[hu,g]at he;by_cases R:H=sz/\Y=sz
     ·obtain⟨rfl,rfl⟩:=R;rw[jK a]at hu g;cases tag with
      |no=>simp at he
      |tr k j=>simp at he
      |lo k=>simp at he
      |nil=>simp only[and_self,if_true,ng,jK a,hu,qo]at he;obtain⟨J,U,b⟩:=he;exact⟨_,_,⟨.nil,xs,X,ys,hu,g,.inr ⟨rfl,U,O d J,rfl⟩⟩,b,xW a d _ _ _ _ _ _,h.n,G _ _ _ _ _,Q d (E d rfl)⟩
      |own k=>
       cases ab:ae k st.e with
       |none=>simp[ab]at he
       |some o=>simp only[and_self,if_true,ab]at he;obtain⟨J,U,b⟩:=he;exact⟨_,_,⟨.own k,xs,X,ys,hu,g,.inl ⟨k,o,rfl,by rw[<-a.e];exact ab,⟨by simpa[ng,jK a,hu,ab]using J,U⟩,rfl⟩⟩,b,xW a d _ _ _ _ _ _,h.n,F _ _ _ _,h.o⟩
     ·simp[R]at he
    |_=>simp[hu,g]at he
   |_=>simp[hu]at he
  |bslm d key sz el xs=>simp only[la,fo,ng,false_and]at he
  |mks d key sz el z x=>simp only[la,fo,ng,false_and]at he;split at he<;>simp at he
  |appm d key sz el u v=>
   simp only[la,fo]at he;cases hu:cF st.t u with
   |row H k n=>
    cases g:cF st.t v with
    |slice Y X ys=>
     simp only[hu,g,ur]at he;by_cases R:H=sz/\Y=sz
     ·obtain⟨rfl,rfl⟩:=R;rw[jK a]at hu g;simp only[and_self,if_true]at he;cases ab:ae k st.e with
      |none=>simp[ab]at he
      |some o=>
       obtain⟨n',gK,M,Pk⟩:=o;cases Pk with
       |none=>simp[ab]at he
       |some xs=>
        simp only[ab]at he;by_cases L:n'=n/\gK=el/\M=Y
        ·obtain⟨rfl,rfl,rfl⟩:=L;simp only[and_self,if_true]at he;obtain⟨J,U,b⟩:=he;exact⟨_,_,⟨k,n',xs,X,ys,hu,g,by rw[<-a.e];exact ab,U,rfl⟩,b,xW a d _ _ _ _ _ _,h.n,F _ _ _ _,h.o⟩
        ·simp[L]at he
     ·simp[R]at he
    |_=>simp[hu,g,ur]at he
   |slice H tag xs=>
    exfalso;simp only[hu]at he;split at he
    ·have:=he.1;simp[ng,hu]at this
    ·exact he
   |_=>simp[hu,ur]at he
  |storeE sz u v=>
   simp only[la,fo]at he;cases hu:cF st.t u with
   |rptr H k n i f=>
    cases ab:ae k st.e with
    |none=>simp[hu,sE,ab]at he
    |some o=>
     obtain⟨n',el,M,Pk⟩:=o;cases Pk with
     |none=>simp[hu,sE,ab]at he
     |some xs=>
      simp only[hu,sE,ab]at he;by_cases L:n'=n/\M=H
      ·obtain⟨rfl,rfl⟩:=L;simp only[and_self,if_true]at he;cases bM:xs[i]? with
       |none=>simp[bM]at he
       |some q=>simp only[bM]at he;obtain⟨J,U,b⟩:=he;rw[jK a]at U hu;refine⟨⟨none,.junk,[],[(k,⟨n',el,M,some (xs.set i (od q f (cells (dY A.t v))))⟩)],none⟩,_,⟨k,n',i,f,el,M,xs,q,hu,by rw[<-a.e];exact ab,bM,U,rfl⟩,b,?_,h.n,F _ _ _ _,h.o⟩;rw[jK a];exact Yh a k _ _
      ·simp[L]at he
   |_=>simp[hu,sE]at he
  |mkmap d key=>
   cases key with
   |none=>simp only[la,fo,ng,false_and]at he
   |some m=>
    simp only[la,fo,ng,qo]at he;obtain⟨⟨bA,J,U⟩,_,b⟩:=he;rw[a.b]at J;rw[a.e]at U;refine⟨_,_,⟨⟨nh m bA J U,J,U⟩,rfl⟩,b,B3 a d _ _ _ _ _ _,h.n,G _ _ _ _ _,fun k ab=>?_⟩;rcases gJ.1 ab with rfl|ab
    ·exact .inr (.inr ⟨m,bA,rfl⟩)
    ·exact h.o k ab
  |mput cA u k v=>
   simp only[la,fo,ng]at he;cases hu:cF st.t u with
   |gmap m=>
    cases B:ae m st.b with
    |none=>simp[hu,B]at he
    |some cs=>
     cases hm:qO cA (cF st.t k) (cF st.t v) cs with
     |none=>simp[hu,B,hm]at he
     |some cs'=>simp only[hu,B,hm]at he;rw[jK a]at hu;rw[jK a,jK a]at hm;exact⟨⟨none,.junk,[(m,cs')],[],none⟩,_,⟨m,cs,cs',hu,by rw[<-a.b];exact B,hm,rfl⟩,he.2.2,IG a m _ _,h.n,F _ _ _ _,h.o⟩
   |_=>simp[hu]at he
  |range d key x=>simp only[la,ng,false_and]at he;split at he<;>exact he.elim
 |next d x=>simp only[la]at he
 |call d f xs=>
  simp only[la]at he;cases t:cF st.t f with
  |func n dH=>
   simp only[t]at he;rw[jK a]at t;rcases he with⟨cU,r,rfl,bR,S,dj,h7⟩|⟨s,V,r,rm,bR,S,dj,h7,nc,qn,Dt,aek,ael⟩
   ·rw[vN a]at S dj;have W:=h.n;subst W;refine⟨⟨some cU,r,[],[],some (.loc (st.n+cU))⟩,_,⟨n,dH,t,.inr ⟨cU,r,rfl,O cU bR,S,dj,rfl⟩⟩,h7,Yi a cU r _ _,rfl,G _ _ _ _ _,Q cU (E cU rfl)⟩
   rw[vN a]at qn Dt;obtain⟨a8,bE,cq,eD,Z⟩:=nc;refine⟨⟨d,r,V.b,V.e,rm⟩,_,⟨n,dH,t,.inl ⟨⟨s,V,r,rm,fun k cs ab=>⟨by rw[<-a.b];exact(bR k cs ab).1,(bR k cs ab).2.2⟩,fun k o ab=>⟨by rw[<-a.e];exact(S k o ab).1,(S k o ab).2.2⟩,dj,h7,⟨a8,bE,cq,eD,fun k ab=>?_⟩,qn,Dt,rfl⟩,aek⟩⟩,ael,⟨fun i=>?_,fun k=>?_,fun k=>?_⟩,h.n,fun k ab w=>⟨h.F k ab w,fun sa=>?_⟩,h.o⟩
   ·obtain⟨⟨j,w,rfl⟩,aC,bh,b3⟩:=Z k ab;rw[a.b]at aC;rw[a.e]at bh;exact⟨⟨j,rfl⟩,nh j w aC bh,aC,bh,b3⟩
   ·simp only[after,dE.do];cases d with
    |none=>simpa[e6]using a.t i
    |some d=>simp only[e6,qw,dU,a.t]
   ·simp only[after,dE.do,jw,n4,tF];by_cases l:(ae k s.b).isSome
    ·have:=cq k l;obtain⟨y,aK⟩:=fx.1 this;simp[l,aK]
    ·cases W:ae k V.b with
     |none=>simp only[l,a.b];cases A.b k<;>simp
     |some y=>
      rcases a8 k (by simp[W])with h|h
      ·exact absurd h l
      ·have:=Z k h;simp[l,this]
   ·simp only[after,dE.do,jw,n4,tF];by_cases l:(ae k s.e).isSome
    ·have:=eD k l;obtain⟨y,aK⟩:=fx.1 this;simp[l,aK]
    ·cases W:ae k V.e with
     |none=>simp only[l,a.e];cases A.e k<;>simp
     |some y=>
      rcases bE k (by simp[W])with h|h
      ·exact absurd h l
      ·have:=Z k h;simp[l,this]
   ·obtain⟨⟨j,kq,rfl⟩,_⟩:=Z k sa;exact w j kq rfl
  |_=>simp[t]at he
def A1(N:Nat):List du->Bool
 |[]=>true
 |g::r=>j9 N g.i.dst&&A1 N r
def Az:Nat->List du->List (Nat×du)
 |_,[]=>[]
 |k,g::r=>(k,g)::Az (k+1) r
def Ry{nw:List Nat}{n0 N:Nat}{a:List aB}{st:bp}{A:dE}(h:ug nw n0 N a st A){s:Nat}{p:af}(b:get s st.t=p):ug nw n0 N a {st with t:=put s p st.t} A:=by
 refine⟨⟨fun i=>?_,h.like.b,h.like.e⟩,h.n,h.F,h.o⟩;simp only[qw];split
 ·rename_i e;subst e;rw[<-b];exact h.like.t _
 ·exact h.like.t i
def Rz{nw:List Nat}{n0 N:Nat}{a:List aB}{st:bp}{A:dE}(h:ug nw n0 N a st A)(d:be Nat):ug nw n0 N a {st with t:=e6 d (.tuple []) st.t} (A.do (mq d)):=by
 refine⟨⟨fun i=>?_,fun k=>?_,fun k=>?_⟩,h.n,fun k ab b=>⟨h.F k ab b,by simp[mq]⟩,h.o⟩
 ·simp only[dE.do,mq];cases d with
  |none=>simpa[e6]using h.like.t i
  |some d=>simp only[e6,qw,dU,h.like.t]
 ·simpa[dE.do,jw,ae,mq]using h.like.b k
 ·simpa[dE.do,jw,ae,mq]using h.like.e k
def DI{P:cI}{q:Bool}{nw:List Nat}{n0 N:Nat}{l:List aB}{K:bp->Prop}:∀(gs:List du) (k:Nat),A1 N gs=true->∀(st:bp) (A:dE),ug nw n0 N l st A->De nw A->iT P q nw n0 gs st K->w8 P q n0 (fun n=> ∃st',K st'/\ug nw n0 N l st' n) (Az k gs) A
 |[],k,_,st,A,h,_,he=>⟨st,he,h⟩
 |⟨m,i⟩::r,k,f,st,A,h,a,he=>by
  simp only[A1,cR]at f;have j:∀d,i.dst=some d->d<N:=fun d e=>by have:=f.1;rw[e]at this;simpa[j9]using this
  simp only[Az,w8];cases m with
  |none=>simp only[iT]at he;obtain⟨x,st',J,U,g⟩:=UH j h a he;have a7:lM P q n0 ⟨none,i⟩ A x:=J;exact⟨x,a7,DI r (k+1) f.2 st' _ g (a.do a7) U⟩
  |some p=>
   obtain⟨s,want⟩:=p;simp only[iT]at he;split at he
   ·rename_i b c;by_cases e:b=want
    ·subst e;obtain⟨x,st',J,U,g⟩:=UH j (Ry h c) a (he.1 rfl);have a7:lM P q n0 ⟨some (s,b),i⟩ A x:=by unfold lM;simp only[<-h.like.t,c];exact .inl ⟨trivial,J⟩
     exact⟨x,a7,DI r (k+1) f.2 st' _ g (a.do a7) U⟩
    ·have o:b= !want:=by cases b<;>cases want<;>simp at e⊢
     subst o;have a7:lM P q n0 ⟨some (s,want),i⟩ A (mq i.dst):=by unfold lM;simp only[<-h.like.t,c];exact .inr ⟨trivial,trivial⟩
     exact⟨mq i.dst,a7,DI r (k+1) f.2 _ _ (Rz (Ry h c) i.dst) (a.do a7) (he.2 rfl)⟩
   ·rename_i c;have a7:lM P q n0 ⟨some (s,want),i⟩ A (mq i.dst):=by unfold lM;simp only[<-h.like.t,c]
    exact⟨mq i.dst,a7,DI r (k+1) f.2 _ _ (Rz h i.dst) (a.do a7) he⟩
   ·exact he.elim
def PV:∀(gs:List du) (l:Array Bool) (k:Nat),(∀j,l.getD j false=false)->rem l k gs=Az k gs
 |[],_,_,_=>rfl
 |g::r,l,k,h=>by simp only[rem,h k,Az,PV r l (k+1) h];simp
def vs(n:Nat)(o:List aB)(K:bp->Prop)(st:bp):Prop:=K {st with n:=n,o:=o}
def Good.like{pr:Nat->Prop}{w:World}{ν:bd}{b b2:List (aB×List af)}{e d:List (aB×dW)}(h:Good pr w ν b e)(a:∀k,ae k b2=ae k b)(he:∀k,ae k d=ae k e):Good pr w ν b2 d:=
 ⟨h.alt,fun k cs ab=>h.box k cs (by rw[<-a];exact ab),fun k bs bl J U=>h.inj k bs bl (by rw[<-a];exact J) (by rw[<-a];exact U),fun g o a7=>h.own g o (by rw[<-he];exact a7),
  fun g f n n' v v' bl J U=>h.oinj g f n n' v v' bl (by rw[<-he];exact J) (by rw[<-he];exact U),fun g k n v bl J U=>h.obx g k n v bl (by rw[<-he];exact J) (by rw[<-a];exact U),h.one,
  fun bl i=>h.otr bl (i.imp (fun⟨k,c,a2⟩=>⟨k,by rw[<-a];exact c,a2⟩) (fun⟨g,n,v,c,a2⟩=>⟨g,n,v,by rw[<-he];exact c,a2⟩))⟩
def UJ{P:cI}(hm:P.follows .mixedOrders=true){aT:List (Nat×ev)}(H:h1 P aT=true){C:fq}{q:Bool}{nw:List Nat}{id:Nat}{ops:Array Oper}{gs:List du}(t:lb C.N aT ops.toList gs ops.toList=true)(L:Dl gs ops.toList=true)(B:A1 C.N gs=true)
  {K:bp->Prop} {Q:Exit->Act->World->Prop} (z:∀st' br w' bo,K st'->c9 C st' br w' bo->Q .normal br w') {st:bp} {a:Act} {w:World} {ν:bd} (p:∀j∈nw,.obj j∉st.o) (he:iT P q nw st.n gs st (vs (st.n+C.N) (nw.map aB.obj++st.o) K)) (J:c9 C st a w ν):(Code.region id ops true).wp P Q a w:=by
 refine wp_region_any hm ?_;have E:c9 C st a {w with drawn:=w.drawn+1} ν:=J.drawn _;let A:dE:=⟨fun i=>get i st.t,fun k=>ae k st.b,fun k=>ae k st.e,fresh st.n st.o⟩
 have s:ug nw st.n C.N st.o st A:=⟨⟨fun _=>rfl,fun _=>rfl,fun _=>rfl⟩,rfl,fun k ab _=>ab,fun k ab=>.inl ab⟩;have x:=DI gs 0 B st A s (fun j l _ _=>⟨trivial,p j l⟩) he;have n:∀j,(Array.replicate ops.size false).getD j false=false:=fun j=>by simp[Array.getD_eq_getD_getElem?,Array.getElem?_replicate];split<;>rfl
 refine adR H t L (q:=q) (n0:=st.n) (K:=fun u=> ∃st',vs (st.n+C.N) (nw.map aB.obj++st.o) K st'/\ug nw st.n C.N st.o st' u) ?_ ops.size _ A a _ Ψ ?_ ?_ (by rw[PV gs _ 0 n];exact x) ⟨st,ν,s.like,fun k ab=>ab,E⟩
 ·rintro u br w' ⟨st',ab,f⟩ ⟨G,bo,m,M,b⟩;refine z _ br w' bo ab ⟨b.good.like (fun k=>by rw[m.b,<-f.like.b]) (fun k=>by rw[m.e,<-f.like.e]),b.fr,b.defers,b.size,fun i=>?_,fun k c=>?_⟩
  ·have:=b.slot i;rw[m.t,<-f.like.t]at this;exact this
  ·refine b.new k (M k (f.F k ?_ fun j l e=>c.2 (by subst e;exact List.mem_append_left _ (List.mem_map_of_mem l))));simp only at c;refine⟨(Mm (Nat.le_add_right st.n C.N) (fun _ h=>h) c).1,fun y=>?_⟩;rcases f.o k y with h|⟨d,N,rfl⟩|⟨j,l,rfl⟩;rotate_left 2
   ·exact c.2 (List.mem_append_left _ (List.mem_map_of_mem l))
   ·exact c.2 (List.mem_append_right _ h)
   ·have:=c.1;simp at this;omega
 ·intro k o ab v;rw[n]at v;cases v
 ·rw[PV gs _ 0 n];have:∀(gs:List du) k,(Az k gs).length=gs.length:=by
   intro gs;induction gs with
   |nil=>intro k;rfl
   |cons g r F=>intro k;simp[Az,F]
  rw[this];have:=Mx t;simp at this;omega
def eJ:List af->Prop
 |[]=>True
 |p::a=>(match p with| .slice _ _ xs=>xs.length<=lim| .str s=>s.length<=lim|_=>True)/\eJ a
def eN:af->Prop
 | .slice _ _ xs=>xs.length<=lim
 | .str s=>s.length<=lim
 | .agg cs=>eJ cs
 |_=>True
def eI:List af->Prop
 |[]=>True
 |p::r=>eN p/\eI r
def P0{w:World}{ν:bd}:∀{cs:List af} {us:List Value},cW w ν cs us->eJ cs
 |[],_,_=>trivial
 |c::cs,us,h=>by
  simp only[cW]at h;obtain⟨u,e,_,J,U⟩:=h;refine⟨?_,P0 U⟩;cases c<;>simp only<;>have b:=J.1<;>simp only[aU]at b
  ·exact b.2
  ·obtain⟨⟨a,cap,_,_,d,_⟩,_⟩:=b;exact d.2
def PX{w:World}{ν:bd}{cs:List af}{us:List Value}(h:k3 w ν cs us):gY cs=true->eJ cs:=fun a=>by rw[pj a]at h;exact P0 h
def abj{w:World}{ν:bd}{p:af}{v:Value}(h:aU w ν p v):eN p:=by
 cases p<;>simp only[eN]<;>simp only[aU]at h
 ·exact h.2
 ·obtain⟨⟨a,cap,_,_,b,_⟩,_⟩:=h;exact b.2
 ·obtain⟨us,_,U⟩:=h;exact P0 U
def P1{w:World}{ν:bd}:∀{cs:List af} {us:List Value},c7 w ν cs us->eI cs
 |[],_,_=>trivial
 |c::cs,us,h=>by simp only[c7]at h;obtain⟨u,a,_,J,U⟩:=h;exact⟨abj J,P1 U⟩
inductive C where
 |skip
 |region (gs:List du)
 |drawn (q:Bool) (N:Nat) (gs:List du)
 |drawnW (nw:List Nat) (N:Nat) (gs:List du)
 |seq (a b:C)
 |cond (x:dQ) (t e:C)
 |block (id:Nat) (c:C)
 |loop (c:C)
 |exit (id:Nat)
 |ret
 |pub (s:Nat) (c:C)
 |pubB (s:Nat) (c:C)
 |fg (qI:Bool) (s:Nat) (c:C)
 |fz (agg:Bool) (s:Nat) (c:C)
 |no
def Fv(st:bp):af->be (af×List (aB×dW))
 | .row sz k n=>match ae k st.e with
  |some ⟨n',el,a,some xs⟩=>if n'=n/\a=sz then some (.slice sz (.own k) xs,cK k ⟨n,el,sz,none⟩ st.e)else none
  |_=>none
 |_=>none
def yb(st:bp)(s:Nat):be bp:=
 match Fv st (get s st.t)with
 |some (p,e)=>some {st with t:=put s p st.t,e:=e}
 |none=>none
def ya(st:bp)(s:Nat):be bp:=
 match get (s%1000) st.t with
 | .ptr k off=>match ae k st.b with
  |some cs=>match cs[off+s/1000]? with
   |some p=>match Fv st p with
    |some (a,e)=>if gY cs then some {st with b:=cK k (cs.set (off+s/1000) a) st.b,e:=e}else none
    |none=>none
   |none=>none
  |none=>none
 |_=>none
def JE{C:fq}{st:bp}{a:Act}{w:World}{ν:bd}(h:c9 C st a w ν){s:Nat}{p:af}(b:aU w ν p (a.tmps.getD s undef)):c9 C {st with t:=put s p st.t} a w ν:=by
 refine⟨h.good,h.fr,h.defers,h.size,fun i=>?_,h.new⟩;have:=h.slot i;simp only[qw];split
 ·rename_i e;subst e;exact b
 ·exact this
def ZT{C:fq}{st:bp}{a:Act}{w:World}{ν:bd}(h:c9 C st a w ν){p f:af}{e:List (aB×dW)}{v:Value}(l:aU w ν p v)(he:Fv st p=some (f,e)):
  ∃bo,c9 C {st with e:=e} a w bo/\aU w bo f v/\mz w ν w bo:=by
 unfold Fv at he;split at he
 ·rename_i sz k n;split at he
  ·rename_i n' el z xs ab;split at he
   ·rename_i aw;obtain⟨rfl,rfl⟩:=aw;cases he;simp only[aU]at l;obtain⟨_,r,n0,u,J,U,s⟩:=l;obtain⟨v0,y,d,B,A,m⟩:=h.good.own k _ ab;rw[J]at d;simp only[dU,js]at d;obtain⟨rfl,rfl⟩:=d;have x:v=u:=s rfl;subst x;obtain⟨i,_,_⟩:=m xs rfl;simp only at i;obtain⟨g1,g2⟩:=h.publish ab rfl J (by rw[i];exact r);refine⟨_,g1,g2,⟨fun b o q=>⟨.inl q,rfl⟩,fun j b _ t=>t,fun g n u _ c=>⟨n,u,?_,.inl ⟨rfl,rfl⟩⟩,fun _ _ _=>rfl,fun _ _ _ _ h=>h⟩⟩;simp only[bd.withRowOf];split
    ·rename_i e;subst e;rw[J]at c;exact c
    ·exact c
   ·cases he
  ·cases he
 ·cases he
def Bc(a:Bool):af->af
 | .slice sz tag xs=>.slice sz (if a then tag else .no) (cf xs)
 |p=>b7 p
def ain{w:World}{ν:bd}{a:Bool}{p:af}{v:Value}(h:aU w ν p v):aU w ν (Bc a p) v:=by
 have J:=yh p v h;cases p with
 |slice sz tag xs=>
  simp only[Bc];cases a with
  |false=>simpa only[hT,if_false,b7]using J
  |true=>
   simp only[if_true];simp only[aU,b7]at h J⊢;refine⟨J.1,fun e=>h.2.1 e,fun g e=>?_,fun k j e=>?_,fun k e=>?_⟩
   ·obtain⟨n,u,c,d,b⟩:=h.2.2.1 g e;exact⟨n,u,c,by rw[nD];exact d,by rw[nD];exact b⟩
   ·exact DX _ _ (h.2.2.2.1 k j e)
   ·exact DX _ _ (h.2.2.2.2 k e)
 |_=>exact J
def apE{C:fq}{st st':bp}{a:Act}{w:World}{ν:bd}(h:c9 C st a w ν){s:Nat}(he:yb st s=some st'):∃bo,c9 C st' a w bo:=by
 unfold yb at he;split at he
 ·rename_i p e b;cases he;obtain⟨bo,J,U,_⟩:=ZT h (h.slot s) b;exact⟨_,JE J U⟩
 ·cases he
def abe{w:World}{ν:bd}:∀{cs:List af} {us:List Value} {i:Nat} {p q:af} {v:Value},cW w ν cs us->cs[i]? =some p->us[i]? =some v->aU w ν q v->cW w ν (cs.set i q) us
 |[],_,_,_,_,_,_,h,_,_=>by simp at h
 |c::cs,us,0,p,q,v,h,_,a,b=>by simp only[cW]at h;obtain⟨u,e,rfl,J,U⟩:=h;simp only[List.getElem?_cons_zero,dU]at a;subst a;simp only[List.set_cons_zero,cW];exact⟨_,_,rfl,⟨b,J.2⟩,U⟩
 |c::cs,us,i+1,p,q,v,h,d,a,b=>by simp only[cW]at h;obtain⟨u,e,rfl,J,U⟩:=h;simp only[List.set_cons_succ,cW];exact⟨_,_,rfl,J,abe U (by simpa using d) (by simpa using a) b⟩
def apD{C:fq}{st st':bp}{a:Act}{w:World}{ν:bd}(h:c9 C st a w ν){s:Nat}(he:ya st s=some st'):∃bo,c9 C st' a w bo:=by
 unfold ya at he;split at he
 ·rename_i k m ab;generalize m+s/1000=off at he;split at he
  ·rename_i cs d;split at he
   ·rename_i p i;split at he
    ·rename_i E e K;split at he
     ·rename_i q;cases he;obtain⟨bl,us,el,g1,g2,g3,g4,g5⟩:=h.good.box k cs d;rw[pj q]at g5;have t:off<us.toList.length:=by rw[qR g5];exact(fH.1 i).1
      obtain⟨v,z⟩:∃v,us.toList[off]? =some v:=⟨_,cl t⟩;have L:aU w ν p v:=by have:=CK off g5;rw[lH (fH.1 i).1,lH t]at this;simp only[cW]at this;obtain⟨u,G,y,A,_⟩:=this;rw[(fH.1 i).2]at A;rw[(fH.1 z).2]at y;cases y;exact A.1
      obtain⟨bo,J,U,x⟩:=ZT h L K;have o:cW w bo (cs.set off E) us.toList:=abe (abd x g5) i z U;have B:=wK o;refine⟨bo,⟨J.good.alt,fun j F c=>?_,fun j dh b c f=>J.good.inj j dh b ?_ ?_,J.good.own,J.good.oinj,fun g j n v b a7 c=>J.good.obx g j n v b a7 ?_,J.good.one,fun bl H=>J.good.otr bl (H.imp (fun⟨bs,l,a2⟩=>⟨bs,by rw[jm]at l;split at l;(rename_i e;subst e;simp[d]);exact l,a2⟩) id)⟩,J.fr,J.defers,J.size,J.slot,J.new⟩
      ·simp only at c;rw[jm]at c;split at c
       ·rename_i e;subst e;cases c;obtain⟨r,G,M,f1,f2,f3,f4,f5⟩:=J.good.box k cs d;have:r=bl:=by have:=x.bx k bl trivial g1;rw[this]at f1;cases f1;rfl
        subst this;rw[pg q]at g4 f4;rw[g4]at f4;injection f4 with f4;injection f4 with f4 f6 f7;refine⟨r,us,el,f1,f2,f3,by rw[pg B];exact g4,by rw[pj B];exact o⟩
       ·exact J.good.box j F c
      ·simp only at c;rw[jm]at c;split at c
       ·rename_i e;subst e;simp[d]
       ·exact c
      ·simp only at f;rw[jm]at f;split at f
       ·rename_i e;subst e;simp[d]
       ·exact f
      ·simp only at c;rw[jm]at c;split at c
       ·rename_i e;subst e;simp[d]
       ·exact c
     ·cases he
    ·cases he
   ·cases he
  ·cases he
 ·cases he
def uw{α:Type}(k:aB)(l:List (aB×α)):List (aB×α):=match l with
 |[]=>[]
 |(i,x)::r=>if i=k then uw k r else(i,x)::uw k r
def Oi{α:Type}(k j:aB):∀l:List (aB×α),ae j (uw k l)=if j=k then none else ae j l
 |[]=>by simp[uw,ae]
 |(i,x)::r=>by
  simp only[uw];by_cases h:i=k
  ·subst h;rw[if_pos rfl,Oi i j r];by_cases U:j=i
   ·simp[U]
   ·have:¬i=j:=fun e=>U e.symm;simp[ae,U,this]
  ·rw[if_neg h];simp only[ae];by_cases U:i=j
   ·subst U;simp[h]
   ·simp only[U,if_false];exact Oi k j r
def Mo(agg:Bool):List af->be af
 |[p]=>if agg then some (.agg [p])else some p
 |cs=>if agg then some (.agg cs)else none
def xg(st:bp)(agg:Bool)(s:Nat):be bp:=
 match get s st.t with
 | .ptr k 0=>match ae k st.b with
  |some cs=>if gY cs then match Mo agg cs with
    |some x=>some {st with t:=put s (.eptr x) st.t,b:=uw k st.b}
    |none=>none
   else none
  |none=>none
 |_=>none
def apn{u:Value}(h:u.oneCell'=true):u.cells.toList=[u]:=by cases u<;>first|rfl|(simp[Value.oneCell']at h)
def X7{w:World}{A:Nat->Nat->Prop}{b:Nat}{us:Array Value}{el:gQ}(d:w.heap[b]? =some (.cells us el))(c:∀o,o<us.size->A b o):∀(bm:List Value) (off:Nat),us.toList.drop off=bm->kY w A b off bm
 |[],_,_=>trivial
 |v::bm,off,h=>by
  have a:off<us.toList.length:=by
   rcases Nat.lt_or_ge off us.toList.length with J|J
   ·exact J
   ·rw[List.drop_eq_nil_of_le J]at h;cases h
  have U:=lH a;rw[h]at U;injection U with U f;refine⟨⟨c off (by simpa using a),?_⟩,X7 d c bm (off+1) f.symm⟩;have e:off<us.size:=by simpa using a
  simp only[World.cell?,d,kh,hT,if_false];rw[U];simp[e]
def aiC{C:fq}{st st':bp}{a:Act}{w:World}{ν:bd}(h:c9 C st a w ν){agg:Bool}{s:Nat}(he:xg st agg s=some st'):∃bo,c9 C st' a w bo:=by
 unfold xg at he;split at he
 ·rename_i k ab;split at he
  ·rename_i cs z;split at he
   ·rename_i H;split at he
    ·rename_i x l;cases he;obtain⟨bl,us,el,g1,g2,g3,g4,g5⟩:=h.good.box k cs z;rw[pj H]at g5;rw[pg H]at g4;have Z:bl<w.heap.size:=by
      rcases Nat.lt_or_ge bl w.heap.size with J|J
      ·exact J
      ·rw[Array.getElem?_eq_none J]at g4;cases g4
     let bo:bd:={ν with A:=fun b o=>ν.A b o\/(b=bl/\o<us.size)}
     have ar:mz w ν w bo:=⟨fun b o c=>⟨.inl c,rfl⟩,fun j b _ d=>d,fun g n u _ Q=>⟨n,u,Q,.inl ⟨rfl,rfl⟩⟩,fun _ _ _=>rfl,fun _ _ _ _ h=>h⟩;have L:∀j f,ae j (uw k st.b)=some f->j≠k/\ae j st.b=some f:=fun j f d=>by
      rw[Oi]at d;split at d
      ·cases d
      ·rename_i e;exact⟨e,d⟩
     have t:∀j,(ae j (uw k st.b)).isSome->(ae j st.b).isSome:=fun j d=>by obtain⟨f,R⟩:=fx.1 d;simp[(L j f R).2]
     have O:∀(g:aB) (n:Nat) (v:Value),(ae g st.e).isSome->ν.ow g=some (n,v)->v.ownBlock=some bl->er:=fun g n v J U aq=>h.good.obx g k n v bl J (by simp[z]) U aq g1;have P:aU w bo (.eptr x) (a.tmps.getD s undef):=by
      have F:=h.slot s;rw[ab]at F;simp only[aU]at F⊢;obtain⟨b2,M,B⟩:=F;rw[g1]at M;cases M;have E:kY w bo.A bl 0 us.toList:=X7 g4 (fun o ar=>.inr ⟨rfl,ar⟩) _ 0 rfl;have g6:cW w bo cs us.toList:=abd ar g5;unfold Mo at l;split at l
      ·rename_i p;simp only[cW]at g6;obtain⟨u,N,m,r,y⟩:=g6;subst y;split at l
       ·cases l;exact⟨bl,0,.agg us,B,by simp only[aU];exact⟨us,rfl,by rw[m];simp only[cW];exact⟨u,[],rfl,r,rfl⟩⟩,by simpa[pw]using E⟩
       ·cases l;refine⟨bl,0,u,B,r.1,?_⟩;rw[apn r.2,<-m];exact E
      ·split at l
       ·cases l;exact⟨bl,0,.agg us,B,by simp only[aU];exact⟨us,rfl,g6⟩,by simpa[pw]using E⟩
       ·cases l
     refine⟨bo,JE (ν:=bo) (st:={st with b:=uw k st.b}) ⟨⟨fun b o c=>?_,fun j f d=>?_,fun j dh b J U=>h.good.inj j dh b (t j J) (t dh U),fun g o a7=>?_,h.good.oinj,fun g j n v b J U=>h.good.obx g j n v b J (t j U),h.good.one,fun b aJ=>h.good.otr b (aJ.imp (fun⟨j,Y,a2⟩=>⟨j,t j Y,a2⟩) id)⟩,⟨h.fr.os,h.fr.tape,h.fr.output,h.fr.size,h.fr.block,fun b o c=>⟨.inl (h.fr.keep b o c).1,(h.fr.keep b o c).2⟩,fun b o c=>?_,h.fr.obj,h.fr.obn,h.fr.row,h.fr.obr,h.fr.trd,h.fr.trb,h.fr.trn,h.fr.sh⟩,h.defers,h.size,fun i=>Ae ar (h.slot i),h.new⟩ P⟩
     ·rcases c with c|⟨rfl,_⟩
      ·exact h.good.alt b o c
      ·exact Z
     ·obtain⟨X,K⟩:=L j f d;obtain⟨S,N,W,f1,f2,f3,f4,f5⟩:=h.good.box j f K;refine⟨S,N,W,f1,f2,fun o c=>?_,f4,rK ar f5⟩;rcases c with c|⟨rfl,_⟩
      ·exact f3 o c
      ·exact X (h.good.inj j k _ (by simp[K]) (by simp[z]) f1 g1)
     ·obtain⟨v0,V,m,r,y,b3⟩:=h.good.own g o a7;have G:∀b,v0.ownBlock=some b->∀j,bo.A b j->ν.A b j:=fun b q j c=>by
       rcases c with c|⟨rfl,_⟩
       ·exact c
       ·exact(O g _ v0 (by simp[a7]) m q).elim
      exact⟨v0,V,m,r,fun b q=>⟨(y b q).1,fun j c=>(y b q).2 j (G b q j c)⟩,tU ar G b3⟩
     ·rcases c with c|⟨rfl,_⟩
      ·exact h.fr.fresh b o c
      ·exact .inr g2
    ·cases he
   ·cases he
  ·cases he
 ·cases he
def tT(st:bp)(x:dQ)(b:Bool):bp:=match x with
 | .t i=>{st with t:=put i (.bool b) st.t}
 | .c _=>st
def df(P:cI)(ob:List aB):C->(Exit->bp->Prop)->bp->Prop
 | .skip,Q,st=>Q .normal st
 | .region gs,Q,st=>jb P gs st (Q .normal)
 | .drawn q N gs,Q,st=>iT P q [] st.n gs st (vs (st.n+N) st.o (Q .normal))
 | .drawnW nw N gs,Q,st=>(∀j∈nw,.obj j∉st.o)/\iT P false nw st.n gs st (vs (st.n+N) (nw.map aB.obj++st.o) (Q .normal))
 | .seq a b,Q,st=>df P ob a (fun e st'=>match e with| .normal=>df P ob b Q st'|e=>Q e st') st
 | .cond x t e,Q,st=>match cF st.t x with
  | .bool b=>(b=true->df P ob t Q (tT st x true))/\(b=false->df P ob e Q (tT st x false))
  |_=>er
 | .block id c,Q,st=>df P ob c (fun e st'=>match e with| .exit j=>if j=id then Q .normal st' else Q (.exit j) st'|e=>Q e st') st
 | .loop c,Q,st=> ∃(d:Nat->bp->Prop) (m:Nat) (f:bp),gp ob st f/\d m f/\
   ∀k s,d k s->(∀i,eN (get i s.t))->(∀j cs,ae j s.b=some cs->gY cs=true->eJ cs)->df P ob c (fun e h=>match e with| .normal=> ∃bs g,bs<k/\gp ob h g/\d bs g|e=>Q e h) s
 | .exit id,Q,st=>Q (.exit id) st
 | .ret,Q,st=>Q .ret st
 | .pub s c,Q,st=>match yb st s with
  |some st'=>df P ob c Q st'
  |none=>er
 | .pubB s c,Q,st=>match ya st s with
  |some st'=>df P ob c Q st'
  |none=>er
 | .fg l s c,Q,st=>df P ob c Q {st with t:=put s (Bc l (get s st.t)) st.t}
 | .fz n s c,Q,st=>match xg st n s with
  |some st'=>df P ob c Q st'
  |none=>er
 | .no,_,_=>er
def hX(N:Nat)(aT:List (Nat×ev)):C->Code->Bool
 | .skip,.skip=>true
 | .region gs,.region _ ops false=>lb N aT ops.toList gs ops.toList
 | .drawn _ N' gs,.region _ ops true=>N'==N&&lb N aT ops.toList gs ops.toList&&Dl gs ops.toList&&A1 N gs
 | .drawnW _ N' gs,.region _ ops true=>N'==N&&lb N aT ops.toList gs ops.toList&&Dl gs ops.toList&&A1 N gs
 | .seq a b,.seq x y=>hX N aT a x&&hX N aT b y
 | .cond x t e,.cond o t' g=>eT x o&&hX N aT t t'&&hX N aT e g
 | .block id c,.block f d=>id==f&&hX N aT c d
 | .loop c,.loop d=>hX N aT c d
 | .exit id,.exit f=>id==f
 | .ret,.ret=>true
 | .pub _ c,d=>hX N aT c d
 | .pubB _ c,d=>hX N aT c d
 | .fg _ _ c,d=>hX N aT c d
 | .fz _ _ c,d=>hX N aT c d
 | .no,_=>true
 |_,_=>false
def V1{N:Nat}{aT:List (Nat×ev)}{ops:List Oper}:∀{gs:List du} {os:List Oper},lb N aT ops gs os=true->gs.length=os.length
 |[],[],_=>rfl
 |[],_::_,h=>by simp[lb]at h
 |_::_,[],h=>by simp[lb]at h
 |g::gs,o::os,h=>by simp only[lb,cR]at h;simp[V1 h.2]
def Kx(P:cI)(C:fq)(c:Code)(Q:Exit->bp->Prop)(st:bp):Prop:= ∀a w ν,c9 C st a w ν->c.wp P (fun e br w'=> ∃st' bo,Q e st'/\c9 C st' br w' bo) a w
def qt{P:cI}(hm:P.follows .mixedOrders=true){aT:List (Nat×ev)}(f:h1 P aT=true){X:fq}:∀(c:C) (code:Code) (Q:Exit->bp->Prop) (st:bp),hX X.N aT c code=true->df P X.ob c Q st->Kx P X code Q st
 | .skip,code,Q,st,ar,he=>by
  cases code<;>simp only[hX]at ar<;>try cases ar
  intro a w ν d;exact wp_skip ⟨st,ν,he,d⟩
 | .region gs,code,Q,st,ar,he=>by
  cases code<;>try(simp[hX]at ar;done)
  rename_i id ops draw;cases draw<;>simp only[hX]at ar
  ·intro a w ν d;refine wp_region ?_;have V:gs.length=ops.size:=by simpa using V1 ar
   rw[List.range_eq_range',<-V];exact UK f (K:=Q .normal) (fun st' br w' bo J U=>⟨st',bo,J,U⟩) gs ops.toList 0 Ψ ar st a w ν he d
  ·cases ar
 | .drawn q N gs,code,Q,st,ar,he=>by
  cases code<;>try(simp[hX]at ar;done)
  rename_i id ops draw;cases draw<;>simp only[hX]at ar
  ·cases ar
  ·simp only[cR,ey]at ar;obtain⟨⟨⟨rfl,J⟩,U⟩,v⟩:=ar;intro a w ν d;exact UJ hm f J U v (nw:=[]) (K:=Q .normal) (fun st' br w' bo J U=>⟨st',bo,J,U⟩) Ψ he d
 | .drawnW nw N gs,code,Q,st,ar,he=>by
  cases code<;>try(simp[hX]at ar;done)
  rename_i id ops draw;cases draw<;>simp only[hX]at ar
  ·cases ar
  ·simp only[cR,ey]at ar;obtain⟨⟨⟨rfl,J⟩,U⟩,v⟩:=ar;intro a w ν d;exact UJ hm f J U v (nw:=nw) (K:=Q .normal) (fun st' br w' bo J U=>⟨st',bo,J,U⟩) he.1 he.2 d
 | .seq x y,code,Q,st,ar,he=>by
  cases code<;>try(simp[hX]at ar;done)
  rename_i L M;simp only[hX,cR]at ar;intro a w ν d;refine wp_seq ?_;have J:=qt hm f x L _ st ar.1 he a w ν d;refine wp_mono J fun e br w' l=>?_;obtain⟨st',bo,g,h⟩:=l;cases e with
  |normal=>exact qt hm f y M Q st' ar.2 g br w' bo h
  |_=>exact⟨st',bo,g,h⟩
 | .cond x t e,code,Q,st,ar,he=>by
  cases code<;>try(simp[hX]at ar;done)
  rename_i o A ce;simp only[hX,cR]at ar;intro a w ν d;simp only[df]at he;have B:=e4 d ar.1.1;split at he
  ·rename_i b E;rw[E]at B;simp only[aU]at B;have F:c9 X (tT st x b) a w ν:=by
    unfold tT;split
    ·exact PU d (by simpa[cF]using E)
    ·exact d
   refine wp_cond B ?_;cases b
   ·exact qt hm f e ce Q _ ar.2 (he.2 rfl) a w ν F
   ·exact qt hm f t A Q _ ar.1.2 (he.1 rfl) a w ν F
  ·exact he.elim
 | .block id c,code,Q,st,ar,he=>by
  cases code<;>try(simp[hX]at ar;done)
  rename_i Z u;simp only[hX,cR,ey]at ar;obtain⟨rfl,ar⟩:=ar;intro a w ν d;refine wp_block ?_;refine wp_mono (qt hm f c u _ st ar he a w ν d) fun e br w' l=>?_;obtain⟨st',bo,g,h⟩:=l;cases e with
  |exit j=>
   simp only[Exit.inBlock]at g⊢;by_cases p:j=id
   ·rw[if_pos p]at g⊢;exact⟨st',bo,g,h⟩
   ·rw[if_neg p]at g⊢;exact⟨st',bo,g,h⟩
  |_=>exact⟨st',bo,g,h⟩
 | .loop c,code,Q,st,ar,he=>by
  cases code<;>try(simp[hX]at ar;done)
  rename_i u;simp only[hX]at ar;intro a w ν d;simp only[df]at he;obtain⟨R,m,G,hw,hi,O⟩:=he;refine wp_loop_ghost (fun k a w=> ∃s ν,R k s/\c9 X s a w ν) m ⟨G,_,hi,d.weaker hw⟩ ?_;intro k a w z;obtain⟨s,ν,n,r⟩:=z;have J:=O k s n (fun i=>abj (r.slot i)) (fun j cs p=>by obtain⟨bl,us,el,_,_,_,_,g5⟩:=r.good.box j cs p;exact PX g5);refine wp_mono (qt hm f c u _ s ar J a w ν r) fun e br w' l=>?_;obtain⟨st',bo,g,h⟩:=l;cases e with
  |normal=>obtain⟨bs,H,W,Y,S⟩:=g;exact⟨bs,W,H,_,S,h.weaker Y⟩
  |_=>exact⟨st',bo,g,h⟩
 | .exit id,code,Q,st,ar,he=>by
  cases code<;>try(simp[hX]at ar;done)
  rename_i Z;simp only[hX,ey]at ar;subst ar;intro a w ν d;exact wp_exit ⟨st,ν,he,d⟩
 | .ret,code,Q,st,ar,he=>by
  cases code<;>try(simp[hX]at ar;done)
  intro a w ν d;exact wp_ret ⟨st,ν,he,d⟩
 | .pub s c,code,Q,st,ar,he=>by
  simp only[hX]at ar;simp only[df]at he;split at he
  ·rename_i st' n;intro a w ν d;obtain⟨bo,J⟩:=apE d n;exact qt hm f c code Q st' ar he a w bo J
  ·exact he.elim
 | .pubB s c,code,Q,st,ar,he=>by
  simp only[hX]at ar;simp only[df]at he;split at he
  ·rename_i st' n;intro a w ν d;obtain⟨bo,J⟩:=apD d n;exact qt hm f c code Q st' ar he a w bo J
  ·exact he.elim
 | .fg qI s c,code,Q,st,ar,he=>by simp only[hX]at ar;simp only[df]at he;intro a w ν d;exact qt hm f c code Q _ ar he a w ν (JE d (ain (d.slot s)))
 | .fz ho s c,code,Q,st,ar,he=>by
  simp only[hX]at ar;simp only[df]at he;intro a w ν d;split at he
  ·rename_i st' dy;obtain⟨bo,J⟩:=aiC d dy;exact qt hm f c code Q st' ar he a w bo J
  ·exact he.elim
 | .no,code,Q,st,ar,he=>by simp only[df]at he
inductive bW where
 |tmp (i:Nat)
 |cell (i:Nat) (agg:Bool) (sz:Nat)
def bf(st:bp):bW->be (Prop×af)
 | .tmp i=>some (True,get i st.t)
 | .cell i agg sz=>n3 st.b st.e agg sz (get i st.t)
def bc(st:bp):List bW->be (Prop×List af)
 |[]=>some (True,[])
 |r::a=>match bf st r,bc st a with
  |some (c,p),some (b,d)=>some (c/\b,p::d)
  |_,_=>none
def p5(aT:List (Nat×ev)):List bW->List ResultVar->Bool
 |[],[]=>true
 | .tmp i::a,.tmp j::os=>i==j&&p5 aT a os
 | .cell i agg sz::a,.cell j t::os=>i==j&&(match eG aT t with|some f=>f.size==sz&&f.kind.isAgg==agg|none=>false)&&p5 aT a os
 |_,_=>false
def a6:List af->af
 |[p]=>p
 |a=>.tuple a
def JT(tmps:Array Value):ResultVar->Sem Value
 | .tmp t=>pure (tmps.getD t undef)
 | .cell x t=>do loadVar t (<-asAddr (tmps.getD x undef))
def abl(fn:Func)(tmps:Array Value):results fn tmps=(do let bm<-fn.results.mapM (JT tmps);pure (if h:bm.size=1 then bm[0]else .tuple bm)):=by unfold results;congr 2
def JM{P:cI}{aT:List (Nat×ev)}(y:h1 P aT=true){X:fq}{st:bp}{a:Act}{w:World}{ν:bd}(g:c9 X st a w ν):
  ∀(h:List bW) (os:List ResultVar) (c:Prop) (m:List af),p5 aT h os=true->bc st h=some (c,m)->c->
  ∃bm,(os.mapM (JT a.tmps)).run P w= .ok bm w/\c7 w ν m bm
 |[],[],c,m,_,he,_=>by simp only[bc]at he;cases he;exact⟨[],Ψ,by simp[c7]⟩
 |[],_::_,_,_,ar,_,_=>by simp[p5]at ar
 | .tmp _::_,[],_,_,ar,_,_=>by simp[p5]at ar
 | .cell _ _ _::_,[],_,_,ar,_,_=>by simp[p5]at ar
 |r::h,o::os,c,m,ar,he,aw=>by
  simp only[bc]at he;split at he
  ·rename_i L p z A J U;cases he;cases r with
   |tmp i=>
    cases o with
    |cell _ _=>simp[p5]at ar
    |tmp j=>simp only[p5,cR,ey]at ar;obtain⟨rfl,ar⟩:=ar;simp only[bf]at J;cases J;obtain⟨bm,g1,g2⟩:=JM y g h os z A ar U aw.2;refine⟨a.tmps.getD i undef::bm,?_,by simp only[c7];exact⟨_,_,rfl,g.slot i,g2⟩⟩;simp only[List.mapM_cons,gy,JT,hG,gC,g1]
   |cell i agg sz=>
    cases o with
    |tmp _=>simp[p5]at ar
    |cell j t=>
     simp only[p5,cR,ey]at ar;obtain⟨⟨rfl,s⟩,ar⟩:=ar;split at s
     ·rename_i f E;simp only[cR,ey]at s;obtain⟨rfl,rfl⟩:=s;simp only[bf]at J;obtain⟨bm,g1,g2⟩:=JM y g h os z A ar U aw.2;obtain⟨v,f1,f2⟩:=IH y g.good E (g.slot i) J aw.1;have F:∃l,a.tmps.getD i undef= .pointer (some l):=by
       have d:=g.slot i;unfold n3 at J;split at J
       ·rename_i K k n H G ab;rw[ab]at d;simp only[aU]at d;obtain⟨⟨b,o,e⟩,_⟩:=d;exact⟨_,e⟩
       ·rename_i k off ab;rw[ab]at d;simp only[aU]at d;obtain⟨b,_,e⟩:=d;exact⟨_,e⟩
       ·rename_i q ab;rw[ab]at d;simp only[aU]at d;obtain⟨b,off,u,e,_⟩:=d;exact⟨_,e⟩
       ·cases J
      obtain⟨l,B⟩:=F;rw[B]at f1;simp only[Instr.loadAt,Instr.sureAddr,gy,hG,gC]at f1;refine⟨v::bm,?_,by simp only[c7];exact⟨_,_,rfl,f2,g2⟩⟩;have x:(asAddr (.pointer (some l)):Sem Addr).run P w= .ok l w:=rfl;simp only[List.mapM_cons,gy,JT,hG,gC,g1,B,x,f1]
     ·cases s
  ·cases he
def Ac{w:World}{ν:bd}:∀{a:List af} {bm:List Value},c7 w ν a bm->bm.length=a.length
 |[],bm,h=>by simp only[c7]at h;subst h;rfl
 |p::a,bm,h=>by simp only[c7]at h;obtain⟨u,b,rfl,_,U⟩:=h;simp[Ac U]
def je:Nat->List af->List (Nat×af)
 |_,[]=>[]
 |i,p::a=>(i,p)::je (i+1) a
def HB:∀(a:List af) (i j:Nat),get j (je i a)=if i<=j/\j<i+a.length then a.getD (j-i) .junk else .junk
 |[],i,j=>by simp[je,get]
 |p::a,i,j=>by
  simp only[je,get];by_cases h:i=j
  ·subst h;simp
  ·rw[if_neg h,HB a (i+1) j];by_cases U:i<=j/\j<i+(p::a).length
   ·rw[if_pos U,if_pos (by simp at U⊢;omega)];have:j-i=(j-(i+1))+1:=Ω
    rw[this];simp
   ·rw[if_neg U,if_neg (by simp at U⊢;omega)]
def lY{α:Type}(a:cT):List (aB×α)->Prop
 |[]=>True
 |(k,_)::r=>aM a k/\lY a r
def xS{α:Type}{a:cT}:∀{l:List (aB×α)},lY a l->∀k,(ae k l).isSome->aM a k
 |[],_,k,h=>by simp[ae]at h
 |(i,x)::r,ab,k,h=>by
  simp only[lY]at ab;simp only[ae]at h;split at h
  ·rename_i e;subst e;exact ab.1
  ·exact xS ab.2 k h
def c5(d:List bW)(s:cT)(Q:af->cT->Prop)(e:Exit)(st:bp):Prop:=
 (e= .ret\/e= .normal)/\match bc st d with
  |some (c,b)=>c/\∃a,lY a s.b/\lY a s.e/\hC (aM a) a.b st.b/\p9 (aM a) a.e st.e/\h0 a/\az (aM a) (b7 (a6 b))/\Q (b7 (a6 b)) a
  |none=>er
def bH.ofW{P:cI}{aT:List (Nat×ev)}(aJ:h1 P aT=true){f:FuncId}{fn:Func}(aG:P.funcs[f]? =some fn){code:Code}(ag:fn.body=some code)(v8:(fn.name== "runtime.NumGoroutine")=false){ea:List bW}(iO:p5 aT ea fn.results.toList=true)
  {args:List af} (av:args.length<=fn.ntmps) {s:cT} (kU:h0 s) {Q:af->cT->Prop} (he:∀X:fq,X.N=fn.ntmps->X.ob=cL s->(∀b o,X.ν0.A b o->b<X.w0.heap.size)->eI args->(∀j cs,ae j s.b=some cs->gY cs=true->eJ cs)->Kx P X code (c5 ea s Q) ⟨je 0 args,s.b,s.e,0,cL s⟩):bH P f args s Q:=by
 intro w ν bm a7 ad aI;refine .inl ⟨⟨fn,aG,by simp[ag],v8⟩,?_⟩;have pX:=Ac aI;have ls:bm.size=args.length:=by simpa using pX
 let X:fq:=⟨w,ν,fB ν s,fn.ntmps,cL s⟩
 have nS:∀k,fresh 0 (cL s) k->ν.bx k=none/\ν.ow k=none/\∀j b,¬ν.tr k j b:=by
  intro k ab;cases k with
  |loc m=>exact⟨(ad _).1 (kU.1 m),(ad _).2.1 (kU.2 m),(ad _).2.2⟩
  |obj m=>
   simp only[fresh,true_and]at ab;refine⟨?_,?_,(ad _).2.2⟩
   ·refine(ad _).1 ?_;cases h:ae (.obj m) s.b with
    |none=>rfl
    |some x=>exact absurd (rH (.inl (by simp[h]))) ab
   ·refine(ad _).2.1 ?_;cases h:ae (.obj m) s.e with
    |none=>rfl
    |some x=>exact absurd (rH (.inr (by simp[h]))) ab
 have jd:∀m,(ν.bx (.obj m)≠none\/ν.ow (.obj m)≠none)-> .obj m∈cL s:=by
  intro m hm;refine Classical.byContradiction fun aw=>?_;obtain⟨J,U,_⟩:=nS (.obj m) ⟨trivial,aw⟩;rcases hm with hm|hm
  ·exact hm J
  ·exact hm U
 have pV:c9 X ⟨je 0 args,s.b,s.e,0,cL s⟩ {tmps:=bm++Array.replicate (fn.ntmps-bm.size) undef,defers:=[]} w ν:=by
  refine⟨⟨a7.alt,fun k cs ab=>?_,a7.inj,fun g o fu=>?_,a7.oinj,a7.obx,a7.one,a7.otr⟩,⟨rfl,rfl,rfl,dP _,fun _ _ _=>rfl,fun b o h=>⟨h,rfl⟩,fun b o h=>.inl h,fun n b h=>h,fun n b h=>jd n (.inl (by rw[h];simp)),fun m n u h=>⟨n,u,h,.inl ⟨rfl,rfl⟩⟩,fun m n u h=>jd m (.inr (by rw[h];simp)),fun k j _ _ b h=>absurd h ((ad k).2.2 j b),fun k j b h=>absurd h ((ad k).2.2 j b),fun k j b h=>absurd h ((ad k).2.2 j b),fun _ _ _=>rfl⟩,rfl,?_,fun i=>?_,nS⟩
  ·obtain⟨bl,us,el,g1,g2,g3⟩:=a7.box k cs ab;exact⟨bl,us,el,g1,.inl g2,g3⟩
  ·obtain⟨v,us,g1,g2,g3,g4⟩:=a7.own g o fu;exact⟨v,us,g1,g2,fun bl gh=>⟨.inl (g3 bl gh).1,(g3 bl gh).2⟩,g4⟩
  ·show(bm++Array.replicate (fn.ntmps-bm.size) undef).size=fn.ntmps;simp;omega
  ·rw[HB];by_cases hi:i<args.length
   ·rw[if_pos Ω];have sf:args[i]? =some args[i]:=cl hi;obtain⟨v,al,aC⟩:=FF i aI sf;have aN:(bm++Array.replicate (fn.ntmps-bm.size) undef).getD i undef=v:=by
     have o4:bm[i]? =some v:=by simpa using al
     rw[Array.getD_eq_getD_getElem?,Array.getElem?_append_left Ω,o4];rfl
    show aU w ν _ ((bm++Array.replicate (fn.ntmps-bm.size) undef).getD i undef);rw[aN];simpa[List.getD,sf]using aC
   ·rw[if_neg Ω];simp[aU]
 have NA:=he X rfl rfl a7.alt (P1 aI) (fun j cs ah=>by obtain⟨bl,us,el,_,_,_,_,g5⟩:=a7.box j cs ah;exact PX g5) _ w ν pV;refine calls_of_wp aG ag (wp_mono NA fun e br w' cN=>?_);obtain⟨st',bo,⟨rk,bM⟩,de⟩:=cN;cases qB:bc st' ea with
 |none=>simp[qB]at bM
 |some x=>
  obtain⟨cD,bU⟩:=x;simp only[qB]at bM;obtain⟨h8,ak,kb,ke,ba,bB,bX,dq,dK⟩:=bM;obtain⟨oQ,g1,g2⟩:=JM aJ de ea fn.results.toList cD bU iO qB h8;have Nk:=Ac g2;have ef:br.defers=[]/\∃v,(results fn br.tmps).run P w'= .ok v w'/\(fun(e:Ending) w'=> ∃v r ak bo,e= .returned v/\Q r ak/\aU w' bo r v/\Good (fun bl=>fB ν s bl\/w.heap.size<=bl) w' bo ak.b ak.e/\pM bo ak/\h0 ak/\pC ⟨w,ν,fB ν s,0,cL s⟩ w' bo) (.returned v) w':=by
   refine⟨de.defers,?_⟩;have jO:(results fn br.tmps).run P w'= .ok (if h:oQ.toArray.size=1 then oQ.toArray[0]else .tuple oQ.toArray) w':=by rw[abl];simp only[gy,Array.mapM_eq_mapM_toList,Sem.run_map,g1,gC,hG]
   refine⟨_,jO,_,b7 (a6 bU),ak,bo.cut (aM ak),rfl,dK,?_,de.good.cut ba bB (fun bl h _=>h),?_,bX,?_⟩
   ·have nV:aU w' bo (a6 bU) (if h:oQ.toArray.size=1 then oQ.toArray[0]else .tuple oQ.toArray):=by
     match bU,oQ,g2,Nk with
     |[p],[v],g2,_=>simp only[c7]at g2;obtain⟨u,b1,al,aC,_⟩:=g2;cases al;simpa[a6]using aC
     |[],[],g2,_=>simp[a6,aU,c7]
     |p::dD::bU,v::v2::oQ,g2,_=>rw[dif_neg Ψ];simp only[a6,aU];exact⟨_,rfl,by simpa using g2⟩
     |[_],[],_,h=>simp at h
     |[],_::_,_,h=>simp at h
     |[_],_::_::_,_,h=>simp at h
     |_::_::_,[],_,h=>simp at h
     |_::_::_,[_],_,h=>simp at h
    exact vd (oi.cut _ w' bo) _ _ dq (yh _ _ nV)
   ·intro k;refine⟨?_,?_,?_⟩;rotate_left 2
    ·rintro j b ⟨ai,ag⟩;obtain⟨t1,t2⟩:=de.fr.trn k j b ag;rcases ai with ai|ai<;>obtain⟨x,jk⟩:=fx.1 ai
     ·obtain⟨bl,b1,el,al,_⟩:=de.good.box k x (ba k x jk).1;rw[t1]at al;cases al
     ·obtain⟨v',b1,al,_⟩:=de.good.own k x (bB k x jk).1;rw[t2]at al;cases al
    ·intro ab;by_cases ai:aM ak k
     ·rw[bd.cut_bx ai];rcases ai with ai|ai
      ·rw[ab]at ai;cases ai
      ·obtain⟨x,jk⟩:=fx.1 ai;obtain⟨v',b1,al,_⟩:=de.good.own k x (bB k x jk).1;rcases de.good.one k with J|J
       ·exact J
       ·rw[J]at al;cases al
     ·exact(bd.cut_no ai).1
    ·intro ab;by_cases ai:aM ak k
     ·rw[bd.cut_ow ai];rcases ai with ai|ai
      ·obtain⟨x,jk⟩:=fx.1 ai;obtain⟨bl,b1,el,al,_⟩:=de.good.box k x (ba k x jk).1;rcases de.good.one k with J|J
       ·rw[J]at al;cases al
       ·exact J
      ·rw[ab]at ai;cases ai
     ·exact(bd.cut_no ai).2.1
   ·refine⟨de.fr.os,de.fr.tape,de.fr.output,de.fr.size,de.fr.block,de.fr.keep,de.fr.fresh,fun n b h=>?_,fun n b h=>jd n (.inl (by rw[h];simp)),fun m n u h=>?_,fun m n u h=>jd m (.inr (by rw[h];simp)),fun k j bs dh b J U=>de.fr.trd k j bs dh b J.2 U.2,fun k j b ag=>de.fr.trb k j b ag.2,fun k j b ag=>(by rw[bd.cut_bx ag.1,bd.cut_ow ag.1];exact de.fr.trn k j b ag.2),de.fr.sh⟩
    ·have ai:aM ak (.obj n):=by
      cases av:ae (.obj n) s.b with
      |none=>rw[(ad _).1 av]at h;cases h
      |some x=>exact xS kb _ (by simp[av])
     rw[bd.cut_bx ai];exact de.fr.obj n b h
    ·have ai:aM ak (.obj m):=by
      cases av:ae (.obj m) s.e with
      |none=>rw[(ad _).2.1 av]at h;cases h
      |some x=>exact xS ke _ (by simp[av])
     rw[bd.cut_ow ai];exact de.fr.row m n u h
  rcases rk with rfl|rfl<;>exact ef
def bH.of{P:cI}(hm:P.follows .mixedOrders=true){aT:List (Nat×ev)}(aJ:h1 P aT=true){f:FuncId}{fn:Func}(aG:P.funcs[f]? =some fn){code:Code}(ag:fn.body=some code)(v8:(fn.name== "runtime.NumGoroutine")=false){c:C}(aw:hX fn.ntmps aT c code=true){ea:List bW}(iO:p5 aT ea fn.results.toList=true)
  {args:List af} (av:args.length<=fn.ntmps) {s:cT} (kU:h0 s) {Q:af->cT->Prop} (he:eI args->(∀j cs,ae j s.b=some cs->gY cs=true->eJ cs)->df P (cL s) c (c5 ea s Q) ⟨je 0 args,s.b,s.e,0,cL s⟩):bH P f args s Q:=
 bH.ofW aJ aG ag v8 iO av kU fun X nh rq _ J U=>qt hm aJ c code _ _ (by rw[nh];exact aw) (by rw[rq];exact he J U)
def b4(aT:List (Nat×ev))(c:C)(ea:List bW)(OK:Nat)(fn:Func):Bool:=
 match fn.body with
 |some code=>hX fn.ntmps aT c code&&p5 aT ea fn.results.toList&& !(fn.name== "runtime.NumGoroutine")&&decide (OK<=fn.ntmps)
 |none=>false
def bH.mk{P:cI}(hm:P.follows .mixedOrders=true){aT:List (Nat×ev)}(k:h1 P aT=true){f:FuncId}{fn:Func}(l:P.funcs[f]? =some fn){c:C}{b:List bW}{n:Nat}(a:b4 aT c b n fn=true)
  {args:List af} (e:args.length<=n) {s:cT} (d:h0 s) {Q:af->cT->Prop} (he:eI args->(∀j cs,ae j s.b=some cs->gY cs=true->eJ cs)->df P (cL s) c (c5 b s Q) ⟨je 0 args,s.b,s.e,0,cL s⟩):bH P f args s Q:=by
 unfold b4 at a;split at a
 ·rename_i code h;simp only[cR,sN,gz]at a;obtain⟨⟨⟨J,U⟩,g⟩,i⟩:=a;exact bH.of hm k l h g J U (kE e i) d he
 ·cases a
def sw:h0 ⟨[],[]⟩:=⟨fun _=>rfl,fun _=>rfl⟩
def bZ(a:List bW)(r:af)(e:Exit)(st:bp):Prop:=
 (e= .ret\/e= .normal)/\match bc st a with
  |some (c,b)=>c/\b7 (a6 b)=r
  |none=>er
def Rn{a:List bW}{r:af}(f:az (fun _=>er) r):bZ a r=c5 a ⟨[],[]⟩ (fun d b=>d=r/\b=⟨[],[]⟩):=by
 funext e st;unfold bZ c5;apply propext;refine and_congr_right fun _=>?_;cases bc st a with
 |none=>exact Iff.rfl
 |some x=>
  obtain⟨c,g⟩:=x;refine and_congr_right fun _=>?_;constructor
  ·intro h;refine⟨⟨[],[]⟩,trivial,trivial,fun k cs ab=>by simp[ae]at ab,fun k cs ab=>by simp[ae]at ab,sw,?_,h,rfl⟩;rw[h];exact tD (fun k ab=>ab.elim) r f
  ·rintro⟨b,_,_,_,_,_,_,h,_⟩;exact h
def bT.mk{P:cI}(hm:P.follows .mixedOrders=true){aT:List (Nat×ev)}(e:h1 P aT=true){f:FuncId}{fn:Func}(h:P.funcs[f]? =some fn){c:C}{a:List bW}{n:Nat}(b:b4 aT c a n fn=true)
  {args:List af} (d:args.length<=n) {r:af} (g:az (fun _=>er) r) (he:eI args->df P [] c (bZ a r) ⟨je 0 args,[],[],0,[]⟩):bT P f args r:=by
 refine bH.mk hm e h b d sw fun J _=>?_;rw[<-Rn g];exact he J
def C8{α:Type}{β:Type}:∀l:List (aB×α),cM ([]:List (aB×β)) l=l
 |[]=>rfl
 |(k,x)::r=>by simp[cM,ae,C8 r]
def CallDo.val{P:cI}{n:Nat}{args:List af}{st:bp}{d:be Nat}{K:bp->Prop}{r:af}(ab:aH (fun _=>er) args)(b:bT P n args r)(h:K {st with t:=e6 d r st.t}):CallDo P n args st d K:=by
 refine .inl ⟨⟨[],[]⟩,_,fun k cs ab=>by simp[ae]at ab,fun k cs ab=>by simp[ae]at ab,sw,jl (fun _ h=>h.elim) _ ab,b,?_⟩;rintro a c ⟨rfl,rfl⟩;refine⟨⟨fun m h=>by simp[ae]at h,fun m h=>by simp[ae]at h⟩,?_⟩;have:after st ⟨[],[]⟩ ⟨[],[]⟩ d a={st with t:=e6 d a st.t}:=by simp[after,C8,cL]
 rw[this];exact h
@[reducible,simp] def gV(n:Int):dQ:= .c (.int .i64 n)
@[reducible,simp] def I(a b:Nat):du:=⟨none,.s (.v a (.mov (.t b)))⟩
@[reducible,simp] def cb(a:Nat)(i:gR):du:=⟨none,.s (.v a i)⟩
@[reducible,simp] def dt(i:eY):du:=⟨none,.s i⟩
@[reducible,simp] def dT(a f:Nat)(l:List dQ):du:=⟨none,.call (some a) (.c (.func f [])) l⟩
@[reducible,simp] def cg(j:Nat)(w:Bool)(a b:Nat):du:=⟨some (j,w),.s (.v a (.mov (.t b)))⟩
@[reducible,simp] def yz(j:Nat)(w:Bool)(a:Nat)(i:gR):du:=⟨some (j,w),.s (.v a i)⟩
@[reducible,simp] def ys(j:Nat)(w:Bool)(i:eY):du:=⟨some (j,w),.s i⟩
@[reducible,simp] def ck(d s a b:Nat):du:=cb d (.iaddr s (.t a) (.t b))
@[reducible,simp] def ay(d s a:Nat):du:=cb d (.load false s (.t a))
@[reducible,simp] def bk(d s a:Nat):du:=cb d (.load true s (.t a))
@[reducible,simp] def aF(d o s a:Nat):du:=cb d (.faddr o false s (.t a))
@[reducible,simp] def hr(d o s a:Nat):du:=cb d (.faddr o true s (.t a))
@[reducible,simp] def bu(d:Nat)(o:BinOp)(a b:Nat):du:=cb d (.bin o false (.t a) (.t b))
@[reducible,simp] def aV(d:Nat)(o:BinOp)(a:Nat)(n:Int):du:=cb d (.bin o false (.t a) (gV n))
@[reducible,simp] def cw(d a:Nat):du:=cb d (.len (.t a))
@[reducible,simp] def cO(d a:Nat):du:=cb d (.notB (.t a))
@[reducible,simp] def cV(d i a:Nat):du:=cb d (.ext i (.t a))
@[reducible,simp] def ds(d a b:Nat):du:=cb d (.pick (.t a) (.c (.bool true)) (.t b))
@[reducible,simp] def ei(d a b:Nat):du:=cb d (.pick (.t a) (.t b) (.c (.bool false)))
@[reducible,simp] def bz(d:Nat)(b:Bool):du:=cb d (.mov (.c (.bool b)))
@[reducible,simp] def bQ(d:Nat)(n:Int):du:=cb d (.mov (gV n))
@[reducible,simp] def bV(s a b:Nat):du:=dt (.store s (.t a) (.t b))
@[reducible,simp] def ax(j:Nat)(w:Bool)(x:du):du:=⟨some (j,w),x.i⟩
@[reducible,simp] def aa(l:List du)(c:C):C:= .seq (.region l) c
@[reducible,simp] def aW(n:Nat)(a b:C):C:= .cond (.t n) a b
@[reducible,simp] def hL(d a:Nat)(l:List dQ):du:=⟨none,.call (some d) (.t a) l⟩
@[reducible,simp] def cY(d f a:Nat):du:=dT d f [.t a]
@[reducible,simp] def cc(d f a b:Nat):du:=dT d f [.t a,.t b]
@[reducible,simp] def eC:List af:=[.int .i64 0,.int .i64 0,.str [],.slice 4 .nil []]
@[reducible,simp] def kx:List af:=[.int .i64 0,.int .i64 0,.int .i64 0,.str [],.slice 4 .nil []]
@[reducible,simp] def ig:List af:=[.int .i64 0,.slice 5 .nil [],.slice 1 .nil [],.slice 2 .nil [],.slice 2 .nil []]
@[reducible,simp] def c0(a b:Nat):du:=dt (.box a none (.t b))
@[reducible,simp] def dI(a:Nat)(l:List af):du:=dt (.alloc a none (.agg l))
@[reducible,simp] def fw(a n:Nat):du:=cb a (.mov (.c (.slice n .nil [])))
@[reducible,simp] def h3(a b c d e:Nat):du:=dt (.app a b c (.t d) (.t e))
@[reducible,simp] def fe(a b c:Nat)(l:List dQ):du:=dt (.bsl a b c l)
@[reducible,simp] def gw(a b:Nat):du:=cb a (.nck (.t b))
@[reducible,simp] def kC(d s a:Nat)(n:Int):du:=cb d (.iaddr s (.t a) (gV n))
@[reducible,simp] def jr(d:Nat)(l:List af)(m:List (Nat×Nat×dQ)):du:=cb d (.build l m)
@[reducible,simp] def gx(a b c:Nat)(x:C):C:= .block 0 (.loop (aa [bu a .lss b c] (.seq (aW a .skip (.exit 0)) x)))
@[reducible,simp,match_pattern] def aj(n:Int):af:= .int .i64 n
@[reducible,simp,match_pattern] def cX(l:List af):af:= .slice 1 .no l
@[reducible,simp,match_pattern] def b5(l:List af):af:= .slice 2 .no l
@[reducible,simp,match_pattern] def dx(l:List af):af:= .slice 4 .no l
@[reducible,simp,match_pattern] def bL(l:List af):af:= .slice 5 .no l
def QI:List cJ:=[0,1,2,2,3,3,3,3,4,4,4,4,4,4,4,4,5,5,5,5,5,5,5,5,5,5,5,5,5,5,5,5,6,6,6,6,6,6,6,6,6,6,6,6,6,6,6,6,6,6,6,6,6,6,6,6,6,6,6,6,6,6,6,6,7,7,7,7,7,7,7,7,7,7,7,7,7,7,7,7,7,7,7,7,7,7,7,7,7,7,7,7,7,7,7,7,7,7,7,7,7,7,7,7,7,7,7,7,7,7,7,7,7,7,7,7,7,7,7,7,7,7,7,7,7,7,7,7,8,8,8,8,8,8,8,8,8,8,8,8,8,8,8,8,8,8,8,8,8,8,8,8,8,8,8,8,8,8,8,8,8,8,8,8,8,8,8,8,8,8,8,8,8,8,8,8,8,8,8,8,8,8,8,8,8,8,8,8,8,8,8,8,8,8,8,8,8,8,8,8,8,8,8,8,8,8,8,8,8,8,8,8,8,8,8,8,8,8,8,8,8,8,8,8,8,8,8,8,8,8,8,8,8,8,8,8,8,8,8,8,8,8,8,8,8,8,8,8,8,8,8,8,8,8,8,8]
end
section
open Go Go.RowKit
def eW{α:Type}{l:List α}{i:Nat}(h:i<l.length):∃b,l[i]? =some b/\∀h,(l[i]'h)=b:=⟨l[i],cl h,fun _=>rfl⟩
def Qb(st:bp)(i:eY):Prop:=match nA st i with|some (c,_)=>c|none=>er
def Qc(st:bp)(i:eY):bp:=match nA st i with|some (_,s)=>s|none=>st
def Gr(P:cI)(r:List du)(K:bp->Prop)(st:bp):Prop:=jb P r st K
def AG(P:cI)(ob:List aB)(c:C)(Q:Exit->bp->Prop)(st:bp):Prop:=df P ob c Q st
def rh(P:cI)(v:af)(s:Nat)(w:Bool)(i:eV)(r:List du)(st:bp)(K:bp->Prop):Prop:=
 match v with
 | .bool b=>(b=w->jb P (⟨none,i⟩::r) {st with t:=put s (.bool w) st.t} K)/\(b= !w->jb P r {st with t:=e6 i.dst (.tuple []) (put s (.bool !w) st.t)} K)
 | .tuple []=>jb P r {st with t:=e6 i.dst (.tuple []) st.t} K
 |_=>er
def vM(P:cI)(ob:List aB)(v:af)(x:dQ)(t e:C)(Q:Exit->bp->Prop)(st:bp):Prop:=
 match v with
 | .bool b=>(b=true->df P ob t Q (tT st x true))/\(b=false->df P ob e Q (tT st x false))
 |_=>er
def L0(P:cI)(v:af)(d:be Nat)(xs:List af)(r:List du)(st:bp)(K:bp->Prop):Prop:=
 match v with
 | .func n dH=>CallDo P n (cf (xs++dH)) st d (Gr P r K)
 |_=>er
section
variable {P:cI} {ob:List aB} {st:bp} {K:bp->Prop} {r:List du} {Q:Exit->bp->Prop} {a b c t e:C}
def age:jb P [] st K=K st:=rfl
def agf{i:eY}:jb P (⟨none,.s i⟩::r) st K=(Qb st i/\jb P r (Qc st i) K):=by
 simp only[jb,vL,Qb,Qc];cases nA st i with
 |none=>simp
 |some x=>rfl
def agb{d:be Nat}{f:dQ}{xs:List dQ}:jb P (⟨none,.call d f xs⟩::r) st K=L0 P (cF st.t f) d (xs.map (cF st.t)) r st K:=by simp only[jb,vL,L0];rfl
def agd{d:Nat}{x:dQ}:jb P (⟨none,.next d x⟩::r) st K=uC st d (cF st.t x) (Gr P r K):=by simp only[jb,vL];rfl
def yF(P:cI)(ob:List aB)(c:C)(Q:Exit->bp->Prop):be bp->Prop
 |some st=>df P ob c Q st
 |none=>er
def adx:yF P ob c Q (some st)=df P ob c Q st:=rfl
def afP{s:Nat}:df P ob (.pub s c) Q st=yF P ob c Q (yb st s):=by simp only[df];cases yb st s<;>rfl
def afL{a:Bool}{s:Nat}:df P ob (.fg a s c) Q st=df P ob c Q {st with t:=put s (Bc a (get s st.t)) st.t}:=rfl
def afM{a:Bool}{s:Nat}{d:C}:df P ob (.seq (.fg a s c) d) Q st=df P ob (.seq c d) Q {st with t:=put s (Bc a (get s st.t)) st.t}:=rfl
def afN{a:Bool}{s:Nat}:df P ob (.fz a s c) Q st=yF P ob c Q (xg st a s):=by simp only[df];cases xg st a s<;>rfl
def afO{a:Bool}{s:Nat}{d:C}:df P ob (.seq (.fz a s c) d) Q st=yF P ob (.seq c d) Q (xg st a s):=by simp only[df];cases xg st a s<;>rfl
def afQ{s:Nat}:df P ob (.pubB s c) Q st=yF P ob c Q (ya st s):=by simp only[df];cases ya st s<;>rfl
def aga{n:Nat}{dH:List af}{d:be Nat}{xs:List af}:L0 P (.func n dH) d xs r st K=CallDo P n (cf (xs++dH)) st d (Gr P r K):=rfl
def agc{s:Nat}{w:Bool}{i:eV}:jb P (⟨some (s,w),i⟩::r) st K=rh P (get s st.t) s w i r st K:=by simp only[jb,rh];try rfl
def agl{s:Nat}{i:eV}:rh P (.bool true) s true i r st K=jb P (⟨none,i⟩::r) {st with t:=put s (.bool true) st.t} K:=by simp[rh]
def agh{s:Nat}{i:eV}:rh P (.bool false) s false i r st K=jb P (⟨none,i⟩::r) {st with t:=put s (.bool false) st.t} K:=by simp[rh]
def agk{s:Nat}{i:eV}:rh P (.bool true) s false i r st K=jb P r {st with t:=e6 i.dst (.tuple []) (put s (.bool true) st.t)} K:=by simp[rh]
def agi{s:Nat}{i:eV}:rh P (.bool false) s true i r st K=jb P r {st with t:=e6 i.dst (.tuple []) (put s (.bool false) st.t)} K:=by simp[rh]
def agj{s:Nat}{w:Bool}{i:eV}:rh P (.tuple []) s w i r st K=jb P r {st with t:=e6 i.dst (.tuple []) st.t} K:=by simp[rh]
def cz{x:Bool}{s:Nat}{w:Bool}{i:eV}(J:x=w->jb P (⟨none,i⟩::r) {st with t:=put s (.bool w) st.t} K)(U:x= !w->jb P r {st with t:=e6 i.dst (.tuple []) (put s (.bool !w) st.t)} K):rh P (.bool x) s w i r st K:=⟨J,U⟩
def afA:df P ob (.seq (.seq a b) c) Q st=df P ob (.seq a (.seq b c)) Q st:=by simp only[df];congr 1;funext e st';cases e<;>rfl
def afV:df P ob (.seq .skip c) Q st=df P ob c Q st:=rfl
def afT:df P ob (.seq .ret c) Q st=Q .ret st:=rfl
def afJ{n:Nat}:df P ob (.seq (.exit n) c) Q st=Q (.exit n) st:=rfl
def afW:df P ob .skip Q st=Q .normal st:=rfl
def afU:df P ob .ret Q st=Q .ret st:=rfl
def afK{n:Nat}:df P ob (.exit n) Q st=Q (.exit n) st:=rfl
def afR{gs:List du}:df P ob (.seq (.region gs) c) Q st=jb P gs st (AG P ob c Q):=rfl
def afS{gs:List du}:df P ob (.region gs) Q st=jb P gs st (Q .normal):=rfl
def afD{x:dQ}:df P ob (.seq (.cond x t e) c) Q st=vM P ob (cF st.t x) x (.seq t c) (.seq e c) Q st:=by simp only[df,vM];try rfl
def afE{x:dQ}:df P ob (.cond x t e) Q st=vM P ob (cF st.t x) x t e Q st:=by simp only[df,vM];try rfl
def afY{x:dQ}:vM P ob (.bool true) x t e Q st=df P ob t Q (tT st x true):=by simp[vM]
def afX{x:dQ}:vM P ob (.bool false) x t e Q st=df P ob e Q (tT st x false):=by simp[vM]
def ct{v:Bool}{x:dQ}(J:v=true->df P ob t Q (tT st x true))(U:v=false->df P ob e Q (tT st x false)):vM P ob (.bool v) x t e Q st:=⟨J,U⟩
def AA(P:cI)(ob:List aB)(id:Nat)(c:C)(Q:Exit->bp->Prop)(e:Exit)(st:bp):Prop:=
 match e with
 | .normal=>df P ob c Q st
 | .exit j=>if j=id then df P ob c Q st else Q (.exit j) st
 |e=>Q e st
def afB{id:Nat}:df P ob (.seq (.block id a) c) Q st=df P ob a (AA P ob id c Q) st:=by
 simp only[df];congr 1;funext e st';cases e with
 |exit j=>rfl
 |_=>rfl
def afC{id:Nat}:df P ob (.block id a) Q st=df P ob a (AA P ob id .skip Q) st:=by
 simp only[df];congr 1;funext e st';cases e with
 |exit j=>simp only[AA];by_cases b:j=id<;>simp[b,df]
 |_=>rfl
def adm{id:Nat}:AA P ob id c Q .normal st=AG P ob c Q st:=rfl
def adl{id j:Nat}:AA P ob id c Q (.exit j) st=if j=id then AG P ob c Q st else Q (.exit j) st:=rfl
def adn{id:Nat}:AA P ob id c Q .ret st=Q .ret st:=rfl
def bY(ob:List aB)(b:Nat->bp->Prop)(k:Nat)(Q:Exit->bp->Prop)(e:Exit)(st:bp):Prop:=
 match e with
 | .normal=> ∃bs a,bs<k/\gp ob st a/\b bs a
 |e=>Q e st
def Gl{b:Nat->bp->Prop}{k:Nat}:bY ob b k Q .normal st= ∃bs a,bs<k/\gp ob st a/\b bs a:=rfl
def ads{a:Nat->bp->Prop}{k n:Nat}:bY ob a k Q (.exit n) st=Q (.exit n) st:=rfl
def adt{a:Nat->bp->Prop}{k:Nat}:bY ob a k Q .ret st=Q .ret st:=rfl
def qs(b:Nat->bp->Prop)(m:Nat)(c:bp)(hw:gp ob st c)(l:b m c)(h:∀k s,b k s->(∀i,eN (get i s.t))->(∀j cs,ae j s.b=some cs->gY cs=true->eJ cs)->df P ob a (bY ob b k Q) s):df P ob (.loop a) Q st:=by
 simp only[df];refine⟨b,m,c,hw,l,fun k s J U n=>?_⟩;have:=h k s J U n;have g:(bY ob b k Q)=(fun e d=>match e with| .normal=> ∃bs f,bs<k/\gp ob d f/\b bs f|e=>Q e d):=by funext e d;cases e<;>rfl
 rw[g]at this;exact this
end
/-Regions cS draw kd order. -/
def P9(n0:Nat)(st:bp)(i:eY):Prop:=match fo (qo n0 i) st.n (qo n0 i::st.o) st i with|some (c,_)=>c|none=>er
def Qa(n0:Nat)(st:bp)(i:eY):bp:=match fo (qo n0 i) st.n (qo n0 i::st.o) st i with|some (_,s)=>s|none=>st
def Kz(P:cI)(q:Bool)(nw:List Nat)(n0:Nat)(r:List du)(K:bp->Prop)(st:bp):Prop:=iT P q nw n0 r st K
def rf(P:cI)(q:Bool)(nw:List Nat)(n0:Nat)(v:af)(s:Nat)(w:Bool)(i:eV)(r:List du)(st:bp)(K:bp->Prop):Prop:=
 match v with
 | .bool b=>(b=w->iT P q nw n0 (⟨none,i⟩::r) {st with t:=put s (.bool w) st.t} K)/\(b= !w->iT P q nw n0 r {st with t:=e6 i.dst (.tuple []) (put s (.bool !w) st.t)} K)
 | .tuple []=>iT P q nw n0 r {st with t:=e6 i.dst (.tuple []) st.t} K
 |_=>er
def LY(P:cI)(q:Bool)(nw:List Nat)(n0:Nat)(v:af)(d:be Nat)(xs:List af)(r:List du)(st:bp)(K:bp->Prop):Prop:=
 match v with
 | .func n dH=>hM P q nw n (cf (xs++dH)) st d (Kz P q nw n0 r K)
 |_=>er
section
variable {P:cI} {ob:List aB} {st:bp} {K:bp->Prop} {r:List du} {Q:Exit->bp->Prop} {c:C} {q:Bool} {nw:List Nat} {n0 N:Nat}
def af2:iT P q nw n0 [] st K=K st:=rfl
def af3{i:eY}:iT P q nw n0 (⟨none,.s i⟩::r) st K=(ng q nw n0 st i/\P9 n0 st i/\iT P q nw n0 r (Qa n0 st i) K):=by
 simp only[iT,la,P9,Qa];cases fo (qo n0 i) st.n (qo n0 i::st.o) st i with
 |none=>simp
 |some x=>rfl
def af0{d:be Nat}{f:dQ}{xs:List dQ}:iT P q nw n0 (⟨none,.call d f xs⟩::r) st K=LY P q nw n0 (cF st.t f) d (xs.map (cF st.t)) r st K:=by simp only[iT,la,LY];rfl
def afZ{n:Nat}{dH:List af}{d:be Nat}{xs:List af}:LY P q nw n0 (.func n dH) d xs r st K=hM P q nw n (cf (xs++dH)) st d (Kz P q nw n0 r K):=rfl
def af1{s:Nat}{w:Bool}{i:eV}:iT P q nw n0 (⟨some (s,w),i⟩::r) st K=rf P q nw n0 (get s st.t) s w i r st K:=by simp only[iT,rf];try rfl
def af8{s:Nat}{i:eV}:rf P q nw n0 (.bool true) s true i r st K=iT P q nw n0 (⟨none,i⟩::r) {st with t:=put s (.bool true) st.t} K:=by simp[rf]
def af4{s:Nat}{i:eV}:rf P q nw n0 (.bool false) s false i r st K=iT P q nw n0 (⟨none,i⟩::r) {st with t:=put s (.bool false) st.t} K:=by simp[rf]
def af7{s:Nat}{i:eV}:rf P q nw n0 (.bool true) s false i r st K=iT P q nw n0 r {st with t:=e6 i.dst (.tuple []) (put s (.bool true) st.t)} K:=by simp[rf]
def af5{s:Nat}{i:eV}:rf P q nw n0 (.bool false) s true i r st K=iT P q nw n0 r {st with t:=e6 i.dst (.tuple []) (put s (.bool false) st.t)} K:=by simp[rf]
def af6{s:Nat}{w:Bool}{i:eV}:rf P q nw n0 (.tuple []) s w i r st K=iT P q nw n0 r {st with t:=e6 i.dst (.tuple []) st.t} K:=by simp[rf]
def cy{x:Bool}{s:Nat}{w:Bool}{i:eV}(J:x=w->iT P q nw n0 (⟨none,i⟩::r) {st with t:=put s (.bool w) st.t} K)(U:x= !w->iT P q nw n0 r {st with t:=e6 i.dst (.tuple []) (put s (.bool !w) st.t)} K):rf P q nw n0 (.bool x) s w i r st K:=⟨J,U⟩
def afF{gs:List du}:df P ob (.seq (.drawn q N gs) c) Q st=iT P q [] st.n gs st (vs (st.n+N) st.o (AG P ob c Q)):=rfl
def afG{gs:List du}:df P ob (.drawn q N gs) Q st=iT P q [] st.n gs st (vs (st.n+N) st.o (Q .normal)):=rfl
def afH{gs:List du}:df P ob (.seq (.drawnW nw N gs) c) Q st=((∀j∈nw,.obj j∉st.o)/\iT P false nw st.n gs st (vs (st.n+N) (nw.map aB.obj++st.o) (AG P ob c Q))):=rfl
def afI{gs:List du}:df P ob (.drawnW nw N gs) Q st=((∀j∈nw,.obj j∉st.o)/\iT P false nw st.n gs st (vs (st.n+N) (nw.map aB.obj++st.o) (Q .normal))):=rfl
def hM.val{n:Nat}{args:List af}{d:be Nat}{r:af}(ab:aH (fun _=>er) args)(a:bT P n args r)(h:K {st with t:=e6 d r st.t}):hM P q nw n args st d K:=by
 refine .inr ⟨⟨[],[]⟩,⟨[],[]⟩,r,none,fun k cs ab=>by simp[ae]at ab,fun k cs ab=>by simp[ae]at ab,sw,sw,⟨fun k h=>.inl h,fun k h=>.inl h,fun k h=>h,fun k h=>h,fun k h=>by cases h⟩,jl (fun _ h=>h.elim) _ ab,a,fun _=>⟨rfl,rfl⟩,?_⟩;have:({after st ⟨[],[]⟩ ⟨[],[]⟩ d r with o:=st.o}:bp)={st with t:=e6 d r st.t}:=by simp[after,C8]
 rw[this];exact h
def aP{n:Nat}{args:List af}{d:be Nat}{r:af}(a:bT P n args r)(h:K {st with t:=e6 d r st.t})(ab:aH (fun _=>er) args:=by simp):hM P q nw n args st d K:=hM.val ab a h
end
section
variable {k:IntKind} {n:Int} {b:Bool} {s:List cJ} {sz:Nat} {tag:jH} {xs:List af} {key:aB} {off f:Nat} {x:af}
@[simp]def axC:eU (.int k n)=true:=rfl
@[simp]def axp:eU (.bool b)=true:=rfl
@[simp]def axL:eU (.str s)=true:=rfl
@[simp]def axK:eU (.slice sz tag xs)=true:=rfl
@[simp]def axl:eU (.agg xs)=true:=rfl
@[simp]def axI:eU (.ptr key off)=true:=rfl
@[simp]def axy:eU (.eptr x)=true:=rfl
@[simp]def axB{t:Nat}:eU (.iface t x)=true:=rfl
@[simp]def aui{t:Nat}:cells (.iface t x)=[.iface t x]:=rfl
@[simp]def axr{a:be Addr}{n c:Nat}:eU (.cst (.slice a n c))=true:=rfl
@[simp]def axs{s}:eU (.cst (.string s))=true:=rfl
@[simp]def axH:eU .nilp=true:=rfl
@[simp]def axz:eU (.func f xs)=true:=rfl
@[simp]def axA:eU (.gmap key)=true:=rfl
@[simp]def axJ{n:Nat}:eU (.row sz key n)=true:=rfl
@[simp]def aur{n:Nat}:cells (.row sz key n)=[.row sz key n]:=rfl
@[simp]def auj:cells (.int k n)=[.int k n]:=rfl
@[simp]def at8:cells (.bool b)=[.bool b]:=rfl
@[simp]def aut:cells (.str s)=[.str s]:=rfl
@[simp]def aus:cells (.slice sz tag xs)=[.slice sz tag xs]:=rfl
@[simp]def at4:cells (.agg xs)=xs:=rfl
@[simp]def auq:cells (.ptr key off)=[.ptr key off]:=rfl
@[simp]def auf:cells (.eptr x)=[.eptr x]:=rfl
@[simp]def aup:cells .nilp=[.nilp]:=rfl
@[simp]def aug:cells (.func f xs)=[.func f xs]:=rfl
@[simp]def auh:cells (.gmap key)=[.gmap key]:=rfl
end
section
variable {b:List (aB×List af)} {e:List (aB×dW)} {agg:Bool} {sz off:Nat} {k:aB} {p:af} {cs xs bm:List af} {gl:IntKind} {n i:Int} {m j:Nat} {tag:jH} {s:List cJ} {RP:Bool} {lo hi:be af}
@[simp]def awp{a:Nat}{f:Nat}:n3 b e agg sz (.rptr a k m j f)=Af agg sz a m j f (ae k e):=rfl
@[simp]def awo:n3 b e agg sz (.ptr k off)=(match ae k b with
  |some cs=>if agg then some (gY cs=true/\off+sz<=cs.length,.agg ((cs.drop off).take sz))else(cs[off]?).map fun p=>(gY cs=true,p)
  |none=>none):=rfl
@[simp]def awn:n3 b e agg sz (.eptr p)=if agg then some (qJ sz p,p)else some (eU p=true/\cells p=[p],p):=rfl
@[simp]def au2:DW agg sz (.eptr p)=if agg then some (qJ sz p,p)else some (eU p=true/\cells p=[p],p):=rfl
@[simp]def auU{o:Nat}:sX off agg sz (.ptr k o)=some (True,.ptr k (o+off)):=rfl
@[simp]def auV{a f:Nat}:sX off agg sz (.rptr a k m j f)=some (True,.rptr a k m j (f+off)):=rfl
@[simp]def auP:sX off agg sz (.eptr (.agg cs))=if agg then some (off+sz<=cs.length,.eptr (.agg ((cs.drop off).take sz)))else(cs[off]?).map fun p=>(eU p=true/\cells p=[p],.eptr p):=rfl
@[simp]def auX:vP off agg sz (.agg cs)=if agg then some (off+sz<=cs.length,.agg ((cs.drop off).take sz))else(cs[off]?).map fun p=>(True,p):=rfl
@[simp]def avu{a:Nat}:BP sz (.slice a tag xs) (.int gl i)=if a=sz then some (0<=i/\i<xs.length,.eptr (xs.getD i.toNat .junk))else none:=rfl
@[simp]def avt{a:Nat}:BP sz (.row a k m) (.int gl i)=if a=sz then some (0<=i/\i<m,.rptr a k m i.toNat 0)else none:=rfl
@[simp]def awm{a:Nat}:B2 (.slice a tag xs)=some (True,.int .i64 xs.length):=rfl
@[simp]def awl{a:Nat}:B2 (.row a k m)=some (True,.int .i64 m):=rfl
@[simp]def awk{a:be Addr}{n c:Nat}:B2 (.cst (.slice a n c))=some (True,.int .i64 n):=rfl
@[simp]def axj{s}:FR (.cst (.string s))=some (True,.int .i64 s.size):=rfl
@[simp]def axk:FR (.str s)=some (True,.int .i64 s.length):=rfl
@[simp]def auO:A7 j (.tuple bm)=(bm[j]?).map fun p=>(True,p):=rfl
@[simp]def awR:Ch (.ptr k off)=some (True,.ptr k off):=rfl
@[simp]def awP:Ch (.eptr p)=some (True,.eptr p):=rfl
@[simp]def awQ:Ch (.func j cs)=some (True,.func j cs):=rfl
@[simp]def awV:I3 (.bool RP)=some (True,.bool (!RP)):=rfl
@[simp]def axi:J0 (.str s) (.int gl i)=some (0<=i/\i<s.length,.int .u8 (s.getD i.toNat 0).toNat):=rfl
@[simp]def axO:J5 (.str s) lo hi=(match sx 0 lo,sx s.length hi with
  |some l,some h=>some (0<=l/\l<=h/\h<=s.length,.str ((s.take h.toNat).drop l.toNat))
  |_,_=>none):=rfl
@[simp]def awt{a:Nat}:IK sz (.slice a tag xs) lo hi=(if a=sz then match sx 0 lo,sx xs.length hi with
  |some l,some h=>some (0<=l/\l<=h/\h<=xs.length,.slice sz .no ((xs.take h.toNat).drop l.toNat))
  |_,_=>none else none):=rfl
def YD{f:aB->be (List af)}{a:kl}{z q:af}{ok:Bool}:pe f a z ok (.gmap k) q=(match f k with
  |some (.hdm _ _::kvs)=>if xU a q=false then none else match xZ a q kvs with
   |some (some v)=>some (True,if ok then .tuple [v,.bool true]else v)
   |some none=>some (True,if ok then .tuple [z,.bool false]else z)
   |none=>none
  |_=>none):=rfl
def YA{f:aB->be (List af)}:qM f (.ptr k 0)=(match f k with
  |some [.hdi _ seen last,.gmap mk]=>match f mk with
   |some (.hdm clock borns::kvs)=>match seen.getLast? with
    |some n=>(n5 n borns kvs).map fun p=>(clock=last,p)
    |none=>none
   |_=>none
  |_=>none):=rfl
@[simp]def axe{b f n' el a:Nat}:Af agg sz b m j f (some ⟨n',el,a,some xs⟩)=(if n'=m/\a=b then
   (match xs[j]? with
    |some p=>if agg then some (eU p=true/\f+sz<=(cells p).length,.agg (((cells p).drop f).take sz))else((cells p)[f]?).map fun q=>(eU p=true,q)
    |none=>none)else none):=rfl
end
attribute [simp] afA afR afB afD afV afT afJ afW afU afK afS afC afE AG adm adl adn ads adt age agf agb aga agc
 agl agh agk agi agj afY afX Qb Qc nA h2 je cF get put ky rB oM oN cK sx Dp Ii J6 nB vH Jg IZ G5 IW
 ae e6 eY.dst eV.dst tT Gr uq cf b7 az aH
 afF afG afH afI af2 af3 af0 afZ af1 af8 af4 af7 af5 af6 P9 Qa fo qo ng qv gR.loadO vs Kz zE gY ur agd afP afQ afL afM afN afO xg Mo uw Bc adx yb Fv ya sE od ju IP GD r5
def aO{P:cI}{n:Nat}{args:List af}{st:bp}{d:be Nat}{K:bp->Prop}{r:af}(a:bT P n args r)(h:K {st with t:=e6 d r st.t})(ab:aH (fun _=>er) args:=by simp):CallDo P n args st d K:=CallDo.val ab a h
def ao{a b:Prop}(d:b)(c:a:=by first|omega|(unfold tz;omega)|(unfold lim;omega)):a/\b:=⟨c,d⟩
def c3{p:Prop}(h:er:=by first|contradiction|omega):p:=h.elim
def cn{p:Prop}(h:p:=by(try simp[*]);(repeat' first|with_reducible refine ao ?_|with_reducible refine aO (by assumption) ?_|with_reducible refine aP (by assumption) ?_|simp[*]);(all_goals first|done|(simp[bZ,bc,bf,a6, *];done))):p:=h
end
section
open Go Go.RowKit
structure eA (s:cT):Prop where
 obj:h0 s
 kb:∀k cs,ae k s.b=some cs->aH (aM s) cs
 ke:∀k o,ae k s.e=some o->dV (aM s) o
structure Same (s ak:cT):Prop where
 b:∀k,(ae k s.b).isSome=(ae k ak.b).isSome
 e:∀k,(ae k s.e).isSome=(ae k ak.e).isSome
def Same.refl(s:cT):Same s s:=⟨fun _=>rfl,fun _=>rfl⟩
def Same.inObs{s a:cT}(h:Same s a)(k:aB):aM s k↔aM a k:=by unfold aM;rw[h.b,h.e]
def u1{α:Type}{k:aB}{x:α}:∀{l:List (aB×α)},(k,x)∈l->(ae k l).isSome
 |(i,y)::r,h=>by
  simp only[ae];split
  ·rfl
  ·rename_i a;rcases gJ.1 h with h|h
   ·cases h;exact absurd rfl a
   ·exact u1 h
def NJ{s:cT}{k:aB}(h:k∈cL s):aM s k:=by
 unfold cL at h;rcases kg.1 h with h|h
 ·obtain⟨⟨bs,x⟩,J,rfl⟩:=hb.1 h;exact .inl (u1 J)
 ·obtain⟨⟨bs,x⟩,J,rfl⟩:=hb.1 h;exact .inr (u1 J)
def kK{s:cT}(h:h0 s)(m:Nat):aB.loc m∉cL s:=fun hm=>by
 rcases NJ hm with J|J
 ·rw[h.1 m]at J;cases J
 ·rw[h.2 m]at J;cases J
def jA{α β:Type}(s:List (aB×β)):∀(a b:List (aB×α)),cM s (a++b)=cM s a++cM s b
 |[],b=>rfl
 |(k,x)::r,b=>by
  simp only[b6,cM];cases ae k s with
  |none=>simp[jA s r b]
  |some _=>exact jA s r b
def Q7{α β:Type}(s:List (aB×β)):∀(l:List (aB×α)),(∀k x,(k,x)∈l->(ae k s).isSome)->cM s l=[]
 |[],_=>rfl
 |(k,x)::r,h=>by
  have J:=h k x Ψ;simp only[cM];cases a:ae k s with
  |none=>rw[a]at J;cases J
  |some _=>exact Q7 s r fun k x b=>h k x (by simp[b])
def hK{α:Type}(s:List (aB×α)):cM s s=[]:=Q7 s s fun k x h=>u1 h
def kO{α:Type}{k:aB}{x:α}:∀{l:List (aB×α)},ae k l=none->cK k x l=l++[(k,x)]
 |[],_=>rfl
 |(i,y)::r,h=>by
  simp only[ae]at h;split at h
  ·cases h
  ·rename_i a;simp[cK,a,kO h]
def c6{α:Type}(k:aB):∀(a b:List (aB×α)),ae k (a++b)=match ae k a with|some x=>some x|none=>ae k b
 |[],b=>rfl
 |(i,y)::r,b=>by
  simp only[b6,ae];split
  ·rfl
  ·exact c6 k r b
def CallDo.ob{P:cI}{n:Nat}{args:List af}{st:bp}{d:be Nat}{K:bp->Prop}{s:cT}{Q:af->cT->Prop}(f:bH P n args s Q)(b:eA s)(e:∀k cs,ae k s.b=some cs->ae k st.b=some cs)(he:∀k o,ae k s.e=some o->ae k st.e=some o)
  (ab:aH (aM s) args) (h:∀r a,Q r a->Same s a/\K ⟨e6 d r st.t,cM s.b st.b++a.b,cM s.e st.e++a.e,st.n,st.o++cL a⟩):CallDo P n args st d K:=by
 refine .inl ⟨s,Q,fun k cs aw=>⟨e k cs aw,.inl (by simp[aw]),b.kb k cs aw⟩,fun k o ar=>⟨he k o ar,.inr (by simp[ar]),b.ke k o ar⟩,b.obj,ab,f,fun r a c=>?_⟩;obtain⟨J,U⟩:=h r a c;exact⟨⟨fun m hm=>.inl (by rw[J.b];exact hm),fun m hm=>.inl (by rw[J.e];exact hm)⟩,U⟩
def c5.ob{j:List bW}{s a:cT}{Q:af->cT->Prop}{e:Exit}{st:bp}{c:Prop}{f:List af}(n:e= .ret\/e= .normal)(p:bc st j=some (c,f))(aw:c)(g:eA a)(i:Same s a)(v:∀k cs,ae k a.b=some cs->ae k st.b=some cs)(q:∀k o,ae k a.e=some o->ae k st.e=some o)
  (ab:az (aM a) (b7 (a6 f))) (t:Q (b7 (a6 f)) a):c5 j s Q e st:=by
 refine⟨n,?_⟩;rw[p];have m:∀{α:Type} (l:List (aB×α)),(∀k x,(k,x)∈l->aM a k)->lY a l:=by
  intro α l;induction l with
  |nil=>intro _;trivial
  |cons x r u=>obtain⟨k,x⟩:=x;intro h;exact⟨h k x Ψ,u fun k x b=>h k x (by simp[b])⟩
 exact⟨aw,a,m _ fun k x b=>.inl (by rw[<-i.b];exact u1 b),m _ fun k x b=>.inr (by rw[<-i.e];exact u1 b),fun k cs d=>⟨v k cs d,.inl (by simp[d]),g.kb k cs d⟩,fun k o ar=>⟨q k o ar,.inr (by simp[ar]),g.ke k o ar⟩,g.obj,ab,t⟩
def bH.mono{P:cI}{f:FuncId}{args:List af}{s:cT}{Q b:af->cT->Prop}(h:bH P f args s Q)(g:∀r a,Q r a->b r a):bH P f args s b:=by
 intro w ν bm J U i;have hm:∀(e:Ending) (w':World),(∃v r a bo,e= .returned v/\Q r a/\aU w' bo r v/\Good (fun bl=>fB ν s bl\/w.heap.size<=bl) w' bo a.b a.e/\pM bo a/\h0 a/\pC ⟨w,ν,fB ν s,0,cL s⟩ w' bo)->(∃v r a bo,e= .returned v/\b r a/\aU w' bo r v/\Good (fun bl=>fB ν s bl\/w.heap.size<=bl) w' bo a.b a.e/\pM bo a/\h0 a/\pC ⟨w,ν,fB ν s,0,cL s⟩ w' bo):=by rintro e w' ⟨v,r,a,bo,d,a2,a3⟩;exact⟨v,r,a,bo,d,g _ _ a2,a3⟩
 rcases h w ν bm J U i with⟨c,aw⟩|⟨v,w',aw,j⟩
 ·exact .inl ⟨c,aw.mono hm⟩
 ·exact .inr ⟨v,w',aw,hm _ _ j⟩
def E9{s:cT}{k:aB}(h:aM s k):¬fresh 0 (cL s) k:=fun a=>a.2 (rH h)
def gp.ob{s:cT}(b:eA s){st:bp}{t':List (Nat×af)}(c:∀x∈t',get x.1 st.t=x.2/\az (aM s) x.2)(d:∀k cs,ae k s.b=some cs->ae k st.b=some cs)(he:∀k o,ae k s.e=some o->ae k st.e=some o):
  gp (cL s) st ⟨t',s.b,s.e,0,cL s⟩:=
 ⟨fun x a=>⟨(c x a).1,tD (fun k ab=>E9 ab) _ (c x a).2⟩,fun k cs aw=>⟨d k cs aw,E9 (.inl (by simp[aw])),jl (fun k ab=>E9 ab) _ (b.kb k cs aw)⟩,
  fun k o ar=>⟨he k o ar,E9 (.inr (by simp[ar])),fun xs a=>jl (fun k ab=>E9 ab) _ (b.ke k o ar xs a)⟩,fun m hm=>hm⟩
def dd(st:bp)(a:List bW)(R:af->Prop):Prop:=match bc st a with
 |some (c,b)=>c/\R (b7 (a6 b))
 |none=>er
def c5.at{b:List bW}{s:cT}{Q:af->cT->Prop}{e:Exit}{st:bp}(a:cT)(d:e= .ret\/e= .normal)(i:eA a)(f:Same s a)(j:∀k cs,ae k a.b=some cs->ae k st.b=some cs)(g:∀k o,ae k a.e=some o->ae k st.e=some o)
  (h:dd st b fun r=>az (aM a) r/\Q r a):c5 b s Q e st:=by
 unfold dd at h;split at h
 ·rename_i c m l;exact c5.ob d l h.1 i f j g h.2.1 h.2.2
 ·exact h.elim
def hM.ob{P:cI}{nw:List Nat}{n:Nat}{args:List af}{st:bp}{d:be Nat}{K:bp->Prop}{s a:cT}{r:af}(j:bH P n args s fun g t'=>g=r/\t'=a)(c:eA s)(f:eA a)(b:Same s a)(i:∀k cs,ae k s.b=some cs->ae k st.b=some cs)(he:∀k o,ae k s.e=some o->ae k st.e=some o)
  (ab:aH (aM s) args) (h:K ⟨e6 d r st.t,cM s.b st.b++a.b,cM s.e st.e++a.e,st.n,st.o⟩):hM P false nw n args st d K:=
 .inr ⟨s,a,r,none,fun k cs aw=>⟨i k cs aw,.inl (by simp[aw]),c.kb k cs aw⟩,fun k o ar=>⟨he k o ar,.inr (by simp[ar]),c.ke k o ar⟩,c.obj,f.obj,⟨fun k ab=>.inl (by rw[b.b];exact ab),fun k ab=>.inl (by rw[b.e];exact ab),fun k ab=>by rw[<-b.b];exact ab,fun k ab=>by rw[<-b.e];exact ab,fun k ab=>by cases ab⟩,ab,j,(fun e=>by cases e),h⟩
def eA.of{s:cT}(ar:h0 s)(a:∀x∈s.b,aH (aM s) x.2)(he:∀x∈s.e,∀xs,x.2.xs=some xs->aH (aM s) xs):eA s:=⟨ar,fun k cs ab=>a (k,cs) (u0 ab),fun k o ab xs b=>he (k,o) (u0 ab) xs b⟩
@[simp]def awY(b:List (aB×List af))(e:List (aB×dW)):cL ⟨b,e⟩=b.map (·.1)++e.map (·.1):=rfl
def C1{α:Type}{k:aB}{p:α}:∀{a r:List (aB×α)},ae k a=none->cK k p (a++r)=a++cK k p r
 |[],_,_=>rfl
 |(i,y)::a,r,h=>by
  simp only[ae]at h;split at h
  ·cases h
  ·rename_i b;simp[cK,b,C1 h]
def amh{α:Type}{s b:List (aB×α)}(h:∀p∈s,ae p.1 b=some p.2):∀k x,ae k s=some x->ae k b=some x:=fun k x a=>h (k,x) (u0 a)
def eo{S:aB->Prop}{b2 b:List (aB×List af)}(h:∀p∈b2,ae p.1 b=some p.2/\S p.1/\aH S p.2):hC S b2 b:=fun k x a=>h (k,x) (u0 a)
def ep{S:aB->Prop}{b2 b:List (aB×dW)}(h:∀p∈b2,ae p.1 b=some p.2/\S p.1/\dV S p.2):p9 S b2 b:=fun k x a=>h (k,x) (u0 a)
def aX{α:Type}{s b:List (aB×α)}(h:∀k x,ae k s=some x->ae k b=some x:=by first|(refine amh ?_;simp;done)|(intro k x a;first|exact a|(simp[a,hK];done)|(simp[c6,hK,a];done)|(cases k<;>simp_all[c6];done))):∀k x,ae k s=some x->ae k b=some x:=h
def b9{ob:List aB}{st st':bp}(J:∀x∈st'.t,get x.1 st.t=x.2/\az (fun k=> ¬fresh st'.n st'.o k) x.2:=by simp[fresh,aH,az,cd,aM,ae])(U:∀p∈st'.b,ae p.1 st.b=some p.2/\(¬fresh st'.n st'.o p.1)/\aH (fun k=> ¬fresh st'.n st'.o k) p.2:=by simp[fresh,aH,az,cd,aM,ae])(a:∀p∈st'.e,ae p.1 st.e=some p.2/\(¬fresh st'.n st'.o p.1)/\dV (fun k=> ¬fresh st'.n st'.o k) p.2:=by simp[fresh,aH,az,dV,aM,ae])(b:∀m∈ob,m∈st'.o:=by simp):gp ob st st':=⟨J,eo U,ep a,b⟩
def bY.next{ob:List aB}{b:Nat->bp->Prop}{k:Nat}{Q:Exit->bp->Prop}{st:bp}(bs:Nat){a:bp}(ab:bs<k)(hi:b bs a)(hw:gp ob st a):bY ob b k Q .normal st:=⟨bs,a,ab,hw,hi⟩
def flat:List (Int×af)->List af
 |[]=>[]
 |(k,v)::r=>.int .i64 k::v::flat r
def k0(l:List (Int×af)):List af:= .hdm l.length (List.range l.length)::flat l
def yM(k:Int):List (Int×af)->be af
 |[]=>none
 |(i,v)::r=>if k=i then some v else yM k r
def ql(k:Int)(v:af):List (Int×af)->be (List (Int×af))
 |[]=>none
 |(i,w)::r=>if k=i then some ((k,v)::r)else match ql k v r with|some a=>some ((i,w)::a)|none=>none
def GC(k:Int)(v:af)(l:List (Int×af)):List (Int×af):=match ql k v l with|some a=>a|none=>l++[(k,v)]
@[simp]def awD:[af.hdm 0 []]=k0 []:=rfl
def Vm:∀a b,flat (a++b)=flat a++flat b
 |[],_=>rfl
 |(k,v)::r,b=>by simp[flat,Vm r b]
def YB(k:Int):∀l,xZ .i (.int .i64 k) (flat l)=some (yM k l)
 |[]=>rfl
 |(i,v)::r=>by
  simp only[flat,xZ,uU,yM];by_cases h:k=i
  ·simp[h]
  ·have:(k==i)=false:=by simp[h]
   simp[h,YB k r,this]
def RG{k:Int}{v:af}:∀{l a},ql k v l=some a->a.length=l.length
 |[],_,h=>by simp[ql]at h
 |(i,w)::r,a,h=>by
  simp only[ql]at h;split at h
  ·cases h;rfl
  ·split at h
   ·rename_i c b;cases h;simp[RG b]
   ·cases h
def Y0(k:Int)(v:af):∀l,wB .i (.int .i64 k) v (flat l)=some ((ql k v l).map flat)
 |[]=>rfl
 |(i,w)::r=>by
  simp only[flat,wB,uU,ql];by_cases h:k=i
  ·subst h;simp[flat]
  ·simp only[and_self,if_true,h,if_false,ey,Y0 k v r];have:(k==i)=false:=by simp[h]
   rw[this];cases ql k v r<;>simp[flat]
@[simp]def YX(k:Int)(v:af)(l:List (Int×af)):qO .i (.int .i64 k) v (k0 l)=some (k0 (GC k v l)):=by
 simp only[k0,qO,XI,Bool.true_eq_false,reduceCtorEq,if_false,Y0,GC];cases h:ql k v l with
 |some a=>simp[RG h]
 |none=>simp[Vm,flat,List.range_succ]
@[simp]def amI(f:aB->be (List af))(m:aB)(l:List (Int×af))(z:af)(ok:Bool)(k:Int)(hm:f m=some (k0 l)):pe f .i z ok (.gmap m) (.int .i64 k)=(match yM k l with
  |some v=>some (True,if ok then .tuple [v,.bool true]else v)
  |none=>some (True,if ok then .tuple [z,.bool false]else z)):=by
 simp only[YD,hm,k0,XI,Bool.true_eq_false,reduceCtorEq,if_false,YB];cases yM k l<;>rfl
def cd(n:Nat)(seen:List Nat)(m:aB):List af:=[.hdi n seen n,.gmap m]
@[simp]def axd(m:aB)(l:List (Int×af)):z8 m (k0 l)=some (cd l.length [] m):=rfl
@[simp]def aw9(l:List (Int×af)):gY (k0 l)=false:=rfl
def Ov(b:Nat):∀(n:Nat) (l:List (Int×af)),n5 b (List.range' n l.length) (flat l)=(if n<=b then(l[b-n]?).map fun x=>.tuple [.int .i64 x.1,x.2]else none)
 |n,[]=>by simp[n5,flat]
 |n,(k,v)::r=>by
  simp only[mw,List.range'_succ,flat,n5];by_cases h:n=b
  ·subst h;simp
  ·rw[if_neg h,Ov b (n+1) r];by_cases U:n<=b
   ·rw[if_pos U,if_pos Ω];have:b-n=(b-(n+1))+1:=Ω
    rw[this];simp
   ·rw[if_neg U,if_neg Ω]
@[simp]def Yz(f:aB->be (List af))(gl mk:aB)(n:Nat)(seen:List Nat)(b:Nat)(l:List (Int×af))(hi:f gl=some (cd n (seen++[b]) mk))(hm:f mk=some (k0 l))(a:n=l.length):qM f (.ptr gl 0)=(l[b]?).map fun x=>(True,.tuple [.int .i64 x.1,x.2]):=by subst a;simp only[YA,hi,hm,cd,k0,List.getLast?_append,List.getLast?_singleton,Option.some_or,List.range_eq_range',Ov,Nat.zero_le,if_true,Nat.sub_zero,Option.map_map];cases l[b]?<;>simp
def UI{st:bp}{d:Nat}{K:bp->Prop}{gl mk:aB}{n:Nat}{seen:List Nat}{l:List (Int×af)}(hi:ae gl st.b=some (cd n seen mk))(hm:ae mk st.b=some (k0 l))(i:n=l.length)
  (J:(∀b,b<n->b∈seen)->K {st with t:=put d (.tuple [.bool false]) st.t}) (U:∀b k v,l[b]? =some (k,v)->b∉seen->K {st with t:=put d (.tuple [.bool true,.int .i64 k,v]) st.t,b:=cK gl (cd n (seen++[b]) mk) st.b}):
  uC st d (.ptr gl 0) K:=by
 subst i;simp only[uC,hi,cd,hm,k0,OL,and_self,true_and];refine⟨fun h=>J fun b c=>h b (by simpa using c),fun b k v a c=>?_⟩;rw[List.range_eq_range',Ov]at a;simp only[Nat.zero_le,if_true,Nat.sub_zero,hs,af.tuple.injEq,rR,jf]at a;obtain⟨⟨bs,v'⟩,g,f,e⟩:=a;simp only at f e;subst f e;exact U b bs v' g c
def apA{n:Nat}{seen:List Nat}(d:seen.Nodup)(c:∀b∈seen,b<n)(a:∀b,b<n->b∈seen):seen.Perm (List.range n):=(List.perm_ext_iff_of_nodup d List.nodup_range).2 fun b=>⟨fun h=>by simpa using c b h,fun h=>a b (by simpa using h)⟩
def JY{n:Nat}{seen:List Nat}(d:seen.Nodup)(a:∀b∈seen,b<n):seen.length<=n:=by have:=Rf d (l₂:=List.range n) (fun b c=>by simpa using a b c);simpa using this
def Qh{n b:Nat}{seen:List Nat}(d:seen.Nodup)(a:∀b∈seen,b<n)(c:b<n)(e:b∉seen):seen.length<n:=by have J:(b::seen).Nodup:=List.nodup_cons.2 ⟨e,d⟩;have:=JY J (n:=n) (by simp;exact⟨c,a⟩);simp at this;omega
def aaZ{α:Type}:∀(l pre:List α),(List.range' pre.length l.length).filterMap (fun b=>(pre++l)[b]?)=l
 |[],_=>rfl
 |x::r,pre=>by have a:=aaZ r (pre++[x]);simp only[qe,List.length_singleton,List.append_assoc,List.singleton_append]at a;simp[List.range'_succ,a]
def Qg{α:Type}{l:List α}{seen:List Nat}(d:seen.Nodup)(c:∀b∈seen,b<l.length)(a:∀b,b<l.length->b∈seen):(seen.filterMap fun b=>l[b]?).Perm l:=by have J:=(apA d c a).filterMap fun b=>l[b]?;have U:=aaZ l [];simp only[List.length_nil,ca,<-List.range_eq_range']at U;rwa[U]at J
def OU{b:Nat}{seen:List Nat}(d:seen.Nodup)(f:b∉seen):(seen++[b]).Nodup:=by rw[rT];exact⟨d,Ψ,by simp;intro a c e;subst e;exact f c⟩
def c9.start{w:World}{ν:bd}{s:cT}{args:List af}{bm:Array Value}(e:h0 s)(a7:Good (fB ν s) w ν s.b s.e)(a:pM ν s)(p:c7 w ν args bm.toList):
  c9 ⟨w,ν,fB ν s,bm.size,cL s⟩ ⟨je 0 args,s.b,s.e,0,cL s⟩ {tmps:=bm,defers:=[]} w ν:=by
 have q:=Ac p;have A:bm.size=args.length:=by simpa using q
 have d:∀k,fresh 0 (cL s) k->ν.bx k=none/\ν.ow k=none/\∀j b,¬ν.tr k j b:=by
  intro k ab;cases k with
  |loc m=>exact⟨(a _).1 (e.1 m),(a _).2.1 (e.2 m),(a _).2.2⟩
  |obj m=>
   simp only[fresh,true_and]at ab;refine⟨?_,?_,(a _).2.2⟩
   ·refine(a _).1 ?_;cases h:ae (.obj m) s.b with
    |none=>rfl
    |some x=>exact absurd (rH (.inl (by simp[h]))) ab
   ·refine(a _).2.1 ?_;cases h:ae (.obj m) s.e with
    |none=>rfl
    |some x=>exact absurd (rH (.inr (by simp[h]))) ab
 have f:∀m,(ν.bx (.obj m)≠none\/ν.ow (.obj m)≠none)-> .obj m∈cL s:=by
  intro m hm;refine Classical.byContradiction fun aw=>?_;obtain⟨J,U,_⟩:=d (.obj m) ⟨trivial,aw⟩;rcases hm with hm|hm
  ·exact hm J
  ·exact hm U
 refine⟨⟨a7.alt,fun k cs ab=>?_,a7.inj,fun g o t=>?_,a7.oinj,a7.obx,a7.one,a7.otr⟩,⟨rfl,rfl,rfl,dP _,fun _ _ _=>rfl,fun b o h=>⟨h,rfl⟩,fun b o h=>.inl h,fun n b h=>h,fun n b h=>f n (.inl (by rw[h];simp)),fun m n u h=>⟨n,u,h,.inl ⟨rfl,rfl⟩⟩,fun m n u h=>f m (.inr (by rw[h];simp)),fun k j _ _ b h=>absurd h ((a k).2.2 j b),fun k j b h=>absurd h ((a k).2.2 j b),fun k j b h=>absurd h ((a k).2.2 j b),fun _ _ _=>rfl⟩,rfl,rfl,fun i=>?_,d⟩
 ·obtain⟨bl,us,el,g1,g2,g3⟩:=a7.box k cs ab;exact⟨bl,us,el,g1,.inl g2,g3⟩
 ·obtain⟨v,us,g1,g2,g3,g4⟩:=a7.own g o t;exact⟨v,us,g1,g2,fun bl l=>⟨.inl (g3 bl l).1,(g3 bl l).2⟩,g4⟩
 ·rw[HB];by_cases hi:i<args.length
  ·rw[if_pos Ω];have c:args[i]? =some args[i]:=cl hi;obtain⟨v,y,z⟩:=FF i p c;have r:bm[i]? =some v:=by simpa using y
   show aU w ν _ (bm.getD i undef);rw[Array.getD_eq_getD_getElem?,r];simpa[List.getD,c]using z
  ·rw[if_neg Ω];simp[aU]
def bH.sem{P:cI}{f:FuncId}{args:List af}{s:cT}{Q:af->cT->Prop}(G:h0 s)
  (h:∀(w:World) (ν:bd) (bm:Array Value),bm.size=args.length->c9 ⟨w,ν,fB ν s,bm.size,cL s⟩ ⟨je 0 args,s.b,s.e,0,cL s⟩ {tmps:=bm,defers:=[]} w ν->
   yA P f bm w fun e w'=> ∃v st' br bo r a,e= .returned v/\c9 ⟨w,ν,fB ν s,bm.size,cL s⟩ st' br w' bo/\aU w' bo r v/\lY a s.b/\lY a s.e/\hC (aM a) a.b st'.b/\p9 (aM a) a.e st'.e/\h0 a/\az (aM a) r/\Q r a):bH P f args s Q:=by
 intro w ν bm a7 y z;have F:bm.size=args.length:=by simpa using Ac z
 have E:=c9.start G a7 y z;have hm:∀(e:Ending) (w':World),(∃v st' br bo r a,e= .returned v/\c9 ⟨w,ν,fB ν s,bm.size,cL s⟩ st' br w' bo/\aU w' bo r v/\lY a s.b/\lY a s.e/\hC (aM a) a.b st'.b/\p9 (aM a) a.e st'.e/\h0 a/\az (aM a) r/\Q r a)->
   ∃v r a bo,e= .returned v/\Q r a/\aU w' bo r v/\Good (fun bl=>fB ν s bl\/w.heap.size<=bl) w' bo a.b a.e/\pM bo a/\h0 a/\pC ⟨w,ν,fB ν s,0,cL s⟩ w' bo:=by
  rintro e w' ⟨v,st',br,bo,r,a,rfl,d,q0,kb,ke,p,q,L,H,K⟩;refine⟨v,r,a,bo.cut (aM a),rfl,K,vd (oi.cut _ w' bo) _ _ H q0,d.good.cut p q (fun bl h _=>h),?_,L,?_⟩
  ·intro k;refine⟨?_,?_,?_⟩;rotate_left 2
   ·rintro j b ⟨c,i⟩;obtain⟨t1,t2⟩:=d.fr.trn k j b i;rcases c with c|c<;>obtain⟨x,l⟩:=fx.1 c
    ·obtain⟨bl,t,el,g,_⟩:=d.good.box k x (p k x l).1;rw[t1]at g;cases g
    ·obtain⟨v',t,g,_⟩:=d.good.own k x (q k x l).1;rw[t2]at g;cases g
   ·intro ab;by_cases c:aM a k
    ·rw[bd.cut_bx c];rcases c with c|c
     ·rw[ab]at c;cases c
     ·obtain⟨x,l⟩:=fx.1 c;obtain⟨v',t,g,_⟩:=d.good.own k x (q k x l).1;rcases d.good.one k with J|J
      ·exact J
      ·rw[J]at g;cases g
    ·exact(bd.cut_no c).1
   ·intro ab;by_cases c:aM a k
    ·rw[bd.cut_ow c];rcases c with c|c
     ·obtain⟨x,l⟩:=fx.1 c;obtain⟨bl,t,el,g,_⟩:=d.good.box k x (p k x l).1;rcases d.good.one k with J|J
      ·rw[J]at g;cases g
      ·exact J
     ·rw[ab]at c;cases c
    ·exact(bd.cut_no c).2.1
  ·refine⟨d.fr.os,d.fr.tape,d.fr.output,d.fr.size,d.fr.block,d.fr.keep,d.fr.fresh,fun n b h=>?_,d.fr.obn,fun m n u h=>?_,d.fr.obr,fun k j bs dh b J U=>d.fr.trd k j bs dh b J.2 U.2,fun k j b i=>d.fr.trb k j b i.2,fun k j b i=>(by rw[bd.cut_bx i.1,bd.cut_ow i.1];exact d.fr.trn k j b i.2),d.fr.sh⟩
   ·have c:aM a (.obj n):=by
     cases o:ae (.obj n) s.b with
     |none=>rw[(y _).1 o]at h;cases h
     |some x=>exact xS kb _ (by simp[o])
    rw[bd.cut_bx c];exact d.fr.obj n b h
   ·have c:aM a (.obj m):=by
     cases o:ae (.obj m) s.e with
     |none=>rw[(y _).2.1 o]at h;cases h
     |some x=>exact xS ke _ (by simp[o])
    rw[bd.cut_ow c];exact d.fr.row m n u h
 rcases h w ν bm F E with⟨A,aw⟩|⟨v,w',aw,B⟩
 ·exact .inl ⟨A,aw.mono hm⟩
 ·exact .inr ⟨v,w',aw,hm _ _ B⟩
def c9.grown{C:fq}{st:bp}{a:Act}{w w':World}{ν:bd}(h:c9 C st a w ν)(a7:w.grownBy w' none):c9 C st a w' ν:=by
 have d:mz w ν w' ν:=⟨fun b o c=>⟨c,G2 a7 (h.good.alt b o c)⟩,fun _ _ _ h=>h,fun _ n u _ h=>⟨n,u,h,.inl ⟨rfl,rfl⟩⟩,fun b o c=>ym (a7.block b (h.good.alt b o c) Ψ),fun _ _ _ _ h=>h⟩;refine h.over d rfl ⟨fun b o c=>Nat.lt_of_lt_of_le (h.good.alt b o c) a7.size,fun k cs ab=>?_,h.good.inj,fun g o i=>?_,h.good.oinj,h.good.obx,h.good.one,h.good.otr⟩
  ⟨a7.os.trans h.fr.os,a7.tape.trans h.fr.tape,a7.output.trans h.fr.output,kE h.fr.size a7.size,fun k ab hm=>?_,fun b o c=>?_,h.fr.fresh,h.fr.obj,h.fr.obn,h.fr.row,h.fr.obr,h.fr.trd,fun k j b e=>⟨(h.fr.trb k j b e).1,Nat.lt_of_lt_of_le (h.fr.trb k j b e).2 a7.size⟩,h.fr.trn,fun b o c=>(d.sh b o (h.fr.keep b o c).1).trans (h.fr.sh b o c)⟩ h.new
 ·obtain⟨bl,us,el,g1,g2,g3,g4,g5⟩:=h.good.box k cs ab;exact⟨bl,us,el,g1,g2,g3,by rw[a7.block bl (Array.getElem?_eq_some_iff.1 g4).1 Ψ];exact g4,rK d g5⟩
 ·obtain⟨v,us,g1,g2,g3,g4⟩:=h.good.own g o i;exact⟨v,us,g1,g2.kept a7 (by cases v.ownBlock<;>simp),g3,tU d (fun _ _ _ h=>h) g4⟩
 ·rw[a7.block k (Nat.lt_of_lt_of_le ab h.fr.size) Ψ];exact h.fr.block k ab hm
 ·obtain⟨f,l⟩:=h.fr.keep b o c;exact⟨f,(d.A b o f).2.trans l⟩
def CallDo.new{P:cI}{n:Nat}{args:List af}{st:bp}{d:be Nat}{K:bp->Prop}{s:cT}{Q:af->cT->Prop}(g:bH P n args s Q)(c:eA s)(f:∀k cs,ae k s.b=some cs->ae k st.b=some cs)(he:∀k o,ae k s.e=some o->ae k st.e=some o)
  (ab:aH (aM s) args) (h:∀r a,Q r a->(∀m,aM a (.obj m)->aM s (.obj m)/\Same s a\/ .obj m∉st.o)/\K ⟨e6 d r st.t,cM s.b st.b++a.b,cM s.e st.e++a.e,st.n,st.o++cL a⟩):CallDo P n args st d K:=by
 refine .inl ⟨s,Q,fun k cs aw=>⟨f k cs aw,.inl (by simp[aw]),c.kb k cs aw⟩,fun k o ar=>⟨he k o ar,.inr (by simp[ar]),c.ke k o ar⟩,c.obj,ab,g,fun r a e=>?_⟩;obtain⟨J,U⟩:=h r a e;refine⟨⟨fun m hm=>?_,fun m hm=>?_⟩,U⟩
 ·rcases J m (.inl hm)with⟨_,b⟩|b
  ·exact .inl (by rw[b.b];exact hm)
  ·exact .inr b
 ·rcases J m (.inr hm)with⟨_,b⟩|b
  ·exact .inl (by rw[b.e];exact hm)
  ·exact .inr b
def c5.new{g:List bW}{s:cT}{Q:af->cT->Prop}{e:Exit}{st:bp}(a:cT)(i:e= .ret\/e= .normal)(d:eA a)(f:lY a s.b/\lY a s.e)(l:∀k cs,ae k a.b=some cs->ae k st.b=some cs)(j:∀k o,ae k a.e=some o->ae k st.e=some o)
  (h:dd st g fun r=>az (aM a) r/\Q r a):c5 g s Q e st:=by
 unfold dd at h;split at h
 ·rename_i c n m;refine⟨i,?_⟩;rw[m];exact⟨h.1,a,f.1,f.2,fun k cs b=>⟨l k cs b,.inl (by simp[b]),d.kb k cs b⟩,fun k o ar=>⟨j k o ar,.inr (by simp[ar]),d.ke k o ar⟩,d.obj,h.2.1,h.2.2⟩
 ·exact h.elim
@[simp]def auJ{P:cI}{ob:List aB}{c d:C}{Q:Exit->bp->Prop}{st:bp}{s:Nat}:df P ob (.seq (.pub s c) d) Q st=yF P ob (.seq c d) Q (yb st s):=by simp only[df];cases yb st s<;>rfl
@[simp]def auI{P:cI}{ob:List aB}{c d:C}{Q:Exit->bp->Prop}{st:bp}{s:Nat}:df P ob (.seq (.pubB s c) d) Q st=yF P ob (.seq c d) Q (ya st s):=by simp only[df];cases ya st s<;>rfl
end
section
open Go Go.RowKit
def wo(t:List (Nat×af))(a:List Nat):List (Nat×af):=a.map fun k=>(k,get k t)
@[simp]def avJ(t:List (Nat×af)):wo t []=[]:=rfl
@[simp]def avI(t:List (Nat×af))(k:Nat)(a:List Nat):wo t (k::a)=(k,get k t)::wo t a:=rfl
def qN(st:bp)(a:List Nat)(cs:List (Nat×af)):bp:=⟨wo st.t a++cs,st.b,st.e,st.n,st.o⟩
def amZ(t:List (Nat×af))(b:List (aB×List af))(e:List (aB×dW))(n:Nat)(o:List aB)(a:List Nat)(cs:List (Nat×af)):qN ⟨t,b,e,n,o⟩ a cs=⟨wo t a++cs,b,e,n,o⟩:=rfl
def AB{α:Type}(S:Nat->α->bp)(n:Nat)(b:Nat->α->Prop)(k:Nat)(st:bp):Prop:= ∃i a,i<=n/\k=n-i/\b i a/\st=S i a
section
variable {P:cI} {ob:List aB} {st:bp} {Q:Exit->bp->Prop} {c:C} {α:Type}
def fU(S:Nat->α->bp)(n:Nat)(b:Nat->α->Prop)(a0:α)(hw:gp ob st (S 0 a0))(l:b 0 a0)(f:∀a,b n a->(∀i,eN (get i (S n a).t))->df P ob c (bY ob (AB S n b) 0 Q) (S n a))
  (g:∀i a,i<n->b i a->(∀j,eN (get j (S i a).t))->df P ob c (bY ob (AB S n b) (n-i) Q) (S i a)):df P ob (.loop c) Q st:=by
 refine qs (AB S n b) n _ hw ⟨0,a0,Ω,Ω,l,rfl⟩ ?_;rintro k s ⟨i,a,hi,rfl,d,rfl⟩ e _;rcases Nat.lt_or_ge i n with h|h
 ·exact g i a h d e
 ·obtain rfl:i=n:=Ω
  rw[Nat.sub_self];exact f a d e
def bY.rng{S:Nat->α->bp}{n:Nat}{a:Nat->α->Prop}{i:Nat}(br:α)(hi:i<n)(b:a (i+1) br)(hw:gp ob st (S (i+1) br)):bY ob (AB S n a) (n-i) Q .normal st:=⟨n-(i+1),_,Ω,hw,i+1,br,Ω,rfl,b,rfl⟩
def Dc{α:Type}(S:α->bp)(μ:α->Nat)(b:α->Prop)(k:Nat)(st:bp):Prop:= ∃a,k=μ a/\b a/\st=S a
def o6(S:α->bp)(μ:α->Nat)(b:α->Prop)(a0:α)(hw:gp ob st (S a0))(e:b a0)
  (d:∀a,b a->(∀j,eN (get j (S a).t))->df P ob c (bY ob (Dc S μ b) (μ a) Q) (S a)):df P ob (.loop c) Q st:=by
 refine qs (Dc S μ b) (μ a0) _ hw ⟨a0,rfl,e,rfl⟩ ?_;rintro k s ⟨a,rfl,f,rfl⟩ g _;exact d a f g
def bY.whl{S:α->bp}{μ:α->Nat}{a:α->Prop}{k:Nat}(br:α)(hm:μ br<k)(b:a br)(hw:gp ob st (S br)):bY ob (Dc S μ a) k Q .normal st:=⟨μ br,_,hm,hw,br,rfl,b,rfl⟩
end
def iW{p:Prop}(h:p:=by(try simp[*]);(repeat' first|with_reducible refine ao ?_|with_reducible refine aO (by assumption) ?_|with_reducible refine aP (by assumption) ?_|simp[*]);(all_goals first|exact bY.rng () (by assumption) (by first|assumption|trivial) b9|exact bY.rng _ (by assumption) (by assumption) b9)):p:=h
end
section
open Go Go.RowKit
def nz(s:cT)(n:Nat)(k:aB):Prop:=aM s k\/ ∃m,m<n/\k= .loc m
@[simp]def Y2(s:cT)(n m:Nat)(hm:m<n):nz s n (.loc m):= .inr ⟨m,hm,rfl⟩
def Ci{s:cT}{n:Nat}{l:List af}(h:aH (aM s) l):aH (nz s n) l:=jl (fun _ h=>.inl h) l h
def zP{s b:cT}(c:Same s b){n:Nat}{k:aB}(h:nz b n k):¬fresh n (cL s) k:=by
 rcases h with h|⟨m,hm,rfl⟩
 ·exact fun a=>a.2 (rH ((c.inObs k).2 h))
 ·intro a;have:=a.1;simp at this;omega
def gp.obL{s a:cT}(e:eA a)(b:Same s a){st:bp}{t':List (Nat×af)}{L:List (aB×List af)}{n:Nat}(f:∀x∈t',get x.1 st.t=x.2/\az (nz a n) x.2)(g:∀x∈L,ae x.1 st.b=some x.2/\nz a n x.1/\aH (nz a n) x.2)
  (i:∀k cs,ae k a.b=some cs->ae k st.b=some cs) (he:∀k o,ae k a.e=some o->ae k st.e=some o):gp (cL s) st ⟨t',L++a.b,a.e,n,cL s⟩:=by
 refine⟨fun x c=>⟨(f x c).1,tD (fun k ab=>zP b ab) _ (f x c).2⟩,fun k cs ab=>?_,fun k o ar=>?_,fun m hm=>hm⟩
 ·simp only at ab;rw[c6]at ab;cases d:ae k L with
  |some x=>rw[d]at ab;simp only[dU]at ab;subst ab;obtain⟨J,U,h⟩:=g _ (u0 d);exact⟨J,zP b U,jl (fun k ab=>zP b ab) _ h⟩
  |none=>rw[d]at ab;exact⟨i k cs ab,zP b (.inl (.inl (by simp[ab]))),jl (fun k ab=>zP b (.inl ab)) _ (e.kb k cs ab)⟩
 ·exact⟨he k o ar,zP b (.inl (.inr (by simp at ar;simp[ar]))),fun xs c=>jl (fun k ab=>zP b (.inl ab)) _ (e.ke k o ar xs c)⟩
def ih{α:Type}(l:List α)(i j:Nat):List α:=match l[i]?,l[j]? with
 |some x,some y=>(l.set i y).set j x
 |_,_=>l
section
variable {α:Type}
@[simp]def amr(l:List α)(i j:Nat):(ih l i j).length=l.length:=by unfold ih;split<;>simp
def B6(l:List α)(i j k:Nat)(hi:i<l.length)(a:j<l.length):(ih l i j)[k]? =if k=i then l[j]? else if k=j then l[i]? else l[k]?:=by
 unfold ih;rw[cl hi,cl a];simp only[List.getElem?_set,List.length_set];by_cases J:j=k
 ·subst J;by_cases U:j=i
  ·subst U;simp[hi]
  ·simp[U,a]
 ·by_cases U:i=k
  ·subst U;simp[J,hi]
  ·simp[J,U,Ne.symm J,Ne.symm U]
def Ym(l:List α)(i j:Nat):(ih l i j).Perm l:=by
 unfold ih;split
 ·rename_i x y b c;obtain⟨hi,rfl⟩:=fH.1 b;obtain⟨a,rfl⟩:=fH.1 c;exact List.set_set_perm hi a
 ·exact .refl _
inductive hn (a b:Nat):List α->List α->Prop
 |refl (l:List α):hn a b l l
 |step {l m:List α} {i j:Nat}:hn a b l m->a<=i->i<b->a<=j->j<b->i<m.length->j<m.length->hn a b l (ih m i j)
def hn.length{a b:Nat}{l m:List α}(h:hn a b l m):m.length=l.length:=by
 induction h with
 |refl=>rfl
 |step _ _ _ _ _ _ _ c=>rw[amr,c]
def hn.perm{a b:Nat}{l m:List α}(h:hn a b l m):m.Perm l:=by
 induction h with
 |refl=>exact .refl _
 |step _ _ _ _ _ _ _ c=>exact(Ym _ _ _).trans c
def hn.out{a b:Nat}{l m:List α}(h:hn a b l m)(k:Nat)(ab:k<a\/b<=k):m[k]? =l[k]?:=by
 induction h with
 |refl=>rfl
 |step _ J U f g d c e=>rw[B6 _ _ _ _ d c,if_neg Ω,if_neg Ω];exact e
def hn.all{a b:Nat}{l m:List α}(h:hn a b l m)(p:α->Prop)(j:∀k x,a<=k->k<b->l[k]? =some x->p x):∀k x,a<=k->k<b->m[k]? =some x->p x:=by
 induction h with
 |refl=>exact j
 |step _ J U n o i g d=>
  intro k x f e c;rw[B6 _ _ _ _ i g]at c;split at c
  ·exact d _ _ n o c
  ·split at c
   ·exact d _ _ J U c
   ·exact d _ _ f e c
def hn.trans{a b:Nat}{l m r:List α}(h:hn a b l m)(d:hn a b m r):hn a b l r:=by
 induction d with
 |refl=>exact h
 |step _ J U g i e c f=>exact .step f J U g i e c
def hn.mono{a b br b2:Nat}{l m:List α}(h:hn a b l m)(f:br<=a)(i:b<=b2):hn br b2 l m:=by
 induction h with
 |refl=>exact .refl _
 |step _ J U g j d c e=>exact .step e Ω Ω Ω Ω d c
def ga(lt:α->α->Bool)(a b:Nat)(l:List α):Prop:= ∀i j x y,a<=i->i<j->j<b->l[i]? =some x->l[j]? =some y->lt y x=false
structure rX (lt:α->α->Bool):Prop where
 asym:∀x y,lt x y=true->lt y x=false
 ntr:∀x y z,lt y x=false->lt z y=false->lt z x=false
def ga.pairwise{lt:α->α->Bool}{l:List α}(h:ga lt 0 l.length l):l.Pairwise fun x y=>lt y x=false:=by rw[q4];intro i j hi a b;exact h i j _ _ Ω b a (cl hi) (cl a)
def iY(a m b k:Nat):Nat:=if k<a then k else if k<a+(b-m)then k+(m-a)else if k<b then k-(b-m)else k
def tX(a b c k:Nat):Nat:=if a<=k/\k<a+c then b+(k-a)else if b<=k/\k<b+c then a+(k-b)else k
end
def HI(i j:Nat)(h:i+j<=1099511627776):vo.wrap (Int.fdiv (im.wrap ((i:Int)+j)) (2 ^ (min 1 im.bits)))=((i+j)/2:Nat):=by
 have hw:im.wrap ((i:Int)+j)=i+j:=by simp[ud,ps,uc];omega
 have a:im.bits=64:=rfl;rw[hw,a,show(2:Int) ^ (min 1 64)=2 from by decide,Int.fdiv_eq_ediv_of_nonneg _ Ω,pt]
 ·omega
 ·omega
end
section
open Go
inductive Tm where
 |mk (kind n:Int) (name:List cJ) (args:List Tm)
def Tm.kind:Tm->Int| .mk k _ _ _=>k
def Tm.num:Tm->Int| .mk _ n _ _=>n
def Tm.name:Tm->List cJ| .mk _ _ s _=>s
def Tm.args:Tm->List Tm| .mk _ _ _ a=>a
mutual
def enc:Tm->af
 | .mk k n s a=>.agg [.int .i64 k,.int .i64 n,.str s,.slice 4 .no (me a)]
def me:List Tm->List af
 |[]=>[]
 |x::xs=>enc x::me xs
end
def A5:∀l,me l=l.map enc
 |[]=>rfl
 |x::xs=>by simp[me,A5 xs]
def vJ(t:Tm):enc t= .agg [.int .i64 t.kind,.int .i64 t.num,.str t.name,.slice 4 .no (t.args.map enc)]:=by cases t;simp[enc,A5,Tm.kind,Tm.num,Tm.name,Tm.args]
mutual
def X2(S:aB->Prop):∀t:Tm,az S (enc t)
 | .mk k n s a=>by simp[enc,az,aH,N3 S a]
def N3(S:aB->Prop):∀l:List Tm,aH S (me l)
 |[]=>by simp[me,aH]
 |x::xs=>by simp[me,aH,X2 S x,N3 S xs]
end
mutual
def abQ:∀t:Tm,b7 (enc t)=enc t
 | .mk k n s a=>by simp[enc,b7,cf,Qt a]
def Qt:∀l:List Tm,cf (me l)=me l
 |[]=>by simp[me,cf]
 |x::xs=>by simp[me,cf,abQ x,Qt xs]
end
@[simp]def av8(S:aB->Prop)(t:Tm):az S (enc t)=True:=h4 (X2 S t)
@[simp]def avT(S:aB->Prop)(l:List Tm):aH S (l.map enc)=True:=by rw[<-A5];exact h4 (N3 S l)
def abP(l:List Tm):cf (l.map enc)=l.map enc:=by rw[<-A5];exact Qt l
attribute [simp] abQ abP
@[simp]def axx(t:Tm):eU (enc t)=true:=by rw[vJ];rfl
@[simp]def aue(t:Tm):cells (enc t)=[.int .i64 t.kind,.int .i64 t.num,.str t.name,.slice 4 .no (t.args.map enc)]:=by rw[vJ];rfl
@[simp]def atT(t:Tm):af.agg [.int .i64 t.kind,.int .i64 t.num,.str t.name,.slice 4 .no (t.args.map enc)]=enc t:=(vJ t).symm
@[simp]def avC(t:Tm):qJ 4 (enc t):=by rw[vJ];exact⟨_,rfl,rfl⟩
inductive T where
 |nil
 |var (n:Int)
 |sym (s:List cJ)
 |num (n:Int)
 |pair (a b:T)
 deriving DecidableEq,Inhabited
def T.tm:T->Tm
 | .nil=>.mk 0 0 [] []
 | .var n=>.mk 1 n [] []
 | .sym s=>.mk 2 0 s []
 | .num n=>.mk 3 n [] []
 | .pair a b=>.mk 4 0 [] [a.tm,b.tm]
def T.e:T->af
 | .nil=>.agg [.int .i64 0,.int .i64 0,.str [],.slice 4 .no []]
 | .var n=>.agg [.int .i64 1,.int .i64 n,.str [],.slice 4 .no []]
 | .sym s=>.agg [.int .i64 2,.int .i64 0,.str s,.slice 4 .no []]
 | .num n=>.agg [.int .i64 3,.int .i64 n,.str [],.slice 4 .no []]
 | .pair a b=>.agg [.int .i64 4,.int .i64 0,.str [],.slice 4 .no [a.e,b.e]]
def mD:∀t:T,enc t.tm=t.e
 | .nil| .var _| .sym _| .num _=>rfl
 | .pair a b=>by simp[T.tm,enc,me,T.e,mD a,mD b]
def T.kind:T->Int
 | .nil=>0| .var _=>1| .sym _=>2| .num _=>3| .pair _ _=>4
def T.int:T->Int
 | .var n=>n| .num n=>n|_=>0
def T.name:T->List cJ
 | .sym s=>s|_=>[]
def T.args:T->List T
 | .pair a b=>[a,b]|_=>[]
def T.e_eq(t:T):t.e= .agg [.int .i64 t.kind,.int .i64 t.int,.str t.name,.slice 4 .no (t.args.map T.e)]:=by cases t<;>rfl
@[simp]def atS(t:T):af.agg [.int .i64 t.kind,.int .i64 t.int,.str t.name,.slice 4 .no (t.args.map T.e)]=t.e:=(T.e_eq t).symm
@[simp]def atU:af.agg [.int .i64 0,.int .i64 0,.str [],.slice 4 .no []]=T.nil.e:=rfl
@[simp]def atY(n:Int):af.agg [.int .i64 1,.int .i64 n,.str [],.slice 4 .no []]=(T.var n).e:=rfl
@[simp]def atX(s:List cJ):af.agg [.int .i64 2,.int .i64 0,.str s,.slice 4 .no []]=(T.sym s).e:=rfl
@[simp]def atV(n:Int):af.agg [.int .i64 3,.int .i64 n,.str [],.slice 4 .no []]=(T.num n).e:=rfl
@[simp]def atW(a b:T):af.agg [.int .i64 4,.int .i64 0,.str [],.slice 4 .no [a.e,b.e]]=(T.pair a b).e:=rfl
@[simp]def al9:(T.nil).kind=0:=rfl
@[simp]def alA:(T.nil).int=0:=rfl
@[simp]def am4:(T.nil).name=[]:=rfl
@[simp]def adV:(T.nil).args=[]:=rfl
@[simp]def ame(n:Int):(T.var n).kind=1:=rfl
@[simp]def alE(n:Int):(T.var n).int=n:=rfl
@[simp]def am9(n:Int):(T.var n).name=[]:=rfl
@[simp]def adZ(n:Int):(T.var n).args=[]:=rfl
@[simp]def amd(s:List cJ):(T.sym s).kind=2:=rfl
@[simp]def alD(s:List cJ):(T.sym s).int=0:=rfl
@[simp]def am8(s:List cJ):(T.sym s).name=s:=rfl
@[simp]def adY(s:List cJ):(T.sym s).args=[]:=rfl
@[simp]def ama(n:Int):(T.num n).kind=3:=rfl
@[simp]def alB(n:Int):(T.num n).int=n:=rfl
@[simp]def am5(n:Int):(T.num n).name=[]:=rfl
@[simp]def adW(n:Int):(T.num n).args=[]:=rfl
@[simp]def amb(a b:T):(T.pair a b).kind=4:=rfl
@[simp]def alC(a b:T):(T.pair a b).int=0:=rfl
@[simp]def am6(a b:T):(T.pair a b).name=[]:=rfl
@[simp]def adX(a b:T):(T.pair a b).args=[a,b]:=rfl
@[simp]def av7(S:aB->Prop)(t:T):az S t.e=True:=by rw[<-mD];simp
@[simp]def axY(t:T):b7 t.e=t.e:=by rw[<-mD];simp
def XT(S:aB->Prop):∀l:List T,aH S (l.map T.e)
 |[]=>by simp[aH]
 |x::xs=>by simp[aH,XT S xs]
@[simp]def XS(S:aB->Prop)(l:List T):aH S (l.map T.e)=True:=h4 (XT S l)
@[simp]def arA:∀l:List T,cf (l.map T.e)=l.map T.e
 |[]=>rfl
 |x::xs=>by simp[cf,arA xs]
@[simp]def axw(t:T):eU t.e=true:=by rw[T.e_eq];rfl
@[simp]def aud(t:T):cells t.e=[.int .i64 t.kind,.int .i64 t.int,.str t.name,.slice 4 .no (t.args.map T.e)]:=by rw[T.e_eq];rfl
@[simp]def avB(t:T):qJ 4 t.e:=by rw[T.e_eq];exact⟨_,rfl,rfl⟩
def T.size:T->Nat
 | .pair a b=>1+a.size+b.size
 |_=>1
def T.size_pos(t:T):1<=t.size:=by cases t<;>simp[T.size]<;>omega
def low(b:cJ):Bool:=decide (97<=b.toNat/\b.toNat<=122)
def nW(b:cJ):Bool:=low b||decide (48<=b.toNat/\b.toNat<=57)||b.toNat==45
def ib(s:List cJ):Bool:=decide (1<=s.length/\s.length<=12)&&low (s.getD 0 0)&&(s.drop 1).all nW
def T.ok:T->Bool
 | .nil=>true
 | .var n=>decide (0<=n/\n<=100000)
 | .sym s=>ib s
 | .num n=>decide (-1000000000<=n/\n<=1000000000)
 | .pair a b=>a.ok&&b.ok
def mm(k n:Int)(s:List cJ):Bool:=if k=0 then n==0&&s==[]else if k=1 then decide (0<=n/\n<=100000)&&s==[]else if k=2 then n==0&&ib s else if k=3 then decide (-1000000000<=n/\n<=1000000000)&&s==[]else false
def gu:Tm->Int->Int
 | .mk k n s [a,b],room=>if room<1\/k≠4\/n≠0\/s≠[]then-1 else if gu a (room-1)<0 then-1 else if gu b (room-1-gu a (room-1))<0 then-1 else 1+gu a (room-1)+gu b (room-1-gu a (room-1))
 | .mk k n s args,room=>if room<1\/k=4\/args≠[]\/mm k n s=false then-1 else 1
def OR(k n:Int)(s:List cJ)(args:List Tm)(room:Int):gu (.mk k n s args) room=if room<1 then-1 else if k≠4 then(if args≠[]then-1 else if mm k n s then 1 else-1)else if n≠0\/s≠[]then-1 else match args with
  |[a,b]=>if gu a (room-1)<0 then-1 else if gu b (room-1-gu a (room-1))<0 then-1 else 1+gu a (room-1)+gu b (room-1-gu a (room-1))
  |_=> -1:=by
 match args with
 |[]=>simp only[gu];by_cases J:room<1<;>by_cases U:k=4<;>by_cases d:mm k n s=true<;>simp[J,U,d]
 |[a]=>simp[gu]
 |[a,b]=>simp only[gu];by_cases J:room<1<;>by_cases U:k=4<;>simp[J,U]
 |a::b::c::r=>simp[gu]
def I2:∀(t:T) (room:Int),gu t.tm room=if t.ok=true/\(t.size:Int)<=room then(t.size:Int)else-1
 | .nil,room=>by simp[T.tm,gu,T.ok,T.size,mm];split<;>rename_i h<;>simp_all<;>omega
 | .var n,room=>by simp[T.tm,gu,T.ok,T.size,mm];split<;>split<;>simp_all<;>omega
 | .sym s,room=>by simp[T.tm,gu,T.ok,T.size,mm];by_cases J:room<1<;>by_cases U:ib s=true<;>simp[J,U]<;>omega
 | .num n,room=>by simp[T.tm,gu,T.ok,T.size,mm];split<;>split<;>simp_all<;>omega
 | .pair a b,room=>by
  have f:=a.size_pos;have g:=b.size_pos;simp only[T.tm,gu,I2 a,I2 b,T.ok,T.size,cR];by_cases J:room<1
  ·simp[J];omega
  ·by_cases U:a.ok=true/\(a.size:Int)<=room-1
   ·rw[if_pos U];by_cases c:b.ok=true/\(b.size:Int)<=room-1-a.size
    ·rw[if_pos c];simp[J,U.1,c.1];split<;>omega
    ·rw[if_neg c];simp[J,U.1];intro e;have:=c;simp[e]at this;omega
   ·rw[if_neg U];simp[J];intro d;have:=U;simp[d]at this;omega
def E8:∀(t:Tm) (room:Int),gu t room= -1\/1<=gu t room
 | .mk k n s [a,b],room=>by
  simp only[gu];split
  ·exact .inl rfl
  ·split
   ·exact .inl rfl
   ·split
    ·exact .inl rfl
    ·right;omega
 | .mk k n s [],room=>by simp only[gu];split<;>simp
 | .mk k n s [a],room=>by simp[gu]
 | .mk k n s (a::b::c::r),room=>by simp[gu]
def OT:∀(t:Tm) (room:Int),0<gu t room->∃x:T,x.tm=t
 | .mk k n s [a,b],room,h=>by
  simp only[gu]at h;split at h
  ·omega
  ·rename_i J;simp only[not_or,Int.not_lt,ne_eq,ayi]at J;obtain⟨J,rfl,rfl,rfl⟩:=J;split at h
   ·omega
   ·split at h
    ·omega
    ·obtain⟨x,rfl⟩:=OT a (room-1) (by rcases E8 a (room-1)with h|h<;>omega);obtain⟨y,rfl⟩:=OT b (room-1-gu x.tm (room-1)) (by rcases E8 b (room-1-gu x.tm (room-1))with h|h<;>omega);exact⟨.pair x y,rfl⟩
 | .mk k n s [],room,h=>by
  simp only[gu]at h;split at h
  ·omega
  ·rename_i J;simp only[not_or,ne_eq,not_true_eq_false,not_false_eq_true,true_and,Bool.not_eq_false]at J;obtain⟨_,_,J⟩:=J;unfold mm at J;split at J
   ·rename_i e;subst e;simp at J;obtain⟨rfl,rfl⟩:=J;exact⟨.nil,rfl⟩
   ·split at J
    ·rename_i e;subst e;simp at J;obtain⟨_,rfl⟩:=J;exact⟨.var n,rfl⟩
    ·split at J
     ·rename_i e;subst e;simp at J;obtain⟨rfl,_⟩:=J;exact⟨.sym s,rfl⟩
     ·split at J
      ·rename_i e;subst e;simp at J;obtain⟨_,rfl⟩:=J;exact⟨.num n,rfl⟩
      ·cases J
 | .mk k n s [a],room,h=>by simp[gu]at h
 | .mk k n s (a::b::c::r),room,h=>by simp[gu]at h
def OS:∀(t:Tm) (room:Int),gu t room<=room\/gu t room= -1
 | .mk k n s [a,b],room=>by
  simp only[gu];split
  ·exact .inr rfl
  ·split
   ·exact .inr rfl
   ·split
    ·exact .inr rfl
    ·rcases OS b (room-1-gu a (room-1))with h|h<;>omega
 | .mk k n s [],room=>by simp only[gu];split<;>simp;rename_i h;omega
 | .mk k n s [a],room=>by simp[gu]
 | .mk k n s (a::b::c::r),room=>by simp[gu]
mutual
def Tm.sz:Tm->Nat
 | .mk _ _ _ a=>1+Tm.szL a
def Tm.szL:List Tm->Nat
 |[]=>0
 |x::xs=>x.sz+Tm.szL xs
end
def szL_mem:∀{l:List Tm} {x:Tm},x∈l->x.sz<=Tm.szL l
 |y::l,x,h=>by
  rcases gJ.1 h with rfl|h
  ·simp[Tm.szL]
  ·have:=szL_mem h;simp[Tm.szL];omega
def QG{t x:Tm}(h:x∈t.args):x.sz<t.sz:=by cases t;simp[Tm.args]at h;have:=szL_mem h;simp[Tm.sz];omega
def T.fit(t:T):Bool:=t.ok&&decide (t.size<=5000)
def Tm.fits(t:Tm):Bool:=decide (0<gu t 5000)
def Tm.fits_T(t:T):t.tm.fits=t.fit:=by
 unfold Tm.fits T.fit;rw[I2];have:=t.size_pos;by_cases J:t.ok=true<;>by_cases U:t.size<=5000
 ·rw[if_pos ⟨J,Ω⟩];simp[J,U];omega
 ·rw[if_neg Ω];simp[U]
 ·rw[if_neg (by simp[J])];simp[J]
 ·rw[if_neg (by simp[J])];simp[J]
def Tm.fits_ex{t:Tm}(h:t.fits=true):∃x:T,x.tm=t/\x.fit=true:=by obtain⟨x,rfl⟩:=OT t 5000 (by simpa[Tm.fits]using h);exact⟨x,rfl,by rw[<-Tm.fits_T];exact h⟩
structure Bd where
 v:Int
 t:T
 deriving DecidableEq,Inhabited
def Bd.e(b:Bd):af:= .agg [.int .i64 b.v,.int .i64 b.t.kind,.int .i64 b.t.int,.str b.t.name,.slice 4 .no (b.t.args.map T.e)]
@[simp]def Bd.eta(b:Bd):Bd.mk b.v b.t=b:=rfl
@[simp]def Rv(v:Int)(t:T):af.agg [.int .i64 v,.int .i64 t.kind,.int .i64 t.int,.str t.name,.slice 4 .no (t.args.map T.e)]=(Bd.mk v t).e:=rfl
@[simp]def atM(v:Int):af.agg [.int .i64 v,.int .i64 0,.int .i64 0,.str [],.slice 4 .no []]=(Bd.mk v .nil).e:=rfl
@[simp]def atQ(v n:Int):af.agg [.int .i64 v,.int .i64 1,.int .i64 n,.str [],.slice 4 .no []]=(Bd.mk v (.var n)).e:=rfl
@[simp]def atP(v:Int)(s:List cJ):af.agg [.int .i64 v,.int .i64 2,.int .i64 0,.str s,.slice 4 .no []]=(Bd.mk v (.sym s)).e:=rfl
@[simp]def atN(v n:Int):af.agg [.int .i64 v,.int .i64 3,.int .i64 n,.str [],.slice 4 .no []]=(Bd.mk v (.num n)).e:=rfl
@[simp]def atO(v:Int)(a b:T):af.agg [.int .i64 v,.int .i64 4,.int .i64 0,.str [],.slice 4 .no [a.e,b.e]]=(Bd.mk v (.pair a b)).e:=rfl
@[simp]def av0(S:aB->Prop)(b:Bd):az S b.e=True:=by simp[Bd.e,-Rv]
@[simp]def axR(b:Bd):b7 b.e=b.e:=by simp[Bd.e,-Rv]
def XP(S:aB->Prop):∀l:List Bd,aH S (l.map Bd.e)
 |[]=>by simp[aH]
 |x::xs=>by simp[aH,XP S xs]
@[simp]def avP(S:aB->Prop)(l:List Bd):aH S (l.map Bd.e)=True:=h4 (XP S l)
@[simp]def abO:∀l:List Bd,cf (l.map Bd.e)=l.map Bd.e
 |[]=>rfl
 |x::xs=>by simp[cf,abO xs]
@[simp]def axn(b:Bd):eU b.e=true:=rfl
@[simp]def at6(b:Bd):cells b.e=[.int .i64 b.v,.int .i64 b.t.kind,.int .i64 b.t.int,.str b.t.name,.slice 4 .no (b.t.args.map T.e)]:=rfl
@[simp]def avy(b:Bd):qJ 5 b.e:=⟨_,rfl,rfl⟩
@[simp]def auY(off:Nat)(a:Bool)(sz:Nat)(b:Bd):vP off a sz b.e=if a then some (off+sz<=5,.agg (([.int .i64 b.v,.int .i64 b.t.kind,.int .i64 b.t.int,.str b.t.name,.slice 4 .no (b.t.args.map T.e)].drop off).take sz))else(([.int .i64 b.v,.int .i64 b.t.kind,.int .i64 b.t.int,.str b.t.name,.slice 4 .no (b.t.args.map T.e)]:List af)[off]?).map fun p=>(True,p):=rfl
@[simp]def auQ(off:Nat)(a:Bool)(sz:Nat)(b:Bd):sX off a sz (.eptr b.e)=if a then some (off+sz<=5,.eptr (.agg (([.int .i64 b.v,.int .i64 b.t.kind,.int .i64 b.t.int,.str b.t.name,.slice 4 .no (b.t.args.map T.e)].drop off).take sz)))else(([.int .i64 b.v,.int .i64 b.t.kind,.int .i64 b.t.int,.str b.t.name,.slice 4 .no (b.t.args.map T.e)]:List af)[off]?).map fun p=>(eU p=true/\cells p=[p],.eptr p):=rfl
def T.occ(v:Int):T->Bool
 | .var n=>n==v
 | .pair a b=>a.occ v||b.occ v
 |_=>false
def fb(a b:Int):Int:=if a<b then-1 else if b<a then 1 else 0
def lA(a b:List cJ):Int:=if a=b then 0 else if iw a b then-1 else 1
def e5:T->T->Int
 | .pair a b,.pair c d=>if e5 a c=0 then e5 b d else e5 a c
 |x,y=>if x.kind≠y.kind then fb x.kind y.kind else if x.int≠y.int then fb x.int y.int else lA x.name y.name
structure Bt where
 v:Int
 t:Tm
def Bt.e(b:Bt):af:= .agg [.int .i64 b.v,.int .i64 b.t.kind,.int .i64 b.t.num,.str b.t.name,.slice 4 .no (b.t.args.map enc)]
def Bd.b(b:Bd):Bt:=⟨b.v,b.t.tm⟩
def Bd.b_e(b:Bd):b.b.e=b.e:=by obtain⟨v,t⟩:=b;cases t<;>simp only[Bd.b,Bt.e,Bd.e,T.tm,Tm.kind,Tm.num,Tm.name,Tm.args,mD,al9,ame,amd,ama,amb,alA,alE,alD,alB,alC,am4,am9,am8,am5,am6,adV,adZ,adY,adW,adX,ha,List.map_nil]
@[simp]def Bt.eta(b:Bt):Bt.mk b.v b.t=b:=rfl
@[simp]def Rw(v:Int)(t:Tm):af.agg [.int .i64 v,.int .i64 t.kind,.int .i64 t.num,.str t.name,.slice 4 .no (t.args.map enc)]=(Bt.mk v t).e:=rfl
@[simp]def av2(S:aB->Prop)(b:Bt):az S b.e=True:=by simp[Bt.e,-Rw]
@[simp]def axT(b:Bt):b7 b.e=b.e:=by simp[Bt.e,-Rw]
def XR(S:aB->Prop):∀l:List Bt,aH S (l.map Bt.e)
 |[]=>by simp[aH]
 |x::xs=>by simp[aH,XR S xs]
@[simp]def avR(S:aB->Prop)(l:List Bt):aH S (l.map Bt.e)=True:=h4 (XR S l)
@[simp]def arz:∀l:List Bt,cf (l.map Bt.e)=l.map Bt.e
 |[]=>rfl
 |x::xs=>by simp[cf,arz xs]
@[simp]def axq(b:Bt):eU b.e=true:=rfl
@[simp]def at9(b:Bt):cells b.e=[.int .i64 b.v,.int .i64 b.t.kind,.int .i64 b.t.num,.str b.t.name,.slice 4 .no (b.t.args.map enc)]:=rfl
@[simp]def avA(b:Bt):qJ 5 b.e:=⟨_,rfl,rfl⟩
@[simp]def auZ(off:Nat)(a:Bool)(sz:Nat)(b:Bt):vP off a sz b.e=if a then some (off+sz<=5,.agg (([.int .i64 b.v,.int .i64 b.t.kind,.int .i64 b.t.num,.str b.t.name,.slice 4 .no (b.t.args.map enc)].drop off).take sz))else(([.int .i64 b.v,.int .i64 b.t.kind,.int .i64 b.t.num,.str b.t.name,.slice 4 .no (b.t.args.map enc)]:List af)[off]?).map fun p=>(True,p):=rfl
@[simp]def auR(off:Nat)(a:Bool)(sz:Nat)(b:Bt):sX off a sz (.eptr b.e)=if a then some (off+sz<=5,.eptr (.agg (([.int .i64 b.v,.int .i64 b.t.kind,.int .i64 b.t.num,.str b.t.name,.slice 4 .no (b.t.args.map enc)].drop off).take sz)))else(([.int .i64 b.v,.int .i64 b.t.kind,.int .i64 b.t.num,.str b.t.name,.slice 4 .no (b.t.args.map enc)]:List af)[off]?).map fun p=>(eU p=true/\cells p=[p],.eptr p):=rfl
def Cn(l:List Bt)(i:Nat):Prop:= ∀b,l[i]? =some b->(0<=b.v/\b.v<=100000)/\(∀c,0<i->l[i-1]? =some c->c.v<b.v)/\b.t.fits=true
def AH(l:List Bt):Prop:=l.length<=400/\∀i,i<l.length->Cn l i
def sy:∀a b:T,e5 a b=0↔a=b
 | .pair a b,.pair c d=>by
  simp only[e5,T.pair.injEq];split
  ·rename_i h;rw[sy b d,<-sy a c];simp[h]
  ·rename_i h;simp[h,<-sy a c]
 | .nil,y=>by cases y<;>simp[e5,fb,lA]
 | .var n,y=>by cases y<;>simp[e5,fb,lA]<;>omega
 | .sym s,y=>by cases y<;>simp[e5,fb,lA];rename_i e;by_cases h:s=e<;>simp[h];by_cases U:iw s e=true<;>simp[U]
 | .num n,y=>by cases y<;>simp[e5,fb,lA]<;>omega
 | .pair a b,.nil| .pair a b,.var _| .pair a b,.sym _| .pair a b,.num _=>by simp[e5,fb]
def T.sub(f:Int->be T):T->T
 | .var n=>match f n with|some x=>x|none=>.var n
 | .pair a b=>.pair (a.sub f) (b.sub f)
 |t=>t
def mo(f:Int->Int):T->Int
 | .var n=>if 5001<f n then 5001 else f n
 | .pair a b=>if 5000<mo f a then mo f a else if 5001<1+mo f a+mo f b then 5001 else 1+mo f a+mo f b
 |_=>1
def J1(f:Int->Int)(c:∀v,-1<=f v):∀t,-1<=mo f t/\mo f t<=5001
 | .var n=>by have:=c n;simp only[mo];split<;>omega
 | .pair a b=>by have:=J1 f c a;have:=J1 f c b;simp only[mo];split<;>(try split)<;>omega
 | .nil| .sym _| .num _=>by simp[mo]
def dG(l:List Bd)(v:Int):be T:=(l.find? fun b=>b.v==v).map (·.t)
end
section
open Go
structure kj {α:Type} (c:α->α->Int):Prop where
 neg:∀a b,c b a= -c a b
 tr:∀a b d,c a b<=0->c b d<=0->c a d<=0
 zero:∀a b,c a b=0↔a=b
section
variable {α:Type} {c:α->α->Int}
def iP(c:α->α->Int)(a b:α):Bool:=decide (c a b<0)
def kj.ltOk(h:kj c):rX (iP c):=by
 refine⟨fun x y a=>?_,fun x y z J U=>?_⟩
 ·simp only[iP,gz,iR]at a⊢;rw[h.neg x y];omega
 ·simp only[iP,iR]at J U⊢;have d:=h.neg x y;have e:=h.neg y z;have b:=h.neg x z;have:=h.tr x y z Ω Ω;omega
def kj.refl(h:kj c)(a:α):c a a=0:=(h.zero a a).2 rfl
def kj.ltr(h:kj c){a b d:α}(J:c a b<0)(U:c b d<=0):c a d<0:=by
 have f:=h.tr a b d Ω U;rcases(by omega:c a d<0\/c a d=0)with e|e
 ·exact e
 ·obtain rfl:=(h.zero a d).1 e;have:=h.neg a b;omega
def p8(c:α->α->Int)(l:List α):List α:=l.mergeSort fun x y=>decide (c x y<=0)
def Am(c:α->α->Int)(l:List α):(p8 c l).Perm l:=List.mergeSort_perm l _
def Qo(h:kj c)(l:List α):(p8 c l).Pairwise fun x y=>c x y<=0:=by have:=List.pairwise_mergeSort (le:=fun x y=>decide (c x y<=0)) (fun a b d J U=>by simp at J U⊢;exact h.tr a b d J U) (fun a b=>by simp;have:=h.neg a b;omega) l;exact this.imp Ψ
def abL(h:kj c){l a:List α}(d:a.Perm l)(e:a.Pairwise fun x y=>iP c y x=false):a=p8 c l:=by refine Rg (le:=fun x y=>c x y<=0) (fun x y _ _ J U=>(h.zero x y).1 (by have:=h.neg x y;omega)) (e.imp fun{x y} b=>?_) (Qo h l) (d.trans (Am c l).symm);simp only[iP,iR]at b;have:=h.neg x y;omega
def cU[DecidableEq α](p:be α):List α->List α
 |[]=>[]
 |x::r=>if p=some x then cU (some x) r else x::cU (some x) r
def asc[DecidableEq α](c:α->α->Int)(l:List α):List α:=cU none (p8 c l)
def iS(c:α->α->Int)(l:List α):Prop:=l.Pairwise fun x y=>c x y<0
variable [DecidableEq α]
def LH:∀(l:List α) (p:be α) (x:α),x∈cU p l->x∈l
 |[],_,_,h=>by simp[cU]at h
 |y::r,p,x,h=>by
  simp only[cU]at h;split at h
  ·exact qf _ (LH r _ x h)
  ·rcases gJ.1 h with rfl|h
   ·simp
   ·exact qf _ (LH r _ x h)
def Ox:∀(l:List α) (p:be α) (x:α),x∈l->x∈cU p l\/p=some x
 |y::r,p,x,h=>by
  simp only[cU];rcases gJ.1 h with rfl|h
  ·split
   ·rename_i U;exact .inr U
   ·simp
  ·split
   ·rename_i U;rcases Ox r (some y) x h with a|a
    ·exact .inl a
    ·cases a;exact .inr U
   ·rcases Ox r (some y) x h with a|a
    ·exact .inl (qf _ a)
    ·cases a;simp
def Up(aw:kj c):∀(l:List α) (p:be α),l.Pairwise (fun x y=>c x y<=0)->(∀y,p=some y->∀x∈l,c y x<=0)->iS c (cU p l)/\∀y,p=some y->∀x∈cU p l,c y x<0
 |[],p,_,_=>⟨ayr,fun y _ x a=>by simp[cU]at a⟩
 |z::r,p,h,i=>by
  obtain⟨J,U⟩:=oh.1 h;have b:=Up aw r (some z) U (fun y f x a=>by cases f;exact J x a);simp only[cU];split
  ·rename_i e;subst e;exact b
  ·rename_i e;refine⟨oh.2 ⟨fun x a=>b.2 z rfl x a,b.1⟩,fun y f x a=>?_⟩;subst f;have g:c y z<0:=by
    have j:=i y rfl z Ψ;rcases(by omega:c y z<0\/c y z=0)with d|d
    ·exact d
    ·exact absurd (fy some ((aw.zero y z).1 d)) e
   rcases gJ.1 a with rfl|a
   ·exact g
   ·exact aw.ltr g (by have:=b.2 z rfl x a;omega)
def KS(aw:kj c)(l:List α):iS c (asc c l):=(Up aw _ none (Qo aw l) (fun y h=>by cases h)).1
def Yw(l:List α)(x:α):x∈asc c l↔x∈l:=by
 constructor
 ·intro h;exact(Am c l).mem_iff.1 (LH _ _ _ h)
 ·intro h;rcases Ox (p8 c l) none x ((Am c l).mem_iff.2 h)with h|h
  ·exact h
  ·cases h
omit [DecidableEq α]in
def iS.ext(aw:kj c){l d:List α}(h:iS c l)(f:iS c d)(hm:∀x,x∈l↔x∈d):l=d:=by
 have g:∀{l:List α},iS c l->l.Nodup:=fun{l} h=>h.imp fun{a b} h e=>by subst e;have:=aw.refl a;omega
 refine Rg (le:=fun x y=>c x y<=0) (fun x y _ _ J U=>(aw.zero x y).1 (by have:=aw.neg x y;omega)) (h.imp fun h=>Ω) (f.imp fun h=>Ω) ?_;exact(List.perm_ext_iff_of_nodup (g h) (g f)).2 hm
omit [DecidableEq α]in
def iS.nodup(aw:kj c){l:List α}(h:iS c l):l.Nodup:=h.imp fun{a b} h e=>by subst e;have:=aw.refl a;omega
end
def K0:∀a b:List cJ,iw a b=true->iw b a=false
 |_,[],h=>by simp[iw]at h
 |[],_::_,_=>by simp[iw]
 |x::a,y::b,h=>by
  simp only[iw,og,gz,cR,ey]at h;simp only[iw,Bool.or_eq_false_iff,iR,Bool.and_eq_false_iff];rcases h with h|⟨rfl,h⟩
  ·refine⟨fun U=>?_,.inl ?_⟩
   ·rw[UInt8.lt_iff_toNat_lt]at h U;omega
   ·simp;intro e;subst e;rw[UInt8.lt_iff_toNat_lt]at h;omega
  ·exact⟨fun U=>by rw[UInt8.lt_iff_toNat_lt]at U;omega,.inr (K0 a b h)⟩
def RO:∀a b:List cJ,a≠b->iw a b=false->iw b a=true
 |[],[],h,_=>absurd rfl h
 |x::a,[],_,_=>by simp[iw]
 |[],_::_,_,h=>by simp[iw]at h
 |x::a,y::b,c,h=>by
  simp only[iw,Bool.or_eq_false_iff,iR,Bool.and_eq_false_iff]at h;simp only[iw,og,gz,cR,ey];by_cases e:x=y
  ·subst e;right;refine⟨rfl,RO a b (fun e=>c (by rw[e])) ?_⟩;rcases h.2 with U|U
   ·simp at U
   ·exact U
  ·left;have J:=h.1;rw[UInt8.lt_iff_toNat_lt]at J⊢;have:x.toNat≠y.toNat:=fun h=>e (UInt8.toNat_inj.1 h);omega
def RN:∀a b d:List cJ,iw a b=true->iw b d=true->iw a d=true
 |_,[],_,h,_=>by simp[iw]at h
 |_,_::_,[],_,h=>by simp[iw]at h
 |[],_::_,_::_,_,_=>by simp[iw]
 |x::a,y::b,z::d,J,U=>by
  simp only[iw,og,gz,cR,ey,UInt8.lt_iff_toNat_lt]at J U⊢;rcases J with J|⟨rfl,J⟩<;>rcases U with U|⟨rfl,U⟩
  ·left;omega
  ·left;exact J
  ·left;exact U
  ·exact .inr ⟨rfl,RN a b d J U⟩
def k2:kj fb:=by
 refine⟨fun a b=>?_,fun a b d=>?_,fun a b=>?_⟩
 ·simp only[fb];repeat' split
  all_goals omega
 ·simp only[fb];repeat' split
  all_goals omega
 ·simp only[fb];repeat' split
  all_goals omega
def Fo:kj lA:=by
 have g:∀a b,lA b a= -lA a b:=fun a b=>by
  simp only[lA];by_cases e:a=b
  ·subst e;simp
  ·rw[if_neg e,if_neg (Ne.symm e)];cases h:iw a b with
   |true=>simp[K0 a b h]
   |false=>simp[RO a b e h]
 refine⟨g,fun a b d J U=>?_,fun a b=>?_⟩
 ·simp only[lA]at J U⊢;by_cases c:a=b
  ·subst c;exact U
  ·by_cases f:b=d
   ·subst f;exact J
   ·rw[if_neg c]at J;rw[if_neg f]at U;have g1:iw a b=true:=by cases h:iw a b<;>simp[h]at J⊢
    have g2:iw b d=true:=by cases h:iw b d<;>simp[h]at U⊢
    rw[RN a b d g1 g2];split<;>simp
 ·simp only[lA];by_cases e:a=b
  ·simp[e]
  ·rw[if_neg e];simp[e];split<;>omega
def tM{a b:T}(h:a.kind≠b.kind):e5 a b=fb a.kind b.kind:=by cases a<;>cases b<;>simp at h<;>simp[e5]
def Jd:∀a b:T,e5 b a= -e5 a b
 | .pair a b,.pair c d=>by
  simp only[e5];have J:=Jd a c;have U:=Jd b d;by_cases e:e5 a c=0
  ·rw[if_pos e,if_pos Ω,U]
  ·rw[if_neg e,if_neg Ω,J]
 | .nil,y=>by
  by_cases ab:T.nil.kind=y.kind
  ·cases y<;>simp at ab;simp[e5,lA]
  ·rw[tM ab,tM (Ne.symm ab),k2.neg]
 | .var n,y=>by
  by_cases ab:(T.var n).kind=y.kind
  ·cases y<;>simp at ab;rename_i m;by_cases e:n=m
   ·subst e;simp[e5,lA]
   ·simp[e5,e,Ne.symm e,k2.neg n m]
  ·rw[tM ab,tM (Ne.symm ab),k2.neg]
 | .sym s,y=>by
  by_cases ab:(T.sym s).kind=y.kind
  ·cases y<;>simp at ab;rename_i m;simp[e5,Fo.neg s m]
  ·rw[tM ab,tM (Ne.symm ab),k2.neg]
 | .num n,y=>by
  by_cases ab:(T.num n).kind=y.kind
  ·cases y<;>simp at ab;rename_i m;by_cases e:n=m
   ·subst e;simp[e5,lA]
   ·simp[e5,e,Ne.symm e,k2.neg n m]
  ·rw[tM ab,tM (Ne.symm ab),k2.neg]
 | .pair a b,.nil| .pair a b,.var _| .pair a b,.sym _| .pair a b,.num _=>by simp[e5,fb]
def Jc{a b:T}(h:e5 a b<=0):a.kind<=b.kind:=by
 by_cases ab:a.kind=b.kind
 ·omega
 ·rw[tM ab]at h;simp only[fb]at h;repeat' split at h
  all_goals omega
def ZK(n m:Int):e5 (.var n) (.var m)=fb n m:=by
 simp only[e5,T.kind,T.int,T.name,lA];by_cases e:n=m
 ·subst e;simp[fb]
 ·simp[e]
def ZJ(n m:Int):e5 (.num n) (.num m)=fb n m:=by
 simp only[e5,T.kind,T.int,T.name,lA];by_cases e:n=m
 ·subst e;simp[fb]
 ·simp[e]
def aps(n m:List cJ):e5 (.sym n) (.sym m)=lA n m:=by simp[e5]
def Je(a b d:T)(c:a.kind≠4)(J:e5 a b<=0)(U:e5 b d<=0):e5 a d<=0:=by
 have f:=Jc J;have e:=Jc U;by_cases ab:a.kind=d.kind
 ·cases a<;>cases d<;>simp at ab c;all_goals(cases b<;>simp at f e)
  ·simp[e5,lA]
  ·rw[ZK]at J U⊢;exact k2.tr _ _ _ J U
  ·rw[aps]at J U⊢;exact Fo.tr _ _ _ J U
  ·rw[ZJ]at J U⊢;exact k2.tr _ _ _ J U
 ·rw[tM ab];simp only[fb];repeat' split
  all_goals omega
def apt:∀a b d:T,e5 a b<=0->e5 b d<=0->e5 a d<=0:=by
 intro a;induction a with
 |pair e a2 o m=>
  intro b d J U;have l:=Jc J;have i:=Jc U;cases b<;>simp at l;all_goals(cases d<;>simp at i)
  rename_i c j d1 d2;simp only[e5]at J U⊢;by_cases g:e5 e c=0
  ·obtain rfl:=(sy e c).1 g;rw[if_pos g]at J;by_cases f:e5 e d1=0
   ·rw[if_pos f]at U⊢;exact m j d2 J U
   ·rw[if_neg f]at U⊢;exact U
  ·rw[if_neg g]at J;by_cases f:e5 c d1=0
   ·obtain rfl:=(sy c d1).1 f;rw[if_neg g];exact J
   ·rw[if_neg f]at U;have k:=o c d1 J U;by_cases h:e5 e d1=0
    ·obtain rfl:=(sy e d1).1 h;have:=Jd e c;omega
    ·rw[if_neg h];exact k
 |nil=>exact fun b d=>Je _ b d Ψ
 |var n=>exact fun b d=>Je _ b d Ψ
 |sym n=>exact fun b d=>Je _ b d Ψ
 |num n=>exact fun b d=>Je _ b d Ψ
def Pj:kj e5:=⟨Jd,apt,sy⟩
end
section
open Go
section
variable {α:Type} {c:α->α->Int}
def kJ(c:α->α->Int):List α->List α->Int
 |[],[]=>0
 |[],_::_=> -1
 |_::_,[]=>1
 |x::xs,y::ys=>if c x y=0 then kJ c xs ys else c x y
def Yd(h:kj c):∀a b:List α,kJ c b a= -kJ c a b
 |[],[]=>rfl
 |[],_::_=>rfl
 |_::_,[]=>rfl
 |x::xs,y::ys=>by
  simp only[kJ];have J:=h.neg x y;by_cases e:c x y=0
  ·rw[if_pos e,if_pos Ω,Yd h xs ys]
  ·rw[if_neg e,if_neg Ω,J]
def Yf(h:kj c):∀a b:List α,kJ c a b=0↔a=b
 |[],[]=>by simp[kJ]
 |[],_::_=>by simp[kJ]
 |_::_,[]=>by simp[kJ]
 |x::xs,y::ys=>by
  simp only[kJ,rR];by_cases e:c x y=0
  ·rw[if_pos e,Yf h xs ys];simp[(h.zero x y).1 e]
  ·rw[if_neg e];exact⟨fun d=>absurd d e,fun d=>absurd ((h.zero x y).2 d.1) e⟩
def Ye(h:kj c):∀a b d:List α,kJ c a b<=0->kJ c b d<=0->kJ c a d<=0
 |[],_,[],_,_=>by simp[kJ]
 |[],_,_::_,_,_=>by simp[kJ]
 |_::_,[],_,J,_=>by simp[kJ]at J
 |_::_,_::_,[],_,U=>by simp[kJ]at U
 |x::xs,y::ys,z::dt,J,U=>by
  simp only[kJ]at J U⊢;by_cases f:c x y=0
  ·have:=(h.zero x y).1 f;subst this;rw[if_pos f]at J;by_cases e:c x z=0
   ·rw[if_pos e]at U⊢;exact Ye h xs ys dt J U
   ·rw[if_neg e]at U⊢;exact U
  ·rw[if_neg f]at J;have g:c x y<0:=Ω
   by_cases e:c y z=0
   ·have:=(h.zero y z).1 e;subst this;rw[if_neg f];omega
   ·rw[if_neg e]at U;have:=h.ltr g U;rw[if_neg Ω];omega
def aml(h:kj c):kj (kJ c):=⟨Yd h,Ye h,Yf h⟩
end
def zX(x y:Bd):Int:=if fb x.v y.v=0 then e5 x.t y.t else fb x.v y.v
def apq:kj zX:=by
 refine⟨fun x y=>?_,fun x y z J U=>?_,fun x y=>?_⟩
 ·unfold zX;have:=k2.neg x.v y.v;have:=Pj.neg x.t y.t;by_cases e:fb x.v y.v=0
  ·rw[if_pos e,if_pos Ω];omega
  ·rw[if_neg e,if_neg Ω];omega
 ·unfold zX at J U⊢;by_cases b:fb x.v y.v=0
  ·rw[if_pos b]at J;rw[(k2.zero _ _).1 b];by_cases a:fb y.v z.v=0
   ·rw[if_pos a]at U⊢;exact Pj.tr _ _ _ J U
   ·rw[if_neg a]at U⊢;exact U
  ·rw[if_neg b]at J;have c:fb x.v y.v<0:=Ω
   by_cases a:fb y.v z.v=0
   ·rw[<-(k2.zero _ _).1 a,if_neg b];exact J
   ·rw[if_neg a]at U;have:=k2.ltr c U;rw[if_neg Ω];omega
 ·unfold zX;by_cases e:fb x.v y.v=0
  ·rw[if_pos e,Pj.zero];have:=(k2.zero _ _).1 e;cases x;cases y;simp_all
  ·rw[if_neg e];exact⟨fun h=>absurd h e,fun h=>by rw[h]at e;exact absurd (k2.refl _) e⟩
def fa:List Bd->List Bd->Int:=kJ zX
def mQ:kj fa:=aml apq
end
section
open Go
def T.ap(c:Int->T):T->T
 | .var n=>c n
 | .pair a b=>.pair (a.ap c) (b.ap c)
 |t=>t
def Dm(f g:Int->T)(t:T):(t.ap f).ap g=t.ap fun v=>(f v).ap g:=by
 induction t with
 |pair a b d c=>simp[T.ap,d,c]
 |_=>simp[T.ap]
def vD{f g:Int->T}{t:T}(h:∀v,t.occ v=true->f v=g v):t.ap f=t.ap g:=by
 induction t with
 |var n=>exact h n (by simp[T.occ])
 |pair a b e d=>simp only[T.ap];rw[e fun v c=>h v (by simp[T.occ,c]),d fun v c=>h v (by simp[T.occ,c])]
 |_=>rfl
def adT(t:T):t.ap .var=t:=by induction t<;>simp_all[T.ap]
def RB{f:Int->T}{t:T}(h:∀v,t.occ v=true->f v= .var v):t.ap f=t:=(vD h).trans (adT t)
def abS(f:Int->be T)(t:T):t.sub f=t.ap fun v=>(f v).getD (.var v):=by
 induction t with
 |var n=>simp only[T.sub,T.ap];cases f n<;>rfl
 |pair a b d c=>simp[T.sub,T.ap,d,c]
 |_=>rfl
def adS(c:Int->T)(t:T):t.size<=(t.ap c).size:=by
 induction t with
 |var n=>exact T.size_pos _
 |pair a b e d=>simp only[T.ap,T.size];omega
 |_=>exact dP _
def Cm(c:Int->T){v:Int}{t:T}(h:t.occ v=true):(c v).size<=(t.ap c).size/\(t.kind≠1->(c v).size<(t.ap c).size):=by
 induction t with
 |var n=>simp[T.occ]at h;subst h;simp[T.ap,T.kind]
 |pair a b e d=>
  simp only[T.occ,og]at h;simp only[T.ap,T.size];rcases h with h|h
  ·have:=(e h).1;exact⟨Ω,fun _=>Ω⟩
  ·have:=(d h).1;exact⟨Ω,fun _=>Ω⟩
 |_=>simp[T.occ]at h
def Cl{c:Int->T}{v:Int}{t:T}:(t.ap c).occ v=true↔∃w,t.occ w=true/\(c w).occ v=true:=by
 induction t with
 |var n=>simp[T.ap,T.occ]
 |pair a b e d=>
  simp only[T.ap,T.occ,og,e,d];constructor
  ·rintro(⟨w,J,U⟩|⟨w,J,U⟩)
   ·exact⟨w,.inl J,U⟩
   ·exact⟨w,.inr J,U⟩
  ·rintro⟨w,J|J,U⟩
   ·exact .inl ⟨w,J,U⟩
   ·exact .inr ⟨w,J,U⟩
 |_=>simp[T.ap,T.occ]
def cC(s:List Bd)(v:Int):T:=(dG s v).getD (.var v)
abbrev jD(s:List Bd):Prop:=s.Pairwise fun x y=>x.v<y.v
def hW(s:List Bd)(a:Int->T):Prop:= ∀b∈s,a b.v=b.t.ap a
structure gD (s:List Bd):Prop where
 asc:jD s
 free:∀b∈s,∀w,b.t.occ w=true->dG s w=none
 ori:∀b∈s,∀w,b.t= .var w->w<b.v
def vF(b:Bd)(s:List Bd)(v:Int):dG (b::s) v=if b.v=v then some b.t else dG s v:=by
 unfold dG;by_cases h:b.v=v
 ·simp[h]
 ·have:(b.v==v)=false:=by simp[h]
  simp[this,h,List.find?_cons]
def kQ{v:Int}{t:T}:∀{s:List Bd},dG s v=some t->(⟨v,t⟩:Bd)∈s
 |[],h=>by simp[dG]at h
 |b::s,h=>by
  rw[vF]at h;split at h
  ·rename_i e;cases h;subst e;simp
  ·exact qf _ (kQ h)
def w1{v:Int}:∀{s:List Bd},dG s v=none↔∀b∈s,b.v≠v
 |[]=>by simp[dG]
 |b::s=>by
  rw[vF];by_cases h:b.v=v
  ·simp[h]
  ·simp[h,w1 (s:=s)]
def wZ{b:Bd}:∀{s:List Bd},jD s->b∈s->dG s b.v=some b.t
 |[],_,h=>by simp at h
 |c::s,d,h=>by
  rw[vF];have a:=oh.1 d;rcases gJ.1 h with rfl|h
  ·simp
  ·have:=a.1 b h;rw[if_neg Ω];exact wZ a.2 h
def RD:∀{s a:List Bd},jD s->jD a->(∀v,dG s v=dG a v)->s=a
 |[],[],_,_,_=>rfl
 |[],c::a,_,_,h=>by have:=h c.v;rw[vF]at this;simp[dG]at this
 |c::s,[],_,_,h=>by have:=h c.v;rw[vF]at this;simp[dG]at this
 |b::s,c::a,l,n,h=>by
  have f:=oh.1 n;have d:=oh.1 l;have J:(⟨b.v,b.t⟩:Bd)∈c::a:=kQ (by rw[<-h b.v,vF];simp);have U:(⟨c.v,c.t⟩:Bd)∈b::s:=kQ (by rw[h c.v,vF];simp);have o:b=c:=by
   rcases gJ.1 J with e|e
   ·exact e
   ·rcases gJ.1 U with i|i
    ·exact i.symm
    ·have k:=f.1 _ e;have m:=d.1 _ i;simp only at k m;omega
  subst o;rw[RD d.2 f.2 fun v=>?_];have:=h v;rw[vF,vF]at this;by_cases e:b.v=v
  ·have j:dG s v=none:=w1.2 fun x g=>by have:=d.1 x g;omega
   have z2:dG a v=none:=w1.2 fun x g=>by have:=f.1 x g;omega
   rw[j,z2]
  ·simpa[e]using this
def ark{s:List Bd}(c:jD s){a:Int->T}:hW s a↔∀v,a v=(cC s v).ap a:=by
 constructor
 ·intro h v;unfold cC;cases e:dG s v with
  |none=>rfl
  |some t=>exact h _ (kQ e)
 ·intro h b d;have:=h b.v;rw[cC,wZ c d]at this;exact this
def Qm{s:List Bd}{a:Int->T}(h:hW s a)(t:T):t.ap a=(t.ap (cC s)).ap a:=by
 rw[Dm];refine vD fun v _=>?_;unfold cC;cases e:dG s v with
 |none=>rfl
 |some t=>exact h _ (kQ e)
def aqZ{s:List Bd}(b:gD s){t:T}(h:∀w,t.occ w=true->dG s w=none):t.ap (cC s)=t:=RB fun v a=>by simp[cC,h v a]
def Al{s:List Bd}(a:gD s):hW s (cC s):=fun b c=>by rw[aqZ a (a.free b c),cC,wZ a.asc c];rfl
def OG{s a:List Bd}(f:gD s)(c:gD a)(h:∀d,hW a d->hW s d){v:Int}(g:dG a v=none):dG s v=none:=by
 cases e:dG s v with
 |none=>rfl
 |some t=>
  have J:=h _ (Al c) _ (kQ e);simp only[cC,g,k5]at J;cases t with
  |var w=>
   have U:w<v:=f.ori _ (kQ e) w rfl;simp only[T.ap,cC]at J;cases b:dG a w with
   |none=>rw[b]at J;simp at J;omega
   |some u=>rw[b]at J;simp only[lJ]at J;subst J;have:=c.ori _ (kQ b) v rfl;simp only at this;omega
  |_=>simp[T.ap]at J
def am3{s a:List Bd}(c:gD a)(h:∀b,hW a b->hW s b){v:Int}:(cC s v).size<=(cC a v).size:=by
 have J:=h _ (Al c);unfold cC;cases e:dG s v with
 |none=>exact T.size_pos _
 |some t=>have:=J _ (kQ e);show t.size<=(cC a v).size;simp only at this;rw[this];exact adS _ _
def aro{s b:List Bd}(d:gD s)(c:gD b)(h:∀a,hW s a↔hW b a):s=b:=by
 refine RD d.asc c.asc fun v=>?_;have d1:∀w,dG s w=none↔dG b w=none:=fun w=>⟨OG c d (fun a=>(h a).1),OG d c fun a=>(h a).2⟩;cases e:dG s v with
 |none=>exact((d1 v).1 e).symm
 |some t=>
  cases f:dG b v with
  |none=>rw[(d1 v).2 f]at e;cases e
  |some t'=>have J:=(h _).2 (Al c) _ (kQ e);simp only[cC,f,lJ]at J;rw[J];exact fy some (RB fun w hw=>by have:=(d1 w).1 (d.free _ (kQ e) w hw);simp[cC,this]).symm
def iy(s:List Bd):Prop:=s.length<=400/\∀b∈s,b.t.size<=5000
def ad2{s:List Bd}(h:jD s):(s.map (·.v)).Nodup:=by rw[List.nodup_iff_pairwise_ne,List.pairwise_map];exact h.imp fun h=>Ω
def Vi{s a:List Bd}(d:gD s)(g:gD a)(h:∀j,hW a j->hW s j)(l:iy a):iy s:=by
 have k:∀x∈s.map (·.v),x∈a.map (·.v):=by
  intro x m;obtain⟨b,f,rfl⟩:=hb.1 m;cases e:dG a b.v with
  |none=>have:=OG d g h e;rw[wZ d.asc f]at this;cases this
  |some t=>exact hb.2 ⟨_,kQ e,rfl⟩
 have i:=Rf (ad2 d.asc) k;simp only[List.length_map]at i;refine⟨kE i l.1,fun b f=>?_⟩;have J:=am3 (s:=s) g h (v:=b.v);rw[cC,wZ d.asc f]at J;obtain⟨c,aw,e⟩:=hb.1 (k b.v (hb.2 ⟨b,f,rfl⟩));have U:=l.2 c aw;rw[cC,<-e,wZ g.asc aw]at J;exact kE J U
def kn(E:List (T×T))(a:Int->T):Prop:= ∀e∈E,e.1.ap a=e.2.ap a
def FW(a:Int->T):kn [] a:=fun _ h=>by simp at h
def sB{e:T×T}{E:List (T×T)}{a:Int->T}:kn (e::E) a↔e.1.ap a=e.2.ap a/\kn E a:=by simp[kn]
def FV{E b:List (T×T)}{a:Int->T}:kn (E++b) a↔kn E a/\kn b a:=by simp only[kn,kg];exact⟨fun h=>⟨fun e he=>h e (.inl he),fun e he=>h e (.inr he)⟩,fun h e he=>he.elim (h.1 e) (h.2 e)⟩
def jI(s:List Bd)(E:List (T×T)):be (List Bd)->Prop
 |some a=>(gD a/\iy a)/\∀b,hW a b↔hW s b/\kn E b
 |none=> ∀a,gD a->(∀b,hW a b->hW s b/\kn E b)->¬iy a
def adJ{s:List Bd}{E:List (T×T)}:∀{o o':be (List Bd)},jI s E o->jI s E o'->o=o'
 |none,none,_,_=>rfl
 |some s1,none,h,a=>absurd h.1.2 (a s1 h.1.1 fun b=>(h.2 b).1)
 |none,some s1,a,h=>absurd h.1.2 (a s1 h.1.1 fun b=>(h.2 b).1)
 |some s1,some s2,h,a=>by rw[aro h.1.1 a.1.1 fun b=>(h.2 b).trans (a.2 b).symm]
def Dk{s s2:List Bd}{E c:List (T×T)}(h:∀a,(hW s a/\kn E a)↔(hW s2 a/\kn c a)):∀{o:be (List Bd)},jI s E o->jI s2 c o
 |none,b=>fun e J U=>b e J fun a d=>(h a).2 (U a d)
 |some s1,b=>⟨b.1,fun a=>(b.2 a).trans (h a)⟩
def Rq{s s1:List Bd}{E d:List (T×T)}(h:jI s E (some s1)):∀{o:be (List Bd)},jI s1 d o->jI s (E++d) o
 |none,b=>fun e J U=>b e J fun a c=>⟨(h.2 a).2 ⟨(U a c).1,(FV.1 (U a c).2).1⟩,(FV.1 (U a c).2).2⟩
 |some s2,b=>⟨b.1,fun a=>by rw[b.2 a,h.2 a,FV,and_assoc]⟩
def KL{s:List Bd}{E:List (T×T)}(c:List (T×T))(h:jI s E none):jI s (E++c) none:=fun d J U=>h d J fun b a=>⟨(U b a).1,(FV.1 (U b a).2).1⟩
def Gy{s:List Bd}{E:List (T×T)}(h:∀a,hW s a->¬kn E a):jI s E none:=fun b J U=>absurd (U _ (Al J)).2 (h _ (U _ (Al J)).1)
def KM{s:List Bd}(a:gD s)(c:iy s):jI s [] (some s):=⟨⟨a,c⟩,fun b=>⟨fun h=>⟨h,FW b⟩,fun h=>h.1⟩⟩
def one(v:Int)(x:T)(w:Int):T:=if w=v then x else .var w
def pZ(b:Bd):List Bd->List Bd
 |[]=>[b]
 |c::s=>if b.v<c.v then b::c::s else c::pZ b s
def nL(s:List Bd)(v:Int)(x:T):List Bd:=pZ ⟨v,x⟩ (s.map fun b=>⟨b.v,b.t.ap (one v x)⟩)
def Oy{b x:Bd}:∀{s:List Bd},x∈pZ b s↔x=b\/x∈s
 |[]=>by simp[pZ]
 |c::s=>by
  simp only[pZ];split
  ·simp
  ·simp only[gJ,Oy (s:=s)];constructor
   ·rintro(h|h|h)
    ·exact .inr (.inl h)
    ·exact .inl h
    ·exact .inr (.inr h)
   ·rintro(h|h|h)
    ·exact .inr (.inl h)
    ·exact .inl h
    ·exact .inr (.inr h)
def Yc{b:Bd}:∀{s:List Bd},(pZ b s).length=s.length+1
 |[]=>rfl
 |c::s=>by simp only[pZ];split<;>simp[Yc]
def RE{b:Bd}:∀{s:List Bd},jD s->(∀c∈s,c.v≠b.v)->jD (pZ b s)
 |[],_,_=>by simp[pZ]
 |c::s,e,f=>by
  have d:=oh.1 e;simp only[pZ];split
  ·rename_i g;refine oh.2 ⟨fun x a=>?_,e⟩;rcases gJ.1 a with rfl|a
   ·exact g
   ·have:=d.1 x a;omega
  ·rename_i h;refine oh.2 ⟨fun x a=>?_,RE d.2 fun c aw=>f c (by simp[aw])⟩;rcases Oy.1 a with rfl|a
   ·have:=f c Ψ;omega
   ·exact d.1 x a
def rE{s:List Bd}{v:Int}{x:T}{b:Bd}:b∈nL s v x↔b=⟨v,x⟩\/ ∃c∈s,b=⟨c.v,c.t.ap (one v x)⟩:=by unfold nL;rw[Oy,hb];refine or_congr Iff.rfl ⟨fun⟨c,J,U⟩=>⟨c,J,U.symm⟩,fun⟨c,J,U⟩=>⟨c,J,U.symm⟩⟩
def ZF{v:Int}{x:T}{a:Int->T}(h:a v=x.ap a)(t:T):(t.ap (one v x)).ap a=t.ap a:=by
 rw[Dm];refine vD fun w _=>?_;unfold one;split
 ·rename_i e;subst e;exact h.symm
 ·rfl
def GF{s:List Bd}{v w:Int}{x:T}:dG (nL s v x) w=none↔w≠v/\dG s w=none:=by
 rw[w1,w1];constructor
 ·intro h;exact⟨fun e=>h ⟨v,x⟩ (rE.2 (.inl rfl)) e.symm,fun b a=>h ⟨b.v,b.t.ap (one v x)⟩ (rE.2 (.inr ⟨b,a,rfl⟩))⟩
 ·rintro⟨J,U⟩ b a;rcases rE.1 a with rfl|⟨c,aw,rfl⟩
  ·exact fun e=>J e.symm
  ·exact U c aw
def Qk{s:List Bd}(a:gD s){t:T}{w:Int}(h:(t.ap (cC s)).occ w=true):dG s w=none:=by
 obtain⟨u,_,U⟩:=Cl.1 h;unfold cC at U;cases e:dG s u with
 |none=>rw[e]at U;simp[T.occ]at U;subst U;exact e
 |some t=>rw[e]at U;exact a.free _ (kQ e) w U
def arn{s:List Bd}(d:gD s){v:Int}{t:T}(i:dG s v=none)(ar:(t.ap (cC s)).occ v=false)(f:∀w,t.ap (cC s)= .var w->w<v):gD (nL s v (t.ap (cC s))):=by
 have g:∀w,(t.ap (cC s)).occ w=true->dG (nL s v (t.ap (cC s))) w=none:=fun w hw=>GF.2 ⟨fun e=>(by subst e;rw[ar]at hw;cases hw),Qk d hw⟩;refine⟨RE ?_ ?_,fun b a w hw=>?_,fun b a w hw=>?_⟩
 ·rw[jD,List.pairwise_map];exact d.asc
 ·intro c aw;obtain⟨b,a,rfl⟩:=hb.1 aw;exact w1.1 i b a
 ·rcases rE.1 a with rfl|⟨c,aw,rfl⟩
  ·exact g w hw
  ·obtain⟨u,J,U⟩:=Cl.1 hw;unfold one at U;split at U
   ·exact g w U
   ·rename_i h;simp[T.occ]at U;subst U;exact GF.2 ⟨h,d.free c aw _ J⟩
 ·rcases rE.1 a with rfl|⟨c,aw,rfl⟩
  ·exact f w hw
  ·simp only at hw⊢;cases e:c.t with
   |var u=>
    have:=d.ori c aw u e;rw[e]at hw;simp only[T.ap,one]at hw;split at hw
    ·rename_i j;subst j;have:=f w hw;omega
    ·cases hw;exact this
   |_=>rw[e]at hw;simp[T.ap]at hw
def abF{s:List Bd}{v:Int}{t:T}(a:Int->T):hW (nL s v (t.ap (cC s))) a↔hW s a/\kn [(.var v,t)] a:=by
 have f:kn [(.var v,t)] a↔a v=t.ap a:=by simp[kn,T.ap]
 rw[f];constructor
 ·intro h;have d:a v=(t.ap (cC s)).ap a:=h _ (rE.2 (.inl rfl));have J:hW s a:=fun b e=>by have:=h _ (rE.2 (.inr ⟨b,e,rfl⟩));simp only at this;rw[ZF d]at this;exact this
  exact⟨J,by rw[Qm J t];exact d⟩
 ·rintro⟨J,U⟩ b e;have d:a v=(t.ap (cC s)).ap a:=by rw[<-Qm J t];exact U
  rcases rE.1 e with rfl|⟨c,aw,rfl⟩
  ·exact d
  ·simp only;rw[ZF d];exact J c aw
open Classical in
def adG{s:List Bd}(f:gD s){v:Int}{t:T}(h:dG s v=none)(ar:(t.ap (cC s)).occ v=false)(c:∀w,t.ap (cC s)= .var w->w<v):jI s [(.var v,t)] (if iy (nL s v (t.ap (cC s)))then some (nL s v (t.ap (cC s)))else none):=by
 have J:=arn f h ar c;split
 ·rename_i a;exact⟨⟨J,a⟩,abF⟩
 ·rename_i a;exact fun i U e g=>a (Vi J U (fun b d=>(abF b).2 (e b d)) g)
def il(s:List Bd):T->T
 | .var n=>cC s n
 |t=>t
def o1(s:List Bd)(v:Int)(t:T):be (List Bd):=if(t.ap (cC s)).size<=5000/\(t.ap (cC s)).occ v=false/\s.length<400/\∀b∈s,(b.t.ap (one v (t.ap (cC s)))).size<=5000 then some (nL s v (t.ap (cC s)))else none
def kN(rec:List Bd->T->T->be (be (List Bd)))(s:List Bd):T->T->be (be (List Bd))
 | .var i,.var j=>some (if i<j then o1 s j (.var i)else if i=j then some s else o1 s i (.var j))
 | .var i,y=>some (o1 s i y)
 |x,.var j=>some (o1 s j x)
 | .pair b a2,.pair a c=>match rec s b a with
  |none=>none
  |some none=>some none
  |some (some s1)=>rec s1 a2 c
 |x,y=>some (if x=y then some s else none)
def lE:Nat->List Bd->T->T->be (be (List Bd))
 |0,_,_,_=>none
 |n+1,s,a,b=>kN (lE n) s (il s a) (il s b)
def arX{rec c:List Bd->T->T->be (be (List Bd))}(h:∀s a b o,rec s a b=some o->c s a b=some o){s:List Bd}{x y:T}{o:be (List Bd)}(he:kN rec s x y=some o):kN c s x y=some o:=by
 cases x<;>cases y<;>simp only[kN]at he⊢ <;>try exact he
 rename_i g a2 f i;cases e:rec s g f with
 |none=>rw[e]at he;cases he
 |some d=>
  rw[e]at he;rw[h _ _ _ _ e];cases d with
  |none=>exact he
  |some s1=>exact h _ _ _ _ he
def F7:∀{n m:Nat} {s:List Bd} {a b:T} {o:be (List Bd)},n<=m->lE n s a b=some o->lE m s a b=some o
 |0,_,_,_,_,_,_,h=>by simp[lE]at h
 |n+1,0,_,_,_,_,hm,_=>Ω
 |n+1,m+1,s,a,b,o,hm,h=>by simp only[lE]at h⊢;exact arX (fun s a b o h=>F7 Ω h) h
def Mj{s:List Bd}{v:Int}{x:T}:iy (nL s v x)↔(x.size<=5000/\s.length<400/\∀b∈s,(b.t.ap (one v x)).size<=5000):=by
 have d:(nL s v x).length=s.length+1:=by simp[nL,Yc]
 unfold iy;rw[d];constructor
 ·rintro⟨J,U⟩;exact⟨U _ (rE.2 (.inl rfl)),Ω,fun b a=>U _ (rE.2 (.inr ⟨b,a,rfl⟩))⟩
 ·rintro⟨J,U,e⟩;refine⟨Ω,fun b a=>?_⟩;rcases rE.1 a with rfl|⟨c,aw,rfl⟩
  ·exact J
  ·exact e c aw
def adH{s:List Bd}(f:gD s){v:Int}{t:T}(i:dG s v=none)(d:t.ap (cC s)≠ .var v)(c:∀w,t.ap (cC s)= .var w->w<v):jI s [(.var v,t)] (o1 s v t):=by
 unfold o1;cases ar:(t.ap (cC s)).occ v with
 |true=>
  rw[if_neg Ψ];refine Gy fun g J U=>?_;have b:=(sB.1 U).1;simp only[T.ap]at b;rw[Qm J t]at b;have ab:(t.ap (cC s)).kind≠1:=by
   intro ab;cases e:t.ap (cC s)with
   |var w=>rw[e]at ar;simp[T.occ]at ar;subst ar;exact d e
   |_=>rw[e]at ab;simp[T.kind]at ab
  have:=(Cm g ar).2 ab;rw[<-b]at this;omega
 |false=>
  have J:=adG f i ar c;by_cases a:iy (nL s v (t.ap (cC s)))
  ·rw[if_pos a]at J;rw[if_pos ⟨(Mj.1 a).1,rfl,(Mj.1 a).2⟩];exact J
  ·rw[if_neg a]at J;rw[if_neg fun h=>a (Mj.2 ⟨h.1,h.2.2⟩)];exact J
def ac0{s:List Bd}(a:gD s){t:T}{i:Int}(h:il s t= .var i):dG s i=none:=by
 cases t with
 |var n=>
  simp only[il,cC]at h;cases e:dG s n with
  |none=>rw[e]at h;simp at h;subst h;exact e
  |some u=>rw[e]at h;simp at h;subst h;exact a.free _ (kQ e) i (by simp[T.occ])
 |_=>simp[il]at h
def Q5{s:List Bd}{a:Int->T}(h:hW s a)(t:T):(il s t).ap a=t.ap a:=by
 cases t with
 |var n=>
  simp only[il,T.ap,cC];cases e:dG s n with
  |none=>rfl
  |some u=>exact(h _ (kQ e)).symm
 |_=>rfl
def ac2{s:List Bd}(a:gD s)(t:T):(il s t).ap (cC s)=t.ap (cC s):=Q5 (Al a) t
def rs(V:List Int)(t:T):Prop:= ∀w,t.occ w=true->w∈V
def zC(V:List Int)(s:List Bd):Prop:= ∀b∈s,b.v∈V/\rs V b.t
def AZ(V:List Int)(s:List Bd):Nat:=(V.filter fun v=>(dG s v).isNone).length
def Ve{α:Type}{p q:α->Bool}{v:α}:∀{V:List α},(∀x∈V,q x=true->p x=true)->v∈V->p v=true->q v=false->(V.filter q).length<(V.filter p).length
 |[],_,h,_,_=>by simp at h
 |x::V,h,b,c,d=>by
  have hle:∀W:List α,(∀x∈W,q x=true->p x=true)->(W.filter q).length<=(W.filter p).length:=by
   intro W;induction W with
   |nil=>intro _;simp
   |cons y W g=>intro f;have:=g fun x a=>f x (by simp[a]);have j:=f y Ψ;simp only[List.filter_cons];cases e:q y<;>cases i:p y<;>simp_all<;>omega
  simp only[List.filter_cons];rcases gJ.1 b with rfl|b
  ·have:=hle V fun x a=>h x (by simp[a]);simp[c,d];omega
  ·have:=Ve (fun x a=>h x (qf _ a)) b c d;have a:=h x Ψ;cases e:q x<;>cases i:p x<;>simp_all<;>omega
def ae6{V:List Int}{s:List Bd}{v:Int}{x:T}(a:v∈V)(b:dG s v=none):AZ V (nL s v x)<AZ V s:=by
 unfold AZ;refine Ve (v:=v) (fun w _ h=>?_) a (by simp[b]) ?_
 ·rw[Option.isNone_iff_eq_none,GF]at h;simp[h.2]
 ·cases e:dG (nL s v x) v with
  |none=>exact absurd rfl (GF.1 e).1
  |some _=>rfl
def Xe{V:List Int}{s:List Bd}(h:zC V s){t:T}(a:rs V t):rs V (t.ap (cC s)):=fun w hw=>by
 obtain⟨u,J,U⟩:=Cl.1 hw;unfold cC at U;cases e:dG s u with
 |none=>rw[e]at U;simp[T.occ]at U;subst U;exact a _ J
 |some x=>rw[e]at U;exact(h _ (kQ e)).2 w U
def aly{V:List Int}{s:List Bd}(h:zC V s){v:Int}{x:T}(e:v∈V)(a:rs V x):zC V (nL s v x):=fun b d=>by
 rcases rE.1 d with rfl|⟨c,aw,rfl⟩
 ·exact⟨e,a⟩
 ·refine⟨(h c aw).1,fun w hw=>?_⟩;obtain⟨u,J,U⟩:=Cl.1 hw;unfold one at U;split at U
  ·exact a w U
  ·simp[T.occ]at U;subst U;exact(h c aw).2 _ J
def Xf{V:List Int}{s:List Bd}(h:zC V s){t:T}(a:rs V t):rs V (il s t):=by
 cases t with
 |var n=>have:=Xe h a;simpa[il,T.ap]using this
 |_=>exact a
def Dj(V:List Int)(s:List Bd)(a b:T)(o:be (List Bd)):Prop:=jI s [(a,b)] o/\∀c,o=some c->zC V c/\(c=s\/AZ V c<AZ V s)
def F8{V:List Int}{s:List Bd}(j:gD s)(d:zC V s){v:Int}{t a b:T}(e:v∈V)(k:rs V t)(f:dG s v=none)(i:t.ap (cC s)≠ .var v)(g:∀w,t.ap (cC s)= .var w->w<v)(aw:∀c,hW s c->(c v=t.ap c↔a.ap c=b.ap c)):Dj V s a b (o1 s v t):=by
 refine⟨Dk (fun c=>?_) (adH j f i g),fun l h=>?_⟩
 ·refine and_congr_right fun h=>?_;rw[sB,sB];simp only[T.ap,aw c h]
 ·unfold o1 at h;split at h
  ·cases h;exact⟨aly d e (Xe d k),.inr (ae6 e f)⟩
  ·cases h
def CQ{s:List Bd}{i:Int}(h:dG s i=none):cC s i= .var i:=by simp[cC,h]
def acj(V:List Int)(k:Nat):∀(m:Nat) (s:List Bd) (a b:T),gD s->iy s->zC V s->rs V a->rs V b->AZ V s=k->(a.ap (cC s)).size+(b.ap (cC s)).size=m->
  ∃n o,lE n s a b=some o/\Dj V s a b o:=by
 induction k using Nat.strongRecOn with
 |ind k NI=>
 intro m;induction m using Nat.strongRecOn with
 |ind m BQ=>
 intro s a b v L y bO ag ab hm;have r:=Xf y bO;have u:=Xf y ag;have O:=ac2 v a;have P:=ac2 v b;have E:=fun c (h:hW s c)=>Q5 h a;have A:=fun c (h:hW s c)=>Q5 h b;have sc:=fun i=>ac0 v (t:=a) (i:=i);have Q:=fun i=>ac0 v (t:=b) (i:=i);have key:∀(rec:List Bd->T->T->be (be (List Bd))) (o:be (List Bd)),kN rec s (il s a) (il s b)=some o->(∀l a2 g f,il s a= .pair l a2->il s b= .pair g f->Dj V s a b o)->Dj V s a b o:=by
  intro rec o he bN;cases ex:il s a with
  |var i=>
   have M:=sc i ex;have x:=fun c h=>(E c h).symm.trans (by rw[ex]);cases d:il s b with
   |var j=>
    have z:=Q j d;have p:=fun c h=>(A c h).symm.trans (by rw[d]);rw[ex,d]at he;simp only[kN]at he;have hi:i∈V:=by rw[ex]at r;exact r i (by simp[T.occ])
    have ah:j∈V:=by rw[d]at u;exact u j (by simp[T.occ])
    rcases Int.lt_trichotomy i j with h|h|h
    ·rw[if_pos h]at he;cases he;refine F8 v y ah (by rw[ex]at r;exact r) z (by simp[T.ap,CQ M];omega) (fun w hw=>by simp[T.ap,CQ M]at hw;omega) fun c q=>?_;rw[x c q,p c q];simp only[T.ap];exact⟨Eq.symm,Eq.symm⟩
    ·subst h;rw[if_neg Ω,if_pos rfl]at he;cases he;refine⟨⟨⟨v,L⟩,fun c=>⟨fun h=>⟨h,sB.2 ⟨?_,FW c⟩⟩,fun h=>h.1⟩⟩,fun B e=>by cases e;exact⟨y,.inl rfl⟩⟩;simp only;rw[x c h,p c h]
    ·rw[if_neg Ω,if_neg Ω]at he;cases he;refine F8 v y hi (by rw[d]at u;exact u) M (by simp[T.ap,CQ z];omega) (fun w hw=>by simp[T.ap,CQ z]at hw;omega) fun c q=>?_;rw[x c q,p c q];simp only[T.ap]
   |_=>have p:=fun c h=>(A c h).symm.trans (by rw[d]);rw[ex,d]at he;simp only[kN]at he;cases he;refine F8 v y (by rw[ex]at r;exact r i (by simp[T.occ])) (by rw[d]at u;exact u) M (by simp[T.ap]) (fun w hw=>by simp[T.ap]at hw) fun c q=>?_;rw[x c q,p c q];simp only[T.ap]
  |pair l a2=>
   cases d:il s b with
   |pair g f=>exact bN l a2 g f ex d
   |var j=>have z:=Q j d;have x:=fun c h=>(E c h).symm.trans (by rw[ex]);have p:=fun c h=>(A c h).symm.trans (by rw[d]);rw[ex,d]at he;simp only[kN]at he;cases he;refine F8 v y (by rw[d]at u;exact u j (by simp[T.occ])) (by rw[ex]at r;exact r) z (by simp[T.ap]) (fun w hw=>by simp[T.ap]at hw) fun c q=>?_;rw[x c q,p c q];simp only[T.ap];exact⟨Eq.symm,Eq.symm⟩
   |_=>have x:=fun c h=>(E c h).symm.trans (by rw[ex]);have p:=fun c h=>(A c h).symm.trans (by rw[d]);rw[ex,d]at he;simp only[kN]at he;simp at he;subst he;refine⟨Gy fun c J U=>?_,fun B e=>by cases e⟩;have:=(sB.1 U).1;simp only at this;rw[x c J,p c J]at this;simp[T.ap]at this
  |_=>
   have x:=fun c h=>(E c h).symm.trans (by rw[ex]);cases d:il s b with
   |var j=>have z:=Q j d;have p:=fun c h=>(A c h).symm.trans (by rw[d]);rw[ex,d]at he;simp only[kN]at he;cases he;refine F8 v y (by rw[d]at u;exact u j (by simp[T.occ])) (by rw[ex]at r;exact r) z (by simp[T.ap]) (fun w hw=>by simp[T.ap]at hw) fun c q=>?_;rw[x c q,p c q];simp only[T.ap];exact⟨Eq.symm,Eq.symm⟩
   |_=>
    have p:=fun c h=>(A c h).symm.trans (by rw[d]);rw[ex,d]at he;simp only[kN,dU]at he;split at he
    ·rename_i e;subst he;refine⟨⟨⟨v,L⟩,fun c=>⟨fun h=>⟨h,sB.2 ⟨?_,FW c⟩⟩,fun h=>h.1⟩⟩,fun B e=>by cases e;exact⟨y,.inl rfl⟩⟩;simp only;rw[x c h,p c h];try rw[e]
    ·rename_i e;subst he;refine⟨Gy fun c J U=>?_,fun B e=>by cases e⟩;have:=(sB.1 U).1;simp only at this;rw[x c J,p c J]at this;simp[T.ap]at this e;try exact e this
 by_cases H5:∃l a2 g f,il s a= .pair l a2/\il s b= .pair g f
 ·obtain⟨l,a2,g,f,ex,d⟩:=H5;have W:(l.ap (cC s)).size+(g.ap (cC s)).size<m/\(a2.ap (cC s)).size+(f.ap (cC s)).size<m:=by rw[ex]at O;rw[d]at P;simp only[T.ap]at O P;rw[<-hm,<-O,<-P];simp only[T.size];omega
  have mg:rs V l:=fun w hw=>by rw[ex]at r;exact r w (by simp[T.occ,hw])
  have R:rs V a2:=fun w hw=>by rw[ex]at r;exact r w (by simp[T.occ,hw])
  have mG:rs V g:=fun w hw=>by rw[d]at u;exact u w (by simp[T.occ,hw])
  have S:rs V f:=fun w hw=>by rw[d]at u;exact u w (by simp[T.occ,hw])
  have Z:∀c,(hW s c/\kn ([(l,g)]++[(a2,f)]) c)↔(hW s c/\kn [(a,b)] c):=fun c=>and_congr_right fun h=>by simp only[List.singleton_append,sB,FW,jf];rw[<-E c h,<-A c h,ex,d];simp[T.ap]
  obtain⟨K,hh,Y,G⟩:=BQ _ W.1 s l g v L y mg mG ab rfl;cases hh with
  |none=>refine⟨K+1,none,?_,Dk Z (KL _ G.1),fun B e=>by cases e⟩;simp only[lE,ex,d,kN,Y]
  |some s1=>
   obtain⟨v1,v2⟩:=G.2 s1 rfl;have Ex:∃F H,lE F s1 a2 f=some H/\Dj V s1 a2 f H:=by
    rcases v2 with rfl|v2
    ·exact BQ _ W.2 _ a2 f v L y R S ab rfl
    ·exact NI _ Ω _ s1 a2 f G.1.1.1 G.1.1.2 v1 R S rfl rfl
   obtain⟨F,H,aC,X⟩:=Ex;refine⟨max K F+1,H,?_,Dk Z (Rq G.1 X.1),fun B e=>?_⟩
   ·simp only[lE,ex,d,kN,F7 (Nat.le_max_left K F) Y];exact F7 (Nat.le_max_right K F) aC
   ·obtain⟨fc,N⟩:=X.2 B e;refine⟨fc,?_⟩;rcases v2 with rfl|v2
    ·exact N
    ·rcases N with rfl|N
     ·exact .inr v2
     ·exact .inr Ω
 ·have WM:∀l a2 g f,il s a= .pair l a2->il s b= .pair g f->er:=fun l a2 g f J U=>H5 ⟨l,a2,g,f,J,U⟩;have:∃o,kN (lE 0) s (il s a) (il s b)=some o:=by cases ex:il s a<;>cases d:il s b<;>simp only[kN]<;>first|exact⟨_,rfl⟩|exact(WM _ _ _ _ ex d).elim
  obtain⟨o,ar⟩:=this;exact⟨1,o,ar,key _ o ar fun l a2 g f J U=>(WM l a2 g f J U).elim⟩
def dp{α:Type}(k:Int):List (Int×α)->be α
 |[]=>none
 |(i,v)::r=>if k=i then some v else dp k r
def fA{α:Type}(k:Int)(v:α):List (Int×α)->List (Int×α)
 |[]=>[(k,v)]
 |(i,w)::r=>if k=i then(i,v)::r else(i,w)::fA k v r
def cH{α:Type}(m:List (Int×α)):List Int:=m.map (·.1)
def oS{α:Type}(k:Int)(v:α)(j:Int):∀m:List (Int×α),dp j (fA k v m)=if j=k then some v else dp j m
 |[]=>by simp only[fA,dp]
 |(i,w)::r=>by
  simp only[fA];by_cases h:k=i
  ·subst h;by_cases U:j=k<;>simp[dp,U]
  ·by_cases U:j=i
   ·subst U;have:¬j=k:=fun e=>h e.symm;simp[dp,h,this]
   ·simp[dp,h,U,oS k v j r]
def Ka{α:Type}{k:Int}:∀{m:List (Int×α)},(dp k m).isSome=true↔k∈cH m
 |[]=>by simp[dp,cH]
 |(i,w)::r=>by
  simp only[dp,cH,ha,gJ];by_cases h:k=i
  ·simp[h]
  ·simp only[h,if_false,false_or];exact Ka
def arP{α:Type}{k:Int}{m:List (Int×α)}:dp k m=none↔k∉cH m:=by rw[<-Ka];cases dp k m<;>simp
def ES{α:Type}{k:Int}{v:α}:∀{m:List (Int×α)},k∈cH m->cH (fA k v m)=cH m
 |[],h=>by simp[cH]at h
 |(i,w)::r,h=>by
  simp only[fA];by_cases e:k=i
  ·simp[e,cH]
  ·rw[if_neg e];have a:k∈cH r:=by simpa[cH,e]using h
   have:=ES (v:=v) a;simp only[cH]at this⊢;simp[this]
def XL{α:Type}{k:Int}{v:α}:∀{m:List (Int×α)},k∉cH m->cH (fA k v m)=cH m++[k]
 |[],h=>by simp[cH,fA]
 |(i,w)::r,h=>by have e:¬k=i:=fun e=>h (by simp[cH,e]);have a:k∉cH r:=fun ab=>h (by simp[cH]at ab⊢;exact .inr ab);have:=XL (v:=v) a;simp only[fA,if_neg e];simp only[cH]at this⊢;simp[this]
structure bK where
 up:List (Int×Int)
 shape:List (Int×T)
 shaped:List (Int×Bool)
 color:List (Int×Int)
 size:List (Int×Int)
 full:List (Int×T)
def bK.shd(c:bK)(x:Int):Bool:=(dp x c.shaped).getD false
def bK.shp(c:bK)(x:Int):T:=(dp x c.shape).getD .nil
def bK.col(c:bK)(x:Int):Int:=(dp x c.color).getD 0
def bK.sz(c:bK)(x:Int):Int:=(dp x c.size).getD 0
def jV(m:List (Int×Int))(v:Int):Int:=(dp v m).getD 0
def yi:Nat->List (Int×Int)->Int->be (Int×List (Int×Int))
 |0,_,_=>none
 |n+1,m,v=>if jV m v=v then some (v,m)else yi n (fA v (jV m (jV m v)) m) (jV (fA v (jV m (jV m v)) m) v)
def AI(v:Int)(m:List (Int×Int)):List (Int×Int):=if(dp v m).isSome then m else fA v v m
def rt(c:bK)(v:Int):be (Int×bK):=(yi (v.toNat+1) (AI v c.up) v).map fun p=>(p.1,{c with up:=p.2})
def T.foldO{α:Type}(f:Int->α->be α):T->α->be α
 | .var n,a=>f n a
 | .pair x y,a=>(x.foldO f a).bind (y.foldO f)
 |_,a=>some a
def T.mapO{α:Type}(f:Int->α->be (T×α)):T->α->be (T×α)
 | .var n,a=>f n a
 | .pair x y,a=>(x.mapO f a).bind fun p=>(y.mapO f p.2).map fun q=>(.pair p.1 q.1,q.2)
 |t,a=>some (t,a)
def T.sizeO{α:Type}(f:Int->α->be (Int×α)):T->α->be (Int×α)
 | .var n,a=>(f n a).map fun p=>(if 5001<p.1 then 5001 else p.1,p.2)
 | .pair x y,a=>(x.sizeO f a).bind fun p=>if 5000<p.1 then some p else(y.sizeO f p.2).map fun q=>(if 5001<1+p.1+q.1 then 5001 else 1+p.1+q.1,q.2)
 |_,a=>some (1,a)
def B7(t:T)(c:bK):be bK:=t.foldO (fun v c=>(rt c v).map (·.2)) c
structure vv where
 c:bK
 seen:List (Int×Bool)
 found:Bool
def yg(rec:T->bK->List (Int×Bool)->be vv)(x:Int)(v:Int)(a:vv):be vv:=
 (rt a.c v).bind fun p=>if a.found=true\/p.1=x then some ⟨p.2,a.seen,true⟩
  else if(dp p.1 a.seen).getD false=false/\p.2.shd p.1=true then rec (p.2.shp p.1) p.2 (fA p.1 true a.seen)
  else some ⟨p.2,a.seen,a.found⟩
def qQ:Nat->Int->T->bK->List (Int×Bool)->be vv
 |0,_,_,_,_=>none
 |n+1,x,t,c,seen=>t.foldO (yg (qQ n x) x) ⟨c,seen,false⟩
def bK.know(c:bK)(x:Int)(t:T):bK:={c with shape:=fA x t c.shape,shaped:=fA x true c.shaped}
def wv(n:Nat)(x:Int)(t:T)(c:bK):be (Bool×bK):=(qQ n x t (c.know x t) []).map fun a=>(!a.found,a.c)
def bK.join(c:bK)(x y:Int):bK:={c with up:=fA y x c.up}
def sW(rec:T->T->bK->be (Bool×bK))(n:Nat)(x y:Int)(c:bK):be (Bool×bK):=
 if c.shd y=false then
  (if c.shd x=false then some (true,c)else(qQ n x (c.shp x) c []).map fun a=>(!a.found,a.c))
 else if c.shd x=false then wv n x (c.shp y) c
 else(qQ n x (c.shp y) c []).bind fun a=>if a.found=true then some (false,a.c)else
  (qQ n x (a.c.shp x) a.c []).bind fun b=>if b.found=true then some (false,b.c)else rec (b.c.shp x) (c.shp y) b.c
def hx:Nat->T->T->bK->be (Bool×bK)
 |0,_,_,_=>none
 |n+1,.var i,.var j,c=>(rt c i).bind fun p=>(rt p.2 j).bind fun q=>if p.1=q.1 then some (true,q.2)else if q.1<p.1 then sW (hx n) n q.1 p.1 (q.2.join q.1 p.1)else sW (hx n) n p.1 q.1 (q.2.join p.1 q.1)
 |n+1,.var i,b,c=>(rt c i).bind fun p=>if p.2.shd p.1=false then wv n p.1 b p.2 else hx n (p.2.shp p.1) b p.2
 |n+1,a,.var j,c=>hx n (.var j) a c
 |n+1,.pair e a2,.pair d f,c=>(hx n e d c).bind fun p=>if p.1=true then hx n a2 f p.2 else some (false,p.2)
 |_+1,a,b,c=>some (decide (a=b),c)
structure km (m:List (Int×Int)) (ρ:Int->Int):Prop where
 up:∀v u,dp v m=some u->(0<=u/\u<=v/\u∈cH m)/\ρ u=ρ v/\(ρ v=v↔u=v)
 no:∀v,v∉cH m->ρ v=v
def km.get{m:List (Int×Int)}{ρ:Int->Int}(h:km m ρ){v:Int}(a:v∈cH m):∃u,dp v m=some u/\jV m v=u:=by have:=Ka.2 a;obtain⟨u,hu⟩:=fx.1 this;exact⟨u,hu,by simp[jV,hu]⟩
def km.root{m:List (Int×Int)}{ρ:Int->Int}(h:km m ρ):∀(n:Nat) (v:Int),v.toNat<=n->(ρ v<=v/\ρ (ρ v)=ρ v/\(v∈cH m->ρ v∈cH m/\0<=ρ v)):=by
 intro n;induction n using Nat.strongRecOn with
 |ind n f=>
 intro v i;by_cases a:v∈cH m
 ·obtain⟨u,J,_⟩:=h.get a;obtain⟨⟨c,a2,a3⟩,a4,a5⟩:=h.up v u J;by_cases e:u=v
  ·have:=a5.2 e;subst e;rw[this];exact⟨Ω,this,fun _=>⟨a3,c⟩⟩
  ·obtain⟨g,d,b⟩:=f (u.toNat) Ω u Ω;rw[<-a4];exact⟨Ω,d,fun _=>b a3⟩
 ·have:=h.no v a;rw[this];exact⟨Ω,this,fun h=>absurd h a⟩
def km.le{m:List (Int×Int)}{ρ:Int->Int}(h:km m ρ)(v:Int):ρ v<=v:=(h.root v.toNat v (dP _)).1
def km.idem{m:List (Int×Int)}{ρ:Int->Int}(h:km m ρ)(v:Int):ρ (ρ v)=ρ v:=(h.root v.toNat v (dP _)).2.1
def km.mem{m:List (Int×Int)}{ρ:Int->Int}(h:km m ρ){v:Int}(a:v∈cH m):ρ v∈cH m/\0<=ρ v:=(h.root v.toNat v (dP _)).2.2 a
def abp{ρ:Int->Int}:∀(n:Nat) (m:List (Int×Int)) (v:Int),km m ρ->v∈cH m->v.toNat<n->∃a,yi n m v=some (ρ v,a)/\km a ρ/\cH a=cH m
 |0,_,_,_,_,p=>Ω
 |n+1,m,v,h,f,p=>by
  obtain⟨u,J,U⟩:=h.get f;obtain⟨⟨q,a2,a3⟩,a4,a5⟩:=h.up v u J;simp only[yi,U];by_cases e:u=v
  ·rw[if_pos e];have:=a5.2 e;exact⟨m,by rw[this],h,rfl⟩
  ·rw[if_neg e];obtain⟨x,g1,g2⟩:=h.get a3;obtain⟨⟨k,r,d⟩,c,t⟩:=h.up u x g1;rw[g2];have ab:=ES (v:=x) f;have g:km (fA v x m) ρ:=by
    refine⟨fun w y hw=>?_,fun w hw=>h.no w (by rw[ab]at hw;exact hw)⟩;rw[oS]at hw;rw[ab];by_cases ew:w=v
    ·subst ew;rw[if_pos rfl]at hw;cases hw;refine⟨⟨k,Ω,d⟩,by rw[c,a4],⟨fun o=>absurd (a5.1 o) e,fun s=>?_⟩⟩;have:u=w:=Ω
     exact absurd this e
    ·rw[if_neg ew]at hw;exact h.up w y hw
   have b:jV (fA v x m) v=x:=by simp[jV,oS]
   rw[b];obtain⟨a,l,j,i⟩:=abp n (fA v x m) x g (by rw[ab];exact d) Ω;exact⟨a,by rw[l,c,a4],j,by rw[i,ab]⟩
structure ht (ρ:Int->Int) (c cD:bK):Prop where
 ru:km cD.up ρ
 keys:cH cD.up=cH c.up
 eq:cD={c with up:=cD.up}
def ht.refl{ρ:Int->Int}{c:bK}(h:km c.up ρ):ht ρ c c:=⟨h,rfl,rfl⟩
def ht.trans{ρ:Int->Int}{a b c:bK}(h:ht ρ a b)(k:ht ρ b c):ht ρ a c:=⟨k.ru,k.keys.trans h.keys,by rw[k.eq,h.eq]⟩
def ht.shd{ρ:Int->Int}{c a:bK}(h:ht ρ c a)(x:Int):a.shd x=c.shd x:=by rw[h.eq];rfl
def ht.shp{ρ:Int->Int}{c a:bK}(h:ht ρ c a)(x:Int):a.shp x=c.shp x:=by rw[h.eq];rfl
def ve{ρ:Int->Int}{c:bK}{v:Int}(h:km c.up ρ)(b:v∈cH c.up):∃a,rt c v=some (ρ v,a)/\ht ρ c a:=by
 have e:AI v c.up=c.up:=by simp[AI,Ka.2 b]
 obtain⟨d,J,U,f⟩:=abp (v.toNat+1) c.up v h b Ω;exact⟨{c with up:=d},by simp[rt,e,J],⟨U,f,rfl⟩⟩
def aqN{ρ:Int->Int}{c:bK}{v:Int}(h:km c.up ρ)(d:0<=v)(a:v∉cH c.up):rt c v=some (v,{c with up:=fA v v c.up})/\km (fA v v c.up) ρ/\cH (fA v v c.up)=cH c.up++[v]:=by
 have f:=arP.2 a;have ab:=XL (v:=v) a;refine⟨?_,⟨fun w u hw=>?_,fun w hw=>h.no w fun hm=>hw (by rw[ab];simp[hm])⟩,ab⟩
 ·simp[rt,AI,f,yi,jV,oS]
 ·rw[oS]at hw;rw[ab];by_cases e:w=v
  ·subst e;rw[if_pos rfl]at hw;cases hw;exact⟨⟨d,Ω,Ψ⟩,rfl,⟨fun _=>rfl,fun _=>h.no _ a⟩⟩
  ·rw[if_neg e]at hw;obtain⟨⟨b,a2,a3⟩,a4⟩:=h.up w u hw;exact⟨⟨b,a2,by simp[a3]⟩,a4⟩
def bK.ph(c:bK)(x:Int):be T:=if c.shd x then some (c.shp x)else none
def ht.ph{ρ:Int->Int}{c a:bK}(h:ht ρ c a):a.ph=c.ph:=by funext x;simp only[bK.ph,h.shd,h.shp]
def kP(ph:Int->be T)(ρ:Int->Int)(a:Int->T):Prop:=(∀v,a v=a (ρ v))/\∀x t,ρ x=x->ph x=some t->a x=t.ap a
def jW(ph:Int->be T)(ρ:Int->Int)(z u:Int):Prop:=ρ z=z/\∃t w,ph z=some t/\t.occ w=true/\ρ w=u
inductive oj (E:Int->Int->Prop):Int->Int->Prop
 |refl (a:Int):oj E a a
 |step {a b c:Int}:E a b->oj E b c->oj E a c
def pG(V:List Int)(ph:Int->be T):Prop:= ∀x t,ph x=some t->t.kind≠1/\(∀w,t.occ w=true->w∈V)/\x∈V
def Kd(V:List Int)(ph:Int->be T)(seen:List (Int×Bool)):Nat:=(V.filter fun v=>(ph v).isSome&& !((dp v seen).getD false)).length
def nX(seen:List (Int×Bool))(z:Int):Prop:=(dp z seen).getD false=true
structure ady (V:List Int) (ph:Int->be T) (ρ:Int->Int) (x:Int) (occ:Int->Prop) (a br:vv):Prop where
 sm:ht ρ a.c br.c
 sub:∀z,nX a.seen z->nX br.seen z
 yes:br.found=true->a.found=true\/ ∃w,occ w/\oj (jW ph ρ) (ρ w) x
 kept:a.found=true->br.found=true
 no:br.found=false->(∀w,occ w->ρ w≠x/\((ph (ρ w)).isSome=true->nX br.seen (ρ w)))/\∀r,nX br.seen r->¬nX a.seen r->∀u,jW ph ρ r u->u≠x/\((ph u).isSome=true->nX br.seen u)
def Hp{α:Type}{p q:α->Bool}:∀{V:List α},(∀x∈V,q x=true->p x=true)->(V.filter q).length<=(V.filter p).length
 |[],_=>by simp
 |y::V,h=>by have:=Hp (p:=p) (q:=q) (V:=V) fun x a=>h x (by simp[a]);have b:=h y Ψ;simp only[List.filter_cons];cases e:q y<;>cases c:p y<;>simp_all<;>omega
def Hq{α:Type}{p q:α->Bool}{v:α}:∀{V:List α},(∀x∈V,q x=true->p x=true)->v∈V->p v=true->q v=false->(V.filter q).length<(V.filter p).length
 |[],_,h,_,_=>by simp at h
 |x::V,h,b,c,d=>by
  have hle:=Hp (p:=p) (q:=q) (V:=V) fun x a=>h x (qf _ a);simp only[List.filter_cons];rcases gJ.1 b with rfl|b
  ·simp[c,d];omega
  ·have:=Hq (fun x a=>h x (qf _ a)) b c d;have a:=h x Ψ;cases e:q x<;>cases f:p x<;>simp_all<;>omega
def arZ{V:List Int}{ph:Int->be T}{s b:List (Int×Bool)}(h:∀z,nX s z->nX b z):Kd V ph b<=Kd V ph s:=
 Hp fun x _ a=>by
  simp only[cR,sN]at a⊢;refine⟨a.1,?_⟩;cases e:(dp x s).getD false with
  |false=>rfl
  |true=>have:=h x e;unfold nX at this;rw[a.2]at this;cases this
def NK{s:List (Int×Bool)}{r z:Int}:nX (fA r true s) z↔z=r\/nX s z:=by unfold nX;rw[oS];by_cases h:z=r<;>simp[h]
def aqE{V:List Int}{ph:Int->be T}{ρ:Int->Int}{x:Int}(gM:pG V ph)(k:Nat):∀(t:T) (a:vv),km a.c.up ρ->cH a.c.up=V->a.c.ph=ph->(∀w,t.occ w=true->w∈V)->Kd V ph a.seen<=k->
  ∃N br,(∀n,N<=n->t.foldO (yg (qQ n x) x) a=some br)/\ady V ph ρ x (fun w=>t.occ w=true) a br:=by
 induction k using Nat.strongRecOn with
 |ind k NI=>
 intro t;induction t with
 |var v=>
  intro a m ab g s y;obtain⟨j,J,U⟩:=ve m (by rw[ab];exact s v (by simp[T.occ]));have W:j.shd (ρ v)=(ph (ρ v)).isSome:=by rw[U.shd,<-g];simp only[bK.ph];split<;>simp_all
  by_cases d:a.found=true\/ρ v=x
  ·refine⟨0,⟨j,a.seen,true⟩,fun n _=>by simp[T.foldO,yg,J,d],U,fun z c=>c,fun _=>?_,fun _=>rfl,fun h=>by cases h⟩;rcases d with d|d
   ·exact .inl d
   ·exact .inr ⟨v,by simp[T.occ],by rw[d];exact .refl _⟩
  ·by_cases o:(dp (ρ v) a.seen).getD false=false/\j.shd (ρ v)=true
   ·have F:ph (ρ v)=some (j.shp (ρ v)):=by rw[<-g];simp only[bK.ph,U.shp];rw[if_pos (by rw[<-U.shd];exact o.2)]
    obtain⟨g1,g2,g3⟩:=gM _ _ F;have bP:Kd V ph (fA (ρ v) true a.seen)<k:=by
     refine Nat.lt_of_lt_of_le (Hq (v:=ρ v) (fun z _ c=>?_) g3 ?_ ?_) y
     ·simp only[cR,sN]at c⊢;refine⟨c.1,?_⟩;rw[oS]at c;by_cases e:z=ρ v
      ·subst e;exact o.1
      ·rw[if_neg e]at c;exact c.2
     ·simp[F,o.1]
     ·simp[oS]
    obtain⟨N,br,K,b⟩:=NI _ bP (j.shp (ρ v)) ⟨j,fA (ρ v) true a.seen,false⟩ U.ru (by rw[U.keys];exact ab) (by rw[U.ph];exact g) g2 (dP _);refine⟨N+1,br,fun n aA=>?_,U.trans b.sm,fun z c=>b.sub z (NK.2 (.inr c)),fun M=>?_,fun h=>absurd (.inl h) d,fun B=>?_⟩
    ·obtain⟨n',rfl⟩:∃n',n=n'+1:=⟨n-1,Ω⟩;simp only[T.foldO,yg,J,lI,if_neg d,if_pos o,qQ];exact K n' Ω
    ·rcases b.yes M with h|⟨w,i,l⟩
     ·cases h
     ·exact .inr ⟨v,by simp[T.occ],.step ⟨by rw[km.idem m],_,w,F,i,rfl⟩ l⟩
    ·obtain⟨i,l⟩:=b.no B;have X:nX br.seen (ρ v):=b.sub _ (NK.2 (.inl rfl));refine⟨fun w hw=>?_,fun r O A u hu=>?_⟩
     ·simp[T.occ]at hw;subst hw;exact⟨fun e=>d (.inr e),fun _=>X⟩
     ·by_cases P:r=ρ v
      ·subst P;obtain⟨_,t',w,Q,z2,rfl⟩:=hu;rw[F]at Q;cases Q;exact i w z2
      ·exact l r O (fun h=>(NK.1 h).elim P A) u hu
   ·have Ee:a.found=false:=by cases e:a.found with
     |false=>rfl
     |true=>exact absurd (.inl e) d
    refine⟨0,⟨j,a.seen,a.found⟩,fun n _=>by simp only[T.foldO,yg,J,lI,if_neg d,if_neg o],U,fun z c=>c,fun h=>.inl h,fun h=>h,fun _=>⟨fun w hw=>?_,fun r J U=>absurd J U⟩⟩;simp[T.occ]at hw;subst hw;refine⟨fun e=>d (.inr e),fun bN=>?_⟩;unfold nX;cases e:(dp (ρ v) a.seen).getD false with
    |true=>rfl
    |false=>exact absurd ⟨e,by rw[W];exact bN⟩ o
 |pair p q H G=>
  intro a m ab g s y;obtain⟨Z,E,K,b⟩:=H a m ab g (fun w hw=>s w (by simp[T.occ,hw])) y;obtain⟨Y,a2,aC,f⟩:=G E b.sm.ru (by rw[b.sm.keys];exact ab) (by rw[b.sm.ph];exact g) (fun w hw=>s w (by simp[T.occ,hw])) (kE (arZ b.sub) y);refine⟨max Z Y,a2,fun n aA=>by simp only[T.foldO];rw[K n Ω];exact aC n Ω,b.sm.trans f.sm,fun z c=>f.sub z (b.sub z c),fun M=>?_,fun h=>f.kept (b.kept h),fun B=>?_⟩
  ·rcases f.yes M with h|⟨w,i,l⟩
   ·rcases b.yes h with h|⟨w,i,l⟩
    ·exact .inl h
    ·exact .inr ⟨w,by simp[T.occ,i],l⟩
   ·exact .inr ⟨w,by simp[T.occ,i],l⟩
  ·have L:E.found=false:=by cases e:E.found with
    |false=>rfl
    |true=>have:=f.kept e;rw[B]at this;cases this
   obtain⟨S,R⟩:=b.no L;obtain⟨s1,s2⟩:=f.no B;refine⟨fun w hw=>?_,fun r O A u hu=>?_⟩
   ·simp only[T.occ,og]at hw;rcases hw with hw|hw
    ·exact⟨(S w hw).1,fun h=>f.sub _ ((S w hw).2 h)⟩
    ·exact s1 w hw
   ·by_cases h:nX E.seen r
    ·exact⟨(R r h A u hu).1,fun cN=>f.sub _ ((R r h A u hu).2 cN)⟩
    ·exact s2 r O h u hu
 |_=>intro a m ab g s y;exact⟨0,a,fun n _=>rfl,ht.refl m,fun z c=>c,fun h=>.inl h,fun h=>h,fun _=>⟨fun w hw=>by simp[T.occ]at hw,fun r J U=>absurd J U⟩⟩
def JA{ρ:Int->Int}{x:Int}{c:bK}{t:T}(f:km c.up ρ)(j:pG (cH c.up) c.ph)(s:∀w,t.occ w=true->w∈cH c.up):
  ∃N a,(∀n,N<=n->qQ n x t c []=some a)/\ht ρ c a.c/\(a.found=true↔∃w,t.occ w=true/\oj (jW c.ph ρ) (ρ w) x):=by
 obtain⟨N,a,J,U⟩:=aqE (x:=x) j _ t ⟨c,[],false⟩ f rfl rfl s (dP _);refine⟨N+1,a,fun n B=>?_,U.sm,fun h=>?_,fun⟨w,hw,u⟩=>?_⟩
 ·obtain⟨n',rfl⟩:∃n',n=n'+1:=⟨n-1,Ω⟩;exact J n' Ω
 ·rcases U.yes h with h|h
  ·cases h
  ·exact h
 ·cases e:a.found with
  |true=>rfl
  |false=>
   obtain⟨d,m⟩:=U.no e;have key:∀z,oj (jW c.ph ρ) z x->z≠x->((c.ph z).isSome=true->nX a.seen z)->er:=by
    have:∀z y,oj (jW c.ph ρ) z y->y=x->z≠x->((c.ph z).isSome=true->nX a.seen z)->er:=by
     intro z y r;induction r with
     |refl z=>intro h k;exact absurd h k
     | @step z b A he _ o=>intro q v i;obtain⟨_,t',w',g,_,_⟩:=id he;have p:=i (by simp[g]);obtain⟨g1,g2⟩:=m z p (by simp[nX,dp]) b he;exact o q g1 g2
    exact fun z l=>this z x l rfl
   exact(key _ u (d w hw).1 (d w hw).2).elim
end
section
open Go
def adL{E:Int->Int->Prop}{x:Int}{r:Int->Nat}{M:Nat}(h:∀z u,z≠x->E z u->r u<r z)(c:∀u,E x u->r u<M)(d:∀u,E x u->¬oj E u x):∃a:Int->Nat,∀z u,E z u->a u<a z:=by
 classical
 refine⟨fun z=>if oj E z x then r z+M else r z,fun z u he=>?_⟩;show(if oj E u x then r u+M else r u)<(if oj E z x then r z+M else r z);by_cases b:z=x
 ·subst b;have J:=d u he;have U:=c u he;rw[if_neg J,if_pos (oj.refl z)];omega
 ·have J:=h z u b he;by_cases hu:oj E u x
  ·rw[if_pos hu,if_pos (oj.step he hu)];omega
  ·rw[if_neg hu];split<;>omega
def oz(ph:Int->be T)(ρ:Int->Int):Nat->Int->T
 |0,v=>.var (ρ v)
 |n+1,v=>match ph (ρ v)with
  |none=>.var (ρ v)
  |some t=>t.ap (oz ph ρ n)
section
variable {ph:Int->be T} {ρ:Int->Int} {r:Int->Nat}
def ago(a:∀v,ρ (ρ v)=ρ v):∀(n:Nat) (v:Int),oz ph ρ n v=oz ph ρ n (ρ v)
 |0,v=>by simp[oz,a]
 |n+1,v=>by simp[oz,a]
def UM(a:∀v,ρ (ρ v)=ρ v)(b:∀z u,jW ph ρ z u->r u<r z):∀(n:Nat) (v:Int),r (ρ v)<n->oz ph ρ n v=oz ph ρ (n+1) v
 |0,_,h=>Ω
 |n+1,v,h=>by
  show(match ph (ρ v)with|none=>T.var (ρ v)|some t=>t.ap (oz ph ρ n))=(match ph (ρ v)with|none=>T.var (ρ v)|some t=>t.ap (oz ph ρ (n+1)));cases e:ph (ρ v)with
  |none=>rfl
  |some t=>refine vD fun w hw=>UM a b n w ?_;have:=b (ρ v) (ρ w) ⟨a v,t,w,e,hw,rfl⟩;omega
def UL(a:∀v,ρ (ρ v)=ρ v)(b:∀z u,jW ph ρ z u->r u<r z){n:Nat}{v:Int}(h:r (ρ v)<n):∀k,oz ph ρ (n+k) v=oz ph ρ n v
 |0=>rfl
 |k+1=>by rw[<-UL a b h k];exact(UM a b (n+k) v Ω).symm
def hY(ph:Int->be T)(ρ:Int->Int)(r:Int->Nat)(v:Int):T:=oz ph ρ (r (ρ v)+1) v
def Bi(a:∀v,ρ (ρ v)=ρ v)(v:Int):hY ph ρ r v=hY ph ρ r (ρ v):=by unfold hY;rw[ago a,a]
def DZ{v:Int}(h:ph (ρ v)=none):hY ph ρ r v= .var (ρ v):=by simp[hY,oz,h]
def Bj(a:∀v,ρ (ρ v)=ρ v)(b:∀z u,jW ph ρ z u->r u<r z){v:Int}{t:T}(h:ph (ρ v)=some t):hY ph ρ r v=t.ap (hY ph ρ r):=by show oz ph ρ (r (ρ v)+1) v=_;simp only[oz,h];refine vD fun w hw=>?_;have J:=b (ρ v) (ρ w) ⟨a v,t,w,h,hw,rfl⟩;have:=UL a b (n:=r (ρ w)+1) (v:=w) Ω (r (ρ v)-(r (ρ w)+1));rw[show r (ρ w)+1+(r (ρ v)-(r (ρ w)+1))=r (ρ v)from by omega]at this;exact this
def ajC(a:∀v,ρ (ρ v)=ρ v)(c:∀z u,jW ph ρ z u->r u<r z):kP ph ρ (hY ph ρ r):=⟨Bi a,fun x t b h=>Bj a c (by rw[b];exact h)⟩
def J3{V:List Int}(b:pG V ph){a:Int->T}(h:kP ph ρ a){z u:Int}(he:jW ph ρ z u):(a u).size<(a z).size:=by obtain⟨J,t,w,U,c,rfl⟩:=he;rw[h.2 z t J U,<-h.1 w];exact(Cm a c).2 (b z t U).1
def J4{V:List Int}(b:pG V ph){a:Int->T}(h:kP ph ρ a){z u:Int}(he:oj (jW ph ρ) z u):(a u).size<=(a z).size:=by
 induction he with
 |refl=>exact dP _
 |step J _ c=>have:=J3 b h J;omega
end
def aeg(r:Int->Nat)(t:T):∃M,∀w,t.occ w=true->r w<M:=by
 induction t with
 |var n=>exact⟨r n+1,fun w hw=>by simp[T.occ]at hw;subst hw;omega⟩
 |pair a b f e=>
  obtain⟨d,J⟩:=f;obtain⟨c,U⟩:=e;refine⟨d+c,fun w hw=>?_⟩;simp only[T.occ,og]at hw;rcases hw with hw|hw
  ·have:=J w hw;omega
  ·have:=U w hw;omega
 |_=>exact⟨0,fun w hw=>by simp[T.occ]at hw⟩
def FM{ph:Int->be T}{ρ:Int->Int}(b:∀v,ρ (ρ v)=ρ v){x:Int}{r:Int->Nat}(h:∀z u,z≠x->jW ph ρ z u->r u<r z)(g:∀u,jW ph ρ x u->¬oj (jW ph ρ) u x):∃f,kP ph ρ f:=by
 have a:∃M,∀u,jW ph ρ x u->r u<M:=by
  cases e:ph x with
  |none=>exact⟨0,fun u ⟨_,t,w,J,_⟩=>by rw[e]at J;cases J⟩
  |some t=>obtain⟨M,a⟩:=aeg (fun w=>r (ρ w)) t;refine⟨M,fun u ⟨_,t',w,J,U,d⟩=>?_⟩;rw[e]at J;cases J;subst d;exact a w U
 obtain⟨M,a⟩:=a;obtain⟨i,c⟩:=adL h a g;exact⟨_,ajC b c⟩
structure mZ (c:bK) (ρ:Int->Int):Prop where
 ru:km c.up ρ
 sh:pG (cH c.up) c.ph
 sat:∃aS,kP c.ph ρ aS
def mZ.sm{c a:bK}{ρ:Int->Int}(h:mZ c ρ)(k:ht ρ c a):mZ a ρ:=⟨k.ru,by rw[k.keys,k.ph];exact h.sh,by rw[k.ph];exact h.sat⟩
def jt(c:bK)(ρ:Int->Int):Nat:=((cH c.up).filter fun v=>decide (ρ v=v)).length+((cH c.up).filter fun v=>decide (ρ v=v)&& !(c.ph v).isSome).length
def yD{c a:bK}{ρ:Int->Int}(k:ht ρ c a):jt a ρ=jt c ρ:=by unfold jt;rw[k.keys,k.ph]
structure jX (c:bK) (ρ:Int->Int) (p:(Int->T)->Prop) (o:Bool×bK):Prop where
 keys:cH o.2.up=cH c.up
 rest:o.2.color=c.color/\o.2.size=c.size/\o.2.full=c.full
 yes:o.1=true->∃ρ',mZ o.2 ρ'/\(∀aS,kP o.2.ph ρ' aS↔kP c.ph ρ aS/\p aS)/\((ρ'=ρ/\o.2.ph=c.ph)\/jt o.2 ρ'<jt c ρ)
 no:o.1=false->∀aS,kP c.ph ρ aS->¬p aS
def ht.rest{ρ:Int->Int}{c a:bK}(h:ht ρ c a):a.color=c.color/\a.size=c.size/\a.full=c.full:=by rw[h.eq];exact⟨rfl,rfl,rfl⟩
def jX.sm{c a:bK}{ρ:Int->Int}{p:(Int->T)->Prop}{o:Bool×bK}(k:ht ρ c a)(h:jX a ρ p o):jX c ρ p o:=⟨h.keys.trans k.keys,by rw[h.rest.1,h.rest.2.1,h.rest.2.2];exact k.rest,fun e=>by rw[<-yD k,<-k.ph];exact h.yes e,by rw[<-k.ph];exact h.no⟩
def jX.congr{c:bK}{ρ:Int->Int}{p q:(Int->T)->Prop}{o:Bool×bK}(d:∀a,kP c.ph ρ a->(p a↔q a))(h:jX c ρ p o):jX c ρ q o:=⟨h.keys,h.rest,fun e=>by obtain⟨ρ',J,U,g⟩:=h.yes e;exact⟨ρ',J,fun a=>(U a).trans (and_congr_right fun b=>d a b),g⟩,fun e a b f=>h.no e a b ((d a b).2 f)⟩
def x9(c:bK)(x:Int)(t:T)(z:Int):(c.know x t).ph z=if z=x then some t else c.ph z:=by
 simp only[bK.ph,bK.know,bK.shd,bK.shp,oS];by_cases h:z=x
 ·simp[h]
 ·simp only[if_neg h];exact ite_congr rfl (fun _=>rfl) fun _=>rfl
def X4{c:bK}{ρ:Int->Int}(hi:mZ c ρ){x:Int}(B:ρ x=x)(ab:x∈cH c.up)(y:c.ph x=none){t:T}(F:t.kind≠1)(E:∀w,t.occ w=true->w∈cH c.up):
  ∃N o,(∀n,N<=n->wv n x t c=some o)/\jX c ρ (fun d=>d x=t.ap d) o:=by
 have i:pG (cH (c.know x t).up) (c.know x t).ph:=by
  intro z u b;rw[x9]at b;split at b
  ·rename_i e;cases b;subst e;exact⟨F,E,ab⟩
  ·exact hi.sh z u b
 have s:∀d,kP (c.know x t).ph ρ d↔kP c.ph ρ d/\d x=t.ap d:=by
  intro d;constructor
  ·rintro⟨J,U⟩;refine⟨⟨J,fun z u b hu=>U z u b ?_⟩,U x t B (by rw[x9];simp)⟩;rw[x9];split
   ·rename_i e;subst e;rw[y]at hu;cases hu
   ·exact hu
  ·rintro⟨⟨J,U⟩,h⟩;refine⟨J,fun z u b hu=>?_⟩;rw[x9]at hu;split at hu
   ·rename_i e;subst e;cases hu;exact h
   ·exact U z u b hu
 obtain⟨N,a,J,U,h⟩:=JA (x:=x) (c:=c.know x t) (t:=t) hi.ru i E;refine⟨N,(!a.found,a.c),fun n Q=>by simp[wv,J n Q],U.keys,U.rest,fun f=>?_,fun f d A he=>?_⟩
 ·simp only[sN]at f;have l:∀u,jW (c.know x t).ph ρ x u->¬oj (jW (c.know x t).ph ρ) u x:=by rintro u ⟨_,t',w,g,j,rfl⟩ P;rw[x9,if_pos rfl]at g;cases g;have:=h.2 ⟨w,j,P⟩;rw[f]at this;cases this
  obtain⟨K,H⟩:=hi.sat
  have m:=FM (ph:=(c.know x t).ph) (ρ:=ρ) hi.ru.idem (x:=x) (r:=fun z=>(K z).size) (fun z u b he=>by refine J3 hi.sh H ?_;obtain⟨k,t',w,G,M⟩:=he;rw[x9,if_neg b]at G;exact⟨k,t',w,G,M⟩) l
  refine⟨ρ,⟨U.ru,?_,?_⟩,fun d=>?_,.inr ?_⟩
  ·simp only[U.keys,U.ph];exact i
  ·simp only[U.ph];exact m
  ·simp only[U.ph];exact s d
  ·simp only[yD U];unfold jt;have k:cH (c.know x t).up=cH c.up:=rfl;rw[k];have:=Hq (V:=cH c.up) (v:=x) (p:=fun v=>decide (ρ v=v)&& !(c.ph v).isSome) (q:=fun v=>decide (ρ v=v)&& !((c.know x t).ph v).isSome) (fun z _ b=>by
    rw[x9]at b;split at b
    ·simp at b
    ·exact b) ab (by simp[B,y]) (by simp[x9])
   omega
 ·simp only[Bool.not_eq_false']at f;obtain⟨w,g,j⟩:=h.1 f;have L:=(s d).2 ⟨A,he⟩;have:=J4 i L j;have O:=(Cm d g).2 F;rw[<-he]at O;rw[<-A.1 w]at this;omega
def j1(ρ:Int->Int)(x y:Int)(v:Int):Int:=if ρ v=y then x else ρ v
section
variable {c:bK} {ρ:Int->Int} {x y:Int}
def rz(b:ρ x=x)(c:ρ y=y)(a:x≠y){z:Int}:j1 ρ x y z=z↔ρ z=z/\z≠y:=by
 unfold j1;split
 ·rename_i e;constructor
  ·intro h;subst h;rw[b]at e;exact absurd e a
  ·rintro⟨J,U⟩;rw[J]at e;exact absurd e U
 ·rename_i e;constructor
  ·intro h;exact⟨h,fun d=>e (by rw[d,c])⟩
  ·exact fun h=>h.1
def km.join(h:km c.up ρ)(d:ρ x=x)(f:ρ y=y)(l:x<y)(j:x∈cH c.up)(g:y∈cH c.up):km (c.join x y).up (j1 ρ x y):=by
 have ab:cH (c.join x y).up=cH c.up:=ES g;refine⟨fun v u b=>?_,fun v b=>?_⟩
 ·rw[ab];have a:dp v (fA y x c.up)=some u:=b;rw[oS]at a;by_cases e:v=y
  ·subst e;rw[if_pos rfl]at a;cases a;have i:=(h.mem j).2;rw[d]at i;refine⟨⟨i,Ω,j⟩,?_,⟨fun e=>?_,fun e=>Ω⟩⟩
   ·unfold j1;rw[d,f,if_pos rfl,if_neg Ω]
   ·have:=((rz d f Ω).1 e).2;exact absurd rfl this
  ·rw[if_neg e]at a;obtain⟨k,a2,a3⟩:=h.up v u a;refine⟨k,by unfold j1;rw[a2],?_⟩;rw[rz d f Ω,a3];exact⟨fun h=>h.1,fun h=>⟨h,e⟩⟩
 ·rw[ab]at b;have:=h.no v b;unfold j1;rw[this,if_neg fun e=>b (by rw[e];exact g)]
def ari{ph:Int->be T}(i:ρ x=x)(d:ρ y=y)(h:x≠y)(a:Int->T):(kP ph (j1 ρ x y) a/\∀t,ph y=some t->a x=t.ap a)↔(kP ph ρ a/\a x=a y):=by
 constructor
 ·rintro⟨⟨J,U⟩,c⟩;have g:a y=a x:=by have:=J y;simpa[j1,d]using this
  refine⟨⟨fun v=>?_,fun z t f b=>?_⟩,g.symm⟩
  ·have:=J v;unfold j1 at this;split at this
   ·rename_i e;rw[e,this,g]
   ·exact this
  ·by_cases e:z=y
   ·subst e;rw[g];exact c t b
   ·exact U z t ((rz i d h).2 ⟨f,e⟩) b
 ·rintro⟨⟨J,U⟩,c⟩;refine⟨⟨fun v=>?_,fun z t f b=>U z t ((rz i d h).1 f).1 b⟩,fun t b=>by rw[c];exact U y t d b⟩;unfold j1;split
  ·rename_i e;rw[J v,e,c]
  ·exact J v
def aqD{V:List Int}{ph:Int->be T}(d:pG V ph)(i:ρ x=x)(j:ρ y=y)(c:x≠y){b:Int->T}(h:kP ph ρ b){z u:Int}(f:z≠x)(he:jW ph (j1 ρ x y) z u):(if u=x then 0 else(b u).size)<(if z=x then 0 else(b z).size):=by
 obtain⟨J,t,w,U,g,rfl⟩:=he;have k:=(rz i j c).1 J;rw[if_neg f];split
 ·exact T.size_pos _
 ·rename_i a;have:j1 ρ x y w=ρ w:=by
   unfold j1 at a⊢;split
   ·rename_i e;rw[if_pos e]at a;exact absurd rfl a
   ·rfl
  rw[this];exact J3 d h ⟨k.1,t,w,U,g,rfl⟩
def adr(e:ρ x=x)(b:ρ y=y)(d:x≠y)(f:y∈cH c.up):jt (c.join x y) (j1 ρ x y)<jt c ρ:=by have ab:cH (c.join x y).up=cH c.up:=ES f;have g:(c.join x y).ph=c.ph:=rfl;unfold jt;rw[ab,g];have J:=Hq (V:=cH c.up) (v:=y) (p:=fun v=>decide (ρ v=v)) (q:=fun v=>decide (j1 ρ x y v=v)) (fun z _ a=>by simp only[gz]at a⊢;exact((rz e b d).1 a).1) f (by simp[b]) (by simp only[iR];exact fun h=>((rz e b d).1 h).2 rfl);have U:=Hp (V:=cH c.up) (p:=fun v=>decide (ρ v=v)&& !(c.ph v).isSome) (q:=fun v=>decide (j1 ρ x y v=v)&& !(c.ph v).isSome) (fun z _ a=>by simp only[cR,gz]at a⊢;exact⟨((rz e b d).1 a.1).1,a.2⟩);omega
end
def Cu{c:bK}{x:Int}(h:c.shd x=false):c.ph x=none:=by simp[bK.ph,h]
def Cv{c:bK}{x:Int}(h:¬c.shd x=false):c.ph x=some (c.shp x):=by simp[bK.ph];simpa using h
def UE{c:bK}{ρ:Int->Int}(hi:mZ c ρ){x y:Int}(g:ρ x=x)(A:ρ y=y)(iU:x<y)(EV:x∈cH c.up)(W:y∈cH c.up)
  (rec:∀(M:bK) (X:Int->Int),mZ M X->cH M.up=cH c.up->jt M X<jt c ρ->∀a b:T,(∀w,a.occ w=true->w∈cH c.up)->(∀w,b.occ w=true->w∈cH c.up)->∃N o,(∀n,N<=n->hx n a b M=some o)/\jX M X (fun d=>a.ap d=b.ap d) o):
  ∃N o,(∀n,N<=n->sW (hx n) n x y (c.join x y)=some o)/\jX c ρ (fun d=>d x=d y) o:=by
 have i:x≠y:=Ω
 have ab:cH (c.join x y).up=cH c.up:=ES W;have O:(c.join x y).ph=c.ph:=rfl;have E:=hi.ru.join g A iU EV W;have Z:=adr (c:=c) g A i W;have L:pG (cH (c.join x y).up) (c.join x y).ph:=by rw[ab,O];exact hi.sh
 obtain⟨l7,wj⟩:=hi.sat
 have S:∀z u,z≠x->jW c.ph (j1 ρ x y) z u->(fun z=>if z=x then 0 else(l7 z).size) u<(fun z=>if z=x then 0 else(l7 z).size) z:=fun z u bC he=>aqD hi.sh g A i wj bC he;have F:=fun d=>ari (ph:=c.ph) g A i d;have W2:∀{cD:bK},ht (j1 ρ x y) (c.join x y) cD->(∃d,kP c.ph (j1 ρ x y) d)->c.ph y=none->jX c ρ (fun d=>d x=d y) (true,cD):=by intro cD k r B;refine⟨k.keys.trans ab,k.rest,fun _=>⟨j1 ρ x y,⟨k.ru,by simp only[k.keys,k.ph];exact L,by simp only[k.ph];exact r⟩,fun d=>?_,.inr (by simp only[yD k];exact Z)⟩,fun e=>by cases e⟩;simp only[k.ph,O];rw[<-F d];exact⟨fun h=>⟨h,fun t H=>by rw[B]at H;cases H⟩,fun h=>h.1⟩
 by_cases J:(c.join x y).shd y=false
 ·have WO:c.ph y=none:=Cu J;by_cases U:(c.join x y).shd x=false
  ·have V:c.ph x=none:=Cu U;refine⟨0,(true,c.join x y),fun n _=>by simp only[sW,if_pos J,if_pos U],W2 (ht.refl E) ?_ WO⟩;exact FM E.idem (x:=x) S fun u ⟨_,t,w,q,_⟩=>by rw[V]at q;cases q
  ·have m:c.ph x=some ((c.join x y).shp x):=Cv U;obtain⟨N,a,K,f,R⟩:=JA (x:=x) (c:=c.join x y) (t:=(c.join x y).shp x) E L (by rw[ab];exact(hi.sh _ _ m).2.1);refine⟨N,(!a.found,a.c),fun n B=>by simp only[sW,if_pos J,if_neg U,K n B,pB],?_⟩;cases s:a.found with
   |false=>refine W2 f (FM E.idem (x:=x) S fun u ⟨_,t,w,j,p,G⟩ aI=>?_) WO;rw[m]at j;cases j;subst G;have:=R.2 ⟨w,p,aI⟩;rw[s]at this;cases this
   |true=>refine⟨f.keys.trans ab,f.rest,(fun e=>by cases e),fun _ d r he=>?_⟩;obtain⟨w,j,p⟩:=R.1 s;have v:=((F d).2 ⟨r,he⟩).1;have P:=J4 hi.sh v p;have Q:=(Cm d j).2 (hi.sh _ _ m).1;rw[<-v.2 x _ ((rz g A i).2 ⟨g,i⟩) m]at Q;rw[<-v.1 w]at P;omega
 ·have l:c.ph y=some ((c.join x y).shp y):=Cv J;by_cases U:(c.join x y).shd x=false
  ·have V:c.ph x=none:=Cu U;have nk:mZ (c.join x y) (j1 ρ x y):=⟨E,L,FM E.idem (x:=x) S fun u ⟨_,t,w,q,_⟩=>by rw[O,V]at q;cases q⟩;obtain⟨N,o,K,f⟩:=X4 nk (x:=x) ((rz g A i).2 ⟨g,i⟩) (by rw[ab];exact EV) V (t:=(c.join x y).shp y) (hi.sh _ _ l).1 (by rw[ab];exact(hi.sh _ _ l).2.1);refine⟨N,o,fun n B=>by simp only[sW,if_neg J,if_pos U,K n B],f.keys.trans ab,f.rest,fun s=>?_,fun s d r he=>?_⟩
   ·obtain⟨ρ',g1,g2,g3⟩:=f.yes s;refine⟨ρ',g1,fun d=>?_,.inr ?_⟩
    ·rw[g2 d,<-F d];refine and_congr_right fun _=>⟨fun h t H=>by rw[l]at H;cases H;exact h,fun h=>h _ l⟩
    ·rcases g3 with⟨rfl,g3⟩|g3
     ·have:jt o.2 (j1 ρ x y)=jt (c.join x y) (j1 ρ x y):=by unfold jt;rw[f.keys,g3]
      omega
     ·omega
   ·obtain⟨s1,s2⟩:=(F d).2 ⟨r,he⟩;exact f.no s d s1 (s2 _ l)
  ·have m:c.ph x=some ((c.join x y).shp x):=Cv U;obtain⟨Y,a,K,f,R⟩:=JA (x:=x) (c:=c.join x y) (t:=(c.join x y).shp y) E L (by rw[ab];exact(hi.sh _ _ l).2.1);cases s:a.found with
   |true=>refine⟨Y,(false,a.c),fun n B=>by simp only[sW,if_neg J,if_neg U,K n B,lI,s,if_true],f.keys.trans ab,f.rest,(fun e=>by cases e),fun _ d r he=>?_⟩;obtain⟨w,j,p⟩:=R.1 s;obtain⟨v,qC⟩:=(F d).2 ⟨r,he⟩;have P:=J4 hi.sh v p;have Q:=(Cm d j).2 (hi.sh _ _ l).1;rw[<-qC _ l]at Q;rw[<-v.1 w]at P;omega
   |false=>
    have W5:a.c.shp x=(c.join x y).shp x:=f.shp x;obtain⟨jY,b,f1,f2,f3⟩:=JA (x:=x) (c:=a.c) (t:=(c.join x y).shp x) f.ru (by rw[f.keys,f.ph];exact L) (by rw[f.keys,ab];exact(hi.sh _ _ m).2.1);have e8:=f.trans f2;cases a7:b.found with
    |true=>refine⟨max Y jY,(false,b.c),fun n B=>by simp only[sW,if_neg J,if_neg U,K n Ω,lI,s,W5,f1 n Ω,a7,if_true,hT,if_false],e8.keys.trans ab,e8.rest,(fun e=>by cases e),fun _ d r he=>?_⟩;obtain⟨w,j,p⟩:=f3.1 a7;obtain⟨v,_⟩:=(F d).2 ⟨r,he⟩;rw[f.ph]at p;have P:=J4 hi.sh v p;have Q:=(Cm d j).2 (hi.sh _ _ m).1;rw[<-v.2 x _ ((rz g A i).2 ⟨g,i⟩) m]at Q;rw[<-v.1 w]at P;omega
    |false=>
     have Bw:mZ b.c (j1 ρ x y):=by refine⟨e8.ru,by rw[e8.keys,e8.ph];exact L,?_⟩;rw[e8.ph];refine FM E.idem (x:=x) S fun u ⟨_,t,w,j,p,G⟩ aI=>?_;rw[O,m]at j;cases j;subst G;have:=f3.2 ⟨w,p,by rw[f.ph];exact aI⟩;rw[a7]at this;cases this
     obtain⟨AD,o,g1,g2⟩:=rec b.c (j1 ρ x y) Bw (e8.keys.trans ab) (by rw[yD e8];exact Z) ((c.join x y).shp x) ((c.join x y).shp y) (hi.sh _ _ m).2.1 (hi.sh _ _ l).2.1;refine⟨max (max Y jY) AD,o,fun n B=>?_,g2.keys.trans (e8.keys.trans ab),?_,fun cN=>?_,fun cN d r he=>?_⟩
     ·simp only[sW,if_neg J,if_neg U,K n Ω,lI,s,W5,f1 n Ω,a7,hT,if_false,e8.shp];exact g1 n Ω
     ·rw[g2.rest.1,g2.rest.2.1,g2.rest.2.2];exact e8.rest
     ·obtain⟨ρ',j,p,G⟩:=g2.yes cN;refine⟨ρ',j,fun d=>?_,.inr ?_⟩
      ·rw[p d,e8.ph,O,<-F d];refine and_congr_right fun h=>?_;have:=h.2 x _ ((rz g A i).2 ⟨g,i⟩) m;rw[<-this];exact⟨fun h t H=>by rw[l]at H;cases H;exact h,fun h=>h _ l⟩
      ·have:jt b.c (j1 ρ x y)<jt c ρ:=by rw[yD e8];exact Z
       rcases G with⟨rfl,G⟩|G
       ·have:jt o.2 (j1 ρ x y)=jt b.c (j1 ρ x y):=by unfold jt;rw[g2.keys,G]
        omega
       ·omega
     ·obtain⟨s1,s2⟩:=(F d).2 ⟨r,he⟩;refine g2.no cN d (by rw[e8.ph];exact s1) ?_;have:=s1.2 x _ ((rz g A i).2 ⟨g,i⟩) m;rw[<-this];exact s2 _ l
def vK:T->T->Nat
 | .var _,_=>1
 |_,.var _=>2
 |_,_=>0
def aft(K:Nat):∀(m:Nat) (c:bK) (ρ:Int->Int) (a b:T) (k:Int->T),mZ c ρ->kP c.ph ρ k->(∀w,a.occ w=true->w∈cH c.up)->(∀w,b.occ w=true->w∈cH c.up)->jt c ρ=K->((a.ap k).size+(b.ap k).size)*3+vK a b=m->
  ∃N o,(∀n,N<=n->hx n a b c=some o)/\jX c ρ (fun d=>a.ap d=b.ap d) o:=by
 induction K using Nat.strongRecOn with
 |ind K alv=>
 have Xd:∀(f:bK) (g:Int->Int),mZ f g->jt f g<K->∀a b:T,(∀w,a.occ w=true->w∈cH f.up)->(∀w,b.occ w=true->w∈cH f.up)->∃N o,(∀n,N<=n->hx n a b f=some o)/\jX f g (fun d=>a.ap d=b.ap d) o:=by
  intro f g J U a b v r;obtain⟨d,ir⟩:=J.sat
  exact alv _ U _ f g a b d J ir v r rfl rfl
 intro m;induction m using Nat.strongRecOn with
 |ind m BQ=>
 intro c ρ a b k hi R v r P hm;have akz:∀{a b:T},(∀n,hx (n+1) a b c=some (decide (a=b),c))->(∀d,a.ap d=a)->(∀d,b.ap d=b)->∃N o,(∀n,N<=n->hx n a b c=some o)/\jX c ρ (fun d=>a.ap d=b.ap d) o:=by
  intro a b J U F;refine⟨1,(decide (a=b),c),fun n B=>?_,rfl,⟨rfl,rfl,rfl⟩,fun h=>?_,fun h d _ he=>?_⟩
  ·obtain⟨n',rfl⟩:∃n',n=n'+1:=⟨n-1,Ω⟩;exact J n'
  ·simp only[gz]at h;subst h;exact⟨ρ,hi,fun d=>⟨fun h=>⟨h,rfl⟩,fun h=>h.1⟩,.inl ⟨rfl,rfl⟩⟩
  ·simp only[iR]at h;rw[U,F]at he;exact h he
 have We:∀{a b:T},(∀n,hx (n+1) a b c=some (decide (a=b),c))->(∀d,a.ap d≠b.ap d)->a≠b->∃N o,(∀n,N<=n->hx n a b c=some o)/\jX c ρ (fun d=>a.ap d=b.ap d) o:=by intro a b J U F;refine⟨1,(false,c),fun n B=>?_,rfl,⟨rfl,rfl,rfl⟩,(fun h=>by cases h),fun _ d _ he=>U d he⟩;obtain⟨n',rfl⟩:∃n',n=n'+1:=⟨n-1,Ω⟩;rw[J n',mx F]
 have xN:∀(i:Int) (b:T),b.kind≠1->(∀n,hx (n+1) (.var i) b c=(rt c i).bind fun p=>if p.2.shd p.1=false then wv n p.1 b p.2 else hx n (p.2.shp p.1) b p.2)->i∈cH c.up->(∀w,b.occ w=true->w∈cH c.up)->((k i).size+(b.ap k).size)*3<m->∃N o,(∀n,N<=n->hx n (.var i) b c=some o)/\jX c ρ (fun d=>d i=b.ap d) o:=by
  intro i b xm Wh ki r bP;obtain⟨f,y,s⟩:=ve hi.ru ki;have O:=hi.sm s;by_cases l:f.shd (ρ i)=false
  ·obtain⟨N,o,A,t⟩:=X4 O (x:=ρ i) (hi.ru.idem i) (by rw[s.keys];exact(hi.ru.mem ki).1) (Cu l) xm (by rw[s.keys];exact r);refine⟨N+1,o,fun n B=>?_,jX.sm s (jX.congr (fun d h=>?_) t)⟩
   ·obtain⟨n',rfl⟩:∃n',n=n'+1:=⟨n-1,Ω⟩;rw[Wh,y];simp only[lI,if_pos l];exact A n' Ω
   ·rw[<-h.1 i]
  ·have S:f.ph (ρ i)=some (f.shp (ρ i)):=Cv l;have mi:∀d,kP f.ph ρ d->d i=(f.shp (ρ i)).ap d:=fun d h=>by rw[h.1 i];exact h.2 _ _ (hi.ru.idem i) S
   have Em:=(O.sh _ _ S).1;have akb:vK (f.shp (ρ i)) b=0:=by cases e:f.shp (ρ i)<;>cases b<;>simp_all[vK,T.kind]
   have Xa:kP f.ph ρ k:=by rw[s.ph];exact R
   obtain⟨N,o,A,t⟩:=BQ (((f.shp (ρ i)).ap k).size*3+(b.ap k).size*3) (by rw[<-mi k Xa];omega) f ρ (f.shp (ρ i)) b k O Xa (O.sh _ _ S).2.1 (by rw[s.keys];exact r) (by rw[yD s];exact P) (by rw[akb];omega);refine⟨N+1,o,fun n B=>?_,jX.sm s (jX.congr (fun d h=>?_) t)⟩
   ·obtain⟨n',rfl⟩:∃n',n=n'+1:=⟨n-1,Ω⟩;rw[Wh,y];simp only[lI,if_neg l];exact A n' Ω
   ·rw[mi d h]
 have EE:∀(i j:Int),i∈cH c.up->j∈cH c.up->∃N o,(∀n,N<=n->hx n (.var i) (.var j) c=some o)/\jX c ρ (fun d=>d i=d j) o:=by
  intro i j ki Q;obtain⟨f,y,s⟩:=ve hi.ru ki;obtain⟨H,A,bE⟩:=ve s.ru (by rw[s.keys];exact Q:j∈cH f.up);have z:=s.trans bE;have W:=hi.sm z;have fN:ρ i∈cH H.up:=by rw[z.keys];exact(hi.ru.mem ki).1
  have Ww:ρ j∈cH H.up:=by rw[z.keys];exact(hi.ru.mem Q).1
  have xH:∀(f:bK) (g:Int->Int),mZ f g->cH f.up=cH H.up->jt f g<jt H ρ->∀a b:T,(∀w,a.occ w=true->w∈cH H.up)->(∀w,b.occ w=true->w∈cH H.up)->∃N o,(∀n,N<=n->hx n a b f=some o)/\jX f g (fun d=>a.ap d=b.ap d) o:=fun dj ρ3 J U F a b v r=>Xd dj ρ3 J (by rw[yD z,P]at F;exact F) a b (by rw[U];exact v) (by rw[U];exact r);rcases Int.lt_trichotomy (ρ i) (ρ j)with h|h|h
  ·obtain⟨N,o,bh,X⟩:=UE W (hi.ru.idem i) (hi.ru.idem j) h fN Ww xH;refine⟨N+1,o,fun n B=>?_,jX.sm z (jX.congr (fun d h=>?_) X)⟩
   ·obtain⟨n',rfl⟩:∃n',n=n'+1:=⟨n-1,Ω⟩;simp only[hx,y,A,lI];rw[if_neg Ω,if_neg Ω];exact bh n' Ω
   ·rw[h.1 i,h.1 j]
  ·refine⟨1,(true,H),fun n B=>?_,z.keys,z.rest,fun _=>⟨ρ,W,fun d=>?_,.inl ⟨rfl,z.ph⟩⟩,fun e=>by cases e⟩
   ·obtain⟨n',rfl⟩:∃n',n=n'+1:=⟨n-1,Ω⟩;simp only[hx,y,A,lI,if_pos h]
   ·simp only[z.ph];exact⟨fun l=>⟨l,by rw[l.1 i,l.1 j,h]⟩,fun l=>l.1⟩
  ·obtain⟨N,o,bh,X⟩:=UE W (hi.ru.idem j) (hi.ru.idem i) h Ww fN xH;refine⟨N+1,o,fun n B=>?_,jX.sm z (jX.congr (fun d h=>?_) X)⟩
   ·obtain⟨n',rfl⟩:∃n',n=n'+1:=⟨n-1,Ω⟩;simp only[hx,y,A,lI];rw[if_neg Ω,if_pos h];exact bh n' Ω
   ·rw[h.1 i,h.1 j];exact⟨Eq.symm,Eq.symm⟩
 have BK:∀(a:T) (j:Int),a.kind≠1->(∀n,hx (n+1) a (.var j) c=hx n (.var j) a c)->(∀n,hx (n+1) (.var j) a c=(rt c j).bind fun p=>if p.2.shd p.1=false then wv n p.1 a p.2 else hx n (p.2.shp p.1) a p.2)->j∈cH c.up->(∀w,a.occ w=true->w∈cH c.up)->((k j).size+(a.ap k).size)*3<m->∃N o,(∀n,N<=n->hx n a (.var j) c=some o)/\jX c ρ (fun d=>a.ap d=d j) o:=by intro a j J U F Q v bP;obtain⟨N,o,y,E⟩:=xN j a J F Q v bP;refine⟨N+1,o,fun n B=>?_,jX.congr (fun d _=>⟨Eq.symm,Eq.symm⟩) E⟩;obtain⟨n',rfl⟩:∃n',n=n'+1:=⟨n-1,Ω⟩;rw[U];exact y n' Ω
 cases a with
 |var i=>
  have ki:i∈cH c.up:=v i (by simp[T.occ]);cases b with
  |var j=>exact EE i j ki (r j (by simp[T.occ]))
  |_=>exact xN i _ (by simp[T.kind]) (fun n=>rfl) ki r (by simp only[T.ap,vK]at hm⊢;omega)
 |pair Z a2=>
  cases b with
  |var j=>exact BK _ j (by simp[T.kind]) (fun n=>rfl) (fun n=>rfl) (r j (by simp[T.occ])) v (by simp only[T.ap,vK]at hm⊢;omega)
  |pair Y L=>
   have uK:∀p q:T,vK p q<=2:=fun p q=>by cases p<;>cases q<;>simp[vK]
   have mg:∀w,Z.occ w=true->w∈cH c.up:=fun w hw=>v w (by simp[T.occ,hw]);have ri:∀w,a2.occ w=true->w∈cH c.up:=fun w hw=>v w (by simp[T.occ,hw]);have mG:∀w,Y.occ w=true->w∈cH c.up:=fun w hw=>r w (by simp[T.occ,hw]);have qy:∀w,L.occ w=true->w∈cH c.up:=fun w hw=>r w (by simp[T.occ,hw]);simp only[T.ap,T.size,vK]at hm;have f1:=uK Z Y;have f2:=uK a2 L;obtain⟨iL,hh,y,E⟩:=BQ _ (by rw[<-hm];omega) c ρ Z Y k hi R mg mG P rfl;obtain⟨ane,f⟩:=hh;cases ane with
   |false=>refine⟨iL+1,(false,f),fun n B=>?_,E.keys,E.rest,(fun e=>by cases e),fun _ d l he=>E.no rfl d l (by simp only[T.ap,T.pair.injEq]at he;exact he.1)⟩;obtain⟨n',rfl⟩:∃n',n=n'+1:=⟨n-1,Ω⟩;simp only[hx,y n' Ω,lI,hT,if_false]
   |true=>
    obtain⟨g,ba,bB,u⟩:=E.yes rfl;simp only at ba bB u;have G:cH f.up=cH c.up:=E.keys;have Ex:∃V M,(∀n,V<=n->hx n a2 L f=some M)/\jX f g (fun d=>a2.ap d=L.ap d) M:=by
     rcases u with⟨rfl,u⟩|u
     ·exact BQ _ (by rw[<-hm];omega) f g a2 L k ba (by rw[u];exact R) (by rw[G];exact ri) (by rw[G];exact qy) (by unfold jt;rw[G,u];exact P) rfl
     ·exact Xd f g ba Ω a2 L (by rw[G];exact ri) (by rw[G];exact qy)
    obtain⟨V,M,A,t⟩:=Ex;refine⟨max iL V+1,M,fun n B=>?_,t.keys.trans G,?_,fun aG=>?_,fun aG d l he=>?_⟩
    ·obtain⟨n',rfl⟩:∃n',n=n'+1:=⟨n-1,Ω⟩;simp only[hx,y n' Ω,lI,if_true];exact A n' Ω
    ·rw[t.rest.1,t.rest.2.1,t.rest.2.2];exact E.rest
    ·obtain⟨ρ2,s1,s2,s3⟩:=t.yes aG;refine⟨ρ2,s1,fun d=>?_,?_⟩
     ·rw[s2 d,bB d];simp only[T.ap,T.pair.injEq,and_assoc]
     ·rcases u with⟨rfl,u⟩|u
      ·rcases s3 with⟨rfl,s3⟩|s3
       ·exact .inl ⟨rfl,s3.trans u⟩
       ·have:jt f g=jt c g:=by unfold jt;rw[G,u]
        exact .inr Ω
      ·rcases s3 with⟨rfl,s3⟩|s3
       ·have:jt M.2 ρ2=jt f ρ2:=by unfold jt;rw[t.keys,s3]
        exact .inr Ω
       ·exact .inr Ω
    ·simp only[T.ap,T.pair.injEq]at he;exact t.no aG d ((bB d).2 ⟨l,he.1⟩) he.2
  |_=>exact We (fun n=>rfl) (fun d=>by simp[T.ap]) Ψ
 |_=>
  cases b with
  |var j=>exact BK _ j (by simp[T.kind]) (fun n=>rfl) (fun n=>rfl) (r j (by simp[T.occ])) v (by simp only[T.ap,vK]at hm⊢;omega)
  |_=>first|exact akz (fun n=>rfl) (fun d=>rfl) (fun d=>rfl)|exact We (fun n=>rfl) (fun d=>by simp[T.ap]) Ψ
end
section
open Go
def Av(rec:Int->bK->be (Bool×bK))(v:Int)(a:bK×Bool):be (bK×Bool):=if a.2=true then(rt a.1 v).bind fun p=>(rec p.1 p.2).map fun q=>(q.2,q.1)else some a
def Aj(v:Int)(c:bK):be (Int×bK):=(rt c v).map fun p=>(p.2.sz p.1,p.2)
def bK.grey(c:bK)(x:Int):bK:={c with color:=fA x 1 c.color,size:=fA x 1 c.size}
def bK.black(c:bK)(x:Int):bK:={c with color:=fA x 2 c.color}
def rP:Nat->Int->bK->be (Bool×bK)
 |0,_,_=>none
 |n+1,x,c=>if c.col x=2 then some (true,c)else if c.col x=1 then some (false,c)else
   if(c.grey x).shd x=false then some (true,(c.grey x).black x)else
   (((c.grey x).shp x).foldO (Av (rP n)) (c.grey x,true)).bind fun a=>if a.2=false then some (false,a.1)else
   (((a.1.shp x).sizeO Aj a.1).map fun p=>(true,{p.2 with size:=fA x p.1 p.2.size}.black x))
def C7(rec:Int->bK->be (T×bK))(v:Int)(c:bK):be (T×bK):=(rt c v).bind fun p=>rec p.1 p.2
def rO:Nat->Int->bK->be (T×bK)
 |0,_,_=>none
 |n+1,x,c=>match dp x c.full with
  |some t=>some (t,c)
  |none=>if c.shd x=false then some (.var x,{c with full:=fA x (.var x) c.full})else
   ((c.shp x).mapO (C7 (rO n)) c).map fun p=>(p.1,{p.2 with full:=fA x p.1 p.2.full})
def tV(n:Nat):List Int->bK->List Int->be (be (List Int)×bK)
 |[],c,out=>some (some out,c)
 |v::bm,c,out=>(rt c v).bind fun p=>(rP n p.1 p.2).bind fun q=>if q.1=false then some (none,q.2)else
   if p.1=v/\q.2.shd p.1=false then tV n bm q.2 out else
   if 5000<q.2.sz p.1\/400<out.length+1 then some (none,q.2)else tV n bm q.2 (out++[v])
def Ak(n:Nat):List Int->bK->be (List Bd×bK)
 |[],c=>some ([],c)
 |v::bm,c=>(rt c v).bind fun p=>(rO n p.1 p.2).bind fun q=>(Ak n bm q.2).map fun r=>(⟨v,q.1⟩::r.1,r.2)
def FU(n:Nat)(bm:List Int)(c:bK):be (be (List Bd)):=(tV n bm c []).bind fun a=>match a.1 with
 |none=>some none
 |some out=>(Ak n out a.2).map fun r=>some r.1
def re(n:Nat):List (T×T)->bK->be (Bool×bK)
 |[],c=>some (true,c)
 |e::es,c=>(B7 e.1 c).bind fun b=>(B7 e.2 b).bind fun a=>(hx n e.1 e.2 a).bind fun p=>if p.1=true then re n es p.2 else some (false,p.2)
def mZ.rank{c:bK}{ρ:Int->Int}(h:mZ c ρ):∃r:Int->Nat,∀z u,jW c.ph ρ z u->r u<r z:=by
 obtain⟨b,a⟩:=h.sat
 exact⟨fun z=>(b z).size,fun z u he=>J3 h.sh a he⟩
structure vt (V:List Int) (ph:Int->be T) (ρ:Int->Int) (c:bK):Prop where
 ru:km c.up ρ
 keys:cH c.up=V
 ph:c.ph=ph
def vt.sm{V:List Int}{ph:Int->be T}{ρ:Int->Int}{c a:bK}(h:vt V ph ρ c)(k:ht ρ c a):vt V ph ρ a:=⟨k.ru,k.keys.trans h.keys,k.ph.trans h.ph⟩
def cut(n:Nat):Int:=if 5001<(n:Int)then 5001 else n
section
variable {V:List Int} {ph:Int->be T} {ρ:Int->Int} {r:Int->Nat}
def aq6(f:Int->T):∀(t:T) (c:bK),vt V ph ρ c->(∀w,t.occ w=true->w∈V/\c.sz (ρ w)=cut (f w).size)->∃i,t.sizeO Aj c=some (cut (t.ap f).size,i)/\ht ρ c i:=by
 intro t;induction t with
 |var v=>
  intro c h d;obtain⟨o,n⟩:=d v (by simp[T.occ]);obtain⟨e,J,U⟩:=ve h.ru (by rw[h.keys];exact o:v∈cH c.up);refine⟨e,?_,U⟩;have:e.sz (ρ v)=cut (f v).size:=by rw[<-n,U.eq];rfl
  simp only[T.sizeO,Aj,J,pB,this,T.ap,dU,js,jf];unfold cut;split<;>omega
 |pair a b k j=>
  intro c h d;obtain⟨e,J,g⟩:=k c h fun w hw=>d w (by simp[T.occ,hw]);obtain⟨l,U,m⟩:=j e (h.sm g) fun w hw=>⟨(d w (by simp[T.occ,hw])).1,by rw[<-(d w (by simp[T.occ,hw])).2,g.eq];rfl⟩;have p:=T.size_pos (b.ap f);simp only[T.sizeO,J,lI,T.ap,T.size];by_cases aw:5000<cut (a.ap f).size
  ·rw[if_pos aw];refine⟨e,?_,g⟩;simp only[dU,js,jf];unfold cut at aw⊢;split at aw<;>split<;>(try split)<;>omega
  ·rw[if_neg aw,U];refine⟨l,?_,g.trans m⟩;simp only[pB,dU,js,jf];unfold cut at aw⊢;split at aw<;>(repeat' split)<;>omega
 |_=>intro c h d;exact⟨c,by simp[T.sizeO,T.ap,T.size,cut],ht.refl h.ru⟩
structure r2 (V:List Int) (ph:Int->be T) (ρ:Int->Int) (r:Int->Nat) (d:Nat) (c:bK):Prop where
 fin:vt V ph ρ c
 col:∀z,r z<d->c.col z=0\/(c.col z=2/\c.sz z=cut (hY ph ρ r z).size)
structure ov (ph:Int->be T) (ρ:Int->Int) (r:Int->Nat) (d:Nat) (c cD:bK):Prop where
 full:cD.full=c.full
 hi:∀z,d<=r z->cD.col z=c.col z/\cD.sz z=c.sz z
 lo:∀z,c.col z=2->cD.col z=2/\cD.sz z=c.sz z
def ov.refl{c:bK}{d:Nat}:ov ph ρ r d c c:=⟨rfl,fun _ _=>⟨rfl,rfl⟩,fun _ h=>⟨h,rfl⟩⟩
def ov.trans{a b c:bK}{d:Nat}(h:ov ph ρ r d a b)(k:ov ph ρ r d b c):ov ph ρ r d a c:=⟨k.full.trans h.full,fun z e=>⟨(k.hi z e).1.trans (h.hi z e).1,(k.hi z e).2.trans (h.hi z e).2⟩,fun z e=>⟨(k.lo z (h.lo z e).1).1,(k.lo z (h.lo z e).1).2.trans (h.lo z e).2⟩⟩
def ov.mono{a b:bK}{d c:Nat}(f:d<=c)(h:ov ph ρ r d a b):ov ph ρ r c a b:=⟨h.full,fun z e=>h.hi z Ω,h.lo⟩
def ov.sm{c a:bK}{d:Nat}(k:ht ρ c a):ov ph ρ r d c a:=by
 have b:∀z,a.col z=c.col z:=fun z=>by rw[k.eq];rfl
 have e:∀z,a.sz z=c.sz z:=fun z=>by rw[k.eq];rfl
 exact⟨k.rest.2.2,fun z _=>⟨b z,e z⟩,fun z h=>⟨by rw[b];exact h,e z⟩⟩
def r2.sm{c a:bK}{d:Nat}(h:r2 V ph ρ r d c)(k:ht ρ c a):r2 V ph ρ r d a:=by
 have e:∀z,a.col z=c.col z:=fun z=>by rw[k.eq];rfl
 have f:∀z,a.sz z=c.sz z:=fun z=>by rw[k.eq];rfl
 exact⟨h.fin.sm k,fun z b=>by rw[e,f];exact h.col z b⟩
def atq(gM:pG V ph)(R:∀v,ρ (ρ v)=ρ v)(aI:∀z u,jW ph ρ z u->r u<r z)(d:Nat):∀(x:Int) (c:bK),r x<d->ρ x=x->x∈V->r2 V ph ρ r d c->
  ∃N A,(∀n,N<=n->rP n x c=some (true,A))/\r2 V ph ρ r d A/\ov ph ρ r (r x+1) c A/\A.col x=2/\A.sz x=cut (hY ph ρ r x).size:=by
 induction d using Nat.strongRecOn with
 |ind d b0=>
 intro x c aL P kS hw;rcases hw.col x aL with bA|⟨U,aq⟩;rotate_left
 ·refine⟨1,c,fun n G=>?_,hw,ov.refl,U,aq⟩;obtain⟨n',rfl⟩:∃n',n=n'+1:=⟨n-1,Ω⟩;simp only[rP,if_pos U]
 have k:∀z,(c.grey x).col z=if z=x then 1 else c.col z:=fun z=>by simp only[bK.grey,bK.col,oS];split<;>rfl
 have H:∀z,(c.grey x).sz z=if z=x then 1 else c.sz z:=fun z=>by simp only[bK.grey,bK.sz,oS];split<;>rfl
 have m:vt V ph ρ (c.grey x):=⟨hw.fin.ru,hw.fin.keys,hw.fin.ph⟩;have W:r2 V ph ρ r (r x) (c.grey x):=⟨m,fun z g=>by
  have cv:z≠x:=fun e=>by subst e;omega
  rw[k,H,if_neg cv,if_neg cv];exact hw.col z Ω⟩
 have Ep:¬c.col x=2:=Ω
 have tl:¬c.col x=1:=Ω
 have p:∀(e:bK) (z:Int),(e.black x).col z=(if z=x then 2 else e.col z):=fun e z=>by simp only[bK.black,bK.col,oS];split<;>rfl
 by_cases O:(c.grey x).shd x=false
 ·have l:ph x=none:=by rw[<-m.ph];exact Cu O
  have a7:hY ph ρ r x= .var x:=by rw[DZ (by rw[P];exact l),P]
  have K:∀z,((c.grey x).black x).sz z=if z=x then 1 else c.sz z:=H
  refine⟨1,(c.grey x).black x,fun n G=>?_,⟨⟨m.ru,m.keys,m.ph⟩,fun z g=>?_⟩,⟨rfl,fun z g=>?_,fun z g=>?_⟩,?_,?_⟩
  ·obtain⟨n',rfl⟩:∃n',n=n'+1:=⟨n-1,Ω⟩;simp only[rP,if_neg Ep,if_neg tl,if_pos O]
  ·rw[p,K,k];by_cases e:z=x
   ·subst e;simp only[if_true,a7];exact .inr ⟨trivial,by simp[T.size,cut]⟩
   ·simp only[if_neg e];exact hw.col z g
  ·have e:z≠x:=fun e=>by subst e;omega
   rw[p,K,k];simp only[if_neg e];exact⟨trivial,trivial⟩
  ·have e:z≠x:=fun e=>by subst e;omega
   rw[p,K,k];simp only[if_neg e];exact⟨g,trivial⟩
  ·rw[p,if_pos rfl]
  ·rw[K,if_pos rfl,a7];simp[T.size,cut]
 ·have l:ph x=some ((c.grey x).shp x):=by rw[<-m.ph];exact Cv O
  obtain⟨g1,g2,g3⟩:=gM _ _ l;have Y:∀(t:T) (e:bK),(∀w,t.occ w=true->((c.grey x).shp x).occ w=true)->r2 V ph ρ r (r x) e->∃N s,(∀n,N<=n->t.foldO (Av (rP n)) (e,true)=some (s,true))/\r2 V ph ρ r (r x) s/\ov ph ρ r (r x) e s/\∀w,t.occ w=true->s.col (ρ w)=2/\s.sz (ρ w)=cut (hY ph ρ r w).size:=by
   intro t;induction t with
   |var v=>intro e o he;have aN:=g2 v (o v (by simp[T.occ]));have xI:r (ρ v)<r x:=aI x (ρ v) ⟨P,_,v,l,o v (by simp[T.occ]),rfl⟩;obtain⟨X,E,a8⟩:=ve he.fin.ru (by rw[he.fin.keys];exact aN:v∈cH e.up);obtain⟨N,i,F,j,y,cp,s2⟩:=b0 (r x) aL (ρ v) X xI (R v) (by rw[<-he.fin.keys];exact(he.fin.ru.mem (by rw[he.fin.keys];exact aN)).1) (he.sm a8);refine⟨N,i,fun n G=>by simp[T.foldO,Av,E,F n G],j,(ov.sm a8).trans (y.mono Ω),fun w hw=>?_⟩;simp[T.occ]at hw;subst hw;exact⟨cp,by rw[s2,<-Bi R]⟩
   |pair a b et eu=>
    intro e o he;obtain⟨iL,X,E,q,S,s1⟩:=et e (fun w hw=>o w (by simp[T.occ,hw])) he;obtain⟨jY,i,F,j,y,s2⟩:=eu X (fun w hw=>o w (by simp[T.occ,hw])) q;refine⟨max iL jY,i,fun n G=>by simp only[T.foldO];rw[E n Ω];exact F n Ω,j,S.trans y,fun w hw=>?_⟩;simp only[T.occ,og]at hw;rcases hw with hw|hw
    ·obtain⟨l6,z2⟩:=s1 w hw;exact⟨(y.lo _ l6).1,by rw[(y.lo _ l6).2];exact z2⟩
    ·exact s2 w hw
   |_=>intro e _ he;exact⟨0,e,fun n _=>rfl,he,ov.refl,fun w hw=>by simp[T.occ]at hw⟩
  obtain⟨N,e,E,q,S,s1⟩:=Y ((c.grey x).shp x) (c.grey x) (fun w h=>h) W;have Z:e.shp x=(c.grey x).shp x:=by
   have J:e.ph x=some ((c.grey x).shp x):=by rw[q.fin.ph];exact l
   unfold bK.ph at J;split at J
   ·exact e7 J
   ·cases J
  obtain⟨i,F,bE⟩:=aq6 (V:=V) (ph:=ph) (ρ:=ρ) (hY ph ρ r) ((c.grey x).shp x) e q.fin (fun w hw=>⟨g2 w hw,(s1 w hw).2⟩);have nt:hY ph ρ r x=((c.grey x).shp x).ap (hY ph ρ r):=Bj R aI (by rw[P];exact l);have Q:=S.trans (ov.sm (ph:=ph) (r:=r) (d:=r x) bE);have j:=q.sm bE;let M:bK:={i with size:=fA x (cut (hY ph ρ r x).size) i.size}.black x
  have L:∀z,M.col z=if z=x then 2 else i.col z:=fun z=>p _ z
  have s3:∀z,M.sz z=if z=x then cut (hY ph ρ r x).size else i.sz z:=fun z=>by show(dp z (fA x _ i.size)).getD 0=_;rw[oS];split<;>rfl
  refine⟨N+1,M,fun n G=>?_,⟨⟨j.fin.ru,j.fin.keys,j.fin.ph⟩,fun z g=>?_⟩,⟨Q.full,fun z g=>?_,fun z g=>?_⟩,by rw[L,if_pos rfl],by rw[s3,if_pos rfl]⟩
  ·obtain⟨n',rfl⟩:∃n',n=n'+1:=⟨n-1,Ω⟩;simp only[rP,if_neg Ep,if_neg tl,if_neg O,E n' Ω,lI,Bool.true_eq_false,if_false,Z,F,pB,nt,M]
  ·rw[L,s3];by_cases f:z=x
   ·subst f;simp only[if_true];exact .inr ⟨trivial,trivial⟩
   ·simp only[if_neg f];by_cases bP:r z<r x
    ·exact j.col z bP
    ·obtain⟨B,a2⟩:=Q.hi z Ω;rw[B,a2,k,H,if_neg f,if_neg f];exact hw.col z g
  ·have f:z≠x:=fun e=>by subst e;omega
   obtain⟨B,a2⟩:=Q.hi z Ω;rw[L,s3,if_neg f,if_neg f,B,a2,k,H,if_neg f,if_neg f];exact⟨rfl,rfl⟩
  ·have f:z≠x:=fun e=>by subst e;omega
   obtain⟨B,a2⟩:=Q.lo z (by rw[k,if_neg f];exact g);rw[L,s3,if_neg f,if_neg f,B,a2,H,if_neg f];exact⟨rfl,rfl⟩
structure sQ (V:List Int) (ph:Int->be T) (ρ:Int->Int) (r:Int->Nat) (c:bK):Prop where
 fin:vt V ph ρ c
 full:∀x t,dp x c.full=some t->t=hY ph ρ r x
def sQ.sm{c a:bK}(h:sQ V ph ρ r c)(k:ht ρ c a):sQ V ph ρ r a:=⟨h.fin.sm k,by rw[k.rest.2.2];exact h.full⟩
def ato(Q:pG V ph)(s:∀v,ρ (ρ v)=ρ v)(K:∀z u,jW ph ρ z u->r u<r z)(d:Nat):∀(x:Int) (c:bK),r x<d->ρ x=x->x∈V->sQ V ph ρ r c->
  ∃N J,(∀n,N<=n->rO n x c=some (hY ph ρ r x,J))/\sQ V ph ρ r J:=by
 induction d with
 |zero=>intro x c h;omega
 |succ d W=>
 intro x c aL o Z f;cases p:dp x c.full with
 |some t=>refine⟨1,c,fun n k=>?_,f⟩;obtain⟨n',rfl⟩:∃n',n=n'+1:=⟨n-1,Ω⟩;simp only[rO,p,f.full x t p]
 |none=>
  have L:∀(e:bK),sQ V ph ρ r e->sQ V ph ρ r {e with full:=fA x (hY ph ρ r x) e.full}:=fun e he=>⟨⟨he.fin.ru,he.fin.keys,he.fin.ph⟩,fun z t U=>by
   have l:dp z (fA x (hY ph ρ r x) e.full)=some t:=U;rw[oS]at l;split at l
   ·rename_i e;subst e;cases l;rfl
   ·exact he.full z t l⟩
  by_cases m:c.shd x=false
  ·have i:ph x=none:=by rw[<-f.fin.ph];exact Cu m
   have a7:hY ph ρ r x= .var x:=by rw[DZ (by rw[o];exact i),o]
   refine⟨1,_,fun n k=>?_,L c f⟩;obtain⟨n',rfl⟩:∃n',n=n'+1:=⟨n-1,Ω⟩;simp only[rO,p,if_pos m,a7]
  ·have i:ph x=some (c.shp x):=by rw[<-f.fin.ph];exact Cv m
   obtain⟨g1,g2,g3⟩:=Q _ _ i;have E:∀(t:T) (e:bK),(∀w,t.occ w=true->(c.shp x).occ w=true)->sQ V ph ρ r e->∃N H,(∀n,N<=n->t.mapO (C7 (rO n)) e=some (t.ap (hY ph ρ r),H))/\sQ V ph ρ r H:=by
    intro t;induction t with
    |var v=>intro e g he;have G:=g2 v (g v (by simp[T.occ]));have Y:r (ρ v)<r x:=K x (ρ v) ⟨o,_,v,i,g v (by simp[T.occ]),rfl⟩;obtain⟨B,j,X⟩:=ve he.fin.ru (by rw[he.fin.keys];exact G:v∈cH e.up);obtain⟨N,F,A,y⟩:=W (ρ v) B Ω (s v) (by rw[<-he.fin.keys];exact(he.fin.ru.mem (by rw[he.fin.keys];exact G)).1) (he.sm X);exact⟨N,F,fun n k=>by simp only[T.mapO,C7,j,lI,A n k,T.ap];rw[<-Bi s],y⟩
    |pair a b S R=>intro e g he;obtain⟨P,B,j,q⟩:=S e (fun w hw=>g w (by simp[T.occ,hw])) he;obtain⟨O,F,A,y⟩:=R B (fun w hw=>g w (by simp[T.occ,hw])) q;exact⟨max P O,F,fun n k=>by simp only[T.mapO,j n Ω,lI,A n Ω,pB,T.ap],y⟩
    |_=>intro e _ he;exact⟨0,e,fun n _=>rfl,he⟩
   obtain⟨N,e,j,q⟩:=E (c.shp x) c (fun w h=>h) f;have M:hY ph ρ r x=(c.shp x).ap (hY ph ρ r):=Bj s K (by rw[o];exact i);refine⟨N+1,_,fun n k=>?_,L e q⟩;obtain⟨n',rfl⟩:∃n',n=n'+1:=⟨n-1,Ω⟩;simp only[rO,p,if_neg m,j n' Ω,pB,M]
def o2(ph:Int->be T)(ρ:Int->Int)(v:Int):Bool:= !(decide (ρ v=v)&&(ph v).isNone)
def aq9(Y:pG V ph)(s:∀v,ρ (ρ v)=ρ v)(aI:∀z u,jW ph ρ z u->r u<r z)(X:∀v∈V,ρ v∈V):∀(bm:List Int) (c:bK) (out:List Int),(∀v∈bm,v∈V)->(∀d,r2 V ph ρ r d c)->out.length<=400->(∀v∈out,(hY ph ρ r v).size<=5000)->
  ∃N x o,(∀n,N<=n->tV n bm c out=some (o,x))/\vt V ph ρ x/\x.full=c.full/\(∀l,o=some l->l=out++bm.filter (o2 ph ρ)/\l.length<=400/\∀v∈l,(hY ph ρ r v).size<=5000)/\(o=none->¬((out++bm.filter (o2 ph ρ)).length<=400/\∀v∈out++bm.filter (o2 ph ρ),(hY ph ρ r v).size<=5000)):=by
 intro bm;induction bm with
 |nil=>intro c out _ hw J U;exact⟨0,c,some out,fun n _=>rfl,(hw 0).fin,rfl,fun l e=>by cases e;simp;exact⟨J,U⟩,fun e=>by cases e⟩
 |cons v bm P=>
  intro c out F hw J U;have K:=F v Ψ;obtain⟨O,Z,Q⟩:=ve (hw 0).fin.ru (by rw[(hw 0).fin.keys];exact K:v∈cH c.up);have W:∀d,r2 V ph ρ r d O:=fun d=>(hw d).sm Q;obtain⟨i,a,bB,j,M,aC,s2⟩:=atq Y s aI (r (ρ v)+1) (ρ v) O Ω (s v) (X v K) (W _);have L:∀d,r2 V ph ρ r d a:=fun d=>⟨j.fin,fun z B=>by
   by_cases bP:r z<r (ρ v)+1
   ·exact j.col z bP
   ·obtain⟨y,a2⟩:=M.hi z Ω;rw[y,a2];exact(W d).col z B⟩
  have G:a.full=c.full:=M.full.trans Q.rest.2.2;have S:(a.shd (ρ v)=false)=((ph (ρ v)).isNone=true):=by rw[<-j.fin.ph];unfold bK.ph;cases a.shd (ρ v)<;>simp
  have m:∀n,i<=n->tV n (v::bm) c out=(if ρ v=v/\a.shd (ρ v)=false then tV n bm a out else if 5000<a.sz (ρ v)\/400<out.length+1 then some (none,a)else tV n bm a (out++[v])):=fun n g=>by simp only[tV,Z,lI,bB n g,Bool.true_eq_false,if_false]
  have R:hY ph ρ r (ρ v)=hY ph ρ r v:=(Bi s v).symm;by_cases aw:ρ v=v/\a.shd (ρ v)=false
  ·have f:o2 ph ρ v=false:=by have E:=aw.2;rw[S]at E;rw[aw.1]at E;simp[o2,aw.1,E]
   obtain⟨p,t,o,A,f3,k,H,q⟩:=P a out (fun w hw=>F w (by simp[hw])) L J U;refine⟨max i p,t,o,fun n g=>by rw[m n Ω,if_pos aw];exact A n Ω,f3,k.trans G,?_,?_⟩
   ·simp only[List.filter_cons,f,hT,if_false];exact H
   ·simp only[List.filter_cons,f,hT,if_false];exact q
  ·have f:o2 ph ρ v=true:=by
    cases e:o2 ph ρ v with
    |true=>rfl
    |false=>simp only[o2,Bool.not_eq_false',cR,gz]at e;exact absurd ⟨e.1,by rw[S,e.1];exact e.2⟩ aw
   by_cases b:5000<a.sz (ρ v)\/400<out.length+1
   ·refine⟨i,a,none,fun n g=>by rw[m n g,if_neg aw,if_pos b],j.fin,G,(fun l e=>by cases e),fun _=>?_⟩;simp only[List.filter_cons,f,if_true];rintro⟨y,a2⟩;rcases b with b|b
    ·rw[s2,R]at b;have:=a2 v Ψ;unfold cut at b;split at b<;>omega
    ·simp at y;omega
   ·have B:(hY ph ρ r v).size<=5000:=by have:¬5000<a.sz (ρ v):=fun h=>b (.inl h);rw[s2,R]at this;unfold cut at this;split at this<;>omega
    obtain⟨p,t,o,A,f3,k,H,q⟩:=P a (out++[v]) (fun w hw=>F w (by simp[hw])) L d6 (fun w hw=>by
     rcases kg.1 hw with hw|hw
     ·exact U w hw
     ·simp at hw;subst hw;exact B)
    refine⟨max i p,t,o,fun n g=>by rw[m n Ω,if_neg aw,if_neg b];exact A n Ω,f3,k.trans G,?_,?_⟩
    ·simp only[List.filter_cons,f,if_true];simpa using H
    ·simp only[List.filter_cons,f,if_true];simpa using q
def ara(h:pG V ph)(a:∀v,ρ (ρ v)=ρ v)(t:∀z u,jW ph ρ z u->r u<r z)(e:∀v∈V,ρ v∈V):∀(bm:List Int) (c:bK),(∀v∈bm,v∈V)->sQ V ph ρ r c->∃N l,∀n,N<=n->Ak n bm c=some (bm.map fun v=>⟨v,hY ph ρ r v⟩,l):=by
 intro bm;induction bm with
 |nil=>intro c _ _;exact⟨0,c,fun n _=>rfl⟩
 |cons v bm s=>intro c d hw;have b:=d v Ψ;obtain⟨p,m,x⟩:=ve hw.fin.ru (by rw[hw.fin.keys];exact b:v∈cH c.up);obtain⟨g,k,q,j⟩:=ato h a t (r (ρ v)+1) (ρ v) p Ω (a v) (e v b) (hw.sm x);obtain⟨f,i,o⟩:=s k (fun w hw=>d w (by simp[hw])) j;refine⟨max g f,i,fun n y=>?_⟩;simp only[Ak,m,lI,q n Ω,o n Ω,pB,ha];rw[<-Bi a]
end
end
section
open Go
def bK.new:bK:=⟨[],[],[],[],[],[]⟩
def sD(l:List Int):List Int:=l.mergeSort fun x y=>decide (x<=y)
def CU(n:Nat)(E:List (T×T)):be (be (List Bd)):=(re n E bK.new).bind fun p=>if p.1=false then some none else FU n (sD (cH p.2.up)) p.2
def FX(l:List Int):(sD l).Perm l:=List.mergeSort_perm l _
def art{l:List Int}(h:l.Nodup):(sD l).Pairwise (· < ·):=by have J:(sD l).Pairwise fun x y=>decide (x<=y)=true:=List.pairwise_mergeSort (fun a b c=>by simp;omega) (fun a b=>by simp;omega) l;have U:(sD l).Pairwise (· ≠ ·):=List.nodup_iff_pairwise_ne.1 ((FX l).nodup_iff.2 h);exact(J.and U).imp fun h=>by simp at h;omega
structure adw (c:bK) (ρ:Int->Int) (cD:bK) (Za:Int->Prop):Prop where
 inv:mZ cD ρ
 ph:cD.ph=c.ph
 nd:(cH cD.up).Nodup
 sub:∀v∈cH c.up,v∈cH cD.up
 occ:∀v,Za v->v∈cH cD.up
 rest:cD.color=c.color/\cD.size=c.size/\cD.full=c.full
 new:∀v∈cH cD.up,v∈cH c.up\/Za v
def Yv{ρ:Int->Int}(t:T):∀(c:bK),mZ c ρ->(cH c.up).Nodup->(∀v,t.occ v=true->0<=v)->∃n,B7 t c=some n/\adw c ρ n fun v=>t.occ v=true:=by
 unfold B7;induction t with
 |var v=>
  intro c hi i k;by_cases d:v∈cH c.up
  ·obtain⟨l,j,f⟩:=ve hi.ru d;refine⟨l,by simp[T.foldO,j],hi.sm f,f.ph,by rw[f.keys];exact i,fun w hw=>by rw[f.keys];exact hw,fun w hw=>?_,f.rest,fun w hw=>.inl (by rw[f.keys]at hw;exact hw)⟩;simp[T.occ]at hw;subst hw;rw[f.keys];exact d
  ·obtain⟨j,m,g⟩:=aqN hi.ru (k v (by simp[T.occ])) d;refine⟨{c with up:=fA v v c.up},by simp only[T.foldO,j,pB],⟨m,?_,hi.sat⟩,rfl,?_,fun w hw=>by rw[g];simp[hw],fun w hw=>?_,⟨rfl,rfl,rfl⟩,fun w hw=>?_⟩
   ·intro x u z;obtain⟨s,a2,a3⟩:=hi.sh x u z;refine⟨s,fun w hw=>?_,?_⟩
    ·show w∈cH (fA v v c.up);rw[g];simp[a2 w hw]
    ·show x∈cH (fA v v c.up);rw[g];simp[a3]
   ·rw[g];rw[rT];exact⟨i,Ψ,fun a y b o e=>by simp at o;subst o;subst e;exact d y⟩
   ·simp[T.occ]at hw;subst hw;rw[g];simp
   ·rw[g]at hw;simp at hw;rcases hw with hw|rfl;exact .inl hw;exact .inr (by simp[T.occ])
 |pair a b q p=>
  intro c hi i k;obtain⟨l,j,m1⟩:=q c hi i fun v d=>k v (by simp[T.occ,d]);obtain⟨r,m,m2⟩:=p l m1.inv m1.nd fun v d=>k v (by simp[T.occ,d]);refine⟨r,by simp only[T.foldO,j,lI,m],m2.inv,m2.ph.trans m1.ph,m2.nd,fun v d=>m2.sub v (m1.sub v d),fun v d=>?_,?_,fun v d=>?_⟩
  ·simp only[T.occ,og]at d;rcases d with d|d
   ·exact m2.sub v (m1.occ v d)
   ·exact m2.occ v d
  ·rw[m2.rest.1,m2.rest.2.1,m2.rest.2.2];exact m1.rest
  ·rcases m2.new v d with h|h
   ·rcases m1.new v h with h|h
    ·exact .inl h
    ·exact .inr (by simp[T.occ,h])
   ·exact .inr (by simp[T.occ,h])
 |_=>intro c hi i k;exact⟨c,rfl,hi,rfl,i,fun v d=>d,fun v d=>by simp[T.occ]at d,⟨rfl,rfl,rfl⟩,fun v d=>.inl d⟩
def OV(E:List (T×T)):Prop:= ∀e∈E,∀v,(e.1.occ v=true\/e.2.occ v=true)->0<=v
def DH:∀(E:List (T×T)) (c:bK) (ρ:Int->Int),mZ c ρ->(cH c.up).Nodup->OV E->∃N o,(∀n,N<=n->re n E c=some o)/\((o.2.color=c.color/\o.2.size=c.size/\o.2.full=c.full)/\∀v∈cH o.2.up,v∈cH c.up\/ ∃e∈E,e.1.occ v=true\/e.2.occ v=true)/\(o.1=true->∃ρ',mZ o.2 ρ'/\(cH o.2.up).Nodup/\∀a,kP o.2.ph ρ' a↔kP c.ph ρ a/\kn E a)/\(o.1=false->∀a,kP c.ph ρ a->¬kn E a):=by
 intro E;induction E with
 |nil=>intro c ρ hi g _;exact⟨0,(true,c),fun n _=>rfl,⟨⟨rfl,rfl,rfl⟩,fun v b=>.inl b⟩,fun _=>⟨ρ,hi,g,fun a=>⟨fun h=>⟨h,FW a⟩,fun h=>h.1⟩⟩,fun e=>by cases e⟩
 |cons e E R=>
  intro c ρ hi g m;obtain⟨Q,z,m1⟩:=Yv e.1 c hi g fun v b=>m e Ψ v (.inl b);obtain⟨x,B,m2⟩:=Yv e.2 Q m1.inv m1.nd fun v b=>m e Ψ v (.inr b);obtain⟨K,F⟩:=m2.inv.sat
  obtain⟨t,i,A,d⟩:=aft _ _ x ρ e.1 e.2 K m2.inv F (fun w hw=>m2.sub w (m1.occ w hw)) (fun w hw=>m2.occ w hw) rfl rfl;have k:x.ph=c.ph:=m2.ph.trans m1.ph;have s:i.2.color=c.color/\i.2.size=c.size/\i.2.full=c.full:=by rw[d.rest.1,d.rest.2.1,d.rest.2.2,m2.rest.1,m2.rest.2.1,m2.rest.2.2];exact m1.rest
  have r:∀v∈cH i.2.up,v∈cH c.up\/e.1.occ v=true\/e.2.occ v=true:=fun v b=>by
   rw[d.keys]at b;rcases m2.new v b with h|h
   ·rcases m1.new v h with h|h
    ·exact .inl h
    ·exact .inr (.inl h)
   ·exact .inr (.inr h)
  obtain⟨f,u⟩:=i;cases f with
  |false=>refine⟨t,(false,u),fun n g=>?_,⟨s,fun v b=>(r v b).imp id fun h=>⟨e,Ψ,h⟩⟩,(fun e=>by cases e),fun _ a p he=>d.no rfl a (by rw[k];exact p) (sB.1 he).1⟩;simp only[re,z,B,lI,A n g,hT,if_false]
  |true=>
   obtain⟨G,y,a2,_⟩:=d.yes rfl;simp only at y a2;obtain⟨L,M,P,j,O,H⟩:=R u G y (by have:=d.keys;simp only at this;rw[this];exact m2.nd) fun l he=>m l (by simp[he]);refine⟨max t L,M,fun n g=>?_,?_,fun q=>?_,fun q a p he=>?_⟩
   ·simp only[re,z,B,lI,A n Ω,if_true];exact P n Ω
   ·refine⟨by rw[j.1.1,j.1.2.1,j.1.2.2];exact s,fun v b=>?_⟩;rcases j.2 v b with h|⟨l,J,U⟩
    ·exact(r v h).imp id fun h=>⟨e,Ψ,h⟩
    ·exact .inr ⟨l,by simp[J],U⟩
   ·obtain⟨ρ2,d1,d2,d3⟩:=O q;exact⟨ρ2,d1,d2,fun a=>by rw[d3 a,a2 a,k,sB,and_assoc]⟩
   ·exact H q a ((a2 a).2 ⟨by rw[k];exact p,(sB.1 he).1⟩) (sB.1 he).2
def GH{ph:Int->be T}{ρ:Int->Int}{v:Int}:o2 ph ρ v=false↔ρ v=v/\ph v=none:=by simp[o2]
def V2{ph:Int->be T}{ρ:Int->Int}{r:Int->Nat}(a:∀v,ρ (ρ v)=ρ v):∀(n:Nat) (v w:Int),(oz ph ρ n v).occ w=true->(∀z u,jW ph ρ z u->r u<r z)->r (ρ v)<n->ρ w=w/\ph w=none
 |0,v,w,_,_,h=>Ω
 |n+1,v,w,h,b,c=>by
  simp only[oz]at h;cases e:ph (ρ v)with
  |none=>rw[e]at h;simp[T.occ]at h;subst h;exact⟨a v,e⟩
  |some t=>rw[e]at h;obtain⟨u,J,U⟩:=Cl.1 h;have:=b (ρ v) (ρ u) ⟨a v,t,u,e,J,rfl⟩;exact V2 a n u w U b Ω
section
variable {V:List Int} {ph:Int->be T} {ρ:Int->Int} {r:Int->Nat}
def vf(ph:Int->be T)(ρ:Int->Int)(r:Int->Nat)(V:List Int):List Bd:=((sD V).filter (o2 ph ρ)).map fun v=>⟨v,hY ph ρ r v⟩
def Ql(a:V.Nodup):jD (vf ph ρ r V):=by unfold vf;rw[jD,List.pairwise_map];exact((art a).filter _)
def abD(i:V.Nodup)(c:pG V ph)(f:∀v,v∉V->ρ v=v)(v:Int):dG (vf ph ρ r V) v=if o2 ph ρ v then some (hY ph ρ r v)else none:=by
 by_cases a:o2 ph ρ v=true
 ·rw[if_pos a];have g:v∈V:=by
   refine Classical.byContradiction fun h=>?_;have J:=f v h;have U:ph v=none:=by cases e:ph v with
    |none=>rfl
    |some t=>exact absurd (c v t e).2.2 h
   rw[GH.2 ⟨J,U⟩]at a;cases a
  have:(⟨v,hY ph ρ r v⟩:Bd)∈vf ph ρ r V:=hb.2 ⟨v,oW.2 ⟨(FX V).mem_iff.2 g,a⟩,rfl⟩;exact wZ (Ql i) this
 ·rw[if_neg a];refine w1.2 fun b d e=>?_;obtain⟨u,J,rfl⟩:=hb.1 d;simp only at e;subst e;exact a (oW.1 J).2
def arc(i:V.Nodup)(d:pG V ph)(j:∀v,v∉V->ρ v=v)(f:∀v,ρ (ρ v)=ρ v)(hle:∀v,ρ v<=v)(g:∀z u,jW ph ρ z u->r u<r z):gD (vf ph ρ r V):=by
 refine⟨Ql i,fun b a w hw=>?_,fun b a w hw=>?_⟩
 ·obtain⟨u,J,rfl⟩:=hb.1 a;rw[abD i d j];have:=V2 f _ u w hw g Ω;rw[GH.2 this];rfl
 ·obtain⟨u,J,rfl⟩:=hb.1 a;have c:=(oW.1 J).2;simp only at hw⊢;cases e:ph (ρ u)with
  |none=>
   rw[DZ e]at hw;cases hw;have U:=hle u;have k:ρ u≠u:=fun h=>by rw[GH.2 ⟨h,by rw[h]at e;exact e⟩]at c;cases c
   omega
  |some t=>rw[Bj f g e]at hw;have:=(d _ _ e).1;cases t<;>simp[T.ap,T.kind]at hw this
def ajB(a:∀v,ρ (ρ v)=ρ v)(c:∀z u,jW ph ρ z u->r u<r z)(b:Int->T):kP ph ρ b↔∀v,b v=(hY ph ρ r v).ap b:=by
 constructor
 ·intro h;have:∀(n:Nat) (v:Int),r (ρ v)<n->b v=(hY ph ρ r v).ap b:=by
   intro n;induction n with
   |zero=>intro v h;omega
   |succ n d=>
    intro v i;cases e:ph (ρ v)with
    |none=>rw[DZ e];exact h.1 v
    |some t=>rw[Bj a c e,Dm,h.1 v,h.2 _ t (a v) e];refine vD fun w hw=>d w ?_;have:=c (ρ v) (ρ w) ⟨a v,t,w,e,hw,rfl⟩;omega
  exact fun v=>this _ v (Nat.lt_succ_self _)
 ·intro h;refine⟨fun v=>by rw[h v,h (ρ v),<-Bi a],fun x t f g=>?_⟩;rw[h x,Bj a c (by rw[f];exact g),Dm];exact vD fun w _=>(h w).symm
def arb(b:V.Nodup)(c:pG V ph)(f:∀v,v∉V->ρ v=v)(d:∀v,ρ (ρ v)=ρ v)(g:∀z u,jW ph ρ z u->r u<r z)(a:Int->T):hW (vf ph ρ r V) a↔kP ph ρ a:=by
 rw[ajB d g,ark (Ql b)];refine forall_congr' fun v=>?_;rw[cC,abD b c f];cases e:o2 ph ρ v with
 |true=>simp
 |false=>obtain⟨J,U⟩:=GH.1 e;rw[DZ (by rw[J];exact U),J];simp
end
def arl(E:List (T×T))(Z:OV E):∃n o,CU n E=some o/\jI [] E o/\∀c,re n E bK.new=some (true,c)->(cH c.up).Nodup/\(∀v∈cH c.up,∃e∈E,e.1.occ v=true\/e.2.occ v=true)/\c.size=[]:=by
 have hi:mZ bK.new id:=⟨⟨fun v u h=>by simp[bK.new,dp]at h,fun v _=>rfl⟩,fun x t h=>by simp[bK.new,bK.ph,bK.shd,dp]at h,⟨.var,fun v=>rfl,fun x t _ h=>by simp[bK.new,bK.ph,bK.shd,dp]at h⟩⟩;have F:∀a,kP bK.new.ph id a:=fun a=>⟨fun v=>rfl,fun x t _ h=>by simp[bK.new,bK.ph,bK.shd,dp]at h⟩;obtain⟨i,R,q,m,X,S⟩:=DH E bK.new id hi (by simp[bK.new,cH]) Z;obtain⟨m,M⟩:=m;obtain⟨f,c⟩:=R;cases f with
 |false=>refine⟨i,none,by simp[CU,q i (dP _)],Gy fun a _ he=>S rfl a (F a) he,fun c h=>?_⟩;rw[q i (dP _)]at h;cases h
 |true=>
  obtain⟨ρ,g,a2,a3⟩:=X rfl;simp only at g a2 a3 m M;have O:∀n,i<=n->∀p,re n E bK.new=some (true,p)->(cH p.up).Nodup/\(∀v∈cH p.up,∃e∈E,e.1.occ v=true\/e.2.occ v=true)/\p.size=[]:=fun n aA p h=>by rw[q n aA]at h;cases h;exact⟨a2,fun v j=>(M v j).resolve_left (by simp[bK.new,cH]),m.2.1⟩
  obtain⟨r,y⟩:=g.rank;have s:=g.ru.idem;have H:∀v∈cH c.up,ρ v∈cH c.up:=fun v j=>(g.ru.mem j).1;have W:vt (cH c.up) c.ph ρ c:=⟨g.ru,rfl,rfl⟩;have hw:∀d,r2 (cH c.up) c.ph ρ r d c:=fun d=>⟨W,fun z _=>.inl (by simp[bK.col,m.1,bK.new,dp])⟩;obtain⟨k,K,o,L,b8,V,P,RJ⟩:=aq9 g.sh s y H (sD (cH c.up)) c [] (fun v j=>(FX _).mem_iff.1 j) hw Ψ (fun v j=>by simp at j);have dF:=arc (r:=r) a2 g.sh g.ru.no s g.ru.le y;have G:∀a,hW (vf c.ph ρ r (cH c.up)) a↔hW [] a/\kn E a:=fun a=>by rw[arb a2 g.sh g.ru.no s y,a3 a];exact⟨fun h=>⟨fun b ag=>by simp at ag,h.2⟩,fun h=>⟨F a,h.2⟩⟩
  have N:iy (vf c.ph ρ r (cH c.up))↔(([]++(sD (cH c.up)).filter (o2 c.ph ρ)).length<=400/\∀v∈[]++(sD (cH c.up)).filter (o2 c.ph ρ),(hY c.ph ρ r v).size<=5000):=by unfold iy vf;simp only[List.length_map,ca,hb,forall_exists_index,and_imp,forall_apply_eq_imp_iff₂]
  cases o with
  |none=>refine⟨max i k,none,by simp[CU,q (max i k) Ω,FU,L (max i k) Ω],?_,O _ Ω⟩;exact fun ak J U aq=>RJ rfl (N.1 (Vi dF J (fun a Q=>(G a).2 (U a Q)) aq))
  |some l=>
   obtain⟨w,aC,Y⟩:=P l rfl;have B:sQ (cH c.up) c.ph ρ r K:=⟨b8,fun x t h=>by rw[V,m.2.2]at h;simp[bK.new,dp]at h⟩;simp only[ca]at w;obtain⟨A,dj,d1⟩:=ara g.sh s y H l K (fun v j=>by rw[w]at j;exact(FX _).mem_iff.1 (oW.1 j).1) B;refine⟨max (max i k) A,some (vf c.ph ρ r (cH c.up)),?_,⟨⟨dF,N.2 ?_⟩,G⟩,O _ Ω⟩
   ·simp only[CU,q (max (max i k) A) Ω,lI,Bool.true_eq_false,if_false,FU,L (max (max i k) A) Ω,d1 (max (max i k) A) Ω,pB];rw[w];rfl
   ·rw[ca,<-w];exact⟨aC,Y⟩
def iM(s:List Bd):List (T×T):=s.map fun b=>(.var b.v,b.t)
def arj{s:List Bd}{a:Int->T}:kn (iM s) a↔hW s a:=by simp[kn,iM,hW,T.ap]
def adI{s:List Bd}{E:List (T×T)}{o:be (List Bd)}:jI [] (iM s++E) o↔jI s E o:=by
 have h:∀a,(hW [] a/\kn (iM s++E) a)↔(hW s a/\kn E a):=fun a=>by rw[FV,arj];exact⟨fun h=>h.2,fun h=>⟨fun b c=>by simp at c,h⟩⟩
 exact⟨Dk h,Dk fun a=>(h a).symm⟩
end
section
open Go
open Classical in
noncomputable def mgu(s:List Bd)(E:List (T×T)):be (List Bd):=if h:∃o,jI s E o then h.choose else none
def tJ{s:List Bd}{E:List (T×T)}{o:be (List Bd)}(h:jI s E o):mgu s E=o:=by have a:∃o,jI s E o:=⟨o,h⟩;unfold mgu;rw[dif_pos a];exact adJ a.choose_spec h
def rI(s:List Bd):Prop:= ∀b∈s,(0<=b.v/\b.v<=100000)/\b.t.ok=true
def RC{e:Int->T}{t:T}(c:t.ok=true)(h:∀v,t.occ v=true->(e v).ok=true):(t.ap e).ok=true:=by
 induction t with
 |var n=>exact h n (by simp[T.occ])
 |pair a b g f=>simp only[T.ok,cR]at c;simp only[T.ap,T.ok,cR];exact⟨g c.1 fun v d=>h v (by simp[T.occ,d]),f c.2 fun v d=>h v (by simp[T.occ,d])⟩
 |_=>exact c
def yw{t:T}(c:t.ok=true){v:Int}(h:t.occ v=true):0<=v/\v<=100000:=by
 induction t with
 |var n=>simp[T.occ]at h;subst h;simpa[T.ok]using c
 |pair a b e d=>
  simp only[T.ok,cR]at c;simp only[T.occ,og]at h;rcases h with h|h
  ·exact e c.1 h
  ·exact d c.2 h
 |_=>simp[T.occ]at h
def FO{s:List Bd}(b:rI s){t:T}(a:t.ok=true):(t.ap (cC s)).ok=true:=RC a fun v c=>by
 unfold cC;cases e:dG s v with
 |none=>have:=yw a c;simpa[T.ok]using this
 |some x=>exact(b _ (kQ e)).2
def Dq{s:List Bd}(a:rI s){v:Int}{t:T}(g:0<=v/\v<=100000)(e:t.ok=true){d:List Bd}(h:o1 s v t=some d):rI d:=by
 unfold o1 at h;split at h
 ·cases h;intro b f;rcases rE.1 f with rfl|⟨c,aw,rfl⟩
  ·exact⟨g,FO a e⟩
  ·refine⟨(a c aw).1,RC (a c aw).2 fun w hw=>?_⟩;unfold one;split
   ·exact FO a e
   ·have:=yw (a c aw).2 hw;simpa[T.ok]using this
 ·cases h
def ac1{s:List Bd}(b:rI s){t:T}(a:t.ok=true):(il s t).ok=true:=by
 cases t with
 |var n=>have:=FO b a;simpa[il,T.ap]using this
 |_=>exact a
def QR:∀(n:Nat) (s:List Bd) (a b:T) (g:List Bd),rI s->a.ok=true->b.ok=true->lE n s a b=some (some g)->rI g
 |0,_,_,_,_,_,_,_,h=>by simp[lE]at h
 |n+1,s,a,b,g,c,m,q,h=>by
  have d:=ac1 c m;have e:=ac1 c q;simp only[lE]at h;generalize il s a=x at h d;generalize il s b=y at h e;have f:∀{i:Int},(T.var i).ok=true->0<=i/\i<=100000:=fun h=>yw h (by simp[T.occ]);cases x with
  |var i=>
   cases y with
   |var j=>
    simp only[kN,dU]at h;split at h
    ·exact Dq c (f e) d h
    ·split at h
     ·cases h;exact c
     ·exact Dq c (f d) e h
   |_=>simp only[kN,dU]at h;exact Dq c (f d) e h
  |pair l a2=>
   cases y with
   |var j=>simp only[kN,dU]at h;exact Dq c (f e) d h
   |pair k o=>
    simp only[T.ok,cR]at d e;simp only[kN]at h;split at h
    ·cases h
    ·cases h
    ·rename_i s1 p;exact QR n s1 a2 o g (QR n s l k s1 c d.1 e.1 p) d.2 e.2 h
   |_=>simp[kN]at h
  |_=>
   cases y with
   |var j=>simp only[kN,dU]at h;exact Dq c (f e) d h
   |_=>
    simp only[kN,dU]at h;split at h
    ·cases h;exact c
    ·cases h
def oT:T->List Int
 | .var n=>[n]
 | .pair a b=>oT a++oT b
 |_=>[]
def zO{t:T}{v:Int}(h:t.occ v=true):v∈oT t:=by
 induction t with
 |var n=>simp[T.occ]at h;subst h;simp[oT]
 |pair a b d c=>simp only[T.occ,og]at h;simp only[oT,kg];exact h.imp d c
 |_=>simp[T.occ]at h
def Kc{s:List Bd}(d:gD s)(e:iy s)(a b:T):∃n o,lE n s a b=some o/\jI s [(a,b)] o:=by obtain⟨n,o,J,U⟩:=acj (s.flatMap (fun b=>b.v::oT b.t)++oT a++oT b) _ _ s a b d e (fun c aw=>⟨by simp only[kg,List.mem_flatMap];exact .inl (.inl ⟨c,aw,Ψ⟩),fun w hw=>by simp only[kg,List.mem_flatMap];exact .inl (.inl ⟨c,aw,by simp[zO hw]⟩)⟩) (fun w hw=>by simp[zO hw]) (fun w hw=>by simp[zO hw]) rfl rfl;exact⟨n,o,J,U.1⟩
def Rr{s:List Bd}{e:T×T}{E:List (T×T)}{s1:List Bd}(h:jI s [e] (some s1)){o:be (List Bd)}(U:jI s1 E o):jI s (e::E) o:=Rq (E:=[e]) h U
def IU{s:List Bd}(b:gD s)(c:iy s)(E:List (T×T)):jI s E (mgu s E):=by
 induction E generalizing s with
 |nil=>rw[tJ (KM b c)];exact KM b c
 |cons e E d=>
  obtain⟨n,o,_,U⟩:=Kc b c e.1 e.2;cases o with
  |none=>have a:jI s (e::E) none:=KL E U;rw[tJ a];exact a
  |some s1=>have a:=Rr U (d U.1.1 U.1.2);rw[tJ a];exact a
def OE{s:List Bd}(a:gD s)(b:iy s):mgu s []=some s:=tJ (KM a b)
def OD{s:List Bd}(b:gD s)(c:iy s)(e:T×T)(E:List (T×T)):mgu s (e::E)=match mgu s [e]with|some s1=>mgu s1 E|none=>none:=by
 have J:=IU b c [e];cases h:mgu s [e]with
 |none=>rw[h]at J;have a:jI s (e::E) none:=KL E J;exact tJ a
 |some s1=>rw[h]at J;exact tJ (Rr J (IU J.1.1 J.1.2 E))
def B9{s:List Bd}(b:gD s)(c:iy s){E:List (T×T)}{a:List Bd}(h:mgu s E=some a):gD a/\iy a:=by have J:=IU b c E;rw[h]at J;exact J.1
def amN{s:List Bd}(c:gD s)(d:iy s)(ar:rI s){E:List (T×T)}(a:∀e∈E,e.1.ok=true/\e.2.ok=true){f:List Bd}(h:mgu s E=some f):rI f:=by
 induction E generalizing s with
 |nil=>rw[OE c d]at h;cases h;exact ar
 |cons e E j=>
  rw[OD c d]at h;split at h
  ·rename_i s1 J;obtain⟨n,o,U,b⟩:=Kc c d e.1 e.2;have g:=tJ b;rw[J]at g;subst g;exact j b.1.1 b.1.2 (QR n s e.1 e.2 s1 ar (a e Ψ).1 (a e Ψ).2 U) (fun i he=>a i (by simp[he])) h
  ·cases h
def XK{l:List Int}(j:l.Nodup)(h:∀v∈l,0<=v/\v<=100000):l.length<=100001:=by
 have J:(l.map Int.toNat).Nodup:=by rw[List.nodup_iff_pairwise_ne,List.pairwise_map];exact atG (fun{a b} d f c e=>c (by have:=h a d;have:=h b f;omega)) j
 have:=Rf J (l₂:=List.range 100001) (fun x g=>by obtain⟨v,i,rfl⟩:=hb.1 g;have:=h v i;simp;omega)
 simpa using this
end
end Go.Pv
