/- The most general unifier within the limits. -/
import Derived.Deep.LoopGhost
import Derived.Test.YtahlgcidhnjlbaaGreatY1
set_option linter.all false
set_option maxHeartbeats 4000000
set_option maxRecDepth 4000
open Array renaming getD_eq_getD_getElem?->vz,getElem?_toList->vA,replicate->sW
open Bool renaming and_eq_true->cO,false_eq_true->hU,not_eq_true'->r4,or_eq_true->oo
open Decidable renaming not_not->ayF
open Go renaming Program->cG,TypeId->gW
open Go.IntKind renaming bits->pI,i64->vB,signed->um,u64->ij,wrap->uo
open Go.IntWalk renaming i64_in->pJ
open Go.Op renaming bytesLess->iu
open Go.Region renaming wanted->qu
open Go.Result renaming andThen_ok->gA
open Go.Sem renaming run_bind->gm,run_pure->hs
open Go.Value renaming cells->pK
open List renaming all_eq_true->j5,cons_append->b6,drop_eq_getElem_cons->lJ,getElem?_append_left->r6,getElem?_eq_getElem->ck,getElem?_eq_none->rh,getElem?_eq_some_iff->fI,length_append->qv,length_cons->mZ,map_cons->gX,map_nil->o2,mem_append->jT,mem_cons->gJ,mem_cons_of_mem->ri,mem_filter->oq,mem_map->hc,nil_append->cc,nodup_append->r7,pairwise_cons->ot,pairwise_iff_getElem->rj
open List.Nodup renaming length_le_of_subset->RA
open List.Pairwise renaming imp_of_mem->at4,nil->ayO
open List.Perm renaming eq_of_pairwise->RB
open List.cons renaming injEq->r5
open Nat renaming le_refl->dO,le_trans->kg
open Option renaming bind_some->l9,getD_none->my,getD_some->ma,isSome_iff_exists->fy,isSome_none->k6,map_eq_some_iff->ht,map_some->pN
open Option.some renaming inj->eZ,injEq->dV
open Prod.mk renaming injEq->jo
open _root_ renaming False->eb,UInt8->cV,and_true->jb,beq_iff_eq->eA,congrArg->fC,decide_eq_false->mz,decide_eq_false_iff_not->iN,decide_eq_true_eq->gn,eq_true->h1
namespace Go.Pv
section
open Go Go.RowKit
def anC(A:dD)(s a:cT)(rm:Option aB):Prop:=(∀k,(ae k a.b).isSome->(ae k s.b).isSome\/rm=some k)/\(∀k,(ae k a.e).isSome->(ae k s.e).isSome\/rm=some k)/\(∀k,(ae k s.b).isSome->(ae k a.b).isSome)/\(∀k,(ae k s.e).isSome->(ae k a.e).isSome)/\
 (∀k,rm=some k->(∃j,k= .obj j)/\A.F k/\A.b k=none/\A.e k=none/\((ae k a.b).isSome\/(ae k a.e).isSome))
def adV(P:cG)(n:Nat)(args:List af)(A:dD)(d:Option Nat)(x:lL):Prop:=
 ∃s a r rm,(∀k cs,ae k s.b=some cs->A.b k=some cs/\aH (aM s) cs)/\(∀k o,ae k s.e=some o->A.e k=some o/\dW (aM s) o)/\hP s/\hP a/\anC A s a rm/\aH (aM s) args/\
  bE P n args s (fun b t'=>b=r/\t'=a)/\x=⟨d,r,a.b,a.e,rm⟩
def adW(P:cG)(n0 n:Nat)(args:List af)(A:dD)(d:Option Nat)(x:lL):Prop:=
 ∃cX r,d=some cX/\(A.F (.loc (n0+cX))/\A.b (.loc (n0+cX))=none/\A.e (.loc (n0+cX))=none)/\aH (fun _=>eb) args/\
  uv P n (n0+cX) args ⟨[],[]⟩ (fun a t'=>a=r/\t'=⟨[],[]⟩)/\x=⟨d,r,[],[],some (.loc (n0+cX))⟩
def zQ:af->Bool
 | .ptr (.loc _) _=>true
 | .eptr _=>true
 |_=>false
def gP.isB:gP->Bool
 | .loadB _ _ _=>true
 | .mgetB _ _ _ _ _=>true
 |_=>false
def gP.ptrOf(t:Nat->af):gP->af
 | .load _ _ x=>dY t x
 | .loadB _ _ x=>dY t x
 |_=>.junk
def e4(P:cG)(q:Bool)(n0:Nat):eT->dD->lL->Prop
 | .s (.v d i),A,x=> ∃c p,re A.t A.b A.e i=some (c,p)/\c/\(i.isLoad=true->i.isB=true\/q=true\/zQ (i.ptrOf A.t)=true)/\x=⟨some d,p,[],[],none⟩
 | .s (.box d none v),A,x=>(A.F (.loc (n0+d))/\A.b (.loc (n0+d))=none/\A.e (.loc (n0+d))=none)/\eS (dY A.t v)=true/\x=⟨some d,.ptr (.loc (n0+d)) 0,[(.loc (n0+d),cells (dY A.t v))],[],some (.loc (n0+d))⟩
 | .s (.alloc d none z),A,x=>(A.F (.loc (n0+d))/\A.b (.loc (n0+d))=none/\A.e (.loc (n0+d))=none)/\x=⟨some d,.ptr (.loc (n0+d)) 0,[(.loc (n0+d),cells z)],[],some (.loc (n0+d))⟩
 | .s (.store sz u v),A,x=> ∃k off cs,dY A.t u= .ptr k off/\A.b k=some cs/\(gZ cs=true/\eS (dY A.t v)=true/\(cells (dY A.t v)).length=sz/\off+sz<=cs.length)/\x=⟨none,.junk,[(k,nI cs off (cells (dY A.t v)))],[],none⟩
 | .s (.bsl d sz el xs),A,x=>(A.F (.loc (n0+d))/\A.b (.loc (n0+d))=none/\A.e (.loc (n0+d))=none)/\uB sz (xs.map (dY A.t))/\x=⟨some d,.slice sz (.own (.loc (n0+d))) (xs.map (dY A.t)),[],[(.loc (n0+d),⟨xs.length,el,sz,none⟩)],some (.loc (n0+d))⟩
 | .s (.app d sz el u v),A,x=> ∃tag xs a ys,dY A.t u= .slice sz tag xs/\dY A.t v= .slice sz a ys/\
   ((∃k o,tag= .own k/\A.e k=some o/\(o.xs=none/\o.n=xs.length/\o.el=el/\o.sz=sz/\xs.length+ys.length<=lim)/\x=⟨some d,.slice sz (.own k) (xs++ys),[],[(k,⟨xs.length+ys.length,el,sz,none⟩)],none⟩)\/
    (tag= .nil/\ys.length<=lim/\(A.F (.loc (n0+d))/\A.b (.loc (n0+d))=none/\A.e (.loc (n0+d))=none)/\x=⟨some d,.slice sz (.own (.loc (n0+d))) ys,[],[(.loc (n0+d),⟨ys.length,el,sz,none⟩)],some (.loc (n0+d))⟩))
 | .s (.appm d _ sz el u v),A,x=> ∃k n xs a ys,dY A.t u= .row sz k n/\dY A.t v= .slice sz a ys/\A.e k=some ⟨n,el,sz,some xs⟩/\xs.length+ys.length<=lim/\x=⟨some d,.row sz k (xs.length+ys.length),[],[(k,⟨xs.length+ys.length,el,sz,some (xs++ys)⟩)],none⟩
 | .s (.storeE sz u v),A,x=> ∃k n i f el b xs q,dY A.t u= .rptr b k n i f/\A.e k=some ⟨n,el,b,some xs⟩/\xs[i]? =some q/\(eS q=true/\eS (dY A.t v)=true/\(cells (dY A.t v)).length=sz/\f+sz<=(cells q).length/\0<sz)/\x=⟨none,.junk,[],[(k,⟨n,el,b,some (xs.set i (oi q f (cells (dY A.t v))))⟩)],none⟩
 | .s (.mkmap d (some m)),A,x=>(A.F (.obj m)/\A.b (.obj m)=none/\A.e (.obj m)=none)/\x=⟨some d,.gmap (.obj m),[(.obj m,[.hdm 0 []])],[],some (.obj m)⟩
 | .s (.mput e u k v),A,x=> ∃m cs cs',dY A.t u= .gmap m/\A.b m=some cs/\q1 e (dY A.t k) (dY A.t v) cs=some cs'/\x=⟨none,.junk,[(m,cs')],[],none⟩
 | .call d f xs,A,x=> ∃n dH,dY A.t f= .func n dH/\((adV P n (b9 (xs.map (dY A.t)++dH)) A d x/\(q=true->x.bw=[]/\x.ew=[]))\/adW P n0 n (b9 (xs.map (dY A.t)++dH)) A d x)
 |_,_,_=>eb
inductive Dm where
 |v|l|n|s|w|a|c|m|r|k
 deriving DecidableEq
def eT.mode:eT->Dm
 | .s (.v _ (.loadB _ _ _))=>.m
 | .s (.v _ (.mgetB _ _ _ _ _))=>.m
 | .s (.v _ i)=>if i.isLoad then .l else .v
 | .s (.storeE _ _ _)=>.r
 | .s (.box _ _ _)=>.n
 | .s (.alloc _ _ _)=>.n
 | .s (.store _ _ _)=>.w
 | .s (.bsl _ _ _ _)=>.s
 | .s (.app _ _ _ _ _)=>.a
 | .s (.bslm _ _ _ _ _)=>.w
 | .s (.mks _ _ _ _ _ _)=>.w
 | .s (.appm _ _ _ _ _ _)=>.r
 | .s (.mkmap _ _)=>.k
 | .s (.mput _ _ _ _)=>.w
 | .s (.range _ _ _)=>.w
 | .call _ _ _=>.c
 | .next _ _=>.w
structure K0 (q:Bool) (n0:Nat) (m:Dm) (dst:Option Nat) (A:dD) (x:lL):Prop where
 d:x.d=dst
 b:∀k,(ae k x.bw).isSome->(m= .n/\∃d,dst=some d/\k= .loc (n0+d)/\A.b k=none/\A.e k=none)\/m= .w\/(m= .c/\(∃j,k= .obj j)/\q=false)\/(m= .k/\(∃j,k= .obj j)/\A.b k=none/\A.e k=none)
 e:∀k,(ae k x.ew).isSome->(m= .s/\∃d,dst=some d/\k= .loc (n0+d)/\A.b k=none/\A.e k=none)\/(m= .a/\(A.e k≠none\/ ∃d,dst=some d/\k= .loc (n0+d)/\A.b k=none/\A.e k=none))\/(m= .c/\(∃j,k= .obj j)/\q=false)\/(m= .r/\∃o,A.e k=some o/\o.xs≠none)
 r:∀k,x.rm=some k->(∃d,dst=some d/\k= .loc (n0+d))\/((m= .c\/m= .k)/\(∃j,k= .obj j)/\((ae k x.bw).isSome\/(ae k x.ew).isSome))
 ex:m= .a->∀k o,(ae k x.ew).isSome->A.e k=some o->o.xs=none
 xn:m= .a\/m= .s->∀k o,ae k x.ew=some o->o.xs=none
def ve{α:Type}{k bs:aB}{x:α}(h:(ae k [(bs,x)]).isSome):k=bs:=by
 simp only[ae]at h;split at h
 ·rename_i e;exact e.symm
 ·cases h
def OF{k bs:aB}{n el sz:Nat}{o:dT}(h:ae k [(bs,(⟨n,el,sz,none⟩:dT))]=some o):o.xs=none:=by
 simp only[ae]at h;split at h
 ·cases h;rfl
 ·cases h
def acS{P:cG}{q:Bool}{n0:Nat}{i:eT}{A:dD}{x:lL}(h:e4 P q n0 i A x):K0 q n0 i.mode i.dst A x:=by
 cases i with
 |s i=>
  cases i with
  |v d i=>simp only[e4]at h;obtain⟨c,p,_,_,_,rfl⟩:=h;exact⟨rfl,fun k ad=>by simp[ae]at ad,fun k ad=>by simp[ae]at ad,fun k ad=>by simp at ad,fun _ k o ad=>by simp[ae]at ad,fun _ k o ad=>by simp[ae]at ad⟩
  |box d key v=>
   cases key with
   |some m=>simp only[e4]at h
   |none=>simp only[e4]at h;obtain⟨⟨_,U,a⟩,_,rfl⟩:=h;exact⟨rfl,fun k ad=>by obtain rfl:=ve ad;exact .inl ⟨rfl,d,rfl,rfl,U,a⟩,fun k ad=>by simp[ae]at ad,fun k ad=>by simp at ad;exact .inl ⟨d,rfl,ad.symm⟩,fun _ k o ad=>by simp[ae]at ad,fun _ k o ad=>by simp[ae]at ad⟩
  |alloc d key z=>
   cases key with
   |some m=>simp only[e4]at h
   |none=>simp only[e4]at h;obtain⟨⟨_,U,a⟩,rfl⟩:=h;exact⟨rfl,fun k ad=>by obtain rfl:=ve ad;exact .inl ⟨rfl,d,rfl,rfl,U,a⟩,fun k ad=>by simp[ae]at ad,fun k ad=>by simp at ad;exact .inl ⟨d,rfl,ad.symm⟩,fun _ k o ad=>by simp[ae]at ad,fun _ k o ad=>by simp[ae]at ad⟩
  |store sz u v=>simp only[e4]at h;obtain⟨k,off,cs,_,_,_,rfl⟩:=h;exact⟨rfl,fun k ad=>.inr (.inl rfl),fun k ad=>by simp[ae]at ad,fun k ad=>by simp at ad,fun _ k o ad=>by simp[ae]at ad,fun _ k o ad=>by simp[ae]at ad⟩
  |bsl d sz el xs=>simp only[e4]at h;obtain⟨⟨_,U,a⟩,_,rfl⟩:=h;exact⟨rfl,fun k ad=>by simp[ae]at ad,fun k ad=>by obtain rfl:=ve ad;exact .inl ⟨rfl,d,rfl,rfl,U,a⟩,fun k ad=>by simp at ad;exact .inl ⟨d,rfl,ad.symm⟩,fun e=>by simp[eT.mode]at e,fun _ k o ad=>OF ad⟩
  |app d sz el u v=>
   simp only[e4]at h;obtain⟨tag,xs,j,ys,_,_,h⟩:=h;rcases h with⟨k,o,_,J,⟨l,_⟩,rfl⟩|⟨_,_,⟨_,U,a⟩,rfl⟩
   ·exact⟨rfl,fun k ad=>by simp[ae]at ad,fun k ad=>by obtain rfl:=ve ad;exact .inr (.inl ⟨rfl,.inl (by rw[J];simp)⟩),fun k ad=>by simp at ad,fun _ bs o' ad aq=>by obtain rfl:=ve ad;rw[J]at aq;cases aq;exact l,fun _ k o ad=>OF ad⟩
   ·exact⟨rfl,fun k ad=>by simp[ae]at ad,fun k ad=>by obtain rfl:=ve ad;exact .inr (.inl ⟨rfl,.inr ⟨d,rfl,rfl,U,a⟩⟩),fun k ad=>by simp at ad;exact .inl ⟨d,rfl,ad.symm⟩,fun _ bs o' ad aq=>(by obtain rfl:=ve ad;rw[a]at aq;cases aq),fun _ k o ad=>OF ad⟩
  |bslm d key sz el xs=>simp only[e4]at h
  |mks d key sz el z x=>simp only[e4]at h
  |appm d key sz el u v=>simp only[e4]at h;obtain⟨k,n,xs,j,ys,_,_,J,_,rfl⟩:=h;exact⟨rfl,fun k ad=>by simp[ae]at ad,fun k ad=>by obtain rfl:=ve ad;exact .inr (.inr (.inr ⟨rfl,_,J,Ψ⟩)),fun k ad=>by simp at ad,fun e=>by simp[eT.mode]at e,fun e=>by simp[eT.mode]at e⟩
  |storeE sz u v=>simp only[e4]at h;obtain⟨k,n,i,f,el,t,xs,q,_,J,_,_,rfl⟩:=h;exact⟨rfl,fun k ad=>by simp[ae]at ad,fun k ad=>by obtain rfl:=ve ad;exact .inr (.inr (.inr ⟨rfl,_,J,Ψ⟩)),fun k ad=>by simp at ad,fun e=>by simp[eT.mode]at e,fun e=>by simp[eT.mode]at e⟩
  |mkmap d key=>
   cases key with
   |none=>simp only[e4]at h
   |some m=>simp only[e4]at h;obtain⟨⟨_,U,a⟩,rfl⟩:=h;exact⟨rfl,fun k ad=>by obtain rfl:=ve ad;exact .inr (.inr (.inr ⟨rfl,⟨m,rfl⟩,U,a⟩)),fun k ad=>by simp[ae]at ad,fun k ad=>by simp at ad;subst ad;exact .inr ⟨.inr rfl,⟨m,rfl⟩,.inl gt⟩,fun e=>by simp[eT.mode]at e,fun e=>by simp[eT.mode]at e⟩
  |mput w x k v=>simp only[e4]at h;obtain⟨m,cs,cs',_,_,_,rfl⟩:=h;exact⟨rfl,fun k ad=>.inr (.inl rfl),fun k ad=>by simp[ae]at ad,fun k ad=>by simp at ad,fun e=>by simp[eT.mode]at e,fun e=>by simp[eT.mode]at e⟩
  |range d key x=>simp only[e4]at h
 |next d x=>simp only[e4]at h
 |call d f xs=>
  simp only[e4]at h;obtain⟨n,dH,_,h⟩:=h;rcases h with⟨⟨s,y,r,rm,_,_,_,aq,g,_,_,rfl⟩,b⟩|⟨cX,r,rfl,_,_,_,rfl⟩;rotate_left
  ·exact⟨rfl,fun k ad=>by simp[ae]at ad,fun k ad=>by simp[ae]at ad,fun k ad=>by simp at ad;exact .inl ⟨cX,rfl,ad.symm⟩,fun _ k o ad=>by simp[ae]at ad,fun _ k o ad=>by simp[ae]at ad⟩
  refine⟨rfl,fun k ad=>.inr (.inr (.inl ⟨rfl,?_,?_⟩)),fun k ad=>.inr (.inr (.inl ⟨rfl,?_,?_⟩)),fun k ad=>.inr ⟨.inl rfl,(g.2.2.2.2 k ad).1,(g.2.2.2.2 k ad).2.2.2.2⟩,fun e=>by simp[eT.mode]at e,fun e=>by simp[eT.mode]at e⟩
  ·cases k with
   |loc m=>rw[aq.1 m]at ad;cases ad
   |obj m=>exact⟨m,rfl⟩
  ·cases q with
   |false=>rfl
   |true=>rw[(b rfl).1]at ad;simp[ae]at ad
  ·cases k with
   |loc m=>rw[aq.2 m]at ad;cases ad
   |obj m=>exact⟨m,rfl⟩
  ·cases q with
   |false=>rfl
   |true=>rw[(b rfl).2]at ad;simp[ae]at ad
def RE{P:cG}{q:Bool}{n0:Nat}{i:eT}{A b:dD}{x:lL}(h:e4 P q n0 i A x)(a:se i.looks A.t b.t)
  (av:i.mode= .l->∀k,(q=true\/ ∃m,k= .loc m)->A.b k≠none->b.b k=A.b k) (W5:i.mode= .m->∀k,A.b k≠none->b.b k=A.b k)
  (lr:i.mode= .l->q=true->∀k o,A.e k=some o->o.xs≠none->b.e k=some o)
  (G:∀d,i.dst=some d->(i.mode= .n\/i.mode= .s\/i.mode= .a\/i.mode= .c)->(A.F (.loc (n0+d))/\A.b (.loc (n0+d))=none/\A.e (.loc (n0+d))=none)->(b.F (.loc (n0+d))/\b.b (.loc (n0+d))=none/\b.e (.loc (n0+d))=none))
  (bR:i.mode= .a->∀k o,A.e k=some o->b.e k=some o) (hw:i.mode= .w->∀k,b.b k=A.b k) (Y:i.mode= .k->∀m,(A.F (.obj m)/\A.b (.obj m)=none/\A.e (.obj m)=none)->(b.F (.obj m)/\b.b (.obj m)=none/\b.e (.obj m)=none)) (EF:i.mode= .r->∀k o,A.e k=some o->o.xs≠none->b.e k=some o)
  (ay:i.mode= .c->∀m,b.b (.obj m)=A.b (.obj m)/\b.e (.obj m)=A.e (.obj m)/\(A.F (.obj m)->b.F (.obj m))):e4 P q n0 i b x:=by
 cases i with
 |s i=>
  cases i with
  |v d i=>
   simp only[e4]at h⊢;obtain⟨c,p,J,U,l,B⟩:=h;by_cases K:∃agg sz y,i= .loadB agg sz y
   ·obtain⟨agg,sz,y,rfl⟩:=K;simp only[eT.looks,e0.looks,gP.looks]at a;have H:=ho a;refine⟨c,p,?_,U,fun _=>.inl rfl,B⟩;rw[<-J];simp only[re,<-H];have hm:=W5 (by simp[eT.mode]);simp only[re]at J;cases w:dY A.t y<;>simp only[tP];rename_i key off;rw[w]at J;simp only[tP]at J;cases t:A.b key with
    |none=>simp[t]at J
    |some cs=>have:b.b key=A.b key:=hm key (by rw[t];simp);rw[this,t]
   by_cases M:∃L zero ok y z,i= .mgetB L zero ok y z
   ·obtain⟨L,zero,ok,y,z,rfl⟩:=M;simp only[eT.looks,e0.looks,gP.looks]at a;obtain⟨t1,t2⟩:=k8 a;refine⟨c,p,?_,U,fun _=>.inl rfl,B⟩;simp only[re]at J⊢;rw[<-ho t1,<-ho t2];exact Y7 (W5 (by simp[eT.mode])) J
   replace l:i.isLoad=true->q=true\/zQ (i.ptrOf A.t)=true:=fun g=>(l g).resolve_left (fun t=>by cases i<;>simp[gP.isB]at t;exact K ⟨_,_,_,rfl⟩;exact M ⟨_,_,_,_,_,rfl⟩);have Z:i.isLoad=true->(eT.s (.v d i)).mode= .l:=by intro g;cases i<;>simp only[gP.isLoad]at g<;>first|(cases g;done)|(simp[eT.mode,gP.isLoad];done)|exact absurd ⟨_,_,_,rfl⟩ K|exact absurd ⟨_,_,_,_,_,rfl⟩ M
   by_cases g:i.isLoad=true
   ·have V:∀(w:zQ (i.ptrOf A.t)=false),∀k,A.b k≠none->b.b k=A.b k:=fun w k ad=>av (Z g) k (.inl ((l g).resolve_right (by rw[w];simp))) ad;cases i<;>simp only[gP.isLoad]at g<;>try(cases g;done)
    case mget L zero ok y z=>simp only[eT.looks,e0.looks,gP.looks]at a;obtain⟨t1,t2⟩:=k8 a;refine⟨c,p,?_,U,fun _=>.inr (l rfl),B⟩;simp only[re]at J⊢;rw[<-ho t1,<-ho t2];exact Y7 (V rfl) J
    case ment y=>simp only[eT.looks,e0.looks,gP.looks]at a;refine⟨c,p,?_,U,fun _=>.inr (l rfl),B⟩;simp only[re]at J⊢;rw[<-ho a];exact am5 (V rfl) J
    case mlen y=>simp only[eT.looks,e0.looks,gP.looks]at a;refine⟨c,p,?_,U,fun _=>.inr (l rfl),B⟩;simp only[re]at J⊢;rw[<-ho a];exact ant (V rfl) J
    case loadB agg sz y=>exact absurd ⟨_,_,_,rfl⟩ K
    case mgetB=>exact absurd ⟨_,_,_,_,_,rfl⟩ M
    rename_i agg sz y;simp only[eT.looks,e0.looks,gP.looks]at a;have H:=ho a;refine⟨c,p,?_,U,fun _=>.inr (by have:=l rfl;simpa only[gP.ptrOf,<-H]using this),B⟩;rw[<-J];simp only[re,<-H];have hm:=av (by simp[eT.mode,gP.isLoad]);simp only[re]at J;have E:=l rfl;simp only[gP.ptrOf]at E;cases w:dY A.t y<;>simp only[tP]
    ·rename_i key off;rw[w]at J E;simp only[tP]at J;cases t:A.b key with
     |none=>simp[t]at J
     |some cs=>have:b.b key=A.b key:=hm key (by rcases E with h|h;exact .inl h;cases key;exact .inr ⟨_,rfl⟩;simp[zQ]at h) (by rw[t];simp);rw[this,t]
    ·rename_i eg key n i f;rw[w]at J E;simp only[tP]at J;have X:q=true:=E.resolve_right (by simp[zQ]);unfold Au at J;split at J
     ·rename_i n' el j4 xs he;rw[he,lr (by simp[eT.mode,gP.isLoad]) X key _ he Ψ]
     ·cases J
   ·have g:i.isLoad=false:=by simpa using g
    refine⟨c,p,?_,U,(fun e=>by rw[g]at e;cases e),B⟩;rw[<-J];exact(asn (by simpa only[eT.looks,e0.looks]using a) g).symm
  |box d key v=>
   cases key with
   |some m=>simp only[e4]at h
   |none=>simp only[e4,eT.looks,e0.looks]at h a⊢;obtain⟨J,U,l⟩:=h;rw[<-ho a];exact⟨G d rfl (.inl rfl) J,U,l⟩
  |alloc d key z=>
   cases key with
   |some m=>simp only[e4]at h
   |none=>simp only[e4]at h⊢;exact⟨G d rfl (.inl rfl) h.1,h.2⟩
  |store sz u v=>simp only[e4,eT.looks,e0.looks]at h a⊢;obtain⟨J,U⟩:=k8 a;rw[<-ho J,<-ho U];obtain⟨k,off,cs,g1,g2,g3,g4⟩:=h;exact⟨k,off,cs,g1,by rw[hw rfl];exact g2,g3,g4⟩
  |bsl d sz el xs=>simp only[e4,eT.looks,e0.looks]at h a⊢;rw[<-I0 a];exact⟨G d rfl (.inr (.inl rfl)) h.1,h.2⟩
  |app d sz el u v=>
   simp only[e4,eT.looks,e0.looks]at h a⊢;obtain⟨J,U⟩:=k8 a;rw[<-ho J,<-ho U];obtain⟨tag,xs,N,ys,g1,g2,h⟩:=h;refine⟨tag,xs,N,ys,g1,g2,?_⟩;rcases h with⟨k,o,W,aC,R⟩|⟨W,aC,R,b4⟩
   ·exact .inl ⟨k,o,W,bR rfl k o aC,R⟩
   ·exact .inr ⟨W,aC,G d rfl (.inr (.inr (.inl rfl))) R,b4⟩
  |bslm d key sz el xs=>simp only[e4]at h
  |mks d key sz el z x=>simp only[e4]at h
  |appm d key sz el u v=>simp only[e4,eT.looks,e0.looks]at h a⊢;obtain⟨J,U⟩:=k8 a;rw[<-ho J,<-ho U];obtain⟨k,n,xs,N,ys,g1,g2,g3,g4,g5⟩:=h;exact⟨k,n,xs,N,ys,g1,g2,EF rfl k _ g3 Ψ,g4,g5⟩
  |storeE sz u v=>simp only[e4,eT.looks,e0.looks]at h a⊢;obtain⟨J,U⟩:=k8 a;rw[<-ho J,<-ho U];obtain⟨k,n,i,f,el,eg,xs,q,g1,g2,g3⟩:=h;exact⟨k,n,i,f,el,eg,xs,q,g1,EF rfl k _ g2 Ψ,g3⟩
  |mkmap d key=>
   cases key with
   |none=>simp only[e4]at h
   |some m=>simp only[e4]at h⊢;exact⟨Y rfl m h.1,h.2⟩
  |mput L u k v=>simp only[e4,eT.looks,e0.looks]at h a⊢;obtain⟨t1,t3⟩:=k8 a;obtain⟨t1,t2⟩:=k8 t1;obtain⟨m,cs,cs',g1,g2,g3,g4⟩:=h;rw[<-ho t1,<-ho t2,<-ho t3];exact⟨m,cs,cs',g1,by rw[hw rfl];exact g2,g3,g4⟩
  |range d key x=>simp only[e4]at h
 |next d x=>simp only[e4]at h
 |call d f xs=>
  simp only[e4,eT.looks]at h a⊢;obtain⟨J,U⟩:=k8 a;rw[<-ho J,<-I0 U];obtain⟨n,dH,g1,h⟩:=h;rcases h with⟨⟨s,ak,r,rm,S,Q,O,h5,F,qC⟩,g3⟩|⟨cX,r,rfl,S,Q⟩;rotate_left
  ·exact⟨n,dH,g1,.inr ⟨cX,r,rfl,G cX rfl (.inr (.inr (.inr rfl))) S,Q⟩⟩
  refine⟨n,dH,g1,.inl ⟨⟨s,ak,r,rm,fun k cs ad=>?_,fun k o ad=>?_,O,h5,⟨F.1,F.2.1,F.2.2.1,F.2.2.2.1,fun k ad=>?_⟩,qC⟩,g3⟩⟩
  ·cases k with
   |loc m=>rw[O.1 m]at ad;cases ad
   |obj m=>rw[(ay rfl m).1];exact S _ _ ad
  ·cases k with
   |loc m=>rw[O.2 m]at ad;cases ad
   |obj m=>rw[(ay rfl m).2.1];exact Q _ _ ad
  ·obtain⟨⟨j,rfl⟩,d2,d3,d4,d5⟩:=F.2.2.2.2 k ad;exact⟨⟨j,rfl⟩,(ay rfl j).2.2 d2,by rw[(ay rfl j).1];exact d3,by rw[(ay rfl j).2.1];exact d4,d5⟩
def mr(d:Option Nat):lL:=⟨d,.tuple [],[],[],none⟩
def lM(P:cG)(q:Bool)(n0:Nat)(g:dt)(A:dD)(x:lL):Prop:=
 match g.g with
 |none=>e4 P q n0 g.i A x
 |some (s,w)=>match A.t s with
  | .bool b=>(b=w/\e4 P q n0 g.i A x)\/(b= !w/\x=mr g.i.dst)
  | .tuple []=>x=mr g.i.dst
  |_=>eb
def fV:Dm->Dm->Bool
 | .v,_=>true
 |_,.v=>true
 | .l,.l| .l,.n| .l,.s| .l,.a| .l,.c=>true
 | .n,.n| .n,.s| .n,.a| .n,.c=>true
 | .s,.l| .s,.n| .s,.s| .s,.c=>true
 | .a,.l| .a,.n| .a,.s=>true
 | .c,.l| .c,.n| .c,.s=>true
 | .l,.m| .m,.l| .m,.m| .m,.n| .m,.s| .m,.a| .s,.m| .a,.m=>true
 | .l,.k| .m,.k| .n,.k| .s,.k=>true
 | .m,.r| .r,.m| .r,.n| .r,.s| .n,.r| .s,.r| .r,.w| .w,.r=>true
 |_,_=>false
def Bq(g h:dt):Bool:=(match g.i.dst with|some d=> !(h.looks.contains d)&&h.i.dst !=some d|none=>true)&&(match h.i.dst with|some d=> !(g.looks.contains d)|none=>true)&&fV g.i.mode h.i.mode
def acT(q:Bool)(n0:Nat)(m:Dm)(d:Option Nat)(A:dD):K0 q n0 m d A (mr d):=⟨rfl,fun k ad=>by simp[mr,ae]at ad,fun k ad=>by simp[mr,ae]at ad,fun k ad=>by simp[mr]at ad,fun _ k o ad=>by simp[mr,ae]at ad,fun _ k o ad=>by simp[mr,ae]at ad⟩
def Q4{P:cG}{q:Bool}{n0:Nat}{g:dt}{A:dD}{x:lL}(h:lM P q n0 g A x):K0 q n0 g.i.mode g.i.dst A x:=by
 unfold lM at h;split at h
 ·exact acS h
 ·split at h
  ·rcases h with⟨_,h⟩|⟨_,rfl⟩
   ·exact acS h
   ·exact acT _ _ _ _ _
  ·subst h;exact acT _ _ _ _ _
  ·exact h.elim
def uG{A:dD}{x:lL}{k:aB}(h:ae k x.bw=none):(A.do x).b k=A.b k:=by simp[dD.do,ju,h]
def uH{A:dD}{x:lL}{k:aB}(h:ae k x.ew=none):(A.do x).e k=A.e k:=by simp[dD.do,ju,h]
def L2{A:dD}{x:lL}{k:aB}(h:(A.do x).b k=none):A.b k=none:=by
 simp only[dD.do,ju]at h;split at h
 ·cases h
 ·exact h
def L3{A:dD}{x:lL}{k:aB}(h:(A.do x).e k=none):A.e k=none:=by
 simp only[dD.do,ju]at h;split at h
 ·cases h
 ·exact h
def mS{α:Type}{o:Option α}(h:¬o.isSome):o=none:=by cases o<;>simp at h⊢
def RG{P:cG}{q:Bool}{n0:Nat}{g:dt}{A a:dD}{x:lL}(h:lM P q n0 g A x)(b:se g.looks A.t a.t)(hm:e4 P q n0 g.i A x->e4 P q n0 g.i a x):lM P q n0 g a x:=by
 unfold lM at h⊢;cases bd:g.g with
 |none=>simp only[bd]at h⊢;exact hm h
 |some c=>
  obtain⟨s,w⟩:=c;have:A.t s=a.t s:=b s (by simp[dt.looks,bd]);simp only[bd,this]at h⊢;split at h
  ·rcases h with⟨J,U⟩|h
   ·exact .inl ⟨J,hm U⟩
   ·exact .inr h
  ·exact h
  ·exact h
def swap{P:cG}{q:Bool}{n0:Nat}{g h:dt}(S:Bq g h=true){A:dD}{x y:lL}(O:lM P q n0 g A x)(W:lM P q n0 h (A.do x) y):
  lM P q n0 h A y/\lM P q n0 g (A.do y) x/\x.apart y:=by
 simp only[Bq,cO]at S;obtain⟨⟨G,N⟩,hm⟩:=S;have c8:=Q4 O;have v:∀d l,g.i.dst=some d->h.i.dst=some l->d≠l:=by intro d l a b e;simp only[a,cO,bne_iff_ne]at G;exact G.2 (by rw[b,e])
 have V:se h.looks (A.do x).t A.t:=by intro i hi;simp only[dD.do];rw[if_neg];intro e;rw[c8.d]at e;simp only[e,cO,r4,List.contains_eq_mem,iN]at G;exact G.1 hi
 have E:∀k,(ae k x.bw).isSome->_:=c8.b;have hle:∀k,(ae k x.ew).isSome->_:=c8.e;have Q:lM P q n0 h A y:=by
  refine RG W V fun H=>RE H (fun i hi=>V i (by simp[dt.looks,hi])) (fun e k ad z=>?_) (fun e k z=>?_) (fun e K k o aq w=>?_) (fun d F R f=>?_) (fun e k o aq=>?_) (fun e k=>?_) (fun e m f=>⟨f.1.1,L2 f.2.1,L3 f.2.2⟩) (fun e k o aq w=>?_) (fun e m=>?_)
  ·rw[uG (mS fun c=>?_)];rcases E k c with⟨a,_⟩|a|⟨a,⟨j,b⟩,s⟩|⟨a,_⟩;rotate_left 3
   ·rw[e,a]at hm;simp[fV]at hm
   ·rw[e,a]at hm;simp[fV]at hm
   ·rw[e,a]at hm;simp[fV]at hm
   ·rcases ad with ad|⟨m,ad⟩
    ·rw[ad]at s;cases s
    ·rw[ad]at b;cases b
  ·rw[uG (mS fun c=>?_)];rcases E k c with⟨a,_⟩|a|⟨a,_⟩|⟨a,_⟩<;>(rw[e,a]at hm;simp[fV]at hm)
  ·rw[e]at hm;cases u:ae k x.ew with
   |none=>rw[uH u]at aq;exact aq
   |some o'=>
    exfalso;have L:(A.do x).e k=some o':=by simp[dD.do,ju,u]
    rw[L]at aq;cases aq;rcases hle k (by simp[u])with⟨a,_⟩|⟨a,_⟩|⟨a,_,s⟩|⟨a,_⟩
    ·exact w (c8.xn (.inr a) k _ u)
    ·exact w (c8.xn (.inl a) k _ u)
    ·rw[K]at s;cases s
    ·rw[a]at hm;simp[fV]at hm
  ·exact⟨f.1.1,L2 f.2.1,L3 f.2.2⟩
  ·rw[uH (mS fun c=>?_)]at aq
   ·exact aq
   ·rw[e]at hm;rcases hle k c with⟨a,_⟩|⟨a,_⟩|⟨a,_⟩|⟨a,_⟩<;>(rw[a]at hm;simp[fV]at hm)
  ·rw[uG (mS fun c=>?_)];rw[e]at hm;rcases E k c with⟨a,_⟩|a|⟨a,_⟩|⟨a,_⟩<;>(rw[a]at hm;simp[fV]at hm)
  ·rw[e]at hm;cases u:ae k x.ew with
   |none=>rw[uH u]at aq;exact aq
   |some o'=>
    exfalso;have L:(A.do x).e k=some o':=by simp[dD.do,ju,u]
    rw[L]at aq;cases aq;rcases hle k (by simp[u])with⟨a,_⟩|⟨a,_⟩|⟨a,_⟩|⟨a,_⟩
    ·exact w (c8.xn (.inr a) k _ u)
    ·rw[a]at hm;simp[fV]at hm
    ·rw[a]at hm;simp[fV]at hm
    ·rw[a]at hm;simp[fV]at hm
  ·rw[e]at hm;refine⟨?_,?_,fun J=>J.1⟩
   ·rw[uG (mS fun c=>?_)];rcases E _ c with⟨a,d,_,b,_⟩|a|⟨a,_⟩|⟨a,_⟩;rotate_left 3
    ·rw[a]at hm;simp[fV]at hm
    ·cases b
    ·rw[a]at hm;simp[fV]at hm
    ·rw[a]at hm;simp[fV]at hm
   ·rw[uH (mS fun c=>?_)];rcases hle _ c with⟨a,d,_,b,_⟩|⟨a,_⟩|⟨a,_⟩|⟨a,_⟩
    ·cases b
    ·rw[a]at hm;simp[fV]at hm
    ·rw[a]at hm;simp[fV]at hm
    ·rw[a]at hm;simp[fV]at hm
 have ty:=Q4 Q;have U:se g.looks A.t (A.do y).t:=by intro i hi;simp only[dD.do];rw[if_neg];intro e;rw[ty.d]at e;simp only[e,r4,List.contains_eq_mem,iN]at N;exact N hi
 refine⟨Q,?_,?_⟩
 ·refine RG O U fun H=>RE H (fun i hi=>U i (by simp[dt.looks,hi])) (fun e k ad z=>?_) (fun e k z=>?_) (fun e K k o aq w=>?_) (fun d F R f=>?_) (fun e k o aq=>?_) (fun e k=>?_) (fun e m f=>?_) (fun e k o aq w=>?_) (fun e m=>?_)
  ·refine uG (mS fun c=>?_);rcases ty.b k c with⟨a,d,_,_,b,_⟩|a|⟨a,⟨j,b⟩,s⟩|⟨_,_,b,_⟩;rotate_left 3
   ·exact z b
   ·exact z b
   ·rw[e,a]at hm;simp[fV]at hm
   ·rcases ad with ad|⟨m,ad⟩
    ·rw[ad]at s;cases s
    ·rw[ad]at b;cases b
  ·refine uG (mS fun c=>?_);rcases ty.b k c with⟨a,d,_,_,b,_⟩|a|⟨a,_⟩|⟨_,_,b,_⟩;rotate_left 3
   ·exact z b
   ·exact z b
   ·rw[e,a]at hm;simp[fV]at hm
   ·rw[e,a]at hm;simp[fV]at hm
  ·rw[uH (mS fun c=>?_)]
   ·exact aq
   ·rcases ty.e k c with⟨a,d,_,_,_,b⟩|⟨a,b⟩|⟨a,_,s⟩|⟨a,_⟩
    ·rw[b]at aq;cases aq
    ·exact w (ty.ex a k o c aq)
    ·rw[K]at s;cases s
    ·rw[e,a]at hm;simp[fV]at hm
  ·refine⟨⟨f.1,fun B=>?_⟩,?_,?_⟩
   ·rcases ty.r _ B with⟨l,a,b⟩|⟨_,⟨j,b⟩,_⟩
    ·simp only[aB.loc.injEq]at b;exact v d l F a Ω
    ·cases b
   ·rw[uG (mS fun c=>?_)]
    ·exact f.2.1
    ·rcases ty.b _ c with⟨a,l,b,s,_⟩|a|⟨a,⟨j,b⟩,_⟩|⟨a,⟨j,b⟩,_⟩;rotate_left 3
     ·cases b
     ·simp only[aB.loc.injEq]at s;exact v d l F b Ω
     ·rcases R with b|b|b|b<;>(rw[a,b]at hm;simp[fV]at hm)
     ·cases b
   ·rw[uH (mS fun c=>?_)]
    ·exact f.2.2
    ·rcases ty.e _ c with⟨a,l,b,s,_⟩|⟨a,b⟩|⟨a,⟨j,b⟩,_⟩|⟨a,o,b,_⟩
     ·simp only[aB.loc.injEq]at s;exact v d l F b Ω
     ·rcases b with b|⟨l,b,s,_⟩
      ·exact b f.2.2
      ·simp only[aB.loc.injEq]at s;exact v d l F b Ω
     ·cases b
     ·rw[f.2.2]at b;cases b
  ·rw[uH (mS fun c=>?_)]
   ·exact aq
   ·rw[e]at hm;rcases ty.e k c with⟨a,d,_,_,_,b⟩|⟨a,_⟩|⟨a,_⟩|⟨a,_⟩
    ·rw[b]at aq;cases aq
    ·rw[a]at hm;simp[fV]at hm
    ·rw[a]at hm;simp[fV]at hm
    ·rw[a]at hm;simp[fV]at hm
  ·refine uG (mS fun c=>?_);rw[e]at hm;rcases ty.b k c with⟨a,_⟩|a|⟨a,_⟩|⟨a,_⟩<;>(rw[a]at hm;simp[fV]at hm)
  ·rw[e]at hm;refine⟨⟨f.1,fun B=>?_⟩,?_,?_⟩
   ·rcases ty.r _ B with⟨l,a,b⟩|⟨a|a,_⟩
    ·cases b
    ·rw[a]at hm;simp[fV]at hm
    ·rw[a]at hm;simp[fV]at hm
   ·rw[uG (mS fun c=>?_)]
    ·exact f.2.1
    ·rcases ty.b _ c with⟨a,_⟩|a|⟨a,_⟩|⟨a,_⟩<;>(rw[a]at hm;simp[fV]at hm)
   ·rw[uH (mS fun c=>?_)]
    ·exact f.2.2
    ·rcases ty.e _ c with⟨a,_⟩|⟨a,_⟩|⟨a,_⟩|⟨a,o,b,_⟩
     ·rw[a]at hm;simp[fV]at hm
     ·rw[a]at hm;simp[fV]at hm
     ·rw[a]at hm;simp[fV]at hm
     ·rw[f.2.2]at b;cases b
  ·rw[uH (mS fun c=>?_)]
   ·exact aq
   ·rw[e]at hm;rcases ty.e k c with⟨a,d,_,_,_,b⟩|⟨a,_⟩|⟨a,_⟩|⟨a,_⟩
    ·rw[b]at aq;cases aq
    ·rw[a]at hm;simp[fV]at hm
    ·rw[a]at hm;simp[fV]at hm
    ·rw[a]at hm;simp[fV]at hm
  ·rw[e]at hm;refine⟨?_,?_,fun J=>⟨J,fun B=>?_⟩⟩;rotate_left 2
   ·rcases ty.r _ B with⟨l,_,b⟩|⟨b|b,_⟩
    ·cases b
    ·rw[b]at hm;simp[fV]at hm
    ·rw[b]at hm;simp[fV]at hm
   ·refine uG (mS fun c=>?_);rcases ty.b _ c with⟨a,d,_,b,_⟩|a|⟨a,_⟩|⟨a,_⟩;rotate_left 3
    ·rw[a]at hm;simp[fV]at hm
    ·cases b
    ·rw[a]at hm;simp[fV]at hm
    ·rw[a]at hm;simp[fV]at hm
   ·refine uH (mS fun c=>?_);rcases ty.e _ c with⟨a,d,_,b,_⟩|⟨a,_⟩|⟨a,_⟩|⟨a,_⟩
    ·cases b
    ·rw[a]at hm;simp[fV]at hm
    ·rw[a]at hm;simp[fV]at hm
    ·rw[a]at hm;simp[fV]at hm
 ·refine⟨fun i hi e=>?_,fun k ad=>mS fun c=>?_,fun k ad=>mS fun c=>?_⟩
  ·rw[c8.d]at hi;rw[ty.d]at e;exact v i i hi e rfl
  ·rcases E k ad with⟨p,d,a2,a3,_⟩|p|⟨p,⟨j,a2⟩,_⟩|⟨p,_⟩<;>rcases ty.b k c with⟨n,l,r,t,_⟩|n|⟨n,⟨dg,r⟩,_⟩|⟨n,⟨dg,r⟩,_⟩;all_goals first|(rw[p,n]at hm;simp[fV]at hm;done)|skip
   ·rw[a3]at t;simp only[aB.loc.injEq]at t;exact v d l a2 r Ω
   ·rw[a3]at r;cases r
   ·rw[a3]at r;cases r
   ·rw[a2]at t;cases t
  ·rcases hle k ad with⟨p,d,a2,a3,_,a4⟩|⟨p,a2⟩|⟨p,⟨j,a2⟩,_⟩|⟨p,Y,a2,_⟩<;>rcases ty.e k c with⟨n,l,r,t,_,M⟩|⟨n,r⟩|⟨n,⟨dg,r⟩,_⟩|⟨n,X,r,_⟩
   ·rw[a3]at t;simp only[aB.loc.injEq]at t;exact v d l a2 r Ω
   ·rw[p,n]at hm;simp[fV]at hm
   ·rw[a3]at r;cases r
   ·rw[a4]at r;cases r
   ·rcases a2 with a2|⟨d,a2,a3,_⟩
    ·exact a2 M
    ·rw[a3]at t;simp only[aB.loc.injEq]at t;exact v d l a2 r Ω
   ·rw[p,n]at hm;simp[fV]at hm
   ·rw[p,n]at hm;simp[fV]at hm
   ·rw[p,n]at hm;simp[fV]at hm
   ·rw[a2]at t;cases t
   ·rw[p,n]at hm;simp[fV]at hm
   ·rw[p,n]at hm;simp[fV]at hm
   ·rw[p,n]at hm;simp[fV]at hm
   ·rw[M]at a2;cases a2
   ·rw[p,n]at hm;simp[fV]at hm
   ·rw[p,n]at hm;simp[fV]at hm
   ·rw[p,n]at hm;simp[fV]at hm
def yV(C:fj)(A:dD)(a:Act)(w:World):Prop:= ∃st ν,mA st A/\(∀k,A.F k->fresh st.n st.o k)/\c9 C st a w ν
def OC{st:bo}{A:dD}(h:mA st A)(d:Nat)(p:af):mA {st with t:=put d p st.t} (A.do ⟨some d,p,[],[],none⟩):=by
 refine⟨fun i=>?_,fun k=>?_,fun k=>?_⟩
 ·simp only[dD.do,qK,dV,h.t]
 ·simpa[dD.do,ju,ae]using h.b k
 ·simpa[dD.do,ju,ae]using h.e k
def YN{st:bo}{A:dD}(h:mA st A)(d:Nat)(p:af)(o':List aB)(rm:Option aB):mA {st with t:=put d p st.t,o:=o'} (A.do ⟨some d,p,[],[],rm⟩):=by have:=OC h d p;exact⟨this.t,this.b,this.e⟩
def adF{α:Type}{β:Type}:∀l:List (aB×α),cH ([]:List (aB×β)) l=l
 |[]=>rfl
 |(k,x)::r=>by simp[cH,ae,adF r]
def Cd{st:bo}{A:dD}(h:mA st A)(d:Nat)(p:af)(κ:aB)(cs:List af)(n':Nat)(o':List aB)(rm:Option aB):mA ⟨put d p st.t,cL κ cs st.b,st.e,n',o'⟩ (A.do ⟨some d,p,[(κ,cs)],[],rm⟩):=by
 refine⟨fun i=>?_,fun k=>?_,fun k=>?_⟩
 ·simp only[dD.do,qK,dV,h.t]
 ·simp only[dD.do,ju,ae,jj,h.b];by_cases e:κ=k<;>simp[e]
 ·simpa[dD.do,ju,ae]using h.e k
def IT{st:bo}{A:dD}(h:mA st A)(κ:aB)(cs:List af)(p:af):mA {st with b:=cL κ cs st.b} (A.do ⟨none,p,[(κ,cs)],[],none⟩):=by
 refine⟨fun i=>?_,fun k=>?_,fun k=>?_⟩
 ·simpa[dD.do]using h.t i
 ·simp only[dD.do,ju,ae,jj,h.b];by_cases e:κ=k<;>simp[e]
 ·simpa[dD.do,ju,ae]using h.e k
def x9{st:bo}{A:dD}(h:mA st A)(d:Nat)(p:af)(κ:aB)(o:dT)(n':Nat)(o':List aB)(rm:Option aB):mA ⟨put d p st.t,st.b,cL κ o st.e,n',o'⟩ (A.do ⟨some d,p,[],[(κ,o)],rm⟩):=by
 refine⟨fun i=>?_,fun k=>?_,fun k=>?_⟩
 ·simp only[dD.do,qK,dV,h.t]
 ·simpa[dD.do,ju,ae]using h.b k
 ·simp only[dD.do,ju,ae,jj,h.e];by_cases e:κ=k<;>simp[e]
def YM{st:bo}{A:dD}(h:mA st A)(κ:aB)(o:dT)(p:af):mA {st with e:=cL κ o st.e} (A.do ⟨none,p,[],[(κ,o)],none⟩):=by
 refine⟨fun i=>?_,fun k=>?_,fun k=>?_⟩
 ·simpa[dD.do]using h.t i
 ·simpa[dD.do,ju,ae]using h.b k
 ·simp only[dD.do,ju,ae,jj];by_cases e:κ=k<;>simp[e,h.e]
def OR{α:Type}{k:aB}:∀{l:List (aB×α)},k∈l.map (·.1)->(ae k l).isSome
 |[],h=>by simp at h
 |(i,x)::r,h=>by
  simp only[ae];split
  ·rfl
  ·rename_i e;simp only[gX,gJ]at h;rcases h with h|h
   ·exact absurd h.symm e
   ·exact OR h
def xu{n:Nat}{o:List aB}{κ:aB}:∀j,fresh n (κ::o) j->fresh n o j/\j≠κ:=by intro j a;simp only[fresh,gJ,not_or]at a⊢;exact⟨⟨a.1,a.2.2⟩,a.2.1⟩
def aiZ{n:Nat}{o:List aB}{κ j:aB}(h:fresh n o j)(a:some κ≠some j):fresh n (κ::o) j:=by simp only[fresh,gJ,not_or]at h⊢;exact⟨h.1,fun e=>a (by rw[e]),h.2⟩
def RF{P:cG}{aS:List (Nat×et)}(M:hR P aS=true){C:fj}{q:Bool}{n0:Nat}{i:eT}{o:Oper}(aq:wR C.N aS i o=true){A:dD}{x:lL}(j:e4 P q n0 i A x){a:Act}{w:World}(B:yV C A a w)
  {K:Act->World->Prop} {Q:Exit->Act->World->Prop} (G:∀bp w',yV C (A.do x) bp w'->K bp w'):o.wp P a w K Q:=by
 obtain⟨st,ν,g,E,B⟩:=B;have zo:∀(t:List (Nat×af)) (b:List (aB×List af)) (e:List (aB×dT)) (d:Option Nat) (p:af) (bw:List (aB×List af)) (ew:List (aB×dT)),∀k,(A.do ⟨d,p,bw,ew,none⟩).F k->fresh st.n st.o k:=fun t b e d p bw ew k ad=>E k ad.1;have S:∀(d:Option Nat) (p:af) (bw:List (aB×List af)) (ew:List (aB×dT)) (κ:aB),∀k,(A.do ⟨d,p,bw,ew,some κ⟩).F k->fresh st.n (κ::st.o) k:=fun d p bw ew κ k ad=>aiZ (E k ad.1) ad.2;cases i with
 |s i=>
  have H:FW C.N aS i o=true:=by simpa only[wR]using aq
  cases i with
  |v d i=>simp only[e4]at j;obtain⟨c,p,J,U,_,rfl⟩:=j;rw[<-acY g]at J;refine kB (κ:= .loc 0) (n':=0) (o₁:=[]) M B H (fun h=>by simp[e0.makes]at h) (fun h=>by simp[e0.makes]at h) (st':={st with t:=put d p st.t}) (by simp only[fs,J]) U fun bp w' bm l=>G _ _ ⟨_,bm,OC g d p,fun k ad=>E k ad.1,l⟩
  |box d key v=>
   cases key with
   |some m=>simp only[e4]at j
   |none=>simp only[e4]at j;obtain⟨⟨J,_⟩,U,rfl⟩:=j;rw[<-jH g]at U;refine kB (κ:= .loc (n0+d)) (n':=st.n) (o₁:= .loc (n0+d)::st.o) M B H (fun _=>E _ J) (fun _=>xu) (st':=⟨put d (.ptr (.loc (n0+d)) 0) st.t,cL (.loc (n0+d)) (cells (cD st.t v)) st.b,st.e,st.n,.loc (n0+d)::st.o⟩) m6 U fun bp w' bm l=>G _ _ ⟨_,bm,?_,S _ _ _ _ _,l⟩;rw[jH g];exact Cd g d _ _ _ _ _ _
  |alloc d key z=>
   cases key with
   |some m=>simp only[e4]at j
   |none=>simp only[e4]at j;obtain⟨⟨J,_⟩,rfl⟩:=j;refine kB (κ:= .loc (n0+d)) (n':=st.n) (o₁:= .loc (n0+d)::st.o) M B H (fun _=>E _ J) (fun _=>xu) (st':=⟨put d (.ptr (.loc (n0+d)) 0) st.t,cL (.loc (n0+d)) (cells z) st.b,st.e,st.n,.loc (n0+d)::st.o⟩) m6 trivial fun bp w' bm l=>G _ _ ⟨_,bm,Cd g d _ _ _ _ _ _,S _ _ _ _ _,l⟩
  |store sz u v=>simp only[e4]at j;obtain⟨k,off,cs,J,U,F,rfl⟩:=j;rw[<-jH g]at J F;rw[<-g.b]at U;refine kB (κ:= .loc 0) (n':=0) (o₁:=[]) M B H (fun h=>by simp[e0.makes]at h) (fun h=>by simp[e0.makes]at h) (st':={st with b:=cL k (nI cs off (cells (cD st.t v))) st.b}) (by simp only[fs,J,U]) F fun bp w' bm l=>G _ _ ⟨{st with b:=cL k (nI cs off (cells (cD st.t v))) st.b},bm,by rw[jH g];exact IT g k _ _,fun k ad=>E k ad.1,l⟩
  |bsl d sz el xs=>simp only[e4]at j;obtain⟨⟨J,_⟩,U,rfl⟩:=j;rw[<-v7 g]at U;refine kB (κ:= .loc (n0+d)) (n':=st.n) (o₁:= .loc (n0+d)::st.o) M B H (fun _=>E _ J) (fun _=>xu) (st':=⟨put d (.slice sz (.own (.loc (n0+d))) (xs.map (cD st.t))) st.t,st.b,cL (.loc (n0+d)) ⟨xs.length,el,sz,none⟩ st.e,st.n,.loc (n0+d)::st.o⟩) m6 U fun bp w' bm l=>G _ _ ⟨_,bm,?_,S _ _ _ _ _,l⟩;rw[v7 g];exact x9 g d _ _ _ _ _ _
  |app d sz el u v=>
   simp only[e4]at j;obtain⟨tag,xs,l3,ys,J,U,j⟩:=j;rw[<-jH g]at J U;rcases j with⟨k,ow,rfl,F,O,rfl⟩|⟨rfl,F,⟨O,_⟩,rfl⟩
   ·rw[<-g.e]at F;refine kB (κ:= .loc 0) (n':=0) (o₁:=[]) M B H (fun h=>by simp[e0.makes,J]at h) (fun h=>by simp[e0.makes,J]at h) (st':=⟨put d (.slice sz (.own k) (xs++ys)) st.t,st.b,cL k ⟨xs.length+ys.length,el,sz,none⟩ st.e,st.n,st.o⟩) (by simp only[fs,J,U,F,and_self,if_true]) O.2 fun bp w' bm l=>G _ _ ⟨_,bm,x9 g d _ _ _ _ _ _,fun k ad=>E k ad.1,l⟩
   ·refine kB (κ:= .loc (n0+d)) (n':=st.n) (o₁:= .loc (n0+d)::st.o) M B H (fun _=>E _ O) (fun _=>xu) (st':=⟨put d (.slice sz (.own (.loc (n0+d))) ys) st.t,st.b,cL (.loc (n0+d)) ⟨ys.length,el,sz,none⟩ st.e,st.n,.loc (n0+d)::st.o⟩) (by simp only[fs,J,U,and_self,if_true]) F fun bp w' bm l=>G _ _ ⟨_,bm,x9 g d _ _ _ _ _ _,S _ _ _ _ _,l⟩
  |bslm d key sz el xs=>simp only[e4]at j
  |mks d key sz el z x=>simp only[e4]at j
  |appm d key sz el u v=>simp only[e4]at j;obtain⟨k,n,xs,l3,ys,J,U,F,O,rfl⟩:=j;rw[<-jH g]at J U;rw[<-g.e]at F;refine kB (κ:= .loc 0) (n':=0) (o₁:=[]) M B H (fun h=>by simp[e0.makes,J]at h) (fun h=>by simp[e0.makes,J]at h) (st':=⟨put d (.row sz k (xs.length+ys.length)) st.t,st.b,cL k ⟨xs.length+ys.length,el,sz,some (xs++ys)⟩ st.e,st.n,st.o⟩) (by simp only[fs,uC,J,U,F,and_self,if_true]) O fun bp w' bm l=>G _ _ ⟨_,bm,x9 g d _ _ _ _ _ _,fun k ad=>E k ad.1,l⟩
  |storeE sz u v=>simp only[e4]at j;obtain⟨k,n,i,f,el,eg,xs,q,J,U,F,O,rfl⟩:=j;rw[<-jH g]at J O;rw[<-g.e]at U;refine kB (κ:= .loc 0) (n':=0) (o₁:=[]) M B H (fun h=>by simp[e0.makes]at h) (fun h=>by simp[e0.makes]at h) (st':={st with e:=cL k ⟨n,el,eg,some (xs.set i (oi q f (cells (cD st.t v))))⟩ st.e}) (by simp only[fs,sP,J,U,F,and_self,if_true]) O fun bp w' bm l=>G _ _ ⟨{st with e:=cL k ⟨n,el,eg,some (xs.set i (oi q f (cells (cD st.t v))))⟩ st.e},bm,by rw[jH g];exact YM g k _ _,fun k ad=>E k ad.1,l⟩
  |mkmap d key=>
   cases key with
   |none=>simp only[e4]at j
   |some m=>simp only[e4]at j;obtain⟨⟨J,_⟩,rfl⟩:=j;exact kB (κ:= .obj m) (n':=st.n) (o₁:= .obj m::st.o) M B H (fun _=>E _ J) (fun _=>xu) (st':=⟨put d (.gmap (.obj m)) st.t,cL (.obj m) [.hdm 0 []] st.b,st.e,st.n,.obj m::st.o⟩) m6 trivial fun bp w' bm l=>G _ _ ⟨_,bm,Cd g d _ _ _ _ _ _,S _ _ _ _ _,l⟩
  |mput cz u k v=>simp only[e4]at j;obtain⟨m,cs,cs',J,U,F,rfl⟩:=j;rw[<-jH g]at J;rw[<-jH g,<-jH g]at F;rw[<-g.b]at U;exact kB (κ:= .loc 0) (n':=0) (o₁:=[]) M B H (fun h=>by simp[e0.makes]at h) (fun h=>by simp[e0.makes]at h) (st':={st with b:=cL m cs' st.b}) (by simp only[fs,J,U,F]) trivial fun bp w' bm l=>G _ _ ⟨{st with b:=cL m cs' st.b},bm,IT g m _ _,fun k ad=>E k ad.1,l⟩
  |range d key x=>simp only[e4]at j
 |next d x=>simp only[e4]at j
 |call d f xs=>
  simp only[e4]at j;obtain⟨n,dH,J,j⟩:=j;rw[<-jH g]at J;rcases j with⟨⟨s,ak,r,rm,X,V,Z,h5,nj,qC,DC,rfl⟩,_⟩|⟨cX,r,rfl,X,V,Z,rfl⟩;rotate_left
  ·rw[<-v7 g]at V Z;simp only[wR]at aq;split at aq
   ·rename_i p1 args C8 oL;simp only[cO,eA]at aq;obtain⟨⟨⟨ao,aC⟩,bg⟩,b4⟩:=aq;have W:=e7 B bg;rw[J]at W;refine Un B oL ao aC W (FO B b4) (K:=fun st'=>st'={st with t:=put cX r st.t,o:= .loc (n0+cX)::st.o}) ⟨⟨[],[]⟩,_,some (n0+cX),st.n,fun _=>.loc (n0+cX)::st.o,fun k cs ad=>by simp[ae]at ad,fun k cs ad=>by simp[ae]at ad,⟨fun _=>rfl,fun _=>rfl⟩,ji (fun _ h=>h.elim) _ V,Z,fun m hm=>?_,fun k ee ak bK ad=>?_,?_⟩ ?_
    ·cases hm;exact E _ X.1
    ·obtain⟨_,rfl⟩:=bK;have:=xu k ad;exact⟨by simpa[cJ]using this.1,fun m hm=>by cases hm;exact this.2⟩
    ·rintro ee ql ⟨rfl,rfl⟩;refine⟨⟨fun m hm=>by simp[ae]at hm,fun m hm=>by simp[ae]at hm⟩,?_⟩;simp[after,adF,e9]
    ·rintro st' bp w' bm rfl l;exact G _ _ ⟨_,bm,YN g cX r _ _,S _ _ _ _ _,l⟩
   ·cases aq
  rw[<-v7 g]at qC DC;simp only[wR]at aq;split at aq
  ·rename_i p1 args C8 oL;simp only[cO,eA]at aq;obtain⟨⟨⟨ao,aC⟩,bg⟩,b4⟩:=aq;have W:=e7 B bg;rw[J]at W;obtain⟨a7,bD,b7,ea,Y⟩:=nj;refine Um B oL ao aC W (FO B b4) (K:=fun st'=>st'=after st s ak d r) (.inl ⟨s,_,fun k cs ad=>⟨by rw[g.b];exact(X k cs ad).1,.inl (by simp[ad]),(X k cs ad).2⟩,fun k o' ad=>⟨by rw[g.e];exact(V k o' ad).1,.inr (by simp[ad]),(V k o' ad).2⟩,Z,qC,DC,?_⟩) ?_
   ·rintro ee ql ⟨rfl,rfl⟩;refine⟨⟨fun m hm=>?_,fun m hm=>?_⟩,rfl⟩
    ·rcases a7 _ hm with h|h
     ·exact .inl h
     ·exact .inr (E _ (Y _ h).2.1).2
    ·rcases bD _ hm with h|h
     ·exact .inl h
     ·exact .inr (E _ (Y _ h).2.1).2
   ·rintro st' bp w' bm rfl l;refine G _ _ ⟨_,bm,⟨fun i=>?_,fun k=>?_,fun k=>?_⟩,fun k ad=>?_,l⟩
    ·simp only[after,dD.do];cases d with
     |none=>simpa[e9]using g.t i
     |some d=>simp only[e9,qK,dV,g.t]
    ·simp only[after,dD.do,ju,oa,tQ];by_cases L:(ae k s.b).isSome
     ·have:=b7 k L;obtain⟨y,R⟩:=fy.1 this;simp[L,R]
     ·cases aw:ae k ak.b with
      |none=>simp only[L,g.b];cases A.b k<;>simp
      |some y=>
       rcases a7 k (by simp[aw])with h|h
       ·exact absurd h L
       ·have:=Y k h;simp[L,g.b,this]
    ·simp only[after,dD.do,ju,oa,tQ];by_cases L:(ae k s.e).isSome
     ·have:=ea k L;obtain⟨y,R⟩:=fy.1 this;simp[L,R]
     ·cases aw:ae k ak.e with
      |none=>simp only[L,g.e];cases A.e k<;>simp
      |some y=>
       rcases bD k (by simp[aw])with h|h
       ·exact absurd h L
       ·have:=Y k h;simp[L,g.e,this]
    ·have Nd:=E k ad.1;have nY:=B.lookNone Nd;simp only[after];refine⟨Nd.1,fun N=>?_⟩;rcases jT.1 N with N|N
     ·exact Nd.2 N
     ·rcases jT.1 N with N|N
      ·rcases a7 k (OR N)with h|h
       ·obtain⟨y,R⟩:=fy.1 h;have:=(X k y R).1;rw[<-g.b,nY.1]at this;cases this
       ·exact ad.2 h
      ·rcases bD k (OR N)with h|h
       ·obtain⟨y,R⟩:=fy.1 h;have:=(V k y R).1;rw[<-g.e,nY.2]at this;cases this
       ·exact ad.2 h
  ·cases aq
def adX{P:cG}{aS:List (Nat×et)}(B:hR P aS=true){C:fj}{q:Bool}{n0:Nat}{ops:Array Oper}{g:dt}{o:Oper}{j:Nat}(N:ops[j]? =some o)(aq:D4 C.N aS ops.toList g o=true){A:dD}{x:lL}(c:lM P q n0 g A x){a:Act}{w:World}(v:yV C A a w)
  {K:Act->World->Prop} {Q:Exit->Act->World->Prop} (r:∀bp w',yV C (A.do x) bp w'->K bp w'):wpOp P ops Q j K a w:=by
 unfold wpOp;rw[N];simp only;simp only[D4,cO]at aq;obtain⟨m,y⟩:=aq;unfold lM at c;cases l:g.g with
 |none=>
  cases e:o.guard with
  |some x=>simp[e,l]at m
  |none=>
   have hw:qu o (yielded ops a.tmps)=true:=by simp[qu,e]
   rw[if_pos hw];simp only[l]at c;exact .inl (RF B y c v r)
 |some R=>
  obtain⟨s,want⟩:=R;cases e:o.guard with
  |none=>simp[e,l]at m
  |some t=>
   obtain⟨L,b0⟩:=t;simp only[e,l,cO,eA,gn]at m;obtain⟨⟨⟨⟨rfl,U⟩,M⟩,O⟩,J⟩:=m;obtain⟨st,ν,f,H,z⟩:=id v;obtain⟨G,F⟩:=adL z U M;simp only[l]at c;have E:∀(h:x=mr g.i.dst),K (a.put o.dst undef) w:=by
    rintro rfl;rw[O];refine r _ _ ⟨_,ν,?_,fun k ad=>?_,z.put J (p:= .tuple []) (by simp[aU,cZ,undef])⟩
    ·refine⟨fun i=>?_,fun k=>?_,fun k=>?_⟩
     ·simp only[dD.do,mr];cases g.i.dst with
      |none=>simpa[e9]using f.t i
      |some d=>simp only[e9,qK,dV,f.t]
     ·simpa[dD.do,ju,ae,mr]using f.b k
     ·simpa[dD.do,ju,ae,mr]using f.e k
    ·exact H k ad.1
   split at c
   ·rename_i b u;have n:=G b (by rw[f.t];exact u);rcases c with⟨rfl,c⟩|⟨rfl,c⟩
    ·have hw:qu o (yielded ops a.tmps)=true:=by simp[qu,e,n]
     rw[if_pos hw];exact .inl (RF B y c v r)
    ·have hw:¬(qu o (yielded ops a.tmps)=true):=by simp[qu,e,n]
     rw[if_neg hw];exact E c
   ·rename_i u;have n:=F (by rw[f.t];exact u);have hw:¬(qu o (yielded ops a.tmps)=true):=by simp[qu,e,n]
    rw[if_neg hw];exact E c
   ·exact c.elim
def xk(P:cG)(q:Bool)(n0:Nat)(K:dD->Prop):List (Nat×dt)->dD->Prop
 |[],A=>K A
 |(_,g)::r,A=> ∃x,lM P q n0 g A x/\xk P q n0 K r (A.do x)
def Sf{P:cG}{q:Bool}{n0:Nat}{K:dD->Prop}{i:Nat}{g:dt}:∀(b a:List (Nat×dt)) (A:dD),(∀x∈b,Bq x.2 g=true)->xk P q n0 K (b++(i,g)::a) A->∃x,lM P q n0 g A x/\xk P q n0 K (b++a) (A.do x)
 |[],a,A,_,h=>h
 |(j,f)::b,a,A,ay,h=>by simp only[b6,xk]at h;obtain⟨y,e,h⟩:=h;obtain⟨x,d,h⟩:=Sf b a (A.do y) (fun z c=>ay z (ri _ c)) h;obtain⟨s1,s2,s3⟩:=swap (ay _ (List.mem_cons_self ..)) e d;refine⟨x,s1,y,s2,?_⟩;rw[<-dD.do_comm A s3];exact h
def rem(a:Array Bool):Nat->List dt->List (Nat×dt)
 |_,[]=>[]
 |k,g::r=>if a.getD k false then rem a (k+1) r else(k,g)::rem a (k+1) r
def abE{l a:Array Bool}:∀(gs:List dt) (k:Nat),(∀j,k<=j->l.getD j false=a.getD j false)->rem l k gs=rem a k gs
 |[],_,_=>rfl
 |g::r,k,h=>by simp only[rem,h k (dO _),abE r (k+1) fun j b=>h j Ω]
def HJ{l:Array Bool}{i j:Nat}(h:i<l.size):(l.setIfInBounds i true).getD j false=if i=j then true else l.getD j false:=by
 simp only[vz];by_cases e:i=j
 ·subst e;simp[h]
 ·simp[e]
def Qd{l:Array Bool}{i:Nat}(hi:i<l.size)(o:l.getD i false=false):∀(gs:List dt) (k:Nat),k<=i->i<k+gs.length->∃b c g,gs[i-k]? =some g/\rem l k gs=b++(i,g)::c/\rem (l.setIfInBounds i true) k gs=b++c/\
  ∀x∈b,gs[x.1-k]? =some x.2/\k<=x.1/\x.1<i/\l.getD x.1 false=false
 |[],k,J,U=>by simp at U;omega
 |g::r,k,J,U=>by
  by_cases e:k=i
  ·subst e;refine⟨[],rem l (k+1) r,g,Ψ,by simp[rem,o],?_,fun x a=>by simp at a⟩;simp only[rem,HJ hi,if_true,cc];exact abE r (k+1) fun j s=>by rw[HJ hi,if_neg Ω]
  ·obtain⟨b,c,h,p,q,m,n⟩:=Qd hi o r (k+1) Ω (by simp at U;omega);have d:i-k=(i-(k+1))+1:=Ω
   have f:(l.setIfInBounds i true).getD k false=l.getD k false:=by rw[HJ hi,if_neg Ω]
   by_cases ad:l.getD k false=true
   ·refine⟨b,c,h,by rw[d];simpa using p,by simp only[rem,ad,if_true,q],by simp only[rem,f,ad,if_true,m],fun x a=>?_⟩;obtain⟨f1,f2,f3,f4⟩:=n x a;refine⟨?_,Ω,f3,f4⟩;have:x.1-k=(x.1-(k+1))+1:=Ω
    rw[this];simpa using f1
   ·have ad:l.getD k false=false:=by simpa using ad
    refine⟨(k,g)::b,c,h,by rw[d];simpa using p,by simp[rem,ad,q],by simp[rem,f,ad,m],fun x a=>?_⟩;rcases gJ.1 a with rfl|a
    ·exact⟨Ψ,dO _,by simp;omega,ad⟩
    ·obtain⟨f1,f2,f3,f4⟩:=n x a;refine⟨?_,Ω,f3,f4⟩;have:x.1-k=(x.1-(k+1))+1:=Ω
     rw[this];simpa using f1
def wL(acc:List Nat):List Edge->Nat
 |[]=>0
 |e::r=>if Region.binds .any e then(2 ^ e.on)|||(acc.getD e.on 0)|||wL acc r else wL acc r
def tS(acc:List Nat):List Oper->List Nat
 |[]=>acc
 |o::os=>tS (acc++[wL acc o.after.toList]) os
def FQ(m:Nat)(h:dt):Nat->List dt->Bool
 |_,[]=>true
 |i,g::r=>(m.testBit i||Bq g h)&&FQ m h (i+1) r
def FB:List dt->List dt->List Nat->Bool
 |_,[],_=>true
 |pre,h::r,m::ms=>FQ m h 0 pre&&FB (pre++[h]) r ms
 |_,_,[]=>false
def DM:Nat->List Oper->Bool
 |_,[]=>true
 |k,o::os=>o.after.toList.all (fun e=> !Region.binds .any e||decide (e.on<k))&&DM (k+1) os
def Dv(gs:List dt)(ops:List Oper):Bool:=DM 0 ops&&FB [] gs (tS [] ops)
def OK{acc:List Nat}{j:Nat}:∀{es:List Edge},(wL acc es).testBit j=true->∃e∈es,Region.binds .any e=true/\(j=e.on\/(acc.getD e.on 0).testBit j=true)
 |[],h=>by simp[wL]at h
 |e::r,h=>by
  simp only[wL]at h;split at h
  ·rename_i b;simp only[Nat.testBit_or,oo]at h;rcases h with(h|h)|h
   ·refine⟨e,Ψ,b,.inl ?_⟩;rw[Nat.testBit_two_pow]at h;have c:e.on=j:=by simpa using h
    exact c.symm
   ·exact⟨e,Ψ,b,.inr h⟩
   ·obtain⟨a,J,U⟩:=OK h;exact⟨a,by simp[J],U⟩
  ·obtain⟨a,J,U⟩:=OK h;exact⟨a,by simp[J],U⟩
def OL:∀(os:List Oper) (acc:List Nat) (k:Nat),k<acc.length->(tS acc os)[k]? =acc[k]?
 |[],acc,k,_=>rfl
 |o::os,acc,k,h=>by simp only[tS];rw[OL os _ k d6,r6 h]
def YX:∀(os:List Oper) (acc:List Nat) (k:Nat) (o:Oper),os[k]? =some o->∃a,(tS acc os)[acc.length+k]? =some (wL a o.after.toList)/\a.length=acc.length+k/\∀i,i<a.length->a[i]? =(tS acc os)[i]?
 |[],acc,k,o,h=>by simp at h
 |o'::os,acc,0,o,h=>by
  simp only[List.getElem?_cons_zero,dV]at h;subst h;refine⟨acc,?_,Ψ,fun i hi=>?_⟩
  ·simp only[tS,Nat.add_zero];rw[OL os _ _ Ψ];simp
  ·simp only[tS];rw[OL os _ i d6,r6 hi]
 |o'::os,acc,k+1,o,h=>by simp only[List.getElem?_cons_succ]at h;obtain⟨a,J,U,b⟩:=YX os (acc++[wL acc o'.after.toList]) k o h;refine⟨a,?_,by rw[U];simp;omega,fun i hi=>by rw[b i hi];rfl⟩;simp only[tS];rw[show acc.length+(k+1)=(acc++[wL acc o'.after.toList]).length+k from by simp;omega];exact J
def RC(ops:Array Oper)(a:Array Bool):Prop:= ∀k o,ops[k]? =some o->a.getD k false=true->∀e∈o.after.toList,Region.binds .any e=true->a.getD e.on false=true
def am1{ops:Array Oper}{b:Array Bool}(r:RC ops b):∀(k:Nat) (o:Oper),ops[k]? =some o->(∀e∈o.after.toList,Region.binds .any e=true->b.getD e.on false=true)->∀j,((tS [] ops.toList).getD k 0).testBit j=true->b.getD j false=true:=by
 intro k;induction k using Nat.strongRecOn with
 |_ k p=>
  intro o aq f j g;obtain⟨c,J,U,q⟩:=YX ops.toList [] k o (by simpa using aq);simp only[List.length_nil,Nat.zero_add]at J U;rw[List.getD_eq_getElem?_getD,J]at g;obtain⟨e,he,h,a⟩:=OK g;rcases a with rfl|a
  ·exact f e he h
  ·by_cases n:e.on<c.length
   ·have hm:c.getD e.on 0=(tS [] ops.toList).getD e.on 0:=by rw[List.getD_eq_getElem?_getD,q _ n,List.getD_eq_getElem?_getD]
    have ad:k<ops.size:=(Array.getElem?_eq_some_iff.1 aq).1;have d:ops[e.on]? =some ops[e.on]:=Array.getElem?_eq_getElem Ω;rw[hm]at a;exact p e.on Ω _ d (fun l i m=>r e.on _ d (f e he h) l i m) j a
   ·rw[List.getD_eq_getElem?_getD,rh Ω]at a;simp at a
def abW{m:Nat}{h:dt}:∀{gs:List dt} {i0:Nat},FQ m h i0 gs=true->∀i g,gs[i]? =some g->m.testBit (i0+i)=true\/Bq g h=true
 |[],i0,_,i,g,bd=>by simp at bd
 |b::r,i0,a,0,g,bd=>by simp only[FQ,cO,oo]at a;simp only[List.getElem?_cons_zero,dV]at bd;subst bd;simpa using a.1
 |b::r,i0,a,i+1,g,bd=>by simp only[FQ,cO]at a;have:=abW a.2 i g (by simpa using bd);rwa[show i0+1+i=i0+(i+1)from by omega]at this
def aai:∀{gs pre:List dt} {ms:List Nat},FB pre gs ms=true->∀j h,gs[j]? =some h->∀i g,i<pre.length+j->(pre++gs)[i]? =some g->(ms.getD j 0).testBit i=true\/Bq g h=true
 |[],pre,ms,_,j,h,a,_,_,_,_=>by simp at a
 |c::r,pre,[],b,j,h,a,_,_,_,_=>by simp[FB]at b
 |c::r,pre,m::ms,b,j,h,a,i,g,hi,bd=>by
  simp only[FB,cO]at b;cases j with
  |zero=>simp only[List.getElem?_cons_zero,dV]at a;subst a;rw[r6 Ω]at bd;simpa using abW b.1 i g bd
  |succ j=>have:=aai b.2 j h (by simpa using a) i g d6 (by simpa using bd);simpa using this
def UW:∀{os:List Oper} {k:Nat},DM k os=true->∀i o,os[i]? =some o->∀e∈o.after.toList,Region.binds .any e=true->e.on<k+i
 |[],k,_,i,o,aq,_,_,_=>by simp at aq
 |o'::os,k,h,0,o,aq,e,he,a=>by simp only[DM,cO,j5]at h;simp only[List.getElem?_cons_zero,dV]at aq;subst aq;have:=h.1 e he;simpa[a]using this
 |o'::os,k,h,i+1,o,aq,e,he,a=>by simp only[DM,cO]at h;have:=UW h.2 i o (by simpa using aq) e he a;omega
def Wt{N:Nat}{aS:List (Nat×et)}{ops:List Oper}:∀{gs:List dt} {os:List Oper},ld N aS ops gs os=true->∀(i:Nat) (g:dt),gs[i]? =some g->∃o,os[i]? =some o/\D4 N aS ops g o=true
 |[],[],_,i,g,h=>by simp at h
 |[],_::_,h,_,_,_=>by simp[ld]at h
 |_::_,[],h,_,_,_=>by simp[ld]at h
 |a::gs,o::os,h,0,g,bd=>by simp only[ld,cO]at h;simp only[List.getElem?_cons_zero,dV]at bd;subst bd;exact⟨o,Ψ,h.1⟩
 |a::gs,o::os,h,i+1,g,bd=>by simp only[ld,cO]at h;obtain⟨o',J,U⟩:=Wt h.2 i g (by simpa using bd);exact⟨o',by simpa using J,U⟩
def MQ{N:Nat}{aS:List (Nat×et)}{ops:List Oper}:∀{gs:List dt} {os:List Oper},ld N aS ops gs os=true->gs.length=os.length
 |[],[],_=>rfl
 |[],_::_,h=>by simp[ld]at h
 |_::_,[],h=>by simp[ld]at h
 |g::gs,o::os,h=>by simp only[ld,cO]at h;simp[MQ h.2]
def abF{l:Array Bool}:∀(gs:List dt) (k:Nat),rem l k gs=[]\/ ∃i g,i<gs.length/\gs[i]? =some g/\l.getD (k+i) false=false/\∀j,j<i->l.getD (k+j) false=true
 |[],_=>.inl rfl
 |g::r,k=>by
  by_cases h:l.getD k false=true
  ·rcases abF (l:=l) r (k+1)with J|⟨i,a,J,U,b,d⟩
   ·left;simp only[rem,h,if_true,J]
   ·refine .inr ⟨i+1,a,by simp;omega,by simpa using U,by rw[show k+(i+1)=k+1+i from by omega];exact b,fun j c=>?_⟩;cases j with
    |zero=>simpa using h
    |succ j=>rw[show k+(j+1)=k+1+j from by omega];exact d j Ω
  ·exact .inr ⟨0,g,Ψ,Ψ,by simpa using h,fun j c=>Ω⟩
def aeo{P:cG}{aS:List (Nat×et)}(aL:hR P aS=true){C:fj}{q:Bool}{n0:Nat}{ops:Array Oper}{gs:List dt}(H:ld C.N aS ops.toList gs ops.toList=true)(S:Dv gs ops.toList=true){K:dD->Prop}{Q:Exit->Act->World->Prop}
  (V:∀A a w,K A->yV C A a w->Q .normal a w):∀(fuel:Nat) (b:Array Bool) (A:dD) (a:Act) (w:World),b.size=ops.size->RC ops b->(rem b 0 gs).length<=fuel->xk P q n0 K (rem b 0 gs) A->yV C A a w->wpAny P .any ops Q fuel b a w:=by
 simp only[Dv,cO]at S;obtain⟨M0,u⟩:=S;have hlen:gs.length=ops.size:=by simpa using MQ H
 have R:∀(b:Array Bool) (A:dD) (a:Act) (w:World),b.size=ops.size->xk P q n0 K (rem b 0 gs) A->yV C A a w->Region.ready .any ops b=[]->Q .normal a w:=by
  intro b A a w m d j p;rcases abF (l:=b) gs 0 with h|⟨i,g,J,U,c,Z⟩
  ·rw[h]at d;exact V A a w d j
  ·exfalso;have hi:i<ops.size:=Ω
   have L:i∈Region.ready .any ops b:=by
    unfold Region.ready;simp only[oq,List.mem_range,cO,r4];refine⟨hi,?_,?_⟩
    ·rw[Nat.zero_add]at c;simp only[vz]at c⊢;rw[Array.getElem?_eq_getElem Ω]at c⊢;simpa using c
    ·rw[Array.getElem?_eq_getElem hi];simp only[pN,ma];rw[<-Array.all_toList,j5];intro e he;by_cases f:Region.binds .any e=true
     ·have bO:=UW M0 i ops[i] (by simp[hi]) e he f;have:=Z e.on Ω;rw[Nat.zero_add]at this;simp[this]
     ·simp[f]
   rw[p]at L;simp at L
 intro fuel;induction fuel with
 |zero=>
  intro b A a w m z B d j;have H6:rem b 0 gs=[]:=List.eq_nil_of_length_eq_zero Ω;have p:Region.ready .any ops b=[]:=by
   rw[List.eq_nil_iff_forall_not_mem];intro i hi;unfold Region.ready at hi;simp only[oq,List.mem_range,cO,r4]at hi;obtain⟨J,U,_⟩:=hi;have r:b.getD i false=false:=by simp only[vz]at U⊢;rw[Array.getElem?_eq_getElem Ω]at U⊢;simpa using U
   obtain⟨G,F,g,_,n,_⟩:=Qd Ω r gs 0 Ω Ω;rw[H6]at n;simp at n
  exact⟨p,R b A a w m d j p⟩
 |succ fuel X=>
  intro b A a w m z B d j;refine⟨R b A a w m d j,fun i hi=>?_⟩;unfold Region.ready at hi;simp only[oq,List.mem_range,cO,r4]at hi;obtain⟨J,U,c⟩:=hi;have r:b.getD i false=false:=by simp only[vz]at U⊢;rw[Array.getElem?_eq_getElem Ω]at U⊢;simpa using U
  have aq:ops[i]? =some ops[i]:=Array.getElem?_eq_getElem J;have O:∀e∈ops[i].after.toList,Region.binds .any e=true->b.getD e.on false=true:=by rw[aq]at c;simp only[pN,ma]at c;rw[<-Array.all_toList,j5]at c;intro e he f;simpa[f]using c e he
  obtain⟨G,F,g,t,n,M,N⟩:=Qd Ω r gs 0 Ω Ω;simp only[Nat.sub_zero]at t N;rw[n]at d;obtain⟨x,Y,v⟩:=Sf G F A (fun y aI=>by
   obtain⟨f1,f2,f3,f4⟩:=N y aI;rcases aai u i g t y.1 y.2 (by simpa using f3) (by simpa using f1)with h|h
   ·have:=am1 z i ops[i] aq O y.1 h;rw[f4]at this;cases this
   ·exact h) d
  obtain⟨o',g1,g2⟩:=Wt H i g t;have:o'=ops[i]:=by rw[vA,aq]at g1;exact(eZ g1).symm
  subst this;refine adX aL aq g2 Y j fun bp w' W=>?_;refine X (b.setIfInBounds i true) (A.do x) bp w' (by simpa using m) ?_ ?_ (by rw[M];exact v) W
  ·intro k o ad s e he f;rw[HJ Ω]at s⊢;split
   ·rfl
   ·by_cases E:i=k
    ·subst E;rw[aq]at ad;cases ad;exact O e he f
    ·rw[if_neg E]at s;exact z k o ad s e he f
  ·rw[M];rw[n]at B;simp at B⊢;omega
def qJ(n0 d:Nat)(st:bo):Prop:= .loc (n0+d)∉st.o/\ae (.loc (n0+d)) st.b=none/\ae (.loc (n0+d)) st.e=none
def gP.loadO(q:Bool)(t:List (Nat×af)):gP->Prop
 | .load _ _ x=>q=true\/zQ (cD t x)=true
 | .loadB _ _ _=>True
 | .mgetB _ _ _ _ _=>True
 | .mget _ _ _ _ _=>q=true
 | .ment _=>q=true
 | .mlen _=>q=true
 |_=>True
def nl(q:Bool)(nw:List Nat)(n0:Nat)(st:bo):e0->Prop
 | .v _ i=>i.loadO q st.t
 | .box d none _=>qJ n0 d st
 | .alloc d none _=>qJ n0 d st
 | .box _ (some _) _=>eb
 | .alloc _ (some _) _=>eb
 | .store _ x _=>match cD st.t x with| .ptr _ _=>True|_=>eb
 | .bslm _ _ _ _ _=>eb
 | .mks _ _ _ _ _ _=>eb
 | .appm _ _ _ _ x _=>match cD st.t x with| .row _ _ _=>True|_=>eb
 | .storeE _ _ _=>True
 | .mkmap _ none=>eb
 | .mkmap _ (some m)=>m∈nw/\ae (.obj m) st.b=none/\ae (.obj m) st.e=none
 | .mput _ _ _ _=>True
 | .range _ _ _=>eb
 | .bsl d _ _ _=>qJ n0 d st
 | .app d _ _ x _=>match cD st.t x with
  | .slice _ .nil _=>qJ n0 d st
  | .slice _ (.own k) _=>(ae k st.e).bind (·.xs)=none
  |_=>True
def qE(n0:Nat):e0->aB
 | .mkmap _ (some m)=>.obj m
 | .v d _| .box d _ _| .alloc d _ _| .bsl d _ _ _| .app d _ _ _ _| .bslm d _ _ _ _| .appm d _ _ _ _ _| .mkmap d _| .range d _ _| .mks d _ _ _ _ _=>.loc (n0+d)
 | .store _ _ _| .mput _ _ _ _| .storeE _ _ _=>.loc n0
def amw(nw:List Nat)(st:bo)(s a:cT)(rm:Option aB):Prop:=(∀k,(ae k a.b).isSome->(ae k s.b).isSome\/rm=some k)/\(∀k,(ae k a.e).isSome->(ae k s.e).isSome\/rm=some k)/\(∀k,(ae k s.b).isSome->(ae k a.b).isSome)/\(∀k,(ae k s.e).isSome->(ae k a.e).isSome)/\
 (∀k,rm=some k->(∃j,j∈nw/\k= .obj j)/\ae k st.b=none/\ae k st.e=none/\((ae k a.b).isSome\/(ae k a.e).isSome))
def hJ(P:cG)(q:Bool)(nw:List Nat)(n:Nat)(args:List af)(st:bo)(d:Option Nat)(K:bo->Prop):Prop:=
 (∃cX r,d=some cX/\qJ st.n cX st/\aH (fun _=>eb) args/\uv P n (st.n+cX) args ⟨[],[]⟩ (fun b t'=>b=r/\t'=⟨[],[]⟩)/\K {st with t:=put cX r st.t,o:= .loc (st.n+cX)::st.o})\/
 ∃s a r rm,hA (aM s) s.b st.b/\qo (aM s) s.e st.e/\hP s/\hP a/\amw nw st s a rm/\aH (aM s) args/\bE P n args s (fun b t'=>b=r/\t'=a)/\(q=true->a.b=[]/\a.e=[])/\K {after st s a d r with o:=st.o}
def lb(P:cG)(q:Bool)(nw:List Nat)(n0:Nat)(st:bo)(K:bo->Prop):eT->Prop
 | .s i=>match fs (qE n0 i) st.n (qE n0 i::st.o) st i with
  |some (c,st')=>nl q nw n0 st i/\c/\K st'
  |none=>eb
 | .call d f xs=>match cD st.t f with
  | .func n dH=>hJ P q nw n (b9 (xs.map (cD st.t)++dH)) st d K
  |_=>eb
 | .next _ _=>eb
def iP(P:cG)(q:Bool)(nw:List Nat)(n0:Nat):List dt->bo->(bo->Prop)->Prop
 |[],st,K=>K st
 |⟨none,i⟩::r,st,K=>lb P q nw n0 st (fun st'=>iP P q nw n0 r st' K) i
 |⟨some (s,want),i⟩::r,st,K=>match get s st.t with
  | .bool b=>(b=want->lb P q nw n0 {st with t:=put s (.bool want) st.t} (fun st'=>iP P q nw n0 r st' K) i)/\(b= !want->iP P q nw n0 r {st with t:=e9 i.dst (.tuple []) (put s (.bool !want) st.t)} K)
  | .tuple []=>iP P q nw n0 r {st with t:=e9 i.dst (.tuple []) st.t} K
  |_=>eb
structure uu (nw:List Nat) (n0 N:Nat) (q2:List aB) (st:bo) (A:dD):Prop where
 like:mA st A
 n:st.n=n0
 F:∀k,fresh n0 st.o k->(∀j∈nw,k≠ .obj j)->A.F k
 o:∀k∈st.o,k∈q2\/(∃d,d<N/\k= .loc (n0+d))\/ ∃j∈nw,k= .obj j
def Dn(nw:List Nat)(A:dD):Prop:= ∀j∈nw,A.b (.obj j)=none->A.e (.obj j)=none->A.F (.obj j)
def Dn.do{P:cG}{q:Bool}{n0:Nat}{nw:List Nat}{A:dD}(h:Dn nw A){g:dt}{x:lL}(k:lM P q n0 g A x):Dn nw (A.do x):=by
 intro j i c he;refine⟨h j i (L2 c) (L3 he),fun f=>?_⟩;rcases(Q4 k).r _ f with⟨d,_,e⟩|⟨_,_,a⟩
 ·cases e
 ·rcases a with a|a
  ·obtain⟨y,b⟩:=fy.1 a;simp[dD.do,ju,b]at c
  ·obtain⟨y,b⟩:=fy.1 a;simp[dD.do,ju,b]at he
def U8{P:cG}{q:Bool}{nw:List Nat}{n0 N:Nat}{q2:List aB}{i:eT}(E:∀d,i.dst=some d->d<N){st:bo}{A:dD}(h:uu nw n0 N q2 st A)(nm:Dn nw A){K:bo->Prop}(he:lb P q nw n0 st K i):∃x st',e4 P q n0 i A x/\K st'/\uu nw n0 N q2 st' (A.do x):=by
 have a:=h.like;have O:∀d,qJ n0 d st->(A.F (.loc (n0+d))/\A.b (.loc (n0+d))=none/\A.e (.loc (n0+d))=none):=fun d t=>⟨h.F _ ⟨Ψ,t.1⟩ (fun _ _ e=>by cases e),by rw[<-a.b];exact t.2.1,by rw[<-a.e];exact t.2.2⟩;have G:∀(d:Option Nat) (p:af) (bw:List (aB×List af)) (ew:List (aB×dT)) (κ:aB),∀k,fresh n0 (κ::st.o) k->(∀j∈nw,k≠ .obj j)->(A.do ⟨d,p,bw,ew,some κ⟩).F k:=fun d p bw ew κ k ad w=>⟨h.F k (xu k ad).1 w,fun e=>(xu k ad).2 (eZ e).symm⟩;have F:∀(d:Option Nat) (p:af) (bw:List (aB×List af)) (ew:List (aB×dT)),∀k,fresh n0 st.o k->(∀j∈nw,k≠ .obj j)->(A.do ⟨d,p,bw,ew,none⟩).F k:=fun d p bw ew k ad w=>⟨h.F k ad w,Ψ⟩;have Q:∀d,d<N->∀k∈aB.loc (n0+d)::st.o,k∈q2\/(∃d,d<N/\k= .loc (n0+d))\/ ∃j∈nw,k= .obj j:=fun d E k ad=>by
  rcases gJ.1 ad with rfl|ad
  ·exact .inr (.inl ⟨d,E,rfl⟩)
  ·exact h.o k ad
 cases i with
 |s i=>
  cases i with
  |v d i=>
   simp only[lb,fs]at he;cases g:hZ st i with
   |none=>simp[g]at he
   |some LZ=>
    obtain⟨c,p⟩:=LZ;simp only[g]at he;obtain⟨J,U,b⟩:=he;refine⟨⟨some d,p,[],[],none⟩,_,⟨c,p,by rw[<-acY a];exact g,U,fun pk=>?_,rfl⟩,b,OC a d p,h.n,F _ _ _ _,h.o⟩;cases i<;>simp only[gP.isLoad]at pk<;>try(cases pk;done)
    case mget=>exact .inr (.inl J)
    case ment=>exact .inr (.inl J)
    case mlen=>exact .inr (.inl J)
    case loadB=>exact .inl rfl
    case mgetB=>exact .inl rfl
    simp only[nl,gP.loadO,jH a]at J;exact .inr (by simpa only[gP.ptrOf]using J)
  |box d key v=>
   cases key with
   |some m=>simp only[lb,fs,nl,false_and]at he
   |none=>simp only[lb,fs,nl,qE]at he;obtain⟨J,U,b⟩:=he;rw[jH a]at U;refine⟨_,_,⟨O d J,U,rfl⟩,b,?_,h.n,G _ _ _ _ _,Q d (E d rfl)⟩;rw[jH a];exact Cd a d _ _ _ _ _ _
  |alloc d key z=>
   cases key with
   |some m=>simp only[lb,fs,nl,false_and]at he
   |none=>simp only[lb,fs,nl,qE]at he;obtain⟨J,U,b⟩:=he;exact⟨_,_,⟨O d J,rfl⟩,b,Cd a d _ _ _ _ _ _,h.n,G _ _ _ _ _,Q d (E d rfl)⟩
  |store sz u v=>
   simp only[lb,fs]at he;cases hu:cD st.t u with
   |ptr k off=>
    cases B:ae k st.b with
    |none=>simp[hu,B]at he
    |some cs=>simp only[hu,B]at he;obtain⟨J,U,b⟩:=he;rw[jH a]at U hu;refine⟨⟨none,.junk,[(k,nI cs off (cells (dY A.t v)))],[],none⟩,_,⟨k,off,cs,hu,by rw[<-a.b];exact B,U,rfl⟩,b,?_,h.n,F _ _ _ _,h.o⟩;rw[jH a];exact IT a k _ _
   |_=>
    exfalso;simp only[hu]at he;split at he
    ·have:=he.1;simp[nl,hu]at this
    ·exact he
  |bsl d sz el xs=>simp only[lb,fs,nl,qE]at he;obtain⟨J,U,b⟩:=he;rw[v7 a]at U;refine⟨_,_,⟨O d J,U,rfl⟩,b,?_,h.n,G _ _ _ _ _,Q d (E d rfl)⟩;rw[v7 a];exact x9 a d _ _ _ _ _ _
  |app d sz el u v=>
   simp only[lb,fs]at he;cases hu:cD st.t u with
   |slice H tag xs=>
    cases g:cD st.t v with
    |slice Y X ys=>
     simp only[hu,g]at he;by_cases R:H=sz/\Y=sz
     ·obtain⟨rfl,rfl⟩:=R;rw[jH a]at hu g;cases tag with
      |no=>simp at he
      |tr k j=>simp at he
      |lo k=>simp at he
      |nil=>simp only[and_self,if_true,nl,jH a,hu,qE]at he;obtain⟨J,U,b⟩:=he;exact⟨_,_,⟨.nil,xs,X,ys,hu,g,.inr ⟨rfl,U,O d J,rfl⟩⟩,b,x9 a d _ _ _ _ _ _,h.n,G _ _ _ _ _,Q d (E d rfl)⟩
      |own k=>
       cases ad:ae k st.e with
       |none=>simp[ad]at he
       |some o=>simp only[and_self,if_true,ad]at he;obtain⟨J,U,b⟩:=he;exact⟨_,_,⟨.own k,xs,X,ys,hu,g,.inl ⟨k,o,rfl,by rw[<-a.e];exact ad,⟨by simpa[nl,jH a,hu,ad]using J,U⟩,rfl⟩⟩,b,x9 a d _ _ _ _ _ _,h.n,F _ _ _ _,h.o⟩
     ·simp[R]at he
    |_=>simp[hu,g]at he
   |_=>simp[hu]at he
  |bslm d key sz el xs=>simp only[lb,fs,nl,false_and]at he
  |mks d key sz el z x=>simp only[lb,fs,nl,false_and]at he;split at he<;>simp at he
  |appm d key sz el u v=>
   simp only[lb,fs]at he;cases hu:cD st.t u with
   |row H k n=>
    cases g:cD st.t v with
    |slice Y X ys=>
     simp only[hu,g,uC]at he;by_cases R:H=sz/\Y=sz
     ·obtain⟨rfl,rfl⟩:=R;rw[jH a]at hu g;simp only[and_self,if_true]at he;cases ad:ae k st.e with
      |none=>simp[ad]at he
      |some o=>
       obtain⟨n',gK,M,PC⟩:=o;cases PC with
       |none=>simp[ad]at he
       |some xs=>
        simp only[ad]at he;by_cases L:n'=n/\gK=el/\M=Y
        ·obtain⟨rfl,rfl,rfl⟩:=L;simp only[and_self,if_true]at he;obtain⟨J,U,b⟩:=he;exact⟨_,_,⟨k,n',xs,X,ys,hu,g,by rw[<-a.e];exact ad,U,rfl⟩,b,x9 a d _ _ _ _ _ _,h.n,F _ _ _ _,h.o⟩
        ·simp[L]at he
     ·simp[R]at he
    |_=>simp[hu,g,uC]at he
   |slice H tag xs=>
    exfalso;simp only[hu]at he;split at he
    ·have:=he.1;simp[nl,hu]at this
    ·exact he
   |_=>simp[hu,uC]at he
  |storeE sz u v=>
   simp only[lb,fs]at he;cases hu:cD st.t u with
   |rptr H k n i f=>
    cases ad:ae k st.e with
    |none=>simp[hu,sP,ad]at he
    |some o=>
     obtain⟨n',el,M,PC⟩:=o;cases PC with
     |none=>simp[hu,sP,ad]at he
     |some xs=>
      simp only[hu,sP,ad]at he;by_cases L:n'=n/\M=H
      ·obtain⟨rfl,rfl⟩:=L;simp only[and_self,if_true]at he;cases bK:xs[i]? with
       |none=>simp[bK]at he
       |some q=>simp only[bK]at he;obtain⟨J,U,b⟩:=he;rw[jH a]at U hu;refine⟨⟨none,.junk,[],[(k,⟨n',el,M,some (xs.set i (oi q f (cells (dY A.t v))))⟩)],none⟩,_,⟨k,n',i,f,el,M,xs,q,hu,by rw[<-a.e];exact ad,bK,U,rfl⟩,b,?_,h.n,F _ _ _ _,h.o⟩;rw[jH a];exact YM a k _ _
      ·simp[L]at he
   |_=>simp[hu,sP]at he
  |mkmap d key=>
   cases key with
   |none=>simp only[lb,fs,nl,false_and]at he
   |some m=>
    simp only[lb,fs,nl,qE]at he;obtain⟨⟨bA,J,U⟩,_,b⟩:=he;rw[a.b]at J;rw[a.e]at U;refine⟨_,_,⟨⟨nm m bA J U,J,U⟩,rfl⟩,b,Cd a d _ _ _ _ _ _,h.n,G _ _ _ _ _,fun k ad=>?_⟩;rcases gJ.1 ad with rfl|ad
    ·exact .inr (.inr ⟨m,bA,rfl⟩)
    ·exact h.o k ad
  |mput cz u k v=>
   simp only[lb,fs,nl]at he;cases hu:cD st.t u with
   |gmap m=>
    cases B:ae m st.b with
    |none=>simp[hu,B]at he
    |some cs=>
     cases hm:q1 cz (cD st.t k) (cD st.t v) cs with
     |none=>simp[hu,B,hm]at he
     |some cs'=>simp only[hu,B,hm]at he;rw[jH a]at hu;rw[jH a,jH a]at hm;exact⟨⟨none,.junk,[(m,cs')],[],none⟩,_,⟨m,cs,cs',hu,by rw[<-a.b];exact B,hm,rfl⟩,he.2.2,IT a m _ _,h.n,F _ _ _ _,h.o⟩
   |_=>simp[hu]at he
  |range d key x=>simp only[lb,nl,false_and]at he;split at he<;>exact he.elim
 |next d x=>simp only[lb]at he
 |call d f xs=>
  simp only[lb]at he;cases t:cD st.t f with
  |func n dH=>
   simp only[t]at he;rw[jH a]at t;rcases he with⟨cX,r,rfl,bP,S,di,h5⟩|⟨s,W,r,rm,bP,S,di,h5,nj,qC,DC,aeR,aeS⟩
   ·rw[v7 a]at S di;have V:=h.n;subst V;refine⟨⟨some cX,r,[],[],some (.loc (st.n+cX))⟩,_,⟨n,dH,t,.inr ⟨cX,r,rfl,O cX bP,S,di,rfl⟩⟩,h5,YN a cX r _ _,rfl,G _ _ _ _ _,Q cX (E cX rfl)⟩
   rw[v7 a]at qC DC;obtain⟨a7,bD,b7,ea,Z⟩:=nj;refine⟨⟨d,r,W.b,W.e,rm⟩,_,⟨n,dH,t,.inl ⟨⟨s,W,r,rm,fun k cs ad=>⟨by rw[<-a.b];exact(bP k cs ad).1,(bP k cs ad).2.2⟩,fun k o ad=>⟨by rw[<-a.e];exact(S k o ad).1,(S k o ad).2.2⟩,di,h5,⟨a7,bD,b7,ea,fun k ad=>?_⟩,qC,DC,rfl⟩,aeR⟩⟩,aeS,⟨fun i=>?_,fun k=>?_,fun k=>?_⟩,h.n,fun k ad w=>⟨h.F k ad w,fun ss=>?_⟩,h.o⟩
   ·obtain⟨⟨j,w,rfl⟩,aC,bg,b4⟩:=Z k ad;rw[a.b]at aC;rw[a.e]at bg;exact⟨⟨j,rfl⟩,nm j w aC bg,aC,bg,b4⟩
   ·simp only[after,dD.do];cases d with
    |none=>simpa[e9]using a.t i
    |some d=>simp only[e9,qK,dV,a.t]
   ·simp only[after,dD.do,ju,oa,tQ];by_cases l:(ae k s.b).isSome
    ·have:=b7 k l;obtain⟨y,aI⟩:=fy.1 this;simp[l,aI]
    ·cases V:ae k W.b with
     |none=>simp only[l,a.b];cases A.b k<;>simp
     |some y=>
      rcases a7 k (by simp[V])with h|h
      ·exact absurd h l
      ·have:=Z k h;simp[l,this]
   ·simp only[after,dD.do,ju,oa,tQ];by_cases l:(ae k s.e).isSome
    ·have:=ea k l;obtain⟨y,aI⟩:=fy.1 this;simp[l,aI]
    ·cases V:ae k W.e with
     |none=>simp only[l,a.e];cases A.e k<;>simp
     |some y=>
      rcases bD k (by simp[V])with h|h
      ·exact absurd h l
      ·have:=Z k h;simp[l,this]
   ·obtain⟨⟨j,ko,rfl⟩,_⟩:=Z k ss;exact w j ko rfl
  |_=>simp[t]at he
def Ba(N:Nat):List dt->Bool
 |[]=>true
 |g::r=>j8 N g.i.dst&&Ba N r
def AL:Nat->List dt->List (Nat×dt)
 |_,[]=>[]
 |k,g::r=>(k,g)::AL (k+1) r
def RU{nw:List Nat}{n0 N:Nat}{a:List aB}{st:bo}{A:dD}(h:uu nw n0 N a st A){s:Nat}{p:af}(b:get s st.t=p):uu nw n0 N a {st with t:=put s p st.t} A:=by
 refine⟨⟨fun i=>?_,h.like.b,h.like.e⟩,h.n,h.F,h.o⟩;simp only[qK];split
 ·rename_i e;subst e;rw[<-b];exact h.like.t _
 ·exact h.like.t i
def RV{nw:List Nat}{n0 N:Nat}{a:List aB}{st:bo}{A:dD}(h:uu nw n0 N a st A)(d:Option Nat):uu nw n0 N a {st with t:=e9 d (.tuple []) st.t} (A.do (mr d)):=by
 refine⟨⟨fun i=>?_,fun k=>?_,fun k=>?_⟩,h.n,fun k ad b=>⟨h.F k ad b,by simp[mr]⟩,h.o⟩
 ·simp only[dD.do,mr];cases d with
  |none=>simpa[e9]using h.like.t i
  |some d=>simp only[e9,qK,dV,h.like.t]
 ·simpa[dD.do,ju,ae,mr]using h.like.b k
 ·simpa[dD.do,ju,ae,mr]using h.like.e k
def DQ{P:cG}{q:Bool}{nw:List Nat}{n0 N:Nat}{l:List aB}{K:bo->Prop}:∀(gs:List dt) (k:Nat),Ba N gs=true->∀(st:bo) (A:dD),uu nw n0 N l st A->Dn nw A->iP P q nw n0 gs st K->xk P q n0 (fun n=> ∃st',K st'/\uu nw n0 N l st' n) (AL k gs) A
 |[],k,_,st,A,h,_,he=>⟨st,he,h⟩
 |⟨m,i⟩::r,k,f,st,A,h,a,he=>by
  simp only[Ba,cO]at f;have j:∀d,i.dst=some d->d<N:=fun d e=>by have:=f.1;rw[e]at this;simpa[j8]using this
  simp only[AL,xk];cases m with
  |none=>simp only[iP]at he;obtain⟨x,st',J,U,g⟩:=U8 j h a he;have bd:lM P q n0 ⟨none,i⟩ A x:=J;exact⟨x,bd,DQ r (k+1) f.2 st' _ g (a.do bd) U⟩
  |some p=>
   obtain⟨s,want⟩:=p;simp only[iP]at he;split at he
   ·rename_i b c;by_cases e:b=want
    ·subst e;obtain⟨x,st',J,U,g⟩:=U8 j (RU h c) a (he.1 rfl);have bd:lM P q n0 ⟨some (s,b),i⟩ A x:=by unfold lM;simp only[<-h.like.t,c];exact .inl ⟨trivial,J⟩
     exact⟨x,bd,DQ r (k+1) f.2 st' _ g (a.do bd) U⟩
    ·have o:b= !want:=by cases b<;>cases want<;>simp at e⊢
     subst o;have bd:lM P q n0 ⟨some (s,want),i⟩ A (mr i.dst):=by unfold lM;simp only[<-h.like.t,c];exact .inr ⟨trivial,trivial⟩
     exact⟨mr i.dst,bd,DQ r (k+1) f.2 _ _ (RV (RU h c) i.dst) (a.do bd) (he.2 rfl)⟩
   ·rename_i c;have bd:lM P q n0 ⟨some (s,want),i⟩ A (mr i.dst):=by unfold lM;simp only[<-h.like.t,c]
    exact⟨mr i.dst,bd,DQ r (k+1) f.2 _ _ (RV h i.dst) (a.do bd) he⟩
   ·exact he.elim
def Qc:∀(gs:List dt) (l:Array Bool) (k:Nat),(∀j,l.getD j false=false)->rem l k gs=AL k gs
 |[],_,_,_=>rfl
 |g::r,l,k,h=>by simp only[rem,h k,AL,Qc r l (k+1) h];simp
def vF(n:Nat)(o:List aB)(K:bo->Prop)(st:bo):Prop:=K {st with n:=n,o:=o}
def Good.like{pr:Nat->Prop}{w:World}{ν:bc}{b b0:List (aB×List af)}{e d:List (aB×dT)}(h:Good pr w ν b e)(a:∀k,ae k b0=ae k b)(he:∀k,ae k d=ae k e):Good pr w ν b0 d:=
 ⟨h.alt,fun k cs ad=>h.box k cs (by rw[<-a];exact ad),fun k bs bl J U=>h.inj k bs bl (by rw[<-a];exact J) (by rw[<-a];exact U),fun g o bd=>h.own g o (by rw[<-he];exact bd),
  fun g f n n' v v' bl J U=>h.oinj g f n n' v v' bl (by rw[<-he];exact J) (by rw[<-he];exact U),fun g k n v bl J U=>h.obx g k n v bl (by rw[<-he];exact J) (by rw[<-a];exact U),h.one,
  fun bl i=>h.otr bl (i.imp (fun⟨k,c,a2⟩=>⟨k,by rw[<-a];exact c,a2⟩) (fun⟨g,n,v,c,a2⟩=>⟨g,n,v,by rw[<-he];exact c,a2⟩))⟩
def Va{P:cG}(hm:P.follows .mixedOrders=true){aS:List (Nat×et)}(H:hR P aS=true){C:fj}{q:Bool}{nw:List Nat}{id:Nat}{ops:Array Oper}{gs:List dt}(t:ld C.N aS ops.toList gs ops.toList=true)(L:Dv gs ops.toList=true)(B:Ba C.N gs=true)
  {K:bo->Prop} {Q:Exit->Act->World->Prop} (z:∀st' bp w' bm,K st'->c9 C st' bp w' bm->Q .normal bp w') {st:bo} {a:Act} {w:World} {ν:bc} (p:∀j∈nw,.obj j∉st.o) (he:iP P q nw st.n gs st (vF (st.n+C.N) (nw.map aB.obj++st.o) K)) (J:c9 C st a w ν):(Code.region id ops true).wp P Q a w:=by
 refine wp_region_any hm ?_;have E:c9 C st a {w with drawn:=w.drawn+1} ν:=J.drawn _;let A:dD:=⟨fun i=>get i st.t,fun k=>ae k st.b,fun k=>ae k st.e,fresh st.n st.o⟩
 have s:uu nw st.n C.N st.o st A:=⟨⟨fun _=>rfl,fun _=>rfl,fun _=>rfl⟩,rfl,fun k ad _=>ad,fun k ad=>.inl ad⟩;have x:=DQ gs 0 B st A s (fun j l _ _=>⟨trivial,p j l⟩) he;have n:∀j,(sW ops.size false).getD j false=false:=fun j=>by simp[vz,Array.getElem?_replicate];split<;>rfl
 refine aeo H t L (q:=q) (n0:=st.n) (K:=fun u=> ∃st',vF (st.n+C.N) (nw.map aB.obj++st.o) K st'/\uu nw st.n C.N st.o st' u) ?_ ops.size _ A a _ Ψ ?_ ?_ (by rw[Qc gs _ 0 n];exact x) ⟨st,ν,s.like,fun k ad=>ad,E⟩
 ·rintro u bp w' ⟨st',ad,f⟩ ⟨G,bm,m,M,b⟩;refine z _ bp w' bm ad ⟨b.good.like (fun k=>by rw[m.b,<-f.like.b]) (fun k=>by rw[m.e,<-f.like.e]),b.fr,b.defers,b.size,fun i=>?_,fun k c=>?_⟩
  ·have:=b.slot i;rw[m.t,<-f.like.t]at this;exact this
  ·refine b.new k (M k (f.F k ?_ fun j l e=>c.2 (by subst e;exact List.mem_append_left _ (List.mem_map_of_mem l))));simp only at c;refine⟨(MF (Nat.le_add_right st.n C.N) (fun _ h=>h) c).1,fun y=>?_⟩;rcases f.o k y with h|⟨d,N,rfl⟩|⟨j,l,rfl⟩;rotate_left 2
   ·exact c.2 (List.mem_append_left _ (List.mem_map_of_mem l))
   ·exact c.2 (List.mem_append_right _ h)
   ·have:=c.1;simp at this;omega
 ·intro k o ad v;rw[n]at v;cases v
 ·rw[Qc gs _ 0 n];have:∀(gs:List dt) k,(AL k gs).length=gs.length:=by
   intro gs;induction gs with
   |nil=>intro k;rfl
   |cons g r F=>intro k;simp[AL,F]
  rw[this];have:=MQ t;simp at this;omega
def eM:List af->Prop
 |[]=>True
 |p::a=>(match p with| .slice _ _ xs=>xs.length<=lim| .str s=>s.length<=lim|_=>True)/\eM a
def eU:af->Prop
 | .slice _ _ xs=>xs.length<=lim
 | .str s=>s.length<=lim
 | .agg cs=>eM cs
 |_=>True
def eK:List af->Prop
 |[]=>True
 |p::r=>eU p/\eK r
def Qi{w:World}{ν:bc}:∀{cs:List af} {us:List Value},cW w ν cs us->eM cs
 |[],_,_=>trivial
 |c::cs,us,h=>by
  simp only[cW]at h;obtain⟨u,e,_,J,U⟩:=h;refine⟨?_,Qi U⟩;cases c<;>simp only<;>have b:=J.1<;>simp only[aU]at b
  ·exact b.2
  ·obtain⟨⟨a,cap,_,_,d,_⟩,_⟩:=b;exact d.2
def Qf{w:World}{ν:bc}{cs:List af}{us:List Value}(h:k4 w ν cs us):gZ cs=true->eM cs:=fun a=>by rw[pA a]at h;exact Qi h
def abS{w:World}{ν:bc}{p:af}{v:Value}(h:aU w ν p v):eU p:=by
 cases p<;>simp only[eU]<;>simp only[aU]at h
 ·exact h.2
 ·obtain⟨⟨a,cap,_,_,b,_⟩,_⟩:=h;exact b.2
 ·obtain⟨us,_,U⟩:=h;exact Qi U
def JX{w:World}{ν:bc}:∀{cs:List af} {us:List Value},cZ w ν cs us->eK cs
 |[],_,_=>trivial
 |c::cs,us,h=>by simp only[cZ]at h;obtain⟨u,a,_,J,U⟩:=h;exact⟨abS J,JX U⟩
inductive C where
 |skip
 |region (gs:List dt)
 |drawn (q:Bool) (N:Nat) (gs:List dt)
 |drawnW (nw:List Nat) (N:Nat) (gs:List dt)
 |seq (a b:C)
 |cond (x:dR) (t e:C)
 |block (id:Nat) (c:C)
 |loop (c:C)
 |exit (id:Nat)
 |ret
 |pub (s:Nat) (c:C)
 |pubB (s:Nat) (c:C)
 |fg (qV:Bool) (s:Nat) (c:C)
 |fz (agg:Bool) (s:Nat) (c:C)
 |no
def FE(st:bo):af->Option (af×List (aB×dT))
 | .row sz k n=>match ae k st.e with
  |some ⟨n',el,a,some xs⟩=>if n'=n/\a=sz then some (.slice sz (.own k) xs,cL k ⟨n,el,sz,none⟩ st.e)else none
  |_=>none
 |_=>none
def yo(st:bo)(s:Nat):Option bo:=
 match FE st (get s st.t)with
 |some (p,e)=>some {st with t:=put s p st.t,e:=e}
 |none=>none
def yn(st:bo)(s:Nat):Option bo:=
 match get (s%1000) st.t with
 | .ptr k off=>match ae k st.b with
  |some cs=>match cs[off+s/1000]? with
   |some p=>match FE st p with
    |some (a,e)=>if gZ cs then some {st with b:=cL k (cs.set (off+s/1000) a) st.b,e:=e}else none
    |none=>none
   |none=>none
  |none=>none
 |_=>none
def JR{C:fj}{st:bo}{a:Act}{w:World}{ν:bc}(h:c9 C st a w ν){s:Nat}{p:af}(b:aU w ν p (a.tmps.getD s undef)):c9 C {st with t:=put s p st.t} a w ν:=by
 refine⟨h.good,h.fr,h.defers,h.size,fun i=>?_,h.new⟩;have:=h.slot i;simp only[qK];split
 ·rename_i e;subst e;exact b
 ·exact this
def aao{C:fj}{st:bo}{a:Act}{w:World}{ν:bc}(h:c9 C st a w ν){p f:af}{e:List (aB×dT)}{v:Value}(l:aU w ν p v)(he:FE st p=some (f,e)):
  ∃bm,c9 C {st with e:=e} a w bm/\aU w bm f v/\mB w ν w bm:=by
 unfold FE at he;split at he
 ·rename_i sz k n;split at he
  ·rename_i n' el z xs ad;split at he
   ·rename_i ay;obtain⟨rfl,rfl⟩:=ay;cases he;simp only[aU]at l;obtain⟨_,r,n0,u,J,U,s⟩:=l;obtain⟨v0,y,d,B,A,m⟩:=h.good.own k _ ad;rw[J]at d;simp only[dV,jo]at d;obtain⟨rfl,rfl⟩:=d;have x:v=u:=s rfl;subst x;obtain⟨i,_,_⟩:=m xs rfl;simp only at i;obtain⟨g1,g2⟩:=h.publish ad rfl J (by rw[i];exact r);refine⟨_,g1,g2,⟨fun b o q=>⟨.inl q,rfl⟩,fun j b _ t=>t,fun g n u _ c=>⟨n,u,?_,.inl ⟨rfl,rfl⟩⟩,fun _ _ _=>rfl,fun _ _ _ _ h=>h⟩⟩;simp only[bc.withRowOf];split
    ·rename_i e;subst e;rw[J]at c;exact c
    ·exact c
   ·cases he
  ·cases he
 ·cases he
def Bn(a:Bool):af->af
 | .slice sz tag xs=>.slice sz (if a then tag else .no) (b9 xs)
 |p=>b3 p
def aiQ{w:World}{ν:bc}{a:Bool}{p:af}{v:Value}(h:aU w ν p v):aU w ν (Bn a p) v:=by
 have J:=lC p v h;cases p with
 |slice sz tag xs=>
  simp only[Bn];cases a with
  |false=>simpa only[hU,if_false,b3]using J
  |true=>
   simp only[if_true];simp only[aU,b3]at h J⊢;refine⟨J.1,fun e=>h.2.1 e,fun g e=>?_,fun k j e=>?_,fun k e=>?_⟩
   ·obtain⟨n,u,c,d,b⟩:=h.2.2.1 g e;exact⟨n,u,c,by rw[mu];exact d,by rw[mu];exact b⟩
   ·exact D3 _ _ (h.2.2.2.1 k j e)
   ·exact D3 _ _ (h.2.2.2.2 k e)
 |_=>exact J
def ap4{C:fj}{st st':bo}{a:Act}{w:World}{ν:bc}(h:c9 C st a w ν){s:Nat}(he:yo st s=some st'):∃bm,c9 C st' a w bm:=by
 unfold yo at he;split at he
 ·rename_i p e b;cases he;obtain⟨bm,J,U,_⟩:=aao h (h.slot s) b;exact⟨_,JR J U⟩
 ·cases he
def abN{w:World}{ν:bc}:∀{cs:List af} {us:List Value} {i:Nat} {p q:af} {v:Value},cW w ν cs us->cs[i]? =some p->us[i]? =some v->aU w ν q v->cW w ν (cs.set i q) us
 |[],_,_,_,_,_,_,h,_,_=>by simp at h
 |c::cs,us,0,p,q,v,h,_,a,b=>by simp only[cW]at h;obtain⟨u,d,rfl,J,U⟩:=h;simp only[List.getElem?_cons_zero,dV]at a;subst a;simp only[List.set_cons_zero,cW];exact⟨_,_,rfl,⟨b,J.2⟩,U⟩
 |c::cs,us,i+1,p,q,v,h,e,a,b=>by simp only[cW]at h;obtain⟨u,d,rfl,J,U⟩:=h;simp only[List.set_cons_succ,cW];exact⟨_,_,rfl,J,abN U (by simpa using e) (by simpa using a) b⟩
def ap3{C:fj}{st st':bo}{a:Act}{w:World}{ν:bc}(h:c9 C st a w ν){s:Nat}(he:yn st s=some st'):∃bm,c9 C st' a w bm:=by
 unfold yn at he;split at he
 ·rename_i k m ad;generalize m+s/1000=off at he;split at he
  ·rename_i cs d;split at he
   ·rename_i p i;split at he
    ·rename_i E e K;split at he
     ·rename_i q;cases he;obtain⟨bl,us,el,g1,g2,g3,g4,g5⟩:=h.good.box k cs d;rw[pA q]at g5;have t:off<us.toList.length:=by rw[q5 g5];exact(fI.1 i).1
      obtain⟨v,z⟩:∃v,us.toList[off]? =some v:=⟨_,ck t⟩;have L:aU w ν p v:=by have:=CS off g5;rw[lJ (fI.1 i).1,lJ t]at this;simp only[cW]at this;obtain⟨u,G,y,A,_⟩:=this;rw[(fI.1 i).2]at A;rw[(fI.1 z).2]at y;cases y;exact A.1
      obtain⟨bm,J,U,x⟩:=aao h L K;have o:cW w bm (cs.set off E) us.toList:=abN (abM x g5) i z U;have B:=wW o;refine⟨bm,⟨J.good.alt,fun j F c=>?_,fun j dg b c f=>J.good.inj j dg b ?_ ?_,J.good.own,J.good.oinj,fun g j n v b bd c=>J.good.obx g j n v b bd ?_,J.good.one,fun bl H=>J.good.otr bl (H.imp (fun⟨bs,l,a2⟩=>⟨bs,by rw[jj]at l;split at l;(rename_i e;subst e;simp[d]);exact l,a2⟩) id)⟩,J.fr,J.defers,J.size,J.slot,J.new⟩
      ·simp only at c;rw[jj]at c;split at c
       ·rename_i e;subst e;cases c;obtain⟨r,G,M,f1,f2,f3,f4,f5⟩:=J.good.box k cs d;have:r=bl:=by have:=x.bx k bl trivial g1;rw[this]at f1;cases f1;rfl
        subst this;rw[pz q]at g4 f4;rw[g4]at f4;injection f4 with f4;injection f4 with f4 f6 f7;refine⟨r,us,el,f1,f2,f3,by rw[pz B];exact g4,by rw[pA B];exact o⟩
       ·exact J.good.box j F c
      ·simp only at c;rw[jj]at c;split at c
       ·rename_i e;subst e;simp[d]
       ·exact c
      ·simp only at f;rw[jj]at f;split at f
       ·rename_i e;subst e;simp[d]
       ·exact f
      ·simp only at c;rw[jj]at c;split at c
       ·rename_i e;subst e;simp[d]
       ·exact c
     ·cases he
    ·cases he
   ·cases he
  ·cases he
 ·cases he
def uE{α:Type}(k:aB)(l:List (aB×α)):List (aB×α):=match l with
 |[]=>[]
 |(i,x)::r=>if i=k then uE k r else(i,x)::uE k r
def OD{α:Type}(k j:aB):∀l:List (aB×α),ae j (uE k l)=if j=k then none else ae j l
 |[]=>by simp[uE,ae]
 |(i,x)::r=>by
  simp only[uE];by_cases h:i=k
  ·subst h;rw[if_pos rfl,OD i j r];by_cases U:j=i
   ·simp[U]
   ·have:¬i=j:=fun e=>U e.symm;simp[ae,U,this]
  ·rw[if_neg h];simp only[ae];by_cases U:i=j
   ·subst U;simp[h]
   ·simp only[U,if_false];exact OD k j r
def MH(agg:Bool):List af->Option af
 |[p]=>if agg then some (.agg [p])else some p
 |cs=>if agg then some (.agg cs)else none
def xv(st:bo)(agg:Bool)(s:Nat):Option bo:=
 match get s st.t with
 | .ptr k 0=>match ae k st.b with
  |some cs=>if gZ cs then match MH agg cs with
    |some x=>some {st with t:=put s (.eptr x) st.t,b:=uE k st.b}
    |none=>none
   else none
  |none=>none
 |_=>none
def apP{u:Value}(h:u.oneCell'=true):u.cells.toList=[u]:=by cases u<;>first|rfl|(simp[Value.oneCell']at h)
def YC{w:World}{A:Nat->Nat->Prop}{b:Nat}{us:Array Value}{el:gW}(d:w.heap[b]? =some (.cells us el))(c:∀o,o<us.size->A b o):∀(bk:List Value) (off:Nat),us.toList.drop off=bk->kZ w A b off bk
 |[],_,_=>trivial
 |v::bk,off,h=>by
  have a:off<us.toList.length:=by
   rcases Nat.lt_or_ge off us.toList.length with J|J
   ·exact J
   ·rw[List.drop_eq_nil_of_le J]at h;cases h
  have U:=lJ a;rw[h]at U;injection U with U f;refine⟨⟨c off (by simpa using a),?_⟩,YC d c bk (off+1) f.symm⟩;have e:off<us.size:=by simpa using a
  simp only[World.cell?,d,k6,hU,if_false];rw[U];simp[e]
def ai3{C:fj}{st st':bo}{a:Act}{w:World}{ν:bc}(h:c9 C st a w ν){agg:Bool}{s:Nat}(he:xv st agg s=some st'):∃bm,c9 C st' a w bm:=by
 unfold xv at he;split at he
 ·rename_i k ad;split at he
  ·rename_i cs z;split at he
   ·rename_i H;split at he
    ·rename_i x l;cases he;obtain⟨bl,us,el,g1,g2,g3,g4,g5⟩:=h.good.box k cs z;rw[pA H]at g5;rw[pz H]at g4;have Z:bl<w.heap.size:=by
      rcases Nat.lt_or_ge bl w.heap.size with J|J
      ·exact J
      ·rw[Array.getElem?_eq_none J]at g4;cases g4
     let bm:bc:={ν with A:=fun b o=>ν.A b o\/(b=bl/\o<us.size)}
     have aq:mB w ν w bm:=⟨fun b o c=>⟨.inl c,rfl⟩,fun j b _ d=>d,fun g n u _ Q=>⟨n,u,Q,.inl ⟨rfl,rfl⟩⟩,fun _ _ _=>rfl,fun _ _ _ _ h=>h⟩;have L:∀j f,ae j (uE k st.b)=some f->j≠k/\ae j st.b=some f:=fun j f d=>by
      rw[OD]at d;split at d
      ·cases d
      ·rename_i e;exact⟨e,d⟩
     have t:∀j,(ae j (uE k st.b)).isSome->(ae j st.b).isSome:=fun j d=>by obtain⟨f,R⟩:=fy.1 d;simp[(L j f R).2]
     have O:∀(g:aB) (n:Nat) (v:Value),(ae g st.e).isSome->ν.ow g=some (n,v)->v.ownBlock=some bl->eb:=fun g n v J U ar=>h.good.obx g k n v bl J (by simp[z]) U ar g1;have P:aU w bm (.eptr x) (a.tmps.getD s undef):=by
      have F:=h.slot s;rw[ad]at F;simp only[aU]at F⊢;obtain⟨b0,N,B⟩:=F;rw[g1]at N;cases N;have E:kZ w bm.A bl 0 us.toList:=YC g4 (fun o aq=>.inr ⟨rfl,aq⟩) _ 0 rfl;have g6:cW w bm cs us.toList:=abM aq g5;unfold MH at l;split at l
      ·rename_i p;simp only[cW]at g6;obtain⟨u,M,m,r,y⟩:=g6;subst y;split at l
       ·cases l;exact⟨bl,0,.agg us,B,by simp only[aU];exact⟨us,rfl,by rw[m];simp only[cW];exact⟨u,[],rfl,r,rfl⟩⟩,by simpa[pK]using E⟩
       ·cases l;refine⟨bl,0,u,B,r.1,?_⟩;rw[apP r.2,<-m];exact E
      ·split at l
       ·cases l;exact⟨bl,0,.agg us,B,by simp only[aU];exact⟨us,rfl,g6⟩,by simpa[pK]using E⟩
       ·cases l
     refine⟨bm,JR (ν:=bm) (st:={st with b:=uE k st.b}) ⟨⟨fun b o c=>?_,fun j f d=>?_,fun j dg b J U=>h.good.inj j dg b (t j J) (t dg U),fun g o bd=>?_,h.good.oinj,fun g j n v b J U=>h.good.obx g j n v b J (t j U),h.good.one,fun b aL=>h.good.otr b (aL.imp (fun⟨j,Y,a2⟩=>⟨j,t j Y,a2⟩) id)⟩,⟨h.fr.os,h.fr.tape,h.fr.output,h.fr.size,h.fr.block,fun b o c=>⟨.inl (h.fr.keep b o c).1,(h.fr.keep b o c).2⟩,fun b o c=>?_,h.fr.obj,h.fr.obn,h.fr.row,h.fr.obr,h.fr.trd,h.fr.trb,h.fr.trn,h.fr.sh⟩,h.defers,h.size,fun i=>Ar aq (h.slot i),h.new⟩ P⟩
     ·rcases c with c|⟨rfl,_⟩
      ·exact h.good.alt b o c
      ·exact Z
     ·obtain⟨X,K⟩:=L j f d;obtain⟨S,M,W,f1,f2,f3,f4,f5⟩:=h.good.box j f K;refine⟨S,M,W,f1,f2,fun o c=>?_,f4,rU aq f5⟩;rcases c with c|⟨rfl,_⟩
      ·exact f3 o c
      ·exact X (h.good.inj j k _ (by simp[K]) (by simp[z]) f1 g1)
     ·obtain⟨v0,V,m,r,y,b4⟩:=h.good.own g o bd;have G:∀b,v0.ownBlock=some b->∀j,bm.A b j->ν.A b j:=fun b q j c=>by
       rcases c with c|⟨rfl,_⟩
       ·exact c
       ·exact(O g _ v0 (by simp[bd]) m q).elim
      exact⟨v0,V,m,r,fun b q=>⟨(y b q).1,fun j c=>(y b q).2 j (G b q j c)⟩,ue aq G b4⟩
     ·rcases c with c|⟨rfl,_⟩
      ·exact h.fr.fresh b o c
      ·exact .inr g2
    ·cases he
   ·cases he
  ·cases he
 ·cases he
def ud(st:bo)(x:dR)(b:Bool):bo:=match x with
 | .t i=>{st with t:=put i (.bool b) st.t}
 | .c _=>st
def de(P:cG)(ob:List aB):C->(Exit->bo->Prop)->bo->Prop
 | .skip,Q,st=>Q .normal st
 | .region gs,Q,st=>iY P gs st (Q .normal)
 | .drawn q N gs,Q,st=>iP P q [] st.n gs st (vF (st.n+N) st.o (Q .normal))
 | .drawnW nw N gs,Q,st=>(∀j∈nw,.obj j∉st.o)/\iP P false nw st.n gs st (vF (st.n+N) (nw.map aB.obj++st.o) (Q .normal))
 | .seq a b,Q,st=>de P ob a (fun e st'=>match e with| .normal=>de P ob b Q st'|e=>Q e st') st
 | .cond x t e,Q,st=>match cD st.t x with
  | .bool b=>(b=true->de P ob t Q (ud st x true))/\(b=false->de P ob e Q (ud st x false))
  |_=>eb
 | .block id c,Q,st=>de P ob c (fun e st'=>match e with| .exit j=>if j=id then Q .normal st' else Q (.exit j) st'|e=>Q e st') st
 | .loop c,Q,st=> ∃(d:Nat->bo->Prop) (m:Nat) (f:bo),gq ob st f/\d m f/\
   ∀k s,d k s->(∀i,eU (get i s.t))->(∀j cs,ae j s.b=some cs->gZ cs=true->eM cs)->de P ob c (fun e h=>match e with| .normal=> ∃bs g,bs<k/\gq ob h g/\d bs g|e=>Q e h) s
 | .exit id,Q,st=>Q (.exit id) st
 | .ret,Q,st=>Q .ret st
 | .pub s c,Q,st=>match yo st s with
  |some st'=>de P ob c Q st'
  |none=>eb
 | .pubB s c,Q,st=>match yn st s with
  |some st'=>de P ob c Q st'
  |none=>eb
 | .fg l s c,Q,st=>de P ob c Q {st with t:=put s (Bn l (get s st.t)) st.t}
 | .fz n s c,Q,st=>match xv st n s with
  |some st'=>de P ob c Q st'
  |none=>eb
 | .no,_,_=>eb
def hX(N:Nat)(aS:List (Nat×et)):C->Code->Bool
 | .skip,.skip=>true
 | .region gs,.region _ ops false=>ld N aS ops.toList gs ops.toList
 | .drawn _ N' gs,.region _ ops true=>N'==N&&ld N aS ops.toList gs ops.toList&&Dv gs ops.toList&&Ba N gs
 | .drawnW _ N' gs,.region _ ops true=>N'==N&&ld N aS ops.toList gs ops.toList&&Dv gs ops.toList&&Ba N gs
 | .seq a b,.seq x y=>hX N aS a x&&hX N aS b y
 | .cond x t e,.cond o t' g=>eR x o&&hX N aS t t'&&hX N aS e g
 | .block id c,.block f d=>id==f&&hX N aS c d
 | .loop c,.loop d=>hX N aS c d
 | .exit id,.exit f=>id==f
 | .ret,.ret=>true
 | .pub _ c,d=>hX N aS c d
 | .pubB _ c,d=>hX N aS c d
 | .fg _ _ c,d=>hX N aS c d
 | .fz _ _ c,d=>hX N aS c d
 | .no,_=>true
 |_,_=>false
def Wu{N:Nat}{aS:List (Nat×et)}{ops:List Oper}:∀{gs:List dt} {os:List Oper},ld N aS ops gs os=true->gs.length=os.length
 |[],[],_=>rfl
 |[],_::_,h=>by simp[ld]at h
 |_::_,[],h=>by simp[ld]at h
 |g::gs,o::os,h=>by simp only[ld,cO]at h;simp[Wu h.2]
def KN(P:cG)(C:fj)(c:Code)(Q:Exit->bo->Prop)(st:bo):Prop:= ∀a w ν,c9 C st a w ν->c.wp P (fun e bp w'=> ∃st' bm,Q e st'/\c9 C st' bp w' bm) a w
def pZ{P:cG}(hm:P.follows .mixedOrders=true){aS:List (Nat×et)}(f:hR P aS=true){X:fj}:∀(c:C) (code:Code) (Q:Exit->bo->Prop) (st:bo),hX X.N aS c code=true->de P X.ob c Q st->KN P X code Q st
 | .skip,code,Q,st,aq,he=>by
  cases code<;>simp only[hX]at aq<;>try cases aq
  intro a w ν d;exact wp_skip ⟨st,ν,he,d⟩
 | .region gs,code,Q,st,aq,he=>by
  cases code<;>try(simp[hX]at aq;done)
  rename_i id ops draw;cases draw<;>simp only[hX]at aq
  ·intro a w ν d;refine wp_region ?_;have V:gs.length=ops.size:=by simpa using Wu aq
   rw[List.range_eq_range',<-V];exact Vb f (K:=Q .normal) (fun st' bp w' bm J U=>⟨st',bm,J,U⟩) gs ops.toList 0 Ψ aq st a w ν he d
  ·cases aq
 | .drawn q N gs,code,Q,st,aq,he=>by
  cases code<;>try(simp[hX]at aq;done)
  rename_i id ops draw;cases draw<;>simp only[hX]at aq
  ·cases aq
  ·simp only[cO,eA]at aq;obtain⟨⟨⟨rfl,J⟩,U⟩,v⟩:=aq;intro a w ν d;exact Va hm f J U v (nw:=[]) (K:=Q .normal) (fun st' bp w' bm J U=>⟨st',bm,J,U⟩) Ψ he d
 | .drawnW nw N gs,code,Q,st,aq,he=>by
  cases code<;>try(simp[hX]at aq;done)
  rename_i id ops draw;cases draw<;>simp only[hX]at aq
  ·cases aq
  ·simp only[cO,eA]at aq;obtain⟨⟨⟨rfl,J⟩,U⟩,v⟩:=aq;intro a w ν d;exact Va hm f J U v (nw:=nw) (K:=Q .normal) (fun st' bp w' bm J U=>⟨st',bm,J,U⟩) he.1 he.2 d
 | .seq x y,code,Q,st,aq,he=>by
  cases code<;>try(simp[hX]at aq;done)
  rename_i L M;simp only[hX,cO]at aq;intro a w ν d;refine wp_seq ?_;have J:=pZ hm f x L _ st aq.1 he a w ν d;refine wp_mono J fun e bp w' l=>?_;obtain⟨st',bm,g,h⟩:=l;cases e with
  |normal=>exact pZ hm f y M Q st' aq.2 g bp w' bm h
  |_=>exact⟨st',bm,g,h⟩
 | .cond x t e,code,Q,st,aq,he=>by
  cases code<;>try(simp[hX]at aq;done)
  rename_i o A ce;simp only[hX,cO]at aq;intro a w ν d;simp only[de]at he;have B:=e7 d aq.1.1;split at he
  ·rename_i b E;rw[E]at B;simp only[aU]at B;have F:c9 X (ud st x b) a w ν:=by
    unfold ud;split
    ·exact Qb d (by simpa[cD]using E)
    ·exact d
   refine wp_cond B ?_;cases b
   ·exact pZ hm f e ce Q _ aq.2 (he.2 rfl) a w ν F
   ·exact pZ hm f t A Q _ aq.1.2 (he.1 rfl) a w ν F
  ·exact he.elim
 | .block id c,code,Q,st,aq,he=>by
  cases code<;>try(simp[hX]at aq;done)
  rename_i Z u;simp only[hX,cO,eA]at aq;obtain⟨rfl,aq⟩:=aq;intro a w ν d;refine wp_block ?_;refine wp_mono (pZ hm f c u _ st aq he a w ν d) fun e bp w' l=>?_;obtain⟨st',bm,g,h⟩:=l;cases e with
  |exit j=>
   simp only[Exit.inBlock]at g⊢;by_cases p:j=id
   ·rw[if_pos p]at g⊢;exact⟨st',bm,g,h⟩
   ·rw[if_neg p]at g⊢;exact⟨st',bm,g,h⟩
  |_=>exact⟨st',bm,g,h⟩
 | .loop c,code,Q,st,aq,he=>by
  cases code<;>try(simp[hX]at aq;done)
  rename_i u;simp only[hX]at aq;intro a w ν d;simp only[de]at he;obtain⟨R,m,G,hw,hi,O⟩:=he;refine wp_loop_ghost (fun k a w=> ∃s ν,R k s/\c9 X s a w ν) m ⟨G,_,hi,d.weaker hw⟩ ?_;intro k a w z;obtain⟨s,ν,n,r⟩:=z;have J:=O k s n (fun i=>abS (r.slot i)) (fun j cs p=>by obtain⟨bl,us,el,_,_,_,_,g5⟩:=r.good.box j cs p;exact Qf g5);refine wp_mono (pZ hm f c u _ s aq J a w ν r) fun e bp w' l=>?_;obtain⟨st',bm,g,h⟩:=l;cases e with
  |normal=>obtain⟨bs,H,W,Y,S⟩:=g;exact⟨bs,W,H,_,S,h.weaker Y⟩
  |_=>exact⟨st',bm,g,h⟩
 | .exit id,code,Q,st,aq,he=>by
  cases code<;>try(simp[hX]at aq;done)
  rename_i Z;simp only[hX,eA]at aq;subst aq;intro a w ν d;exact wp_exit ⟨st,ν,he,d⟩
 | .ret,code,Q,st,aq,he=>by
  cases code<;>try(simp[hX]at aq;done)
  intro a w ν d;exact wp_ret ⟨st,ν,he,d⟩
 | .pub s c,code,Q,st,aq,he=>by
  simp only[hX]at aq;simp only[de]at he;split at he
  ·rename_i st' n;intro a w ν d;obtain⟨bm,J⟩:=ap4 d n;exact pZ hm f c code Q st' aq he a w bm J
  ·exact he.elim
 | .pubB s c,code,Q,st,aq,he=>by
  simp only[hX]at aq;simp only[de]at he;split at he
  ·rename_i st' n;intro a w ν d;obtain⟨bm,J⟩:=ap3 d n;exact pZ hm f c code Q st' aq he a w bm J
  ·exact he.elim
 | .fg qV s c,code,Q,st,aq,he=>by simp only[hX]at aq;simp only[de]at he;intro a w ν d;exact pZ hm f c code Q _ aq he a w ν (JR d (aiQ (d.slot s)))
 | .fz hn s c,code,Q,st,aq,he=>by
  simp only[hX]at aq;simp only[de]at he;intro a w ν d;split at he
  ·rename_i st' dx;obtain⟨bm,J⟩:=ai3 d dx;exact pZ hm f c code Q st' aq he a w bm J
  ·exact he.elim
 | .no,code,Q,st,aq,he=>by simp only[de]at he
inductive bU where
 |tmp (i:Nat)
 |cell (i:Nat) (agg:Bool) (sz:Nat)
def be(st:bo):bU->Option (Prop×af)
 | .tmp i=>some (True,get i st.t)
 | .cell i agg sz=>n9 st.b st.e agg sz (get i st.t)
def ba(st:bo):List bU->Option (Prop×List af)
 |[]=>some (True,[])
 |r::a=>match be st r,ba st a with
  |some (c,p),some (b,d)=>some (c/\b,p::d)
  |_,_=>none
def qk(aS:List (Nat×et)):List bU->List ResultVar->Bool
 |[],[]=>true
 | .tmp i::a,.tmp j::os=>i==j&&qk aS a os
 | .cell i agg sz::a,.cell j t::os=>i==j&&(match eG aS t with|some f=>f.size==sz&&f.kind.isAgg==agg|none=>false)&&qk aS a os
 |_,_=>false
def a1:List af->af
 |[p]=>p
 |a=>.tuple a
def J6(tmps:Array Value):ResultVar->Sem Value
 | .tmp t=>pure (tmps.getD t undef)
 | .cell x t=>do loadVar t (<-asAddr (tmps.getD x undef))
def Ql(fn:Func)(tmps:Array Value):results fn tmps=(do let bk<-fn.results.mapM (J6 tmps);pure (if h:bk.size=1 then bk[0]else .tuple bk)):=by unfold results;congr 2
def FP{P:cG}{aS:List (Nat×et)}(z:hR P aS=true){X:fj}{st:bo}{a:Act}{w:World}{ν:bc}(g:c9 X st a w ν):
  ∀(h:List bU) (os:List ResultVar) (c:Prop) (s:List af),qk aS h os=true->ba st h=some (c,s)->c->
  ∃bk,(os.mapM (J6 a.tmps)).run P w= .ok bk w/\cZ w ν s bk
 |[],[],c,s,_,he,_=>by simp only[ba]at he;cases he;exact⟨[],Ψ,by simp[cZ]⟩
 |[],_::_,_,_,aq,_,_=>by simp[qk]at aq
 | .tmp _::_,[],_,_,aq,_,_=>by simp[qk]at aq
 | .cell _ _ _::_,[],_,_,aq,_,_=>by simp[qk]at aq
 |r::h,o::os,c,s,aq,he,ay=>by
  simp only[ba]at he;split at he
  ·rename_i L p A l J U;cases he;cases r with
   |tmp i=>
    cases o with
    |cell _ _=>simp[qk]at aq
    |tmp j=>simp only[qk,cO,eA]at aq;obtain⟨rfl,aq⟩:=aq;simp only[be]at J;cases J;obtain⟨bk,g1,g2⟩:=FP z g h os A l aq U ay.2;refine⟨a.tmps.getD i undef::bk,?_,by simp only[cZ];exact⟨_,_,rfl,g.slot i,g2⟩⟩;simp only[List.mapM_cons,gm,J6,hs,gA,g1]
   |cell i agg sz=>
    cases o with
    |tmp _=>simp[qk]at aq
    |cell j t=>
     simp only[qk,cO,eA]at aq;obtain⟨⟨rfl,x⟩,aq⟩:=aq;split at x
     ·rename_i f E;simp only[cO,eA]at x;obtain⟨rfl,rfl⟩:=x;simp only[be]at J;obtain⟨bk,g1,g2⟩:=FP z g h os A l aq U ay.2;obtain⟨v,f1,f2⟩:=IU z g.good E (g.slot i) J ay.1;have F:∃m,a.tmps.getD i undef= .pointer (some m):=by
       have d:=g.slot i;unfold n9 at J;split at J
       ·rename_i K k n H G ad;rw[ad]at d;simp only[aU]at d;obtain⟨⟨b,o,e⟩,_⟩:=d;exact⟨_,e⟩
       ·rename_i k off ad;rw[ad]at d;simp only[aU]at d;obtain⟨b,_,e⟩:=d;exact⟨_,e⟩
       ·rename_i q ad;rw[ad]at d;simp only[aU]at d;obtain⟨b,off,u,e,_⟩:=d;exact⟨_,e⟩
       ·cases J
      obtain⟨m,B⟩:=F;rw[B]at f1;simp only[Instr.loadAt,Instr.sureAddr,gm,hs,gA]at f1;refine⟨v::bk,?_,by simp only[cZ];exact⟨_,_,rfl,f2,g2⟩⟩;have y:(asAddr (.pointer (some m)):Sem Addr).run P w= .ok m w:=rfl;simp only[List.mapM_cons,gm,J6,hs,gA,g1,B,y,f1]
     ·cases x
  ·cases he
def wX{w:World}{ν:bc}:∀{a:List af} {bk:List Value},cZ w ν a bk->bk.length=a.length
 |[],bk,h=>by simp only[cZ]at h;subst h;rfl
 |p::a,bk,h=>by simp only[cZ]at h;obtain⟨u,b,rfl,_,U⟩:=h;simp[wX U]
def iM:Nat->List af->List (Nat×af)
 |_,[]=>[]
 |i,p::a=>(i,p)::iM (i+1) a
def D5:∀(a:List af) (i j:Nat),get j (iM i a)=if i<=j/\j<i+a.length then a.getD (j-i) .junk else .junk
 |[],i,j=>by simp[iM,get]
 |p::a,i,j=>by
  simp only[iM,get];by_cases h:i=j
  ·subst h;simp
  ·rw[if_neg h,D5 a (i+1) j];by_cases U:i<=j/\j<i+(p::a).length
   ·rw[if_pos U,if_pos (by simp at U⊢;omega)];have:j-i=(j-(i+1))+1:=Ω
    rw[this];simp
   ·rw[if_neg U,if_neg (by simp at U⊢;omega)]
def lY{α:Type}(a:cT):List (aB×α)->Prop
 |[]=>True
 |(k,_)::r=>aM a k/\lY a r
def x5{α:Type}{a:cT}:∀{l:List (aB×α)},lY a l->∀k,(ae k l).isSome->aM a k
 |[],_,k,h=>by simp[ae]at h
 |(i,x)::r,ad,k,h=>by
  simp only[lY]at ad;simp only[ae]at h;split at h
  ·rename_i e;subst e;exact ad.1
  ·exact x5 ad.2 k h
def c6(d:List bU)(s:cT)(Q:af->cT->Prop)(e:Exit)(st:bo):Prop:=
 (e= .ret\/e= .normal)/\match ba st d with
  |some (c,b)=>c/\∃a,lY a s.b/\lY a s.e/\hA (aM a) a.b st.b/\qo (aM a) a.e st.e/\hP a/\aA (aM a) (b3 (a1 b))/\Q (b3 (a1 b)) a
  |none=>eb
def bE.ofW{P:cG}{aS:List (Nat×et)}(aL:hR P aS=true){f:FuncId}{fn:Func}(aG:P.funcs[f]? =some fn){code:Code}(ag:fn.body=some code)(uX:(fn.name== "runtime.NumGoroutine")=false){dL:List bU}(iF:qk aS dL fn.results.toList=true)
  {args:List af} (av:args.length<=fn.ntmps) {s:cT} (kU:hP s) {Q:af->cT->Prop} (he:∀X:fj,X.N=fn.ntmps->X.ob=cJ s->(∀b o,X.ν0.A b o->b<X.w0.heap.size)->eK args->(∀j cs,ae j s.b=some cs->gZ cs=true->eM cs)->KN P X code (c6 dL s Q) ⟨iM 0 args,s.b,s.e,0,cJ s⟩):bE P f args s Q:=by
 intro w ν bk bd ab aJ;refine .inl ⟨⟨fn,aG,by simp[ag],uX⟩,?_⟩;have oP:=wX aJ;have kV:bk.size=args.length:=by simpa using oP
 let X:fj:=⟨w,ν,ft ν s,fn.ntmps,cJ s⟩
 have nY:∀k,fresh 0 (cJ s) k->ν.bx k=none/\ν.ow k=none/\∀j b,¬ν.tr k j b:=by
  intro k ad;cases k with
  |loc m=>exact⟨(ab _).1 (kU.1 m),(ab _).2.1 (kU.2 m),(ab _).2.2⟩
  |obj m=>
   simp only[fresh,true_and]at ad;refine⟨?_,?_,(ab _).2.2⟩
   ·refine(ab _).1 ?_;cases h:ae (.obj m) s.b with
    |none=>rfl
    |some x=>exact absurd (rR (.inl (by simp[h]))) ad
   ·refine(ab _).2.1 ?_;cases h:ae (.obj m) s.e with
    |none=>rfl
    |some x=>exact absurd (rR (.inr (by simp[h]))) ad
 have ja:∀m,(ν.bx (.obj m)≠none\/ν.ow (.obj m)≠none)-> .obj m∈cJ s:=by
  intro m hm;refine Classical.byContradiction fun ay=>?_;obtain⟨J,U,_⟩:=nY (.obj m) ⟨trivial,ay⟩;rcases hm with hm|hm
  ·exact hm J
  ·exact hm U
 have oN:c9 X ⟨iM 0 args,s.b,s.e,0,cJ s⟩ {tmps:=bk++sW (fn.ntmps-bk.size) undef,defers:=[]} w ν:=by
  refine⟨⟨bd.alt,fun k cs ad=>?_,bd.inj,fun g o fm=>?_,bd.oinj,bd.obx,bd.one,bd.otr⟩,⟨rfl,rfl,rfl,dO _,fun _ _ _=>rfl,fun b o h=>⟨h,rfl⟩,fun b o h=>.inl h,fun n b h=>h,fun n b h=>ja n (.inl (by rw[h];simp)),fun m n u h=>⟨n,u,h,.inl ⟨rfl,rfl⟩⟩,fun m n u h=>ja m (.inr (by rw[h];simp)),fun k j _ _ b h=>absurd h ((ab k).2.2 j b),fun k j b h=>absurd h ((ab k).2.2 j b),fun k j b h=>absurd h ((ab k).2.2 j b),fun _ _ _=>rfl⟩,rfl,?_,fun i=>?_,nY⟩
  ·obtain⟨bl,us,el,g1,g2,g3⟩:=bd.box k cs ad;exact⟨bl,us,el,g1,.inl g2,g3⟩
  ·obtain⟨v,us,g1,g2,g3,g4⟩:=bd.own g o fm;exact⟨v,us,g1,g2,fun bl gg=>⟨.inl (g3 bl gg).1,(g3 bl gg).2⟩,g4⟩
  ·show(bk++sW (fn.ntmps-bk.size) undef).size=fn.ntmps;simp;omega
  ·rw[D5];by_cases hi:i<args.length
   ·rw[if_pos Ω];have p9:args[i]? =some args[i]:=ck hi;obtain⟨v,ao,aC⟩:=CU i aJ p9;have aN:(bk++sW (fn.ntmps-bk.size) undef).getD i undef=v:=by
     have nT:bk[i]? =some v:=by simpa using ao
     rw[vz,Array.getElem?_append_left Ω,nT];rfl
    show aU w ν _ ((bk++sW (fn.ntmps-bk.size) undef).getD i undef);rw[aN];simpa[List.getD,p9]using aC
   ·rw[if_neg Ω];simp[aU]
 have EM:=he X rfl rfl bd.alt (JX aJ) (fun j cs ah=>by obtain⟨bl,us,el,_,_,_,_,g5⟩:=bd.box j cs ah;exact Qf g5) _ w ν oN;refine calls_of_wp aG ag (wp_mono EM fun e bp w' cI=>?_);obtain⟨st',bm,⟨p8,bK⟩,cY⟩:=cI;cases n1:ba st' dL with
 |none=>simp[n1]at bK
 |some x=>
  obtain⟨cB,bS⟩:=x;simp only[n1]at bK;obtain⟨hL,ak,kb,ke,a8,bB,bW,dn,dI⟩:=bK;obtain⟨kA,g1,g2⟩:=FP aL cY dL fn.results.toList cB bS iF n1 hL;have EE:=wX g2;have ed:bp.defers=[]/\∃v,(results fn bp.tmps).run P w'= .ok v w'/\(fun(e:Ending) w'=> ∃v r ak bm,e= .returned v/\Q r ak/\aU w' bm r v/\Good (fun bl=>ft ν s bl\/w.heap.size<=bl) w' bm ak.b ak.e/\pf bm ak/\hP ak/\o3 ⟨w,ν,ft ν s,0,cJ s⟩ w' bm) (.returned v) w':=by
   refine⟨cY.defers,?_⟩;have jg:(results fn bp.tmps).run P w'= .ok (if h:kA.toArray.size=1 then kA.toArray[0]else .tuple kA.toArray) w':=by rw[Ql];simp only[gm,Array.mapM_eq_mapM_toList,Sem.run_map,g1,gA,hs]
   refine⟨_,jg,_,b3 (a1 bS),ak,bm.cut (aM ak),rfl,dI,?_,cY.good.cut a8 bB (fun bl h _=>h),?_,bW,?_⟩
   ·have mN:aU w' bm (a1 bS) (if h:kA.toArray.size=1 then kA.toArray[0]else .tuple kA.toArray):=by
     match bS,kA,g2,EE with
     |[p],[v],g2,_=>simp only[cZ]at g2;obtain⟨u,bY,ao,aC,_⟩:=g2;cases ao;simpa[a1]using aC
     |[],[],g2,_=>simp[a1,aU,cZ]
     |p::dB::bS,v::v2::kA,g2,_=>rw[dif_neg Ψ];simp only[a1,aU];exact⟨_,rfl,by simpa using g2⟩
     |[_],[],_,h=>simp at h
     |[],_::_,_,h=>simp at h
     |[_],_::_::_,_,h=>simp at h
     |_::_::_,[],_,h=>simp at h
     |_::_::_,[_],_,h=>simp at h
    exact kL (ov.cut _ w' bm) _ _ dn (lC _ _ mN)
   ·intro k;refine⟨?_,?_,?_⟩;rotate_left 2
    ·rintro j b ⟨ai,ag⟩;obtain⟨t1,t2⟩:=cY.fr.trn k j b ag;rcases ai with ai|ai<;>obtain⟨x,jh⟩:=fy.1 ai
     ·obtain⟨bl,bY,el,ao,_⟩:=cY.good.box k x (a8 k x jh).1;rw[t1]at ao;cases ao
     ·obtain⟨v',bY,ao,_⟩:=cY.good.own k x (bB k x jh).1;rw[t2]at ao;cases ao
    ·intro ad;by_cases ai:aM ak k
     ·rw[bc.cut_bx ai];rcases ai with ai|ai
      ·rw[ad]at ai;cases ai
      ·obtain⟨x,jh⟩:=fy.1 ai;obtain⟨v',bY,ao,_⟩:=cY.good.own k x (bB k x jh).1;rcases cY.good.one k with J|J
       ·exact J
       ·rw[J]at ao;cases ao
     ·exact(bc.cut_no ai).1
    ·intro ad;by_cases ai:aM ak k
     ·rw[bc.cut_ow ai];rcases ai with ai|ai
      ·obtain⟨x,jh⟩:=fy.1 ai;obtain⟨bl,bY,el,ao,_⟩:=cY.good.box k x (a8 k x jh).1;rcases cY.good.one k with J|J
       ·rw[J]at ao;cases ao
       ·exact J
      ·rw[ad]at ai;cases ai
     ·exact(bc.cut_no ai).2.1
   ·refine⟨cY.fr.os,cY.fr.tape,cY.fr.output,cY.fr.size,cY.fr.block,cY.fr.keep,cY.fr.fresh,fun n b h=>?_,fun n b h=>ja n (.inl (by rw[h];simp)),fun m n u h=>?_,fun m n u h=>ja m (.inr (by rw[h];simp)),fun k j bs dg b J U=>cY.fr.trd k j bs dg b J.2 U.2,fun k j b ag=>cY.fr.trb k j b ag.2,fun k j b ag=>(by rw[bc.cut_bx ag.1,bc.cut_ow ag.1];exact cY.fr.trn k j b ag.2),cY.fr.sh⟩
    ·have ai:aM ak (.obj n):=by
      cases av:ae (.obj n) s.b with
      |none=>rw[(ab _).1 av]at h;cases h
      |some x=>exact x5 kb _ (by simp[av])
     rw[bc.cut_bx ai];exact cY.fr.obj n b h
    ·have ai:aM ak (.obj m):=by
      cases av:ae (.obj m) s.e with
      |none=>rw[(ab _).2.1 av]at h;cases h
      |some x=>exact x5 ke _ (by simp[av])
     rw[bc.cut_ow ai];exact cY.fr.row m n u h
  rcases p8 with rfl|rfl<;>exact ed
def bE.of{P:cG}(hm:P.follows .mixedOrders=true){aS:List (Nat×et)}(aL:hR P aS=true){f:FuncId}{fn:Func}(aG:P.funcs[f]? =some fn){code:Code}(ag:fn.body=some code)(uX:(fn.name== "runtime.NumGoroutine")=false){c:C}(ay:hX fn.ntmps aS c code=true){dL:List bU}(iF:qk aS dL fn.results.toList=true)
  {args:List af} (av:args.length<=fn.ntmps) {s:cT} (kU:hP s) {Q:af->cT->Prop} (he:eK args->(∀j cs,ae j s.b=some cs->gZ cs=true->eM cs)->de P (cJ s) c (c6 dL s Q) ⟨iM 0 args,s.b,s.e,0,cJ s⟩):bE P f args s Q:=
 bE.ofW aL aG ag uX iF av kU fun X nm rE _ J U=>pZ hm aL c code _ _ (by rw[nm];exact ay) (by rw[rE];exact he J U)
def b2(aS:List (Nat×et))(c:C)(dL:List bU)(O0:Nat)(fn:Func):Bool:=
 match fn.body with
 |some code=>hX fn.ntmps aS c code&&qk aS dL fn.results.toList&& !(fn.name== "runtime.NumGoroutine")&&decide (O0<=fn.ntmps)
 |none=>false
def bE.mk{P:cG}(hm:P.follows .mixedOrders=true){aS:List (Nat×et)}(k:hR P aS=true){f:FuncId}{fn:Func}(l:P.funcs[f]? =some fn){c:C}{b:List bU}{n:Nat}(a:b2 aS c b n fn=true)
  {args:List af} (e:args.length<=n) {s:cT} (d:hP s) {Q:af->cT->Prop} (he:eK args->(∀j cs,ae j s.b=some cs->gZ cs=true->eM cs)->de P (cJ s) c (c6 b s Q) ⟨iM 0 args,s.b,s.e,0,cJ s⟩):bE P f args s Q:=by
 unfold b2 at a;split at a
 ·rename_i code h;simp only[cO,r4,gn]at a;obtain⟨⟨⟨J,U⟩,g⟩,i⟩:=a;exact bE.of hm k l h g J U (kg e i) d he
 ·cases a
def q3:hP ⟨[],[]⟩:=⟨fun _=>rfl,fun _=>rfl⟩
def bZ(a:List bU)(r:af)(e:Exit)(st:bo):Prop:=
 (e= .ret\/e= .normal)/\match ba st a with
  |some (c,b)=>c/\b3 (a1 b)=r
  |none=>eb
def RJ{a:List bU}{r:af}(f:aA (fun _=>eb) r):bZ a r=c6 a ⟨[],[]⟩ (fun d b=>d=r/\b=⟨[],[]⟩):=by
 funext e st;unfold bZ c6;apply propext;refine and_congr_right fun _=>?_;cases ba st a with
 |none=>exact Iff.rfl
 |some x=>
  obtain⟨c,g⟩:=x;refine and_congr_right fun _=>?_;constructor
  ·intro h;refine⟨⟨[],[]⟩,trivial,trivial,fun k cs ad=>by simp[ae]at ad,fun k cs ad=>by simp[ae]at ad,q3,?_,h,rfl⟩;rw[h];exact tO (fun k ad=>ad.elim) r f
  ·rintro⟨b,_,_,_,_,_,_,h,_⟩;exact h
def bT.mk{P:cG}(hm:P.follows .mixedOrders=true){aS:List (Nat×et)}(e:hR P aS=true){f:FuncId}{fn:Func}(h:P.funcs[f]? =some fn){c:C}{a:List bU}{n:Nat}(b:b2 aS c a n fn=true)
  {args:List af} (d:args.length<=n) {r:af} (g:aA (fun _=>eb) r) (he:eK args->de P [] c (bZ a r) ⟨iM 0 args,[],[],0,[]⟩):bT P f args r:=by
 refine bE.mk hm e h b d q3 fun J _=>?_;rw[<-RJ g];exact he J
def Dh{α:Type}{β:Type}:∀l:List (aB×α),cH ([]:List (aB×β)) l=l
 |[]=>rfl
 |(k,x)::r=>by simp[cH,ae,Dh r]
def CallDo.val{P:cG}{n:Nat}{args:List af}{st:bo}{d:Option Nat}{K:bo->Prop}{r:af}(ad:aH (fun _=>eb) args)(b:bT P n args r)(h:K {st with t:=e9 d r st.t}):CallDo P n args st d K:=by
 refine .inl ⟨⟨[],[]⟩,_,fun k cs ad=>by simp[ae]at ad,fun k cs ad=>by simp[ae]at ad,q3,ji (fun _ h=>h.elim) _ ad,b,?_⟩;rintro a c ⟨rfl,rfl⟩;refine⟨⟨fun m h=>by simp[ae]at h,fun m h=>by simp[ae]at h⟩,?_⟩;have:after st ⟨[],[]⟩ ⟨[],[]⟩ d a={st with t:=e9 d a st.t}:=by simp[after,Dh,cJ]
 rw[this];exact h
@[reducible,simp] def gV(n:Int):dR:= .c (.int .i64 n)
@[reducible,simp] def I(a b:Nat):dt:=⟨none,.s (.v a (.mov (.t b)))⟩
@[reducible,simp] def cf(a:Nat)(i:gP):dt:=⟨none,.s (.v a i)⟩
@[reducible,simp] def ds(i:e0):dt:=⟨none,.s i⟩
@[reducible,simp] def dN(a f:Nat)(l:List dR):dt:=⟨none,.call (some a) (.c (.func f [])) l⟩
@[reducible,simp] def cg(j:Nat)(w:Bool)(a b:Nat):dt:=⟨some (j,w),.s (.v a (.mov (.t b)))⟩
@[reducible,simp] def yN(j:Nat)(w:Bool)(a:Nat)(i:gP):dt:=⟨some (j,w),.s (.v a i)⟩
@[reducible,simp] def ys(j:Nat)(w:Bool)(i:e0):dt:=⟨some (j,w),.s i⟩
@[reducible,simp] def cl(d s a b:Nat):dt:=cf d (.iaddr s (.t a) (.t b))
@[reducible,simp] def az(d s a:Nat):dt:=cf d (.load false s (.t a))
@[reducible,simp] def bf(d s a:Nat):dt:=cf d (.load true s (.t a))
@[reducible,simp] def aF(d o s a:Nat):dt:=cf d (.faddr o false s (.t a))
@[reducible,simp] def hr(d o s a:Nat):dt:=cf d (.faddr o true s (.t a))
@[reducible,simp] def bt(d:Nat)(o:BinOp)(a b:Nat):dt:=cf d (.bin o false (.t a) (.t b))
@[reducible,simp] def aV(d:Nat)(o:BinOp)(a:Nat)(n:Int):dt:=cf d (.bin o false (.t a) (gV n))
@[reducible,simp] def cx(d a:Nat):dt:=cf d (.len (.t a))
@[reducible,simp] def cK(d a:Nat):dt:=cf d (.notB (.t a))
@[reducible,simp] def cS(d i a:Nat):dt:=cf d (.ext i (.t a))
@[reducible,simp] def dq(d a b:Nat):dt:=cf d (.pick (.t a) (.c (.bool true)) (.t b))
@[reducible,simp] def ej(d a b:Nat):dt:=cf d (.pick (.t a) (.t b) (.c (.bool false)))
@[reducible,simp] def bu(d:Nat)(b:Bool):dt:=cf d (.mov (.c (.bool b)))
@[reducible,simp] def bM(d:Nat)(n:Int):dt:=cf d (.mov (gV n))
@[reducible,simp] def bV(s a b:Nat):dt:=ds (.store s (.t a) (.t b))
@[reducible,simp] def ax(j:Nat)(w:Bool)(x:dt):dt:=⟨some (j,w),x.i⟩
@[reducible,simp] def aa(l:List dt)(c:C):C:= .seq (.region l) c
@[reducible,simp] def aW(n:Nat)(a b:C):C:= .cond (.t n) a b
@[reducible,simp] def hI(d a:Nat)(l:List dR):dt:=⟨none,.call (some d) (.t a) l⟩
@[reducible,simp] def cQ(d f a:Nat):dt:=dN d f [.t a]
@[reducible,simp] def b8(d f a b:Nat):dt:=dN d f [.t a,.t b]
@[reducible,simp] def eB:List af:=[.int .i64 0,.int .i64 0,.str [],.slice 4 .nil []]
@[reducible,simp] def kv:List af:=[.int .i64 0,.int .i64 0,.int .i64 0,.str [],.slice 4 .nil []]
@[reducible,simp] def iq:List af:=[.int .i64 0,.slice 5 .nil [],.slice 1 .nil [],.slice 2 .nil [],.slice 2 .nil []]
@[reducible,simp] def cU(a b:Nat):dt:=ds (.box a none (.t b))
@[reducible,simp] def dF(a:Nat)(l:List af):dt:=ds (.alloc a none (.agg l))
@[reducible,simp] def eY(a n:Nat):dt:=cf a (.mov (.c (.slice n .nil [])))
@[reducible,simp] def hT(a b c d e:Nat):dt:=ds (.app a b c (.t d) (.t e))
@[reducible,simp] def eX(a b c:Nat)(l:List dR):dt:=ds (.bsl a b c l)
@[reducible,simp] def gy(a b:Nat):dt:=cf a (.nck (.t b))
@[reducible,simp] def kD(d s a:Nat)(n:Int):dt:=cf d (.iaddr s (.t a) (gV n))
@[reducible,simp] def jz(d:Nat)(l:List af)(m:List (Nat×Nat×dR)):dt:=cf d (.build l m)
@[reducible,simp] def gz(a b c:Nat)(x:C):C:= .block 0 (.loop (aa [bt a .lss b c] (.seq (aW a .skip (.exit 0)) x)))
@[reducible,simp,match_pattern] def aj(n:Int):af:= .int .i64 n
@[reducible,simp,match_pattern] def c1(l:List af):af:= .slice 1 .no l
@[reducible,simp,match_pattern] def b5(l:List af):af:= .slice 2 .no l
@[reducible,simp,match_pattern] def dw(l:List af):af:= .slice 4 .no l
@[reducible,simp,match_pattern] def bH(l:List af):af:= .slice 5 .no l
def QZ:List cV:=[0,1,2,2,3,3,3,3,4,4,4,4,4,4,4,4,5,5,5,5,5,5,5,5,5,5,5,5,5,5,5,5,6,6,6,6,6,6,6,6,6,6,6,6,6,6,6,6,6,6,6,6,6,6,6,6,6,6,6,6,6,6,6,6,7,7,7,7,7,7,7,7,7,7,7,7,7,7,7,7,7,7,7,7,7,7,7,7,7,7,7,7,7,7,7,7,7,7,7,7,7,7,7,7,7,7,7,7,7,7,7,7,7,7,7,7,7,7,7,7,7,7,7,7,7,7,7,7,8,8,8,8,8,8,8,8,8,8,8,8,8,8,8,8,8,8,8,8,8,8,8,8,8,8,8,8,8,8,8,8,8,8,8,8,8,8,8,8,8,8,8,8,8,8,8,8,8,8,8,8,8,8,8,8,8,8,8,8,8,8,8,8,8,8,8,8,8,8,8,8,8,8,8,8,8,8,8,8,8,8,8,8,8,8,8,8,8,8,8,8,8,8,8,8,8,8,8,8,8,8,8,8,8,8,8,8,8,8,8,8,8,8,8,8,8,8,8,8,8,8,8,8,8,8,8,8]
end
section
open Go Go.RowKit
def eV{α:Type}{l:List α}{i:Nat}(h:i<l.length):∃b,l[i]? =some b/\∀h,(l[i]'h)=b:=⟨l[i],ck h,fun _=>rfl⟩
def Qt(st:bo)(i:e0):Prop:=match nH st i with|some (c,_)=>c|none=>eb
def Qu(st:bo)(i:e0):bo:=match nH st i with|some (_,s)=>s|none=>st
def Gx(P:cG)(r:List dt)(K:bo->Prop)(st:bo):Prop:=iY P r st K
def AR(P:cG)(ob:List aB)(c:C)(Q:Exit->bo->Prop)(st:bo):Prop:=de P ob c Q st
def rv(P:cG)(v:af)(s:Nat)(w:Bool)(i:eT)(r:List dt)(st:bo)(K:bo->Prop):Prop:=
 match v with
 | .bool b=>(b=w->iY P (⟨none,i⟩::r) {st with t:=put s (.bool w) st.t} K)/\(b= !w->iY P r {st with t:=e9 i.dst (.tuple []) (put s (.bool !w) st.t)} K)
 | .tuple []=>iY P r {st with t:=e9 i.dst (.tuple []) st.t} K
 |_=>eb
def vZ(P:cG)(ob:List aB)(v:af)(x:dR)(t e:C)(Q:Exit->bo->Prop)(st:bo):Prop:=
 match v with
 | .bool b=>(b=true->de P ob t Q (ud st x true))/\(b=false->de P ob e Q (ud st x false))
 |_=>eb
def Mj(P:cG)(v:af)(d:Option Nat)(xs:List af)(r:List dt)(st:bo)(K:bo->Prop):Prop:=
 match v with
 | .func n dH=>CallDo P n (b9 (xs++dH)) st d (Gx P r K)
 |_=>eb
section
variable {P:cG} {ob:List aB} {st:bo} {K:bo->Prop} {r:List dt} {Q:Exit->bo->Prop} {a b c t e:C}
def agH:iY P [] st K=K st:=rfl
def agI{i:e0}:iY P (⟨none,.s i⟩::r) st K=(Qt st i/\iY P r (Qu st i) K):=by
 simp only[iY,vY,Qt,Qu];cases nH st i with
 |none=>simp
 |some x=>rfl
def agE{d:Option Nat}{f:dR}{xs:List dR}:iY P (⟨none,.call d f xs⟩::r) st K=Mj P (cD st.t f) d (xs.map (cD st.t)) r st K:=by simp only[iY,vY,Mj];rfl
def agG{d:Nat}{x:dR}:iY P (⟨none,.next d x⟩::r) st K=uL st d (cD st.t x) (Gx P r K):=by simp only[iY,vY];rfl
def yU(P:cG)(ob:List aB)(c:C)(Q:Exit->bo->Prop):Option bo->Prop
 |some st=>de P ob c Q st
 |none=>eb
def ad4:yU P ob c Q (some st)=de P ob c Q st:=rfl
def agi{s:Nat}:de P ob (.pub s c) Q st=yU P ob c Q (yo st s):=by simp only[de];cases yo st s<;>rfl
def agd{a:Bool}{s:Nat}:de P ob (.fg a s c) Q st=de P ob c Q {st with t:=put s (Bn a (get s st.t)) st.t}:=rfl
def age{a:Bool}{s:Nat}{d:C}:de P ob (.seq (.fg a s c) d) Q st=de P ob (.seq c d) Q {st with t:=put s (Bn a (get s st.t)) st.t}:=rfl
def agf{a:Bool}{s:Nat}:de P ob (.fz a s c) Q st=yU P ob c Q (xv st a s):=by simp only[de];cases xv st a s<;>rfl
def agh{a:Bool}{s:Nat}{d:C}:de P ob (.seq (.fz a s c) d) Q st=yU P ob (.seq c d) Q (xv st a s):=by simp only[de];cases xv st a s<;>rfl
def agj{s:Nat}:de P ob (.pubB s c) Q st=yU P ob c Q (yn st s):=by simp only[de];cases yn st s<;>rfl
def agD{n:Nat}{dH:List af}{d:Option Nat}{xs:List af}:Mj P (.func n dH) d xs r st K=CallDo P n (b9 (xs++dH)) st d (Gx P r K):=rfl
def agF{s:Nat}{w:Bool}{i:eT}:iY P (⟨some (s,w),i⟩::r) st K=rv P (get s st.t) s w i r st K:=by simp only[iY,rv];try rfl
def agN{s:Nat}{i:eT}:rv P (.bool true) s true i r st K=iY P (⟨none,i⟩::r) {st with t:=put s (.bool true) st.t} K:=by simp[rv]
def agJ{s:Nat}{i:eT}:rv P (.bool false) s false i r st K=iY P (⟨none,i⟩::r) {st with t:=put s (.bool false) st.t} K:=by simp[rv]
def agM{s:Nat}{i:eT}:rv P (.bool true) s false i r st K=iY P r {st with t:=e9 i.dst (.tuple []) (put s (.bool true) st.t)} K:=by simp[rv]
def agK{s:Nat}{i:eT}:rv P (.bool false) s true i r st K=iY P r {st with t:=e9 i.dst (.tuple []) (put s (.bool false) st.t)} K:=by simp[rv]
def agL{s:Nat}{w:Bool}{i:eT}:rv P (.tuple []) s w i r st K=iY P r {st with t:=e9 i.dst (.tuple []) st.t} K:=by simp[rv]
def cu{x:Bool}{s:Nat}{w:Bool}{i:eT}(J:x=w->iY P (⟨none,i⟩::r) {st with t:=put s (.bool w) st.t} K)(U:x= !w->iY P r {st with t:=e9 i.dst (.tuple []) (put s (.bool !w) st.t)} K):rv P (.bool x) s w i r st K:=⟨J,U⟩
def af2:de P ob (.seq (.seq a b) c) Q st=de P ob (.seq a (.seq b c)) Q st:=by simp only[de];congr 1;funext e st';cases e<;>rfl
def ago:de P ob (.seq .skip c) Q st=de P ob c Q st:=rfl
def agm:de P ob (.seq .ret c) Q st=Q .ret st:=rfl
def agb{n:Nat}:de P ob (.seq (.exit n) c) Q st=Q (.exit n) st:=rfl
def agp:de P ob .skip Q st=Q .normal st:=rfl
def agn:de P ob .ret Q st=Q .ret st:=rfl
def agc{n:Nat}:de P ob (.exit n) Q st=Q (.exit n) st:=rfl
def agk{gs:List dt}:de P ob (.seq (.region gs) c) Q st=iY P gs st (AR P ob c Q):=rfl
def agl{gs:List dt}:de P ob (.region gs) Q st=iY P gs st (Q .normal):=rfl
def af5{x:dR}:de P ob (.seq (.cond x t e) c) Q st=vZ P ob (cD st.t x) x (.seq t c) (.seq e c) Q st:=by simp only[de,vZ];try rfl
def af6{x:dR}:de P ob (.cond x t e) Q st=vZ P ob (cD st.t x) x t e Q st:=by simp only[de,vZ];try rfl
def agr{x:dR}:vZ P ob (.bool true) x t e Q st=de P ob t Q (ud st x true):=by simp[vZ]
def agq{x:dR}:vZ P ob (.bool false) x t e Q st=de P ob e Q (ud st x false):=by simp[vZ]
def cq{v:Bool}{x:dR}(J:v=true->de P ob t Q (ud st x true))(U:v=false->de P ob e Q (ud st x false)):vZ P ob (.bool v) x t e Q st:=⟨J,U⟩
def AM(P:cG)(ob:List aB)(id:Nat)(c:C)(Q:Exit->bo->Prop)(e:Exit)(st:bo):Prop:=
 match e with
 | .normal=>de P ob c Q st
 | .exit j=>if j=id then de P ob c Q st else Q (.exit j) st
 |e=>Q e st
def af3{id:Nat}:de P ob (.seq (.block id a) c) Q st=de P ob a (AM P ob id c Q) st:=by
 simp only[de];congr 1;funext e st';cases e with
 |exit j=>rfl
 |_=>rfl
def af4{id:Nat}:de P ob (.block id a) Q st=de P ob a (AM P ob id .skip Q) st:=by
 simp only[de];congr 1;funext e st';cases e with
 |exit j=>simp only[AM];by_cases b:j=id<;>simp[b,de]
 |_=>rfl
def adT{id:Nat}:AM P ob id c Q .normal st=AR P ob c Q st:=rfl
def adS{id j:Nat}:AM P ob id c Q (.exit j) st=if j=id then AR P ob c Q st else Q (.exit j) st:=rfl
def adU{id:Nat}:AM P ob id c Q .ret st=Q .ret st:=rfl
def bX(ob:List aB)(b:Nat->bo->Prop)(k:Nat)(Q:Exit->bo->Prop)(e:Exit)(st:bo):Prop:=
 match e with
 | .normal=> ∃bs a,bs<k/\gq ob st a/\b bs a
 |e=>Q e st
def Gs{b:Nat->bo->Prop}{k:Nat}:bX ob b k Q .normal st= ∃bs a,bs<k/\gq ob st a/\b bs a:=rfl
def adZ{a:Nat->bo->Prop}{k n:Nat}:bX ob a k Q (.exit n) st=Q (.exit n) st:=rfl
def ad0{a:Nat->bo->Prop}{k:Nat}:bX ob a k Q .ret st=Q .ret st:=rfl
def qH(b:Nat->bo->Prop)(m:Nat)(c:bo)(hw:gq ob st c)(l:b m c)(h:∀k s,b k s->(∀i,eU (get i s.t))->(∀j cs,ae j s.b=some cs->gZ cs=true->eM cs)->de P ob a (bX ob b k Q) s):de P ob (.loop a) Q st:=by
 simp only[de];refine⟨b,m,c,hw,l,fun k s J U n=>?_⟩;have:=h k s J U n;have g:(bX ob b k Q)=(fun e d=>match e with| .normal=> ∃bs f,bs<k/\gq ob d f/\b bs f|e=>Q e d):=by funext e d;cases e<;>rfl
 rw[g]at this;exact this
end
/-Regions cP draw kd order. -/
def Qr(n0:Nat)(st:bo)(i:e0):Prop:=match fs (qE n0 i) st.n (qE n0 i::st.o) st i with|some (c,_)=>c|none=>eb
def Qs(n0:Nat)(st:bo)(i:e0):bo:=match fs (qE n0 i) st.n (qE n0 i::st.o) st i with|some (_,s)=>s|none=>st
def KP(P:cG)(q:Bool)(nw:List Nat)(n0:Nat)(r:List dt)(K:bo->Prop)(st:bo):Prop:=iP P q nw n0 r st K
def rs(P:cG)(q:Bool)(nw:List Nat)(n0:Nat)(v:af)(s:Nat)(w:Bool)(i:eT)(r:List dt)(st:bo)(K:bo->Prop):Prop:=
 match v with
 | .bool b=>(b=w->iP P q nw n0 (⟨none,i⟩::r) {st with t:=put s (.bool w) st.t} K)/\(b= !w->iP P q nw n0 r {st with t:=e9 i.dst (.tuple []) (put s (.bool !w) st.t)} K)
 | .tuple []=>iP P q nw n0 r {st with t:=e9 i.dst (.tuple []) st.t} K
 |_=>eb
def Mi(P:cG)(q:Bool)(nw:List Nat)(n0:Nat)(v:af)(d:Option Nat)(xs:List af)(r:List dt)(st:bo)(K:bo->Prop):Prop:=
 match v with
 | .func n dH=>hJ P q nw n (b9 (xs++dH)) st d (KP P q nw n0 r K)
 |_=>eb
section
variable {P:cG} {ob:List aB} {st:bo} {K:bo->Prop} {r:List dt} {Q:Exit->bo->Prop} {c:C} {q:Bool} {nw:List Nat} {n0 N:Nat}
def agv:iP P q nw n0 [] st K=K st:=rfl
def agw{i:e0}:iP P q nw n0 (⟨none,.s i⟩::r) st K=(nl q nw n0 st i/\Qr n0 st i/\iP P q nw n0 r (Qs n0 st i) K):=by
 simp only[iP,lb,Qr,Qs];cases fs (qE n0 i) st.n (qE n0 i::st.o) st i with
 |none=>simp
 |some x=>rfl
def agt{d:Option Nat}{f:dR}{xs:List dR}:iP P q nw n0 (⟨none,.call d f xs⟩::r) st K=Mi P q nw n0 (cD st.t f) d (xs.map (cD st.t)) r st K:=by simp only[iP,lb,Mi];rfl
def ags{n:Nat}{dH:List af}{d:Option Nat}{xs:List af}:Mi P q nw n0 (.func n dH) d xs r st K=hJ P q nw n (b9 (xs++dH)) st d (KP P q nw n0 r K):=rfl
def agu{s:Nat}{w:Bool}{i:eT}:iP P q nw n0 (⟨some (s,w),i⟩::r) st K=rs P q nw n0 (get s st.t) s w i r st K:=by simp only[iP,rs];try rfl
def agB{s:Nat}{i:eT}:rs P q nw n0 (.bool true) s true i r st K=iP P q nw n0 (⟨none,i⟩::r) {st with t:=put s (.bool true) st.t} K:=by simp[rs]
def agx{s:Nat}{i:eT}:rs P q nw n0 (.bool false) s false i r st K=iP P q nw n0 (⟨none,i⟩::r) {st with t:=put s (.bool false) st.t} K:=by simp[rs]
def agA{s:Nat}{i:eT}:rs P q nw n0 (.bool true) s false i r st K=iP P q nw n0 r {st with t:=e9 i.dst (.tuple []) (put s (.bool true) st.t)} K:=by simp[rs]
def agy{s:Nat}{i:eT}:rs P q nw n0 (.bool false) s true i r st K=iP P q nw n0 r {st with t:=e9 i.dst (.tuple []) (put s (.bool false) st.t)} K:=by simp[rs]
def agz{s:Nat}{w:Bool}{i:eT}:rs P q nw n0 (.tuple []) s w i r st K=iP P q nw n0 r {st with t:=e9 i.dst (.tuple []) st.t} K:=by simp[rs]
def ct{x:Bool}{s:Nat}{w:Bool}{i:eT}(J:x=w->iP P q nw n0 (⟨none,i⟩::r) {st with t:=put s (.bool w) st.t} K)(U:x= !w->iP P q nw n0 r {st with t:=e9 i.dst (.tuple []) (put s (.bool !w) st.t)} K):rs P q nw n0 (.bool x) s w i r st K:=⟨J,U⟩
def af7{gs:List dt}:de P ob (.seq (.drawn q N gs) c) Q st=iP P q [] st.n gs st (vF (st.n+N) st.o (AR P ob c Q)):=rfl
def af8{gs:List dt}:de P ob (.drawn q N gs) Q st=iP P q [] st.n gs st (vF (st.n+N) st.o (Q .normal)):=rfl
def af9{gs:List dt}:de P ob (.seq (.drawnW nw N gs) c) Q st=((∀j∈nw,.obj j∉st.o)/\iP P false nw st.n gs st (vF (st.n+N) (nw.map aB.obj++st.o) (AR P ob c Q))):=rfl
def aga{gs:List dt}:de P ob (.drawnW nw N gs) Q st=((∀j∈nw,.obj j∉st.o)/\iP P false nw st.n gs st (vF (st.n+N) (nw.map aB.obj++st.o) (Q .normal))):=rfl
def hJ.val{n:Nat}{args:List af}{d:Option Nat}{r:af}(ad:aH (fun _=>eb) args)(a:bT P n args r)(h:K {st with t:=e9 d r st.t}):hJ P q nw n args st d K:=by
 refine .inr ⟨⟨[],[]⟩,⟨[],[]⟩,r,none,fun k cs ad=>by simp[ae]at ad,fun k cs ad=>by simp[ae]at ad,q3,q3,⟨fun k h=>.inl h,fun k h=>.inl h,fun k h=>h,fun k h=>h,fun k h=>by cases h⟩,ji (fun _ h=>h.elim) _ ad,a,fun _=>⟨rfl,rfl⟩,?_⟩;have:({after st ⟨[],[]⟩ ⟨[],[]⟩ d r with o:=st.o}:bo)={st with t:=e9 d r st.t}:=by simp[after,Dh]
 rw[this];exact h
def aP{n:Nat}{args:List af}{d:Option Nat}{r:af}(a:bT P n args r)(h:K {st with t:=e9 d r st.t})(ad:aH (fun _=>eb) args:=by simp):hJ P q nw n args st d K:=hJ.val ad a h
end
section
variable {k:IntKind} {n:Int} {b:Bool} {s:List cV} {sz:Nat} {tag:jF} {xs:List af} {key:aB} {off f:Nat} {x:af}
@[simp]def axZ:eS (.int k n)=true:=rfl
@[simp]def axM:eS (.bool b)=true:=rfl
@[simp]def ax8:eS (.str s)=true:=rfl
@[simp]def ax7:eS (.slice sz tag xs)=true:=rfl
@[simp]def axI:eS (.agg xs)=true:=rfl
@[simp]def ax5:eS (.ptr key off)=true:=rfl
@[simp]def axV:eS (.eptr x)=true:=rfl
@[simp]def axY{t:Nat}:eS (.iface t x)=true:=rfl
@[simp]def auG{t:Nat}:cells (.iface t x)=[.iface t x]:=rfl
@[simp]def axO{a:Option Addr}{n c:Nat}:eS (.cst (.slice a n c))=true:=rfl
@[simp]def axP{s}:eS (.cst (.string s))=true:=rfl
@[simp]def ax4:eS .nilp=true:=rfl
@[simp]def axW:eS (.func f xs)=true:=rfl
@[simp]def axX:eS (.gmap key)=true:=rfl
@[simp]def ax6{n:Nat}:eS (.row sz key n)=true:=rfl
@[simp]def auP{n:Nat}:cells (.row sz key n)=[.row sz key n]:=rfl
@[simp]def auH:cells (.int k n)=[.int k n]:=rfl
@[simp]def auv:cells (.bool b)=[.bool b]:=rfl
@[simp]def auR:cells (.str s)=[.str s]:=rfl
@[simp]def auQ:cells (.slice sz tag xs)=[.slice sz tag xs]:=rfl
@[simp]def aur:cells (.agg xs)=xs:=rfl
@[simp]def auO:cells (.ptr key off)=[.ptr key off]:=rfl
@[simp]def auD:cells (.eptr x)=[.eptr x]:=rfl
@[simp]def auN:cells .nilp=[.nilp]:=rfl
@[simp]def auE:cells (.func f xs)=[.func f xs]:=rfl
@[simp]def auF:cells (.gmap key)=[.gmap key]:=rfl
end
section
variable {b:List (aB×List af)} {e:List (aB×dT)} {agg:Bool} {sz off:Nat} {k:aB} {p:af} {cs xs bk:List af} {gk:IntKind} {n i:Int} {m j:Nat} {tag:jF} {s:List cV} {Sb:Bool} {lo hi:Option af}
@[simp]def awN{a:Nat}{f:Nat}:n9 b e agg sz (.rptr a k m j f)=Au agg sz a m j f (ae k e):=rfl
@[simp]def awM:n9 b e agg sz (.ptr k off)=(match ae k b with
  |some cs=>if agg then some (gZ cs=true/\off+sz<=cs.length,.agg ((cs.drop off).take sz))else(cs[off]?).map fun p=>(gZ cs=true,p)
  |none=>none):=rfl
@[simp]def awL:n9 b e agg sz (.eptr p)=if agg then some (qW sz p,p)else some (eS p=true/\cells p=[p],p):=rfl
@[simp]def avp:D2 agg sz (.eptr p)=if agg then some (qW sz p,p)else some (eS p=true/\cells p=[p],p):=rfl
@[simp]def avh{o:Nat}:tc off agg sz (.ptr k o)=some (True,.ptr k (o+off)):=rfl
@[simp]def avi{a f:Nat}:tc off agg sz (.rptr a k m j f)=some (True,.rptr a k m j (f+off)):=rfl
@[simp]def avc:tc off agg sz (.eptr (.agg cs))=if agg then some (off+sz<=cs.length,.eptr (.agg ((cs.drop off).take sz)))else(cs[off]?).map fun p=>(eS p=true/\cells p=[p],.eptr p):=rfl
@[simp]def avk:wa off agg sz (.agg cs)=if agg then some (off+sz<=cs.length,.agg ((cs.drop off).take sz))else(cs[off]?).map fun p=>(True,p):=rfl
@[simp]def avS{a:Nat}:BZ sz (.slice a tag xs) (.int gk i)=if a=sz then some (0<=i/\i<xs.length,.eptr (xs.getD i.toNat .junk))else none:=rfl
@[simp]def avR{a:Nat}:BZ sz (.row a k m) (.int gk i)=if a=sz then some (0<=i/\i<m,.rptr a k m i.toNat 0)else none:=rfl
@[simp]def awK{a:Nat}:Cc (.slice a tag xs)=some (True,.int .i64 xs.length):=rfl
@[simp]def awJ{a:Nat}:Cc (.row a k m)=some (True,.int .i64 m):=rfl
@[simp]def awI{a:Option Addr}{n c:Nat}:Cc (.cst (.slice a n c))=some (True,.int .i64 n):=rfl
@[simp]def axG{s}:F1 (.cst (.string s))=some (True,.int .i64 s.size):=rfl
@[simp]def axH:F1 (.str s)=some (True,.int .i64 s.length):=rfl
@[simp]def avb:Bi j (.tuple bk)=(bk[j]?).map fun p=>(True,p):=rfl
@[simp]def axf:Cq (.ptr k off)=some (True,.ptr k off):=rfl
@[simp]def axd:Cq (.eptr p)=some (True,.eptr p):=rfl
@[simp]def axe:Cq (.func j cs)=some (True,.func j cs):=rfl
@[simp]def axj:Jd (.bool Sb)=some (True,.bool (!Sb)):=rfl
@[simp]def axF:Ke (.str s) (.int gk i)=some (0<=i/\i<s.length,.int .u8 (s.getD i.toNat 0).toNat):=rfl
@[simp]def ayb:Kj (.str s) lo hi=(match sJ 0 lo,sJ s.length hi with
  |some l,some h=>some (0<=l/\l<=h/\h<=s.length,.str ((s.take h.toNat).drop l.toNat))
  |_,_=>none):=rfl
@[simp]def awR{a:Nat}:IX sz (.slice a tag xs) lo hi=(if a=sz then match sJ 0 lo,sJ xs.length hi with
  |some l,some h=>some (0<=l/\l<=h/\h<=xs.length,.slice sz .no ((xs.take h.toNat).drop l.toNat))
  |_,_=>none else none):=rfl
def Y8{f:aB->Option (List af)}{a:kj}{z q:af}{ok:Bool}:pt f a z ok (.gmap k) q=(match f k with
  |some (.hdm _ _::kvs)=>if x7 a q=false then none else match yc a q kvs with
   |some (some v)=>some (True,if ok then .tuple [v,.bool true]else v)
   |some none=>some (True,if ok then .tuple [z,.bool false]else z)
   |none=>none
  |_=>none):=rfl
def Y5{f:aB->Option (List af)}:qZ f (.ptr k 0)=(match f k with
  |some [.hdi _ seen last,.gmap mk]=>match f mk with
   |some (.hdm clock borns::kvs)=>match seen.getLast? with
    |some n=>(oc n borns kvs).map fun p=>(clock=last,p)
    |none=>none
   |_=>none
  |_=>none):=rfl
@[simp]def axB{b f n' el a:Nat}:Au agg sz b m j f (some ⟨n',el,a,some xs⟩)=(if n'=m/\a=b then
   (match xs[j]? with
    |some p=>if agg then some (eS p=true/\f+sz<=(cells p).length,.agg (((cells p).drop f).take sz))else((cells p)[f]?).map fun q=>(eS p=true,q)
    |none=>none)else none):=rfl
end
attribute [simp] af2 agk af3 af5 ago agm agb agp agn agc agl af4 af6 AR adT adS adU adZ ad0 agH agI agE agD agF
 agN agJ agM agK agL agr agq Qt Qu nH hZ iM cD get put kx rL oT oU cL sJ Dy It Kk nI vU Js Ja G9 I7
 ae e9 e0.dst eT.dst ud Gx uB b9 b3 aA aH
 af7 af8 af9 aga agv agw agt ags agu agB agx agA agy agz Qr Qs fs qE nl qJ gP.loadO vF KP zQ gZ uC agG agi agj agd age agf agh xv MH uE Bn ad4 yo FE yn sP oi js I1 GI si
def aO{P:cG}{n:Nat}{args:List af}{st:bo}{d:Option Nat}{K:bo->Prop}{r:af}(a:bT P n args r)(h:K {st with t:=e9 d r st.t})(ad:aH (fun _=>eb) args:=by simp):CallDo P n args st d K:=CallDo.val ad a h
def al{a b:Prop}(d:b)(c:a:=by first|omega|(unfold tK;omega)|(unfold lim;omega)):a/\b:=⟨c,d⟩
def c0{p:Prop}(h:eb:=by first|contradiction|omega):p:=h.elim
def cn{p:Prop}(h:p:=by(try simp[*]);(repeat' first|with_reducible refine al ?_|with_reducible refine aO (by assumption) ?_|with_reducible refine aP (by assumption) ?_|simp[*]);(all_goals first|done|(simp[bZ,ba,be,a1, *];done))):p:=h
end
section
open Go Go.RowKit
structure ey (s:cT):Prop where
 obj:hP s
 kb:∀k cs,ae k s.b=some cs->aH (aM s) cs
 ke:∀k o,ae k s.e=some o->dW (aM s) o
structure Same (s ak:cT):Prop where
 b:∀k,(ae k s.b).isSome=(ae k ak.b).isSome
 e:∀k,(ae k s.e).isSome=(ae k ak.e).isSome
def Same.refl(s:cT):Same s s:=⟨fun _=>rfl,fun _=>rfl⟩
def Same.inObs{s a:cT}(h:Same s a)(k:aB):aM s k↔aM a k:=by unfold aM;rw[h.b,h.e]
def vd{α:Type}{k:aB}{x:α}:∀{l:List (aB×α)},(k,x)∈l->(ae k l).isSome
 |(i,y)::r,h=>by
  simp only[ae];split
  ·rfl
  ·rename_i a;rcases gJ.1 h with h|h
   ·cases h;exact absurd rfl a
   ·exact vd h
def N1{s:cT}{k:aB}(h:k∈cJ s):aM s k:=by
 unfold cJ at h;rcases jT.1 h with h|h
 ·obtain⟨⟨bs,x⟩,J,rfl⟩:=hc.1 h;exact .inl (vd J)
 ·obtain⟨⟨bs,x⟩,J,rfl⟩:=hc.1 h;exact .inr (vd J)
def kJ{s:cT}(h:hP s)(m:Nat):aB.loc m∉cJ s:=fun hm=>by
 rcases N1 hm with J|J
 ·rw[h.1 m]at J;cases J
 ·rw[h.2 m]at J;cases J
def jy{α β:Type}(s:List (aB×β)):∀(a b:List (aB×α)),cH s (a++b)=cH s a++cH s b
 |[],b=>rfl
 |(k,x)::r,b=>by
  simp only[b6,cH];cases ae k s with
  |none=>simp[jy s r b]
  |some _=>exact jy s r b
def Rt{α β:Type}(s:List (aB×β)):∀(l:List (aB×α)),(∀k x,(k,x)∈l->(ae k s).isSome)->cH s l=[]
 |[],_=>rfl
 |(k,x)::r,h=>by
  have J:=h k x Ψ;simp only[cH];cases a:ae k s with
  |none=>rw[a]at J;cases J
  |some _=>exact Rt s r fun k x b=>h k x (by simp[b])
def hH{α:Type}(s:List (aB×α)):cH s s=[]:=Rt s s fun k x h=>vd h
def kO{α:Type}{k:aB}{x:α}:∀{l:List (aB×α)},ae k l=none->cL k x l=l++[(k,x)]
 |[],_=>rfl
 |(i,y)::r,h=>by
  simp only[ae]at h;split at h
  ·cases h
  ·rename_i a;simp[cL,a,kO h]
def c7{α:Type}(k:aB):∀(a b:List (aB×α)),ae k (a++b)=match ae k a with|some x=>some x|none=>ae k b
 |[],b=>rfl
 |(i,y)::r,b=>by
  simp only[b6,ae];split
  ·rfl
  ·exact c7 k r b
def CallDo.ob{P:cG}{n:Nat}{args:List af}{st:bo}{d:Option Nat}{K:bo->Prop}{s:cT}{Q:af->cT->Prop}(f:bE P n args s Q)(b:ey s)(e:∀k cs,ae k s.b=some cs->ae k st.b=some cs)(he:∀k o,ae k s.e=some o->ae k st.e=some o)
  (ad:aH (aM s) args) (h:∀r a,Q r a->Same s a/\K ⟨e9 d r st.t,cH s.b st.b++a.b,cH s.e st.e++a.e,st.n,st.o++cJ a⟩):CallDo P n args st d K:=by
 refine .inl ⟨s,Q,fun k cs ay=>⟨e k cs ay,.inl (by simp[ay]),b.kb k cs ay⟩,fun k o aq=>⟨he k o aq,.inr (by simp[aq]),b.ke k o aq⟩,b.obj,ad,f,fun r a c=>?_⟩;obtain⟨J,U⟩:=h r a c;exact⟨⟨fun m hm=>.inl (by rw[J.b];exact hm),fun m hm=>.inl (by rw[J.e];exact hm)⟩,U⟩
def c6.ob{j:List bU}{s a:cT}{Q:af->cT->Prop}{e:Exit}{st:bo}{c:Prop}{f:List af}(n:e= .ret\/e= .normal)(p:ba st j=some (c,f))(ay:c)(g:ey a)(i:Same s a)(v:∀k cs,ae k a.b=some cs->ae k st.b=some cs)(q:∀k o,ae k a.e=some o->ae k st.e=some o)
  (ad:aA (aM a) (b3 (a1 f))) (t:Q (b3 (a1 f)) a):c6 j s Q e st:=by
 refine⟨n,?_⟩;rw[p];have m:∀{α:Type} (l:List (aB×α)),(∀k x,(k,x)∈l->aM a k)->lY a l:=by
  intro α l;induction l with
  |nil=>intro _;trivial
  |cons x r u=>obtain⟨k,x⟩:=x;intro h;exact⟨h k x Ψ,u fun k x b=>h k x (by simp[b])⟩
 exact⟨ay,a,m _ fun k x b=>.inl (by rw[<-i.b];exact vd b),m _ fun k x b=>.inr (by rw[<-i.e];exact vd b),fun k cs d=>⟨v k cs d,.inl (by simp[d]),g.kb k cs d⟩,fun k o aq=>⟨q k o aq,.inr (by simp[aq]),g.ke k o aq⟩,g.obj,ad,t⟩
def bE.mono{P:cG}{f:FuncId}{args:List af}{s:cT}{Q b:af->cT->Prop}(h:bE P f args s Q)(g:∀r a,Q r a->b r a):bE P f args s b:=by
 intro w ν bk J U i;have hm:∀(e:Ending) (w':World),(∃v r a bm,e= .returned v/\Q r a/\aU w' bm r v/\Good (fun bl=>ft ν s bl\/w.heap.size<=bl) w' bm a.b a.e/\pf bm a/\hP a/\o3 ⟨w,ν,ft ν s,0,cJ s⟩ w' bm)->(∃v r a bm,e= .returned v/\b r a/\aU w' bm r v/\Good (fun bl=>ft ν s bl\/w.heap.size<=bl) w' bm a.b a.e/\pf bm a/\hP a/\o3 ⟨w,ν,ft ν s,0,cJ s⟩ w' bm):=by rintro e w' ⟨v,r,a,bm,d,a2,a3⟩;exact⟨v,r,a,bm,d,g _ _ a2,a3⟩
 rcases h w ν bk J U i with⟨c,ay⟩|⟨v,w',ay,j⟩
 ·exact .inl ⟨c,ay.mono hm⟩
 ·exact .inr ⟨v,w',ay,hm _ _ j⟩
def Fk{s:cT}{k:aB}(h:aM s k):¬fresh 0 (cJ s) k:=fun a=>a.2 (rR h)
def gq.ob{s:cT}(b:ey s){st:bo}{t':List (Nat×af)}(c:∀x∈t',get x.1 st.t=x.2/\aA (aM s) x.2)(d:∀k cs,ae k s.b=some cs->ae k st.b=some cs)(he:∀k o,ae k s.e=some o->ae k st.e=some o):
  gq (cJ s) st ⟨t',s.b,s.e,0,cJ s⟩:=
 ⟨fun x a=>⟨(c x a).1,tO (fun k ad=>Fk ad) _ (c x a).2⟩,fun k cs ay=>⟨d k cs ay,Fk (.inl (by simp[ay])),ji (fun k ad=>Fk ad) _ (b.kb k cs ay)⟩,
  fun k o aq=>⟨he k o aq,Fk (.inr (by simp[aq])),fun xs a=>ji (fun k ad=>Fk ad) _ (b.ke k o aq xs a)⟩,fun m hm=>hm⟩
def dc(st:bo)(a:List bU)(R:af->Prop):Prop:=match ba st a with
 |some (c,b)=>c/\R (b3 (a1 b))
 |none=>eb
def c6.at{b:List bU}{s:cT}{Q:af->cT->Prop}{e:Exit}{st:bo}(a:cT)(d:e= .ret\/e= .normal)(i:ey a)(f:Same s a)(j:∀k cs,ae k a.b=some cs->ae k st.b=some cs)(g:∀k o,ae k a.e=some o->ae k st.e=some o)
  (h:dc st b fun r=>aA (aM a) r/\Q r a):c6 b s Q e st:=by
 unfold dc at h;split at h
 ·rename_i c m l;exact c6.ob d l h.1 i f j g h.2.1 h.2.2
 ·exact h.elim
def hJ.ob{P:cG}{nw:List Nat}{n:Nat}{args:List af}{st:bo}{d:Option Nat}{K:bo->Prop}{s a:cT}{r:af}(j:bE P n args s fun g t'=>g=r/\t'=a)(c:ey s)(f:ey a)(b:Same s a)(i:∀k cs,ae k s.b=some cs->ae k st.b=some cs)(he:∀k o,ae k s.e=some o->ae k st.e=some o)
  (ad:aH (aM s) args) (h:K ⟨e9 d r st.t,cH s.b st.b++a.b,cH s.e st.e++a.e,st.n,st.o⟩):hJ P false nw n args st d K:=
 .inr ⟨s,a,r,none,fun k cs ay=>⟨i k cs ay,.inl (by simp[ay]),c.kb k cs ay⟩,fun k o aq=>⟨he k o aq,.inr (by simp[aq]),c.ke k o aq⟩,c.obj,f.obj,⟨fun k ad=>.inl (by rw[b.b];exact ad),fun k ad=>.inl (by rw[b.e];exact ad),fun k ad=>by rw[<-b.b];exact ad,fun k ad=>by rw[<-b.e];exact ad,fun k ad=>by cases ad⟩,ad,j,(fun e=>by cases e),h⟩
def ey.of{s:cT}(aq:hP s)(a:∀x∈s.b,aH (aM s) x.2)(he:∀x∈s.e,∀xs,x.2.xs=some xs->aH (aM s) xs):ey s:=⟨aq,fun k cs ad=>a (k,cs) (vc ad),fun k o ad xs b=>he (k,o) (vc ad) xs b⟩
@[simp]def axl(b:List (aB×List af))(e:List (aB×dT)):cJ ⟨b,e⟩=b.map (·.1)++e.map (·.1):=rfl
def Da{α:Type}{k:aB}{p:α}:∀{a r:List (aB×α)},ae k a=none->cL k p (a++r)=a++cL k p r
 |[],_,_=>rfl
 |(i,y)::a,r,h=>by
  simp only[ae]at h;split at h
  ·cases h
  ·rename_i b;simp[cL,b,Da h]
def amJ{α:Type}{s b:List (aB×α)}(h:∀p∈s,ae p.1 b=some p.2):∀k x,ae k s=some x->ae k b=some x:=fun k x a=>h (k,x) (vc a)
def ep{S:aB->Prop}{b0 b:List (aB×List af)}(h:∀p∈b0,ae p.1 b=some p.2/\S p.1/\aH S p.2):hA S b0 b:=fun k x a=>h (k,x) (vc a)
def er{S:aB->Prop}{b0 b:List (aB×dT)}(h:∀p∈b0,ae p.1 b=some p.2/\S p.1/\dW S p.2):qo S b0 b:=fun k x a=>h (k,x) (vc a)
def aX{α:Type}{s b:List (aB×α)}(h:∀k x,ae k s=some x->ae k b=some x:=by first|(refine amJ ?_;simp;done)|(intro k x a;first|exact a|(simp[a,hH];done)|(simp[c7,hH,a];done)|(cases k<;>simp_all[c7];done))):∀k x,ae k s=some x->ae k b=some x:=h
def cb{ob:List aB}{st st':bo}(J:∀x∈st'.t,get x.1 st.t=x.2/\aA (fun k=> ¬fresh st'.n st'.o k) x.2:=by simp[fresh,aH,aA,cd,aM,ae])(U:∀p∈st'.b,ae p.1 st.b=some p.2/\(¬fresh st'.n st'.o p.1)/\aH (fun k=> ¬fresh st'.n st'.o k) p.2:=by simp[fresh,aH,aA,cd,aM,ae])(a:∀p∈st'.e,ae p.1 st.e=some p.2/\(¬fresh st'.n st'.o p.1)/\dW (fun k=> ¬fresh st'.n st'.o k) p.2:=by simp[fresh,aH,aA,dW,aM,ae])(b:∀m∈ob,m∈st'.o:=by simp):gq ob st st':=⟨J,ep U,er a,b⟩
def bX.next{ob:List aB}{b:Nat->bo->Prop}{k:Nat}{Q:Exit->bo->Prop}{st:bo}(bs:Nat){a:bo}(ad:bs<k)(hi:b bs a)(hw:gq ob st a):bX ob b k Q .normal st:=⟨bs,a,ad,hw,hi⟩
def flat:List (Int×af)->List af
 |[]=>[]
 |(k,v)::r=>.int .i64 k::v::flat r
def k1(l:List (Int×af)):List af:= .hdm l.length (List.range l.length)::flat l
def y1(k:Int):List (Int×af)->Option af
 |[]=>none
 |(i,v)::r=>if k=i then some v else y1 k r
def qA(k:Int)(v:af):List (Int×af)->Option (List (Int×af))
 |[]=>none
 |(i,w)::r=>if k=i then some ((k,v)::r)else match qA k v r with|some a=>some ((i,w)::a)|none=>none
def GH(k:Int)(v:af)(l:List (Int×af)):List (Int×af):=match qA k v l with|some a=>a|none=>l++[(k,v)]
@[simp]def aw1:[af.hdm 0 []]=k1 []:=rfl
def VP:∀a b,flat (a++b)=flat a++flat b
 |[],_=>rfl
 |(k,v)::r,b=>by simp[flat,VP r b]
def Y6(k:Int):∀l,yc .i (.int .i64 k) (flat l)=some (y1 k l)
 |[]=>rfl
 |(i,v)::r=>by
  simp only[flat,yc,u5,y1];by_cases h:k=i
  ·simp[h]
  ·have:(k==i)=false:=by simp[h]
   simp[h,Y6 k r,this]
def R2{k:Int}{v:af}:∀{l a},qA k v l=some a->a.length=l.length
 |[],_,h=>by simp[qA]at h
 |(i,w)::r,a,h=>by
  simp only[qA]at h;split at h
  ·cases h;rfl
  ·split at h
   ·rename_i c b;cases h;simp[R2 b]
   ·cases h
def Zv(k:Int)(v:af):∀l,wN .i (.int .i64 k) v (flat l)=some ((qA k v l).map flat)
 |[]=>rfl
 |(i,w)::r=>by
  simp only[flat,wN,u5,qA];by_cases h:k=i
  ·subst h;simp[flat]
  ·simp only[and_self,if_true,h,if_false,eA,Zv k v r];have:(k==i)=false:=by simp[h]
   rw[this];cases qA k v r<;>simp[flat]
@[simp]def Zu(k:Int)(v:af)(l:List (Int×af)):q1 .i (.int .i64 k) v (k1 l)=some (k1 (GH k v l)):=by
 simp only[k1,q1,Yd,Bool.true_eq_false,reduceCtorEq,if_false,Zv,GH];cases h:qA k v l with
 |some a=>simp[R2 h]
 |none=>simp[VP,flat,List.range_succ]
@[simp]def ana(f:aB->Option (List af))(m:aB)(l:List (Int×af))(z:af)(ok:Bool)(k:Int)(hm:f m=some (k1 l)):pt f .i z ok (.gmap m) (.int .i64 k)=(match y1 k l with
  |some v=>some (True,if ok then .tuple [v,.bool true]else v)
  |none=>some (True,if ok then .tuple [z,.bool false]else z)):=by
 simp only[Y8,hm,k1,Yd,Bool.true_eq_false,reduceCtorEq,if_false,Y6];cases y1 k l<;>rfl
def cd(n:Nat)(seen:List Nat)(m:aB):List af:=[.hdi n seen n,.gmap m]
@[simp]def axA(m:aB)(l:List (Int×af)):Am m (k1 l)=some (cd l.length [] m):=rfl
@[simp]def axw(l:List (Int×af)):gZ (k1 l)=false:=rfl
def OM(b:Nat):∀(n:Nat) (l:List (Int×af)),oc b (List.range' n l.length) (flat l)=(if n<=b then(l[b-n]?).map fun x=>.tuple [.int .i64 x.1,x.2]else none)
 |n,[]=>by simp[oc,flat]
 |n,(k,v)::r=>by
  simp only[mZ,List.range'_succ,flat,oc];by_cases h:n=b
  ·subst h;simp
  ·rw[if_neg h,OM b (n+1) r];by_cases U:n<=b
   ·rw[if_pos U,if_pos Ω];have:b-n=(b-(n+1))+1:=Ω
    rw[this];simp
   ·rw[if_neg U,if_neg Ω]
@[simp]def Y4(f:aB->Option (List af))(gk mk:aB)(n:Nat)(seen:List Nat)(b:Nat)(l:List (Int×af))(hi:f gk=some (cd n (seen++[b]) mk))(hm:f mk=some (k1 l))(a:n=l.length):qZ f (.ptr gk 0)=(l[b]?).map fun x=>(True,.tuple [.int .i64 x.1,x.2]):=by subst a;simp only[Y5,hi,hm,cd,k1,List.getLast?_append,List.getLast?_singleton,Option.some_or,List.range_eq_range',OM,Nat.zero_le,if_true,Nat.sub_zero,Option.map_map];cases l[b]?<;>simp
def U9{st:bo}{d:Nat}{K:bo->Prop}{gk mk:aB}{n:Nat}{seen:List Nat}{l:List (Int×af)}(hi:ae gk st.b=some (cd n seen mk))(hm:ae mk st.b=some (k1 l))(g:n=l.length)
  (J:(∀b,b<n->b∈seen)->K {st with t:=put d (.tuple [.bool false]) st.t}) (U:∀b k v,l[b]? =some (k,v)->b∉seen->K {st with t:=put d (.tuple [.bool true,.int .i64 k,v]) st.t,b:=cL gk (cd n (seen++[b]) mk) st.b}):
  uL st d (.ptr gk 0) K:=by
 subst g;simp only[uL,hi,cd,hm,k1,O1,and_self,true_and];refine⟨fun h=>J fun b c=>h b (by simpa using c),fun b k v a c=>?_⟩;rw[List.range_eq_range',OM]at a;simp only[Nat.zero_le,if_true,Nat.sub_zero,ht,af.tuple.injEq,r5,jb]at a;obtain⟨⟨bs,v'⟩,i,f,e⟩:=a;simp only at f e;subst f e;exact U b bs v' i c
def ap0{n:Nat}{seen:List Nat}(d:seen.Nodup)(c:∀b∈seen,b<n)(a:∀b,b<n->b∈seen):seen.Perm (List.range n):=(List.perm_ext_iff_of_nodup d List.nodup_range).2 fun b=>⟨fun h=>by simpa using c b h,fun h=>a b (by simpa using h)⟩
def Kb{n:Nat}{seen:List Nat}(d:seen.Nodup)(a:∀b∈seen,b<n):seen.length<=n:=by have:=RA d (l₂:=List.range n) (fun b c=>by simpa using a b c);simpa using this
def Qz{n b:Nat}{seen:List Nat}(e:seen.Nodup)(a:∀b∈seen,b<n)(d:b<n)(c:b∉seen):seen.length<n:=by have J:(b::seen).Nodup:=List.nodup_cons.2 ⟨c,e⟩;have:=Kb J (n:=n) (by simp;exact⟨d,a⟩);simp at this;omega
def abw{α:Type}:∀(l pre:List α),(List.range' pre.length l.length).filterMap (fun b=>(pre++l)[b]?)=l
 |[],_=>rfl
 |x::r,pre=>by have a:=abw r (pre++[x]);simp only[qv,List.length_singleton,List.append_assoc,List.singleton_append]at a;simp[List.range'_succ,a]
def Qy{α:Type}{l:List α}{seen:List Nat}(d:seen.Nodup)(c:∀b∈seen,b<l.length)(a:∀b,b<l.length->b∈seen):(seen.filterMap fun b=>l[b]?).Perm l:=by have J:=(ap0 d c a).filterMap fun b=>l[b]?;have U:=abw l [];simp only[List.length_nil,cc,<-List.range_eq_range']at U;rwa[U]at J
def Pa{b:Nat}{seen:List Nat}(f:seen.Nodup)(d:b∉seen):(seen++[b]).Nodup:=by rw[r7];exact⟨f,Ψ,by simp;intro a c e;subst e;exact d c⟩
def c9.start{w:World}{ν:bc}{s:cT}{args:List af}{bk:Array Value}(e:hP s)(bd:Good (ft ν s) w ν s.b s.e)(a:pf ν s)(p:cZ w ν args bk.toList):
  c9 ⟨w,ν,ft ν s,bk.size,cJ s⟩ ⟨iM 0 args,s.b,s.e,0,cJ s⟩ {tmps:=bk,defers:=[]} w ν:=by
 have q:=wX p;have A:bk.size=args.length:=by simpa using q
 have d:∀k,fresh 0 (cJ s) k->ν.bx k=none/\ν.ow k=none/\∀j b,¬ν.tr k j b:=by
  intro k ad;cases k with
  |loc m=>exact⟨(a _).1 (e.1 m),(a _).2.1 (e.2 m),(a _).2.2⟩
  |obj m=>
   simp only[fresh,true_and]at ad;refine⟨?_,?_,(a _).2.2⟩
   ·refine(a _).1 ?_;cases h:ae (.obj m) s.b with
    |none=>rfl
    |some x=>exact absurd (rR (.inl (by simp[h]))) ad
   ·refine(a _).2.1 ?_;cases h:ae (.obj m) s.e with
    |none=>rfl
    |some x=>exact absurd (rR (.inr (by simp[h]))) ad
 have f:∀m,(ν.bx (.obj m)≠none\/ν.ow (.obj m)≠none)-> .obj m∈cJ s:=by
  intro m hm;refine Classical.byContradiction fun ay=>?_;obtain⟨J,U,_⟩:=d (.obj m) ⟨trivial,ay⟩;rcases hm with hm|hm
  ·exact hm J
  ·exact hm U
 refine⟨⟨bd.alt,fun k cs ad=>?_,bd.inj,fun g o t=>?_,bd.oinj,bd.obx,bd.one,bd.otr⟩,⟨rfl,rfl,rfl,dO _,fun _ _ _=>rfl,fun b o h=>⟨h,rfl⟩,fun b o h=>.inl h,fun n b h=>h,fun n b h=>f n (.inl (by rw[h];simp)),fun m n u h=>⟨n,u,h,.inl ⟨rfl,rfl⟩⟩,fun m n u h=>f m (.inr (by rw[h];simp)),fun k j _ _ b h=>absurd h ((a k).2.2 j b),fun k j b h=>absurd h ((a k).2.2 j b),fun k j b h=>absurd h ((a k).2.2 j b),fun _ _ _=>rfl⟩,rfl,rfl,fun i=>?_,d⟩
 ·obtain⟨bl,us,el,g1,g2,g3⟩:=bd.box k cs ad;exact⟨bl,us,el,g1,.inl g2,g3⟩
 ·obtain⟨v,us,g1,g2,g3,g4⟩:=bd.own g o t;exact⟨v,us,g1,g2,fun bl l=>⟨.inl (g3 bl l).1,(g3 bl l).2⟩,g4⟩
 ·rw[D5];by_cases hi:i<args.length
  ·rw[if_pos Ω];have c:args[i]? =some args[i]:=ck hi;obtain⟨v,y,z⟩:=CU i p c;have r:bk[i]? =some v:=by simpa using y
   show aU w ν _ (bk.getD i undef);rw[vz,r];simpa[List.getD,c]using z
  ·rw[if_neg Ω];simp[aU]
def bE.sem{P:cG}{f:FuncId}{args:List af}{s:cT}{Q:af->cT->Prop}(H:hP s)
  (h:∀(w:World) (ν:bc) (bk:Array Value),bk.size=args.length->c9 ⟨w,ν,ft ν s,bk.size,cJ s⟩ ⟨iM 0 args,s.b,s.e,0,cJ s⟩ {tmps:=bk,defers:=[]} w ν->
   yO P f bk w fun e w'=> ∃v st' bp bm r a,e= .returned v/\c9 ⟨w,ν,ft ν s,bk.size,cJ s⟩ st' bp w' bm/\aU w' bm r v/\lY a s.b/\lY a s.e/\hA (aM a) a.b st'.b/\qo (aM a) a.e st'.e/\hP a/\aA (aM a) r/\Q r a):bE P f args s Q:=by
 intro w ν bk bd t z;have G:bk.size=args.length:=by simpa using wX z
 have E:=c9.start H bd t z;have hm:∀(e:Ending) (w':World),(∃v st' bp bm r a,e= .returned v/\c9 ⟨w,ν,ft ν s,bk.size,cJ s⟩ st' bp w' bm/\aU w' bm r v/\lY a s.b/\lY a s.e/\hA (aM a) a.b st'.b/\qo (aM a) a.e st'.e/\hP a/\aA (aM a) r/\Q r a)->
   ∃v r a bm,e= .returned v/\Q r a/\aU w' bm r v/\Good (fun bl=>ft ν s bl\/w.heap.size<=bl) w' bm a.b a.e/\pf bm a/\hP a/\o3 ⟨w,ν,ft ν s,0,cJ s⟩ w' bm:=by
  rintro e w' ⟨v,st',bp,bm,r,a,rfl,d,A,kb,ke,y,q,M,K,L⟩;refine⟨v,r,a,bm.cut (aM a),rfl,L,kL (ov.cut _ w' bm) _ _ K A,d.good.cut y q (fun bl h _=>h),?_,M,?_⟩
  ·intro k;refine⟨?_,?_,?_⟩;rotate_left 2
   ·rintro j b ⟨c,i⟩;obtain⟨t1,t2⟩:=d.fr.trn k j b i;rcases c with c|c<;>obtain⟨x,l⟩:=fy.1 c
    ·obtain⟨bl,p,el,g,_⟩:=d.good.box k x (y k x l).1;rw[t1]at g;cases g
    ·obtain⟨v',p,g,_⟩:=d.good.own k x (q k x l).1;rw[t2]at g;cases g
   ·intro ad;by_cases c:aM a k
    ·rw[bc.cut_bx c];rcases c with c|c
     ·rw[ad]at c;cases c
     ·obtain⟨x,l⟩:=fy.1 c;obtain⟨v',p,g,_⟩:=d.good.own k x (q k x l).1;rcases d.good.one k with J|J
      ·exact J
      ·rw[J]at g;cases g
    ·exact(bc.cut_no c).1
   ·intro ad;by_cases c:aM a k
    ·rw[bc.cut_ow c];rcases c with c|c
     ·obtain⟨x,l⟩:=fy.1 c;obtain⟨bl,p,el,g,_⟩:=d.good.box k x (y k x l).1;rcases d.good.one k with J|J
      ·rw[J]at g;cases g
      ·exact J
     ·rw[ad]at c;cases c
    ·exact(bc.cut_no c).2.1
  ·refine⟨d.fr.os,d.fr.tape,d.fr.output,d.fr.size,d.fr.block,d.fr.keep,d.fr.fresh,fun n b h=>?_,d.fr.obn,fun m n u h=>?_,d.fr.obr,fun k j bs dg b J U=>d.fr.trd k j bs dg b J.2 U.2,fun k j b i=>d.fr.trb k j b i.2,fun k j b i=>(by rw[bc.cut_bx i.1,bc.cut_ow i.1];exact d.fr.trn k j b i.2),d.fr.sh⟩
   ·have c:aM a (.obj n):=by
     cases o:ae (.obj n) s.b with
     |none=>rw[(t _).1 o]at h;cases h
     |some x=>exact x5 kb _ (by simp[o])
    rw[bc.cut_bx c];exact d.fr.obj n b h
   ·have c:aM a (.obj m):=by
     cases o:ae (.obj m) s.e with
     |none=>rw[(t _).2.1 o]at h;cases h
     |some x=>exact x5 ke _ (by simp[o])
    rw[bc.cut_ow c];exact d.fr.row m n u h
 rcases h w ν bk G E with⟨B,ay⟩|⟨v,w',ay,F⟩
 ·exact .inl ⟨B,ay.mono hm⟩
 ·exact .inr ⟨v,w',ay,hm _ _ F⟩
def c9.grown{C:fj}{st:bo}{a:Act}{w w':World}{ν:bc}(h:c9 C st a w ν)(bd:w.grownBy w' none):c9 C st a w' ν:=by
 have d:mB w ν w' ν:=⟨fun b o c=>⟨c,G6 bd (h.good.alt b o c)⟩,fun _ _ _ h=>h,fun _ n u _ h=>⟨n,u,h,.inl ⟨rfl,rfl⟩⟩,fun b o c=>yB (bd.block b (h.good.alt b o c) Ψ),fun _ _ _ _ h=>h⟩;refine h.over d rfl ⟨fun b o c=>Nat.lt_of_lt_of_le (h.good.alt b o c) bd.size,fun k cs ad=>?_,h.good.inj,fun g o i=>?_,h.good.oinj,h.good.obx,h.good.one,h.good.otr⟩
  ⟨bd.os.trans h.fr.os,bd.tape.trans h.fr.tape,bd.output.trans h.fr.output,kg h.fr.size bd.size,fun k ad hm=>?_,fun b o c=>?_,h.fr.fresh,h.fr.obj,h.fr.obn,h.fr.row,h.fr.obr,h.fr.trd,fun k j b e=>⟨(h.fr.trb k j b e).1,Nat.lt_of_lt_of_le (h.fr.trb k j b e).2 bd.size⟩,h.fr.trn,fun b o c=>(d.sh b o (h.fr.keep b o c).1).trans (h.fr.sh b o c)⟩ h.new
 ·obtain⟨bl,us,el,g1,g2,g3,g4,g5⟩:=h.good.box k cs ad;exact⟨bl,us,el,g1,g2,g3,by rw[bd.block bl (Array.getElem?_eq_some_iff.1 g4).1 Ψ];exact g4,rU d g5⟩
 ·obtain⟨v,us,g1,g2,g3,g4⟩:=h.good.own g o i;exact⟨v,us,g1,g2.kept bd (by cases v.ownBlock<;>simp),g3,ue d (fun _ _ _ h=>h) g4⟩
 ·rw[bd.block k (Nat.lt_of_lt_of_le ad h.fr.size) Ψ];exact h.fr.block k ad hm
 ·obtain⟨f,l⟩:=h.fr.keep b o c;exact⟨f,(d.A b o f).2.trans l⟩
def CallDo.new{P:cG}{n:Nat}{args:List af}{st:bo}{d:Option Nat}{K:bo->Prop}{s:cT}{Q:af->cT->Prop}(g:bE P n args s Q)(c:ey s)(f:∀k cs,ae k s.b=some cs->ae k st.b=some cs)(he:∀k o,ae k s.e=some o->ae k st.e=some o)
  (ad:aH (aM s) args) (h:∀r a,Q r a->(∀m,aM a (.obj m)->aM s (.obj m)/\Same s a\/ .obj m∉st.o)/\K ⟨e9 d r st.t,cH s.b st.b++a.b,cH s.e st.e++a.e,st.n,st.o++cJ a⟩):CallDo P n args st d K:=by
 refine .inl ⟨s,Q,fun k cs ay=>⟨f k cs ay,.inl (by simp[ay]),c.kb k cs ay⟩,fun k o aq=>⟨he k o aq,.inr (by simp[aq]),c.ke k o aq⟩,c.obj,ad,g,fun r a e=>?_⟩;obtain⟨J,U⟩:=h r a e;refine⟨⟨fun m hm=>?_,fun m hm=>?_⟩,U⟩
 ·rcases J m (.inl hm)with⟨_,b⟩|b
  ·exact .inl (by rw[b.b];exact hm)
  ·exact .inr b
 ·rcases J m (.inr hm)with⟨_,b⟩|b
  ·exact .inl (by rw[b.e];exact hm)
  ·exact .inr b
def c6.new{g:List bU}{s:cT}{Q:af->cT->Prop}{e:Exit}{st:bo}(a:cT)(i:e= .ret\/e= .normal)(d:ey a)(f:lY a s.b/\lY a s.e)(l:∀k cs,ae k a.b=some cs->ae k st.b=some cs)(j:∀k o,ae k a.e=some o->ae k st.e=some o)
  (h:dc st g fun r=>aA (aM a) r/\Q r a):c6 g s Q e st:=by
 unfold dc at h;split at h
 ·rename_i c n m;refine⟨i,?_⟩;rw[m];exact⟨h.1,a,f.1,f.2,fun k cs b=>⟨l k cs b,.inl (by simp[b]),d.kb k cs b⟩,fun k o aq=>⟨j k o aq,.inr (by simp[aq]),d.ke k o aq⟩,d.obj,h.2.1,h.2.2⟩
 ·exact h.elim
@[simp]def au6{P:cG}{ob:List aB}{c d:C}{Q:Exit->bo->Prop}{st:bo}{s:Nat}:de P ob (.seq (.pub s c) d) Q st=yU P ob (.seq c d) Q (yo st s):=by simp only[de];cases yo st s<;>rfl
@[simp]def au5{P:cG}{ob:List aB}{c d:C}{Q:Exit->bo->Prop}{st:bo}{s:Nat}:de P ob (.seq (.pubB s c) d) Q st=yU P ob (.seq c d) Q (yn st s):=by simp only[de];cases yn st s<;>rfl
end
section
open Go Go.RowKit
def wF(t:List (Nat×af))(a:List Nat):List (Nat×af):=a.map fun k=>(k,get k t)
@[simp]def av7(t:List (Nat×af)):wF t []=[]:=rfl
@[simp]def av6(t:List (Nat×af))(k:Nat)(a:List Nat):wF t (k::a)=(k,get k t)::wF t a:=rfl
def q0(st:bo)(a:List Nat)(cs:List (Nat×af)):bo:=⟨wF st.t a++cs,st.b,st.e,st.n,st.o⟩
def anq(t:List (Nat×af))(b:List (aB×List af))(e:List (aB×dT))(n:Nat)(o:List aB)(a:List Nat)(cs:List (Nat×af)):q0 ⟨t,b,e,n,o⟩ a cs=⟨wF t a++cs,b,e,n,o⟩:=rfl
def AN{α:Type}(S:Nat->α->bo)(n:Nat)(b:Nat->α->Prop)(k:Nat)(st:bo):Prop:= ∃i a,i<=n/\k=n-i/\b i a/\st=S i a
section
variable {P:cG} {ob:List aB} {st:bo} {Q:Exit->bo->Prop} {c:C} {α:Type}
def fT(S:Nat->α->bo)(n:Nat)(b:Nat->α->Prop)(a0:α)(hw:gq ob st (S 0 a0))(l:b 0 a0)(f:∀a,b n a->(∀i,eU (get i (S n a).t))->de P ob c (bX ob (AN S n b) 0 Q) (S n a))
  (g:∀i a,i<n->b i a->(∀j,eU (get j (S i a).t))->de P ob c (bX ob (AN S n b) (n-i) Q) (S i a)):de P ob (.loop c) Q st:=by
 refine qH (AN S n b) n _ hw ⟨0,a0,Ω,Ω,l,rfl⟩ ?_;rintro k s ⟨i,a,hi,rfl,d,rfl⟩ e _;rcases Nat.lt_or_ge i n with h|h
 ·exact g i a h d e
 ·obtain rfl:i=n:=Ω
  rw[Nat.sub_self];exact f a d e
def bX.rng{S:Nat->α->bo}{n:Nat}{a:Nat->α->Prop}{i:Nat}(bp:α)(hi:i<n)(b:a (i+1) bp)(hw:gq ob st (S (i+1) bp)):bX ob (AN S n a) (n-i) Q .normal st:=⟨n-(i+1),_,Ω,hw,i+1,bp,Ω,rfl,b,rfl⟩
def Dl{α:Type}(S:α->bo)(μ:α->Nat)(b:α->Prop)(k:Nat)(st:bo):Prop:= ∃a,k=μ a/\b a/\st=S a
def pe(S:α->bo)(μ:α->Nat)(b:α->Prop)(a0:α)(hw:gq ob st (S a0))(e:b a0)
  (d:∀a,b a->(∀j,eU (get j (S a).t))->de P ob c (bX ob (Dl S μ b) (μ a) Q) (S a)):de P ob (.loop c) Q st:=by
 refine qH (Dl S μ b) (μ a0) _ hw ⟨a0,rfl,e,rfl⟩ ?_;rintro k s ⟨a,rfl,f,rfl⟩ g _;exact d a f g
def bX.whl{S:α->bo}{μ:α->Nat}{a:α->Prop}{k:Nat}(bp:α)(hm:μ bp<k)(b:a bp)(hw:gq ob st (S bp)):bX ob (Dl S μ a) k Q .normal st:=⟨μ bp,_,hm,hw,bp,rfl,b,rfl⟩
end
def iU{p:Prop}(h:p:=by(try simp[*]);(repeat' first|with_reducible refine al ?_|with_reducible refine aO (by assumption) ?_|with_reducible refine aP (by assumption) ?_|simp[*]);(all_goals first|exact bX.rng () (by assumption) (by first|assumption|trivial) cb|exact bX.rng _ (by assumption) (by assumption) cb)):p:=h
end
section
open Go Go.RowKit
def nG(s:cT)(n:Nat)(k:aB):Prop:=aM s k\/ ∃m,m<n/\k= .loc m
@[simp]def Zx(s:cT)(n m:Nat)(hm:m<n):nG s n (.loc m):= .inr ⟨m,hm,rfl⟩
def Cs{s:cT}{n:Nat}{l:List af}(h:aH (aM s) l):aH (nG s n) l:=ji (fun _ h=>.inl h) l h
def z6{s b:cT}(c:Same s b){n:Nat}{k:aB}(h:nG b n k):¬fresh n (cJ s) k:=by
 rcases h with h|⟨m,hm,rfl⟩
 ·exact fun a=>a.2 (rR ((c.inObs k).2 h))
 ·intro a;have:=a.1;simp at this;omega
def gq.obL{s a:cT}(e:ey a)(b:Same s a){st:bo}{t':List (Nat×af)}{L:List (aB×List af)}{n:Nat}(f:∀x∈t',get x.1 st.t=x.2/\aA (nG a n) x.2)(g:∀x∈L,ae x.1 st.b=some x.2/\nG a n x.1/\aH (nG a n) x.2)
  (i:∀k cs,ae k a.b=some cs->ae k st.b=some cs) (he:∀k o,ae k a.e=some o->ae k st.e=some o):gq (cJ s) st ⟨t',L++a.b,a.e,n,cJ s⟩:=by
 refine⟨fun x c=>⟨(f x c).1,tO (fun k ad=>z6 b ad) _ (f x c).2⟩,fun k cs ad=>?_,fun k o aq=>?_,fun m hm=>hm⟩
 ·simp only at ad;rw[c7]at ad;cases d:ae k L with
  |some x=>rw[d]at ad;simp only[dV]at ad;subst ad;obtain⟨J,U,h⟩:=g _ (vc d);exact⟨J,z6 b U,ji (fun k ad=>z6 b ad) _ h⟩
  |none=>rw[d]at ad;exact⟨i k cs ad,z6 b (.inl (.inl (by simp[ad]))),ji (fun k ad=>z6 b (.inl ad)) _ (e.kb k cs ad)⟩
 ·exact⟨he k o aq,z6 b (.inl (.inr (by simp at aq;simp[aq]))),fun xs c=>ji (fun k ad=>z6 b (.inl ad)) _ (e.ke k o aq xs c)⟩
def ib{α:Type}(l:List α)(i j:Nat):List α:=match l[i]?,l[j]? with
 |some x,some y=>(l.set i y).set j x
 |_,_=>l
section
variable {α:Type}
@[simp]def amT(l:List α)(i j:Nat):(ib l i j).length=l.length:=by unfold ib;split<;>simp
def Cg(l:List α)(i j k:Nat)(hi:i<l.length)(a:j<l.length):(ib l i j)[k]? =if k=i then l[j]? else if k=j then l[i]? else l[k]?:=by
 unfold ib;rw[ck hi,ck a];simp only[List.getElem?_set,List.length_set];by_cases J:j=k
 ·subst J;by_cases U:j=i
  ·subst U;simp[hi]
  ·simp[U,a]
 ·by_cases U:i=k
  ·subst U;simp[J,hi]
  ·simp[J,U,Ne.symm J,Ne.symm U]
def YR(l:List α)(i j:Nat):(ib l i j).Perm l:=by
 unfold ib;split
 ·rename_i x y b c;obtain⟨hi,rfl⟩:=fI.1 b;obtain⟨a,rfl⟩:=fI.1 c;exact List.set_set_perm hi a
 ·exact .refl _
inductive hl (a b:Nat):List α->List α->Prop
 |refl (l:List α):hl a b l l
 |step {l m:List α} {i j:Nat}:hl a b l m->a<=i->i<b->a<=j->j<b->i<m.length->j<m.length->hl a b l (ib m i j)
def hl.length{a b:Nat}{l m:List α}(h:hl a b l m):m.length=l.length:=by
 induction h with
 |refl=>rfl
 |step _ _ _ _ _ _ _ c=>rw[amT,c]
def hl.perm{a b:Nat}{l m:List α}(h:hl a b l m):m.Perm l:=by
 induction h with
 |refl=>exact .refl _
 |step _ _ _ _ _ _ _ c=>exact(YR _ _ _).trans c
def hl.out{a b:Nat}{l m:List α}(h:hl a b l m)(k:Nat)(ad:k<a\/b<=k):m[k]? =l[k]?:=by
 induction h with
 |refl=>rfl
 |step _ J U f g d c e=>rw[Cg _ _ _ _ d c,if_neg Ω,if_neg Ω];exact e
def hl.all{a b:Nat}{l m:List α}(h:hl a b l m)(p:α->Prop)(j:∀k x,a<=k->k<b->l[k]? =some x->p x):∀k x,a<=k->k<b->m[k]? =some x->p x:=by
 induction h with
 |refl=>exact j
 |step _ J U n o i g d=>
  intro k x f e c;rw[Cg _ _ _ _ i g]at c;split at c
  ·exact d _ _ n o c
  ·split at c
   ·exact d _ _ J U c
   ·exact d _ _ f e c
def hl.trans{a b:Nat}{l m r:List α}(h:hl a b l m)(d:hl a b m r):hl a b l r:=by
 induction d with
 |refl=>exact h
 |step _ J U g i e c f=>exact .step f J U g i e c
def hl.mono{a b bp b0:Nat}{l m:List α}(h:hl a b l m)(f:bp<=a)(i:b<=b0):hl bp b0 l m:=by
 induction h with
 |refl=>exact .refl _
 |step _ J U g j d c e=>exact .step e Ω Ω Ω Ω d c
def ga(lt:α->α->Bool)(a b:Nat)(l:List α):Prop:= ∀i j x y,a<=i->i<j->j<b->l[i]? =some x->l[j]? =some y->lt y x=false
structure sa (lt:α->α->Bool):Prop where
 asym:∀x y,lt x y=true->lt y x=false
 ntr:∀x y z,lt y x=false->lt z y=false->lt z x=false
def ga.pairwise{lt:α->α->Bool}{l:List α}(h:ga lt 0 l.length l):l.Pairwise fun x y=>lt y x=false:=by rw[rj];intro i j hi a b;exact h i j _ _ Ω b a (ck hi) (ck a)
def iV(a m b k:Nat):Nat:=if k<a then k else if k<a+(b-m)then k+(m-a)else if k<b then k-(b-m)else k
def uh(a b c k:Nat):Nat:=if a<=k/\k<a+c then b+(k-a)else if b<=k/\k<b+c then a+(k-b)else k
end
def HQ(i j:Nat)(h:i+j<=1099511627776):vB.wrap (Int.fdiv (ij.wrap ((i:Int)+j)) (2 ^ (min 1 ij.bits)))=((i+j)/2:Nat):=by
 have hw:ij.wrap ((i:Int)+j)=i+j:=by simp[uo,pI,um];omega
 have a:ij.bits=64:=rfl;rw[hw,a,show(2:Int) ^ (min 1 64)=2 from by decide,Int.fdiv_eq_ediv_of_nonneg _ Ω,pJ]
 ·omega
 ·omega
end
section
open Go
inductive Tm where
 |mk (kind n:Int) (name:List cV) (args:List Tm)
def Tm.kind:Tm->Int| .mk k _ _ _=>k
def Tm.num:Tm->Int| .mk _ n _ _=>n
def Tm.name:Tm->List cV| .mk _ _ s _=>s
def Tm.args:Tm->List Tm| .mk _ _ _ a=>a
mutual
def enc:Tm->af
 | .mk k n s a=>.agg [.int .i64 k,.int .i64 n,.str s,.slice 4 .no (mg a)]
def mg:List Tm->List af
 |[]=>[]
 |x::xs=>enc x::mg xs
end
def Bg:∀l,mg l=l.map enc
 |[]=>rfl
 |x::xs=>by simp[mg,Bg xs]
def uK(t:Tm):enc t= .agg [.int .i64 t.kind,.int .i64 t.num,.str t.name,.slice 4 .no (t.args.map enc)]:=by cases t;simp[enc,Bg,Tm.kind,Tm.num,Tm.name,Tm.args]
mutual
def Yx(S:aB->Prop):∀t:Tm,aA S (enc t)
 | .mk k n s a=>by simp[enc,aA,aH,Om S a]
def Om(S:aB->Prop):∀l:List Tm,aH S (mg l)
 |[]=>by simp[mg,aH]
 |x::xs=>by simp[mg,aH,Yx S x,Om S xs]
end
mutual
def acr:∀t:Tm,b3 (enc t)=enc t
 | .mk k n s a=>by simp[enc,b3,b9,QM a]
def QM:∀l:List Tm,b9 (mg l)=mg l
 |[]=>by simp[mg,b9]
 |x::xs=>by simp[mg,b9,acr x,QM xs]
end
@[simp]def aww(S:aB->Prop)(t:Tm):aA S (enc t)=True:=h1 (Yx S t)
@[simp]def awh(S:aB->Prop)(l:List Tm):aH S (l.map enc)=True:=by rw[<-Bg];exact h1 (Om S l)
def acq(l:List Tm):b9 (l.map enc)=l.map enc:=by rw[<-Bg];exact QM l
attribute [simp] acr acq
@[simp]def axU(t:Tm):eS (enc t)=true:=by rw[uK];rfl
@[simp]def auC(t:Tm):cells (enc t)=[.int .i64 t.kind,.int .i64 t.num,.str t.name,.slice 4 .no (t.args.map enc)]:=by rw[uK];rfl
@[simp]def aug(t:Tm):af.agg [.int .i64 t.kind,.int .i64 t.num,.str t.name,.slice 4 .no (t.args.map enc)]=enc t:=(uK t).symm
@[simp]def av0(t:Tm):qW 4 (enc t):=by rw[uK];exact⟨_,rfl,rfl⟩
inductive T where
 |nil
 |var (n:Int)
 |sym (s:List cV)
 |num (n:Int)
 |pair (a b:T)
 deriving DecidableEq,Inhabited
def T.tm:T->Tm
 | .nil=>.mk 0 0 [] []
 | .var n=>.mk 1 n [] []
 | .sym s=>.mk 2 0 s []
 | .num n=>.mk 3 n [] []
 | .pair a b=>.mk 4 0 [] [a.tm,b.tm]
def T.e:T->af
 | .nil=>.agg [.int .i64 0,.int .i64 0,.str [],.slice 4 .no []]
 | .var n=>.agg [.int .i64 1,.int .i64 n,.str [],.slice 4 .no []]
 | .sym s=>.agg [.int .i64 2,.int .i64 0,.str s,.slice 4 .no []]
 | .num n=>.agg [.int .i64 3,.int .i64 n,.str [],.slice 4 .no []]
 | .pair a b=>.agg [.int .i64 4,.int .i64 0,.str [],.slice 4 .no [a.e,b.e]]
def mF:∀t:T,enc t.tm=t.e
 | .nil| .var _| .sym _| .num _=>rfl
 | .pair a b=>by simp[T.tm,enc,mg,T.e,mF a,mF b]
def T.kind:T->Int
 | .nil=>0| .var _=>1| .sym _=>2| .num _=>3| .pair _ _=>4
def T.int:T->Int
 | .var n=>n| .num n=>n|_=>0
def T.name:T->List cV
 | .sym s=>s|_=>[]
def T.args:T->List T
 | .pair a b=>[a,b]|_=>[]
def T.e_eq(t:T):t.e= .agg [.int .i64 t.kind,.int .i64 t.int,.str t.name,.slice 4 .no (t.args.map T.e)]:=by cases t<;>rfl
@[simp]def auf(t:T):af.agg [.int .i64 t.kind,.int .i64 t.int,.str t.name,.slice 4 .no (t.args.map T.e)]=t.e:=(T.e_eq t).symm
@[simp]def auh:af.agg [.int .i64 0,.int .i64 0,.str [],.slice 4 .no []]=T.nil.e:=rfl
@[simp]def aul(n:Int):af.agg [.int .i64 1,.int .i64 n,.str [],.slice 4 .no []]=(T.var n).e:=rfl
@[simp]def auk(s:List cV):af.agg [.int .i64 2,.int .i64 0,.str s,.slice 4 .no []]=(T.sym s).e:=rfl
@[simp]def aui(n:Int):af.agg [.int .i64 3,.int .i64 n,.str [],.slice 4 .no []]=(T.num n).e:=rfl
@[simp]def auj(a b:T):af.agg [.int .i64 4,.int .i64 0,.str [],.slice 4 .no [a.e,b.e]]=(T.pair a b).e:=rfl
@[simp]def amB:(T.nil).kind=0:=rfl
@[simp]def al2:(T.nil).int=0:=rfl
@[simp]def anv:(T.nil).name=[]:=rfl
@[simp]def aes:(T.nil).args=[]:=rfl
@[simp]def amG(n:Int):(T.var n).kind=1:=rfl
@[simp]def al6(n:Int):(T.var n).int=n:=rfl
@[simp]def anB(n:Int):(T.var n).name=[]:=rfl
@[simp]def aew(n:Int):(T.var n).args=[]:=rfl
@[simp]def amF(s:List cV):(T.sym s).kind=2:=rfl
@[simp]def al5(s:List cV):(T.sym s).int=0:=rfl
@[simp]def anA(s:List cV):(T.sym s).name=s:=rfl
@[simp]def aev(s:List cV):(T.sym s).args=[]:=rfl
@[simp]def amC(n:Int):(T.num n).kind=3:=rfl
@[simp]def al3(n:Int):(T.num n).int=n:=rfl
@[simp]def anw(n:Int):(T.num n).name=[]:=rfl
@[simp]def aet(n:Int):(T.num n).args=[]:=rfl
@[simp]def amD(a b:T):(T.pair a b).kind=4:=rfl
@[simp]def al4(a b:T):(T.pair a b).int=0:=rfl
@[simp]def anx(a b:T):(T.pair a b).name=[]:=rfl
@[simp]def aeu(a b:T):(T.pair a b).args=[a,b]:=rfl
@[simp]def awv(S:aB->Prop)(t:T):aA S t.e=True:=by rw[<-mF];simp
@[simp]def ayl(t:T):b3 t.e=t.e:=by rw[<-mF];simp
def Yo(S:aB->Prop):∀l:List T,aH S (l.map T.e)
 |[]=>by simp[aH]
 |x::xs=>by simp[aH,Yo S xs]
@[simp]def Yn(S:aB->Prop)(l:List T):aH S (l.map T.e)=True:=h1 (Yo S l)
@[simp]def arX:∀l:List T,b9 (l.map T.e)=l.map T.e
 |[]=>rfl
 |x::xs=>by simp[b9,arX xs]
@[simp]def axT(t:T):eS t.e=true:=by rw[T.e_eq];rfl
@[simp]def auB(t:T):cells t.e=[.int .i64 t.kind,.int .i64 t.int,.str t.name,.slice 4 .no (t.args.map T.e)]:=by rw[T.e_eq];rfl
@[simp]def avZ(t:T):qW 4 t.e:=by rw[T.e_eq];exact⟨_,rfl,rfl⟩
def T.size:T->Nat
 | .pair a b=>1+a.size+b.size
 |_=>1
def T.size_pos(t:T):1<=t.size:=by cases t<;>simp[T.size]<;>omega
def low(b:cV):Bool:=decide (97<=b.toNat/\b.toNat<=122)
def n2(b:cV):Bool:=low b||decide (48<=b.toNat/\b.toNat<=57)||b.toNat==45
def kt(s:List cV):Bool:=decide (1<=s.length/\s.length<=12)&&low (s.getD 0 0)&&(s.drop 1).all n2
def T.ok:T->Bool
 | .nil=>true
 | .var n=>decide (0<=n/\n<=100000)
 | .sym s=>kt s
 | .num n=>decide (-1000000000<=n/\n<=1000000000)
 | .pair a b=>a.ok&&b.ok
def mo(k n:Int)(s:List cV):Bool:=if k=0 then n==0&&s==[]else if k=1 then decide (0<=n/\n<=100000)&&s==[]else if k=2 then n==0&&kt s else if k=3 then decide (-1000000000<=n/\n<=1000000000)&&s==[]else false
def gv:Tm->Int->Int
 | .mk k n s [a,b],room=>if room<1\/k≠4\/n≠0\/s≠[]then-1 else if gv a (room-1)<0 then-1 else if gv b (room-1-gv a (room-1))<0 then-1 else 1+gv a (room-1)+gv b (room-1-gv a (room-1))
 | .mk k n s args,room=>if room<1\/k=4\/args≠[]\/mo k n s=false then-1 else 1
def O7(k n:Int)(s:List cV)(args:List Tm)(room:Int):gv (.mk k n s args) room=if room<1 then-1 else if k≠4 then(if args≠[]then-1 else if mo k n s then 1 else-1)else if n≠0\/s≠[]then-1 else match args with
  |[a,b]=>if gv a (room-1)<0 then-1 else if gv b (room-1-gv a (room-1))<0 then-1 else 1+gv a (room-1)+gv b (room-1-gv a (room-1))
  |_=> -1:=by
 match args with
 |[]=>simp only[gv];by_cases J:room<1<;>by_cases U:k=4<;>by_cases d:mo k n s=true<;>simp[J,U,d]
 |[a]=>simp[gv]
 |[a,b]=>simp only[gv];by_cases J:room<1<;>by_cases U:k=4<;>simp[J,U]
 |a::b::c::r=>simp[gv]
def Jc:∀(t:T) (room:Int),gv t.tm room=if t.ok=true/\(t.size:Int)<=room then(t.size:Int)else-1
 | .nil,room=>by simp[T.tm,gv,T.ok,T.size,mo];split<;>rename_i h<;>simp_all<;>omega
 | .var n,room=>by simp[T.tm,gv,T.ok,T.size,mo];split<;>split<;>simp_all<;>omega
 | .sym s,room=>by simp[T.tm,gv,T.ok,T.size,mo];by_cases J:room<1<;>by_cases U:kt s=true<;>simp[J,U]<;>omega
 | .num n,room=>by simp[T.tm,gv,T.ok,T.size,mo];split<;>split<;>simp_all<;>omega
 | .pair a b,room=>by
  have f:=a.size_pos;have g:=b.size_pos;simp only[T.tm,gv,Jc a,Jc b,T.ok,T.size,cO];by_cases J:room<1
  ·simp[J];omega
  ·by_cases U:a.ok=true/\(a.size:Int)<=room-1
   ·rw[if_pos U];by_cases c:b.ok=true/\(b.size:Int)<=room-1-a.size
    ·rw[if_pos c];simp[J,U.1,c.1];split<;>omega
    ·rw[if_neg c];simp[J,U.1];intro e;have:=c;simp[e]at this;omega
   ·rw[if_neg U];simp[J];intro d;have:=U;simp[d]at this;omega
def Fj:∀(t:Tm) (room:Int),gv t room= -1\/1<=gv t room
 | .mk k n s [a,b],room=>by
  simp only[gv];split
  ·exact .inl rfl
  ·split
   ·exact .inl rfl
   ·split
    ·exact .inl rfl
    ·right;omega
 | .mk k n s [],room=>by simp only[gv];split<;>simp
 | .mk k n s [a],room=>by simp[gv]
 | .mk k n s (a::b::c::r),room=>by simp[gv]
def O9:∀(t:Tm) (room:Int),0<gv t room->∃x:T,x.tm=t
 | .mk k n s [a,b],room,h=>by
  simp only[gv]at h;split at h
  ·omega
  ·rename_i J;simp only[not_or,Int.not_lt,ne_eq,ayF]at J;obtain⟨J,rfl,rfl,rfl⟩:=J;split at h
   ·omega
   ·split at h
    ·omega
    ·obtain⟨x,rfl⟩:=O9 a (room-1) (by rcases Fj a (room-1)with h|h<;>omega);obtain⟨y,rfl⟩:=O9 b (room-1-gv x.tm (room-1)) (by rcases Fj b (room-1-gv x.tm (room-1))with h|h<;>omega);exact⟨.pair x y,rfl⟩
 | .mk k n s [],room,h=>by
  simp only[gv]at h;split at h
  ·omega
  ·rename_i J;simp only[not_or,ne_eq,not_true_eq_false,not_false_eq_true,true_and,Bool.not_eq_false]at J;obtain⟨_,_,J⟩:=J;unfold mo at J;split at J
   ·rename_i e;subst e;simp at J;obtain⟨rfl,rfl⟩:=J;exact⟨.nil,rfl⟩
   ·split at J
    ·rename_i e;subst e;simp at J;obtain⟨_,rfl⟩:=J;exact⟨.var n,rfl⟩
    ·split at J
     ·rename_i e;subst e;simp at J;obtain⟨rfl,_⟩:=J;exact⟨.sym s,rfl⟩
     ·split at J
      ·rename_i e;subst e;simp at J;obtain⟨_,rfl⟩:=J;exact⟨.num n,rfl⟩
      ·cases J
 | .mk k n s [a],room,h=>by simp[gv]at h
 | .mk k n s (a::b::c::r),room,h=>by simp[gv]at h
def O8:∀(t:Tm) (room:Int),gv t room<=room\/gv t room= -1
 | .mk k n s [a,b],room=>by
  simp only[gv];split
  ·exact .inr rfl
  ·split
   ·exact .inr rfl
   ·split
    ·exact .inr rfl
    ·rcases O8 b (room-1-gv a (room-1))with h|h<;>omega
 | .mk k n s [],room=>by simp only[gv];split<;>simp;rename_i h;omega
 | .mk k n s [a],room=>by simp[gv]
 | .mk k n s (a::b::c::r),room=>by simp[gv]
mutual
def Tm.sz:Tm->Nat
 | .mk _ _ _ a=>1+Tm.szL a
def Tm.szL:List Tm->Nat
 |[]=>0
 |x::xs=>x.sz+Tm.szL xs
end
def szL_mem:∀{l:List Tm} {x:Tm},x∈l->x.sz<=Tm.szL l
 |y::l,x,h=>by
  rcases gJ.1 h with rfl|h
  ·simp[Tm.szL]
  ·have:=szL_mem h;simp[Tm.szL];omega
def QY{t x:Tm}(h:x∈t.args):x.sz<t.sz:=by cases t;simp[Tm.args]at h;have:=szL_mem h;simp[Tm.sz];omega
def T.fit(t:T):Bool:=t.ok&&decide (t.size<=5000)
def Tm.fits(t:Tm):Bool:=decide (0<gv t 5000)
def Tm.fits_T(t:T):t.tm.fits=t.fit:=by
 unfold Tm.fits T.fit;rw[Jc];have:=t.size_pos;by_cases J:t.ok=true<;>by_cases U:t.size<=5000
 ·rw[if_pos ⟨J,Ω⟩];simp[J,U];omega
 ·rw[if_neg Ω];simp[U]
 ·rw[if_neg (by simp[J])];simp[J]
 ·rw[if_neg (by simp[J])];simp[J]
def Tm.fits_ex{t:Tm}(h:t.fits=true):∃x:T,x.tm=t/\x.fit=true:=by obtain⟨x,rfl⟩:=O9 t 5000 (by simpa[Tm.fits]using h);exact⟨x,rfl,by rw[<-Tm.fits_T];exact h⟩
structure Bd where
 v:Int
 t:T
 deriving DecidableEq,Inhabited
def Bd.e(b:Bd):af:= .agg [.int .i64 b.v,.int .i64 b.t.kind,.int .i64 b.t.int,.str b.t.name,.slice 4 .no (b.t.args.map T.e)]
@[simp]def Bd.eta(b:Bd):Bd.mk b.v b.t=b:=rfl
@[simp]def RR(v:Int)(t:T):af.agg [.int .i64 v,.int .i64 t.kind,.int .i64 t.int,.str t.name,.slice 4 .no (t.args.map T.e)]=(Bd.mk v t).e:=rfl
@[simp]def aua(v:Int):af.agg [.int .i64 v,.int .i64 0,.int .i64 0,.str [],.slice 4 .no []]=(Bd.mk v .nil).e:=rfl
@[simp]def aue(v n:Int):af.agg [.int .i64 v,.int .i64 1,.int .i64 n,.str [],.slice 4 .no []]=(Bd.mk v (.var n)).e:=rfl
@[simp]def aud(v:Int)(s:List cV):af.agg [.int .i64 v,.int .i64 2,.int .i64 0,.str s,.slice 4 .no []]=(Bd.mk v (.sym s)).e:=rfl
@[simp]def aub(v n:Int):af.agg [.int .i64 v,.int .i64 3,.int .i64 n,.str [],.slice 4 .no []]=(Bd.mk v (.num n)).e:=rfl
@[simp]def auc(v:Int)(a b:T):af.agg [.int .i64 v,.int .i64 4,.int .i64 0,.str [],.slice 4 .no [a.e,b.e]]=(Bd.mk v (.pair a b)).e:=rfl
@[simp]def awo(S:aB->Prop)(b:Bd):aA S b.e=True:=by simp[Bd.e,-RR]
@[simp]def aye(b:Bd):b3 b.e=b.e:=by simp[Bd.e,-RR]
def Yk(S:aB->Prop):∀l:List Bd,aH S (l.map Bd.e)
 |[]=>by simp[aH]
 |x::xs=>by simp[aH,Yk S xs]
@[simp]def awd(S:aB->Prop)(l:List Bd):aH S (l.map Bd.e)=True:=h1 (Yk S l)
@[simp]def acp:∀l:List Bd,b9 (l.map Bd.e)=l.map Bd.e
 |[]=>rfl
 |x::xs=>by simp[b9,acp xs]
@[simp]def axK(b:Bd):eS b.e=true:=rfl
@[simp]def aut(b:Bd):cells b.e=[.int .i64 b.v,.int .i64 b.t.kind,.int .i64 b.t.int,.str b.t.name,.slice 4 .no (b.t.args.map T.e)]:=rfl
@[simp]def avW(b:Bd):qW 5 b.e:=⟨_,rfl,rfl⟩
@[simp]def avl(off:Nat)(a:Bool)(sz:Nat)(b:Bd):wa off a sz b.e=if a then some (off+sz<=5,.agg (([.int .i64 b.v,.int .i64 b.t.kind,.int .i64 b.t.int,.str b.t.name,.slice 4 .no (b.t.args.map T.e)].drop off).take sz))else(([.int .i64 b.v,.int .i64 b.t.kind,.int .i64 b.t.int,.str b.t.name,.slice 4 .no (b.t.args.map T.e)]:List af)[off]?).map fun p=>(True,p):=rfl
@[simp]def avd(off:Nat)(a:Bool)(sz:Nat)(b:Bd):tc off a sz (.eptr b.e)=if a then some (off+sz<=5,.eptr (.agg (([.int .i64 b.v,.int .i64 b.t.kind,.int .i64 b.t.int,.str b.t.name,.slice 4 .no (b.t.args.map T.e)].drop off).take sz)))else(([.int .i64 b.v,.int .i64 b.t.kind,.int .i64 b.t.int,.str b.t.name,.slice 4 .no (b.t.args.map T.e)]:List af)[off]?).map fun p=>(eS p=true/\cells p=[p],.eptr p):=rfl
def T.occ(v:Int):T->Bool
 | .var n=>n==v
 | .pair a b=>a.occ v||b.occ v
 |_=>false
def fe(a b:Int):Int:=if a<b then-1 else if b<a then 1 else 0
def lA(a b:List cV):Int:=if a=b then 0 else if iu a b then-1 else 1
def e8:T->T->Int
 | .pair a b,.pair c d=>if e8 a c=0 then e8 b d else e8 a c
 |x,y=>if x.kind≠y.kind then fe x.kind y.kind else if x.int≠y.int then fe x.int y.int else lA x.name y.name
structure Bt where
 v:Int
 t:Tm
def Bt.e(b:Bt):af:= .agg [.int .i64 b.v,.int .i64 b.t.kind,.int .i64 b.t.num,.str b.t.name,.slice 4 .no (b.t.args.map enc)]
def Bd.b(b:Bd):Bt:=⟨b.v,b.t.tm⟩
def Bd.b_e(b:Bd):b.b.e=b.e:=by obtain⟨v,t⟩:=b;cases t<;>simp only[Bd.b,Bt.e,Bd.e,T.tm,Tm.kind,Tm.num,Tm.name,Tm.args,mF,amB,amG,amF,amC,amD,al2,al6,al5,al3,al4,anv,anB,anA,anw,anx,aes,aew,aev,aet,aeu,gX,o2]
@[simp]def Bt.eta(b:Bt):Bt.mk b.v b.t=b:=rfl
@[simp]def RS(v:Int)(t:Tm):af.agg [.int .i64 v,.int .i64 t.kind,.int .i64 t.num,.str t.name,.slice 4 .no (t.args.map enc)]=(Bt.mk v t).e:=rfl
@[simp]def awq(S:aB->Prop)(b:Bt):aA S b.e=True:=by simp[Bt.e,-RS]
@[simp]def ayg(b:Bt):b3 b.e=b.e:=by simp[Bt.e,-RS]
def Ym(S:aB->Prop):∀l:List Bt,aH S (l.map Bt.e)
 |[]=>by simp[aH]
 |x::xs=>by simp[aH,Ym S xs]
@[simp]def awf(S:aB->Prop)(l:List Bt):aH S (l.map Bt.e)=True:=h1 (Ym S l)
@[simp]def arW:∀l:List Bt,b9 (l.map Bt.e)=l.map Bt.e
 |[]=>rfl
 |x::xs=>by simp[b9,arW xs]
@[simp]def axN(b:Bt):eS b.e=true:=rfl
@[simp]def auw(b:Bt):cells b.e=[.int .i64 b.v,.int .i64 b.t.kind,.int .i64 b.t.num,.str b.t.name,.slice 4 .no (b.t.args.map enc)]:=rfl
@[simp]def avY(b:Bt):qW 5 b.e:=⟨_,rfl,rfl⟩
@[simp]def avm(off:Nat)(a:Bool)(sz:Nat)(b:Bt):wa off a sz b.e=if a then some (off+sz<=5,.agg (([.int .i64 b.v,.int .i64 b.t.kind,.int .i64 b.t.num,.str b.t.name,.slice 4 .no (b.t.args.map enc)].drop off).take sz))else(([.int .i64 b.v,.int .i64 b.t.kind,.int .i64 b.t.num,.str b.t.name,.slice 4 .no (b.t.args.map enc)]:List af)[off]?).map fun p=>(True,p):=rfl
@[simp]def ave(off:Nat)(a:Bool)(sz:Nat)(b:Bt):tc off a sz (.eptr b.e)=if a then some (off+sz<=5,.eptr (.agg (([.int .i64 b.v,.int .i64 b.t.kind,.int .i64 b.t.num,.str b.t.name,.slice 4 .no (b.t.args.map enc)].drop off).take sz)))else(([.int .i64 b.v,.int .i64 b.t.kind,.int .i64 b.t.num,.str b.t.name,.slice 4 .no (b.t.args.map enc)]:List af)[off]?).map fun p=>(eS p=true/\cells p=[p],.eptr p):=rfl
def Cw(l:List Bt)(i:Nat):Prop:= ∀b,l[i]? =some b->(0<=b.v/\b.v<=100000)/\(∀c,0<i->l[i-1]? =some c->c.v<b.v)/\b.t.fits=true
def AS(l:List Bt):Prop:=l.length<=400/\∀i,i<l.length->Cw l i
def sK:∀a b:T,e8 a b=0↔a=b
 | .pair a b,.pair c d=>by
  simp only[e8,T.pair.injEq];split
  ·rename_i h;rw[sK b d,<-sK a c];simp[h]
  ·rename_i h;simp[h,<-sK a c]
 | .nil,y=>by cases y<;>simp[e8,fe,lA]
 | .var n,y=>by cases y<;>simp[e8,fe,lA]<;>omega
 | .sym s,y=>by cases y<;>simp[e8,fe,lA];rename_i e;by_cases h:s=e<;>simp[h];by_cases U:iu s e=true<;>simp[U]
 | .num n,y=>by cases y<;>simp[e8,fe,lA]<;>omega
 | .pair a b,.nil| .pair a b,.var _| .pair a b,.sym _| .pair a b,.num _=>by simp[e8,fe]
def T.sub(f:Int->Option T):T->T
 | .var n=>match f n with|some x=>x|none=>.var n
 | .pair a b=>.pair (a.sub f) (b.sub f)
 |t=>t
def mq(f:Int->Int):T->Int
 | .var n=>if 5001<f n then 5001 else f n
 | .pair a b=>if 5000<mq f a then mq f a else if 5001<1+mq f a+mq f b then 5001 else 1+mq f a+mq f b
 |_=>1
def Kf(f:Int->Int)(c:∀v,-1<=f v):∀t,-1<=mq f t/\mq f t<=5001
 | .var n=>by have:=c n;simp only[mq];split<;>omega
 | .pair a b=>by have:=Kf f c a;have:=Kf f c b;simp only[mq];split<;>(try split)<;>omega
 | .nil| .sym _| .num _=>by simp[mq]
def dG(l:List Bd)(v:Int):Option T:=(l.find? fun b=>b.v==v).map (·.t)
end
section
open Go
structure kh {α:Type} (c:α->α->Int):Prop where
 neg:∀a b,c b a= -c a b
 tr:∀a b d,c a b<=0->c b d<=0->c a d<=0
 zero:∀a b,c a b=0↔a=b
section
variable {α:Type} {c:α->α->Int}
def iL(c:α->α->Int)(a b:α):Bool:=decide (c a b<0)
def kh.ltOk(h:kh c):sa (iL c):=by
 refine⟨fun x y a=>?_,fun x y z J U=>?_⟩
 ·simp only[iL,gn,iN]at a⊢;rw[h.neg x y];omega
 ·simp only[iL,iN]at J U⊢;have d:=h.neg x y;have e:=h.neg y z;have b:=h.neg x z;have:=h.tr x y z Ω Ω;omega
def kh.refl(h:kh c)(a:α):c a a=0:=(h.zero a a).2 rfl
def kh.ltr(h:kh c){a b d:α}(J:c a b<0)(U:c b d<=0):c a d<0:=by
 have f:=h.tr a b d Ω U;rcases(by omega:c a d<0\/c a d=0)with e|e
 ·exact e
 ·obtain rfl:=(h.zero a d).1 e;have:=h.neg a b;omega
def qn(c:α->α->Int)(l:List α):List α:=l.mergeSort fun x y=>decide (c x y<=0)
def AA(c:α->α->Int)(l:List α):(qn c l).Perm l:=List.mergeSort_perm l _
def QI(h:kh c)(l:List α):(qn c l).Pairwise fun x y=>c x y<=0:=by have:=List.pairwise_mergeSort (le:=fun x y=>decide (c x y<=0)) (fun a b d J U=>by simp at J U⊢;exact h.tr a b d J U) (fun a b=>by simp;have:=h.neg a b;omega) l;exact this.imp Ψ
def ack(h:kh c){l a:List α}(d:a.Perm l)(e:a.Pairwise fun x y=>iL c y x=false):a=qn c l:=by refine RB (le:=fun x y=>c x y<=0) (fun x y _ _ J U=>(h.zero x y).1 (by have:=h.neg x y;omega)) (e.imp fun{x y} b=>?_) (QI h l) (d.trans (AA c l).symm);simp only[iL,iN]at b;have:=h.neg x y;omega
def cX[DecidableEq α](p:Option α):List α->List α
 |[]=>[]
 |x::r=>if p=some x then cX (some x) r else x::cX (some x) r
def asc[DecidableEq α](c:α->α->Int)(l:List α):List α:=cX none (qn c l)
def iO(c:α->α->Int)(l:List α):Prop:=l.Pairwise fun x y=>c x y<0
variable [DecidableEq α]
def L1:∀(l:List α) (p:Option α) (x:α),x∈cX p l->x∈l
 |[],_,_,h=>by simp[cX]at h
 |y::r,p,x,h=>by
  simp only[cX]at h;split at h
  ·exact ri _ (L1 r _ x h)
  ·rcases gJ.1 h with rfl|h
   ·simp
   ·exact ri _ (L1 r _ x h)
def OO:∀(l:List α) (p:Option α) (x:α),x∈l->x∈cX p l\/p=some x
 |y::r,p,x,h=>by
  simp only[cX];rcases gJ.1 h with rfl|h
  ·split
   ·rename_i U;exact .inr U
   ·simp
  ·split
   ·rename_i U;rcases OO r (some y) x h with a|a
    ·exact .inl a
    ·cases a;exact .inr U
   ·rcases OO r (some y) x h with a|a
    ·exact .inl (ri _ a)
    ·cases a;simp
def UM(ay:kh c):∀(l:List α) (p:Option α),l.Pairwise (fun x y=>c x y<=0)->(∀y,p=some y->∀x∈l,c y x<=0)->iO c (cX p l)/\∀y,p=some y->∀x∈cX p l,c y x<0
 |[],p,_,_=>⟨ayO,fun y _ x a=>by simp[cX]at a⟩
 |z::r,p,h,i=>by
  obtain⟨J,U⟩:=ot.1 h;have b:=UM ay r (some z) U (fun y f x a=>by cases f;exact J x a);simp only[cX];split
  ·rename_i e;subst e;exact b
  ·rename_i e;refine⟨ot.2 ⟨fun x a=>b.2 z rfl x a,b.1⟩,fun y f x a=>?_⟩;subst f;have g:c y z<0:=by
    have j:=i y rfl z Ψ;rcases(by omega:c y z<0\/c y z=0)with d|d
    ·exact d
    ·exact absurd (fC some ((ay.zero y z).1 d)) e
   rcases gJ.1 a with rfl|a
   ·exact g
   ·exact ay.ltr g (by have:=b.2 z rfl x a;omega)
def Lb(ay:kh c)(l:List α):iO c (asc c l):=(UM ay _ none (QI ay l) (fun y h=>by cases h)).1
def Y1(l:List α)(x:α):x∈asc c l↔x∈l:=by
 constructor
 ·intro h;exact(AA c l).mem_iff.1 (L1 _ _ _ h)
 ·intro h;rcases OO (qn c l) none x ((AA c l).mem_iff.2 h)with h|h
  ·exact h
  ·cases h
omit [DecidableEq α]in
def iO.ext(ay:kh c){l d:List α}(h:iO c l)(f:iO c d)(hm:∀x,x∈l↔x∈d):l=d:=by
 have g:∀{l:List α},iO c l->l.Nodup:=fun{l} h=>h.imp fun{a b} h e=>by subst e;have:=ay.refl a;omega
 refine RB (le:=fun x y=>c x y<=0) (fun x y _ _ J U=>(ay.zero x y).1 (by have:=ay.neg x y;omega)) (h.imp fun h=>Ω) (f.imp fun h=>Ω) ?_;exact(List.perm_ext_iff_of_nodup (g h) (g f)).2 hm
omit [DecidableEq α]in
def iO.nodup(ay:kh c){l:List α}(h:iO c l):l.Nodup:=h.imp fun{a b} h e=>by subst e;have:=ay.refl a;omega
end
def Li:∀a b:List cV,iu a b=true->iu b a=false
 |_,[],h=>by simp[iu]at h
 |[],_::_,_=>by simp[iu]
 |x::a,y::b,h=>by
  simp only[iu,oo,gn,cO,eA]at h;simp only[iu,Bool.or_eq_false_iff,iN,Bool.and_eq_false_iff];rcases h with h|⟨rfl,h⟩
  ·refine⟨fun U=>?_,.inl ?_⟩
   ·rw[UInt8.lt_iff_toNat_lt]at h U;omega
   ·simp;intro e;subst e;rw[UInt8.lt_iff_toNat_lt]at h;omega
  ·exact⟨fun U=>by rw[UInt8.lt_iff_toNat_lt]at U;omega,.inr (Li a b h)⟩
def Sa:∀a b:List cV,a≠b->iu a b=false->iu b a=true
 |[],[],h,_=>absurd rfl h
 |x::a,[],_,_=>by simp[iu]
 |[],_::_,_,h=>by simp[iu]at h
 |x::a,y::b,c,h=>by
  simp only[iu,Bool.or_eq_false_iff,iN,Bool.and_eq_false_iff]at h;simp only[iu,oo,gn,cO,eA];by_cases e:x=y
  ·subst e;right;refine⟨rfl,Sa a b (fun e=>c (by rw[e])) ?_⟩;rcases h.2 with U|U
   ·simp at U
   ·exact U
  ·left;have J:=h.1;rw[UInt8.lt_iff_toNat_lt]at J⊢;have:x.toNat≠y.toNat:=fun h=>e (UInt8.toNat_inj.1 h);omega
def R9:∀a b d:List cV,iu a b=true->iu b d=true->iu a d=true
 |_,[],_,h,_=>by simp[iu]at h
 |_,_::_,[],_,h=>by simp[iu]at h
 |[],_::_,_::_,_,_=>by simp[iu]
 |x::a,y::b,z::d,J,U=>by
  simp only[iu,oo,gn,cO,eA,UInt8.lt_iff_toNat_lt]at J U⊢;rcases J with J|⟨rfl,J⟩<;>rcases U with U|⟨rfl,U⟩
  ·left;omega
  ·left;exact J
  ·left;exact U
  ·exact .inr ⟨rfl,R9 a b d J U⟩
def k3:kh fe:=by
 refine⟨fun a b=>?_,fun a b d=>?_,fun a b=>?_⟩
 ·simp only[fe];repeat' split
  all_goals omega
 ·simp only[fe];repeat' split
  all_goals omega
 ·simp only[fe];repeat' split
  all_goals omega
def Fy:kh lA:=by
 have g:∀a b,lA b a= -lA a b:=fun a b=>by
  simp only[lA];by_cases e:a=b
  ·subst e;simp
  ·rw[if_neg e,if_neg (Ne.symm e)];cases h:iu a b with
   |true=>simp[Li a b h]
   |false=>simp[Sa a b e h]
 refine⟨g,fun a b d J U=>?_,fun a b=>?_⟩
 ·simp only[lA]at J U⊢;by_cases c:a=b
  ·subst c;exact U
  ·by_cases f:b=d
   ·subst f;exact J
   ·rw[if_neg c]at J;rw[if_neg f]at U;have g1:iu a b=true:=by cases h:iu a b<;>simp[h]at J⊢
    have g2:iu b d=true:=by cases h:iu b d<;>simp[h]at U⊢
    rw[R9 a b d g1 g2];split<;>simp
 ·simp only[lA];by_cases e:a=b
  ·simp[e]
  ·rw[if_neg e];simp[e];split<;>omega
def tW{a b:T}(h:a.kind≠b.kind):e8 a b=fe a.kind b.kind:=by cases a<;>cases b<;>simp at h<;>simp[e8]
def Jp:∀a b:T,e8 b a= -e8 a b
 | .pair a b,.pair c d=>by
  simp only[e8];have J:=Jp a c;have U:=Jp b d;by_cases e:e8 a c=0
  ·rw[if_pos e,if_pos Ω,U]
  ·rw[if_neg e,if_neg Ω,J]
 | .nil,y=>by
  by_cases ad:T.nil.kind=y.kind
  ·cases y<;>simp at ad;simp[e8,lA]
  ·rw[tW ad,tW (Ne.symm ad),k3.neg]
 | .var n,y=>by
  by_cases ad:(T.var n).kind=y.kind
  ·cases y<;>simp at ad;rename_i m;by_cases e:n=m
   ·subst e;simp[e8,lA]
   ·simp[e8,e,Ne.symm e,k3.neg n m]
  ·rw[tW ad,tW (Ne.symm ad),k3.neg]
 | .sym s,y=>by
  by_cases ad:(T.sym s).kind=y.kind
  ·cases y<;>simp at ad;rename_i m;simp[e8,Fy.neg s m]
  ·rw[tW ad,tW (Ne.symm ad),k3.neg]
 | .num n,y=>by
  by_cases ad:(T.num n).kind=y.kind
  ·cases y<;>simp at ad;rename_i m;by_cases e:n=m
   ·subst e;simp[e8,lA]
   ·simp[e8,e,Ne.symm e,k3.neg n m]
  ·rw[tW ad,tW (Ne.symm ad),k3.neg]
 | .pair a b,.nil| .pair a b,.var _| .pair a b,.sym _| .pair a b,.num _=>by simp[e8,fe]
def Jo{a b:T}(h:e8 a b<=0):a.kind<=b.kind:=by
 by_cases ad:a.kind=b.kind
 ·omega
 ·rw[tW ad]at h;simp only[fe]at h;repeat' split at h
  all_goals omega
def aaf(n m:Int):e8 (.var n) (.var m)=fe n m:=by
 simp only[e8,T.kind,T.int,T.name,lA];by_cases e:n=m
 ·subst e;simp[fe]
 ·simp[e]
def aae(n m:Int):e8 (.num n) (.num m)=fe n m:=by
 simp only[e8,T.kind,T.int,T.name,lA];by_cases e:n=m
 ·subst e;simp[fe]
 ·simp[e]
def apS(n m:List cV):e8 (.sym n) (.sym m)=lA n m:=by simp[e8]
def Jq(a b d:T)(c:a.kind≠4)(J:e8 a b<=0)(U:e8 b d<=0):e8 a d<=0:=by
 have f:=Jo J;have e:=Jo U;by_cases ad:a.kind=d.kind
 ·cases a<;>cases d<;>simp at ad c;all_goals(cases b<;>simp at f e)
  ·simp[e8,lA]
  ·rw[aaf]at J U⊢;exact k3.tr _ _ _ J U
  ·rw[apS]at J U⊢;exact Fy.tr _ _ _ J U
  ·rw[aae]at J U⊢;exact k3.tr _ _ _ J U
 ·rw[tW ad];simp only[fe];repeat' split
  all_goals omega
def apT:∀a b d:T,e8 a b<=0->e8 b d<=0->e8 a d<=0:=by
 intro a;induction a with
 |pair e a2 o m=>
  intro b d J U;have l:=Jo J;have j:=Jo U;cases b<;>simp at l;all_goals(cases d<;>simp at j)
  rename_i c i d1 d2;simp only[e8]at J U⊢;by_cases g:e8 e c=0
  ·obtain rfl:=(sK e c).1 g;rw[if_pos g]at J;by_cases f:e8 e d1=0
   ·rw[if_pos f]at U⊢;exact m i d2 J U
   ·rw[if_neg f]at U⊢;exact U
  ·rw[if_neg g]at J;by_cases f:e8 c d1=0
   ·obtain rfl:=(sK c d1).1 f;rw[if_neg g];exact J
   ·rw[if_neg f]at U;have k:=o c d1 J U;by_cases h:e8 e d1=0
    ·obtain rfl:=(sK e d1).1 h;have:=Jp e c;omega
    ·rw[if_neg h];exact k
 |nil=>exact fun b d=>Jq _ b d Ψ
 |var n=>exact fun b d=>Jq _ b d Ψ
 |sym n=>exact fun b d=>Jq _ b d Ψ
 |num n=>exact fun b d=>Jq _ b d Ψ
def PB:kh e8:=⟨Jp,apT,sK⟩
end
section
open Go
section
variable {α:Type} {c:α->α->Int}
def kI(c:α->α->Int):List α->List α->Int
 |[],[]=>0
 |[],_::_=> -1
 |_::_,[]=>1
 |x::xs,y::ys=>if c x y=0 then kI c xs ys else c x y
def YI(h:kh c):∀a b:List α,kI c b a= -kI c a b
 |[],[]=>rfl
 |[],_::_=>rfl
 |_::_,[]=>rfl
 |x::xs,y::ys=>by
  simp only[kI];have J:=h.neg x y;by_cases e:c x y=0
  ·rw[if_pos e,if_pos Ω,YI h xs ys]
  ·rw[if_neg e,if_neg Ω,J]
def YK(h:kh c):∀a b:List α,kI c a b=0↔a=b
 |[],[]=>by simp[kI]
 |[],_::_=>by simp[kI]
 |_::_,[]=>by simp[kI]
 |x::xs,y::ys=>by
  simp only[kI,r5];by_cases e:c x y=0
  ·rw[if_pos e,YK h xs ys];simp[(h.zero x y).1 e]
  ·rw[if_neg e];exact⟨fun d=>absurd d e,fun d=>absurd ((h.zero x y).2 d.1) e⟩
def YJ(h:kh c):∀a b d:List α,kI c a b<=0->kI c b d<=0->kI c a d<=0
 |[],_,[],_,_=>by simp[kI]
 |[],_,_::_,_,_=>by simp[kI]
 |_::_,[],_,J,_=>by simp[kI]at J
 |_::_,_::_,[],_,U=>by simp[kI]at U
 |x::xs,y::ys,z::ds,J,U=>by
  simp only[kI]at J U⊢;by_cases f:c x y=0
  ·have:=(h.zero x y).1 f;subst this;rw[if_pos f]at J;by_cases e:c x z=0
   ·rw[if_pos e]at U⊢;exact YJ h xs ys ds J U
   ·rw[if_neg e]at U⊢;exact U
  ·rw[if_neg f]at J;have g:c x y<0:=Ω
   by_cases e:c y z=0
   ·have:=(h.zero y z).1 e;subst this;rw[if_neg f];omega
   ·rw[if_neg e]at U;have:=h.ltr g U;rw[if_neg Ω];omega
def amN(h:kh c):kh (kI c):=⟨YI h,YJ h,YK h⟩
end
def Af(x y:Bd):Int:=if fe x.v y.v=0 then e8 x.t y.t else fe x.v y.v
def apQ:kh Af:=by
 refine⟨fun x y=>?_,fun x y z J U=>?_,fun x y=>?_⟩
 ·unfold Af;have:=k3.neg x.v y.v;have:=PB.neg x.t y.t;by_cases e:fe x.v y.v=0
  ·rw[if_pos e,if_pos Ω];omega
  ·rw[if_neg e,if_neg Ω];omega
 ·unfold Af at J U⊢;by_cases b:fe x.v y.v=0
  ·rw[if_pos b]at J;rw[(k3.zero _ _).1 b];by_cases a:fe y.v z.v=0
   ·rw[if_pos a]at U⊢;exact PB.tr _ _ _ J U
   ·rw[if_neg a]at U⊢;exact U
  ·rw[if_neg b]at J;have c:fe x.v y.v<0:=Ω
   by_cases a:fe y.v z.v=0
   ·rw[<-(k3.zero _ _).1 a,if_neg b];exact J
   ·rw[if_neg a]at U;have:=k3.ltr c U;rw[if_neg Ω];omega
 ·unfold Af;by_cases e:fe x.v y.v=0
  ·rw[if_pos e,PB.zero];have:=(k3.zero _ _).1 e;cases x;cases y;simp_all
  ·rw[if_neg e];exact⟨fun h=>absurd h e,fun h=>by rw[h]at e;exact absurd (k3.refl _) e⟩
def fc:List Bd->List Bd->Int:=kI Af
def mT:kh fc:=amN apQ
end
section
open Go
def T.ap(c:Int->T):T->T
 | .var n=>c n
 | .pair a b=>.pair (a.ap c) (b.ap c)
 |t=>t
def Dw(f g:Int->T)(t:T):(t.ap f).ap g=t.ap fun v=>(f v).ap g:=by
 induction t with
 |pair a b d c=>simp[T.ap,d,c]
 |_=>simp[T.ap]
def vP{f g:Int->T}{t:T}(h:∀v,t.occ v=true->f v=g v):t.ap f=t.ap g:=by
 induction t with
 |var n=>exact h n (by simp[T.occ])
 |pair a b e d=>simp only[T.ap];rw[e fun v c=>h v (by simp[T.occ,c]),d fun v c=>h v (by simp[T.occ,c])]
 |_=>rfl
def aeq(t:T):t.ap .var=t:=by induction t<;>simp_all[T.ap]
def RX{f:Int->T}{t:T}(h:∀v,t.occ v=true->f v= .var v):t.ap f=t:=(vP h).trans (aeq t)
def acu(f:Int->Option T)(t:T):t.sub f=t.ap fun v=>(f v).getD (.var v):=by
 induction t with
 |var n=>simp only[T.sub,T.ap];cases f n<;>rfl
 |pair a b d c=>simp[T.sub,T.ap,d,c]
 |_=>rfl
def aep(c:Int->T)(t:T):t.size<=(t.ap c).size:=by
 induction t with
 |var n=>exact T.size_pos _
 |pair a b e d=>simp only[T.ap,T.size];omega
 |_=>exact dO _
def Cv(c:Int->T){v:Int}{t:T}(h:t.occ v=true):(c v).size<=(t.ap c).size/\(t.kind≠1->(c v).size<(t.ap c).size):=by
 induction t with
 |var n=>simp[T.occ]at h;subst h;simp[T.ap,T.kind]
 |pair a b e d=>
  simp only[T.occ,oo]at h;simp only[T.ap,T.size];rcases h with h|h
  ·have:=(e h).1;exact⟨Ω,fun _=>Ω⟩
  ·have:=(d h).1;exact⟨Ω,fun _=>Ω⟩
 |_=>simp[T.occ]at h
def Fm{c:Int->T}{v:Int}{t:T}:(t.ap c).occ v=true↔∃w,t.occ w=true/\(c w).occ v=true:=by
 induction t with
 |var n=>simp[T.ap,T.occ]
 |pair a b e d=>
  simp only[T.ap,T.occ,oo,e,d];constructor
  ·rintro(⟨w,J,U⟩|⟨w,J,U⟩)
   ·exact⟨w,.inl J,U⟩
   ·exact⟨w,.inr J,U⟩
  ·rintro⟨w,J|J,U⟩
   ·exact .inl ⟨w,J,U⟩
   ·exact .inr ⟨w,J,U⟩
 |_=>simp[T.ap,T.occ]
def cR(s:List Bd)(v:Int):T:=(dG s v).getD (.var v)
abbrev jB(s:List Bd):Prop:=s.Pairwise fun x y=>x.v<y.v
def hW(s:List Bd)(a:Int->T):Prop:= ∀b∈s,a b.v=b.t.ap a
structure gD (s:List Bd):Prop where
 asc:jB s
 free:∀b∈s,∀w,b.t.occ w=true->dG s w=none
 ori:∀b∈s,∀w,b.t= .var w->w<b.v
def vS(b:Bd)(s:List Bd)(v:Int):dG (b::s) v=if b.v=v then some b.t else dG s v:=by
 unfold dG;by_cases h:b.v=v
 ·simp[h]
 ·have:(b.v==v)=false:=by simp[h]
  simp[this,h,List.find?_cons]
def kQ{v:Int}{t:T}:∀{s:List Bd},dG s v=some t->(⟨v,t⟩:Bd)∈s
 |[],h=>by simp[dG]at h
 |b::s,h=>by
  rw[vS]at h;split at h
  ·rename_i e;cases h;subst e;simp
  ·exact ri _ (kQ h)
def xd{v:Int}:∀{s:List Bd},dG s v=none↔∀b∈s,b.v≠v
 |[]=>by simp[dG]
 |b::s=>by
  rw[vS];by_cases h:b.v=v
  ·simp[h]
  ·simp[h,xd (s:=s)]
def vR{b:Bd}:∀{s:List Bd},jB s->b∈s->dG s b.v=some b.t
 |[],_,h=>by simp at h
 |c::s,d,h=>by
  rw[vS];have a:=ot.1 d;rcases gJ.1 h with rfl|h
  ·simp
  ·have:=a.1 b h;rw[if_neg Ω];exact vR a.2 h
def RZ:∀{s a:List Bd},jB s->jB a->(∀v,dG s v=dG a v)->s=a
 |[],[],_,_,_=>rfl
 |[],c::a,_,_,h=>by have:=h c.v;rw[vS]at this;simp[dG]at this
 |c::s,[],_,_,h=>by have:=h c.v;rw[vS]at this;simp[dG]at this
 |b::s,c::a,k,m,h=>by
  have f:=ot.1 m;have d:=ot.1 k;have J:(⟨b.v,b.t⟩:Bd)∈c::a:=kQ (by rw[<-h b.v,vS];simp);have U:(⟨c.v,c.t⟩:Bd)∈b::s:=kQ (by rw[h c.v,vS];simp);have o:b=c:=by
   rcases gJ.1 J with e|e
   ·exact e
   ·rcases gJ.1 U with i|i
    ·exact i.symm
    ·have n:=f.1 _ e;have l:=d.1 _ i;simp only at n l;omega
  subst o;rw[RZ d.2 f.2 fun v=>?_];have:=h v;rw[vS,vS]at this;by_cases e:b.v=v
  ·have j:dG s v=none:=xd.2 fun x g=>by have:=d.1 x g;omega
   have z2:dG a v=none:=xd.2 fun x g=>by have:=f.1 x g;omega
   rw[j,z2]
  ·simpa[e]using this
def arL{s:List Bd}(c:jB s){a:Int->T}:hW s a↔∀v,a v=(cR s v).ap a:=by
 constructor
 ·intro h v;unfold cR;cases e:dG s v with
  |none=>rfl
  |some t=>exact h _ (kQ e)
 ·intro h b d;have:=h b.v;rw[cR,vR c d]at this;exact this
def QG{s:List Bd}{a:Int->T}(h:hW s a)(t:T):t.ap a=(t.ap (cR s)).ap a:=by
 rw[Dw];refine vP fun v _=>?_;unfold cR;cases e:dG s v with
 |none=>rfl
 |some t=>exact h _ (kQ e)
def ars{s:List Bd}(b:gD s){t:T}(h:∀w,t.occ w=true->dG s w=none):t.ap (cR s)=t:=RX fun v a=>by simp[cR,h v a]
def Az{s:List Bd}(a:gD s):hW s (cR s):=fun b c=>by rw[ars a (a.free b c),cR,vR a.asc c];rfl
def OW{s a:List Bd}(f:gD s)(c:gD a)(h:∀d,hW a d->hW s d){v:Int}(g:dG a v=none):dG s v=none:=by
 cases e:dG s v with
 |none=>rfl
 |some t=>
  have J:=h _ (Az c) _ (kQ e);simp only[cR,g,my]at J;cases t with
  |var w=>
   have U:w<v:=f.ori _ (kQ e) w rfl;simp only[T.ap,cR]at J;cases b:dG a w with
   |none=>rw[b]at J;simp at J;omega
   |some u=>rw[b]at J;simp only[ma]at J;subst J;have:=c.ori _ (kQ b) v rfl;simp only at this;omega
  |_=>simp[T.ap]at J
def anu{s a:List Bd}(c:gD a)(h:∀b,hW a b->hW s b){v:Int}:(cR s v).size<=(cR a v).size:=by
 have J:=h _ (Az c);unfold cR;cases e:dG s v with
 |none=>exact T.size_pos _
 |some t=>have:=J _ (kQ e);show t.size<=(cR a v).size;simp only at this;rw[this];exact aep _ _
def arO{s b:List Bd}(d:gD s)(c:gD b)(h:∀a,hW s a↔hW b a):s=b:=by
 refine RZ d.asc c.asc fun v=>?_;have d1:∀w,dG s w=none↔dG b w=none:=fun w=>⟨OW c d (fun a=>(h a).1),OW d c fun a=>(h a).2⟩;cases e:dG s v with
 |none=>exact((d1 v).1 e).symm
 |some t=>
  cases f:dG b v with
  |none=>rw[(d1 v).2 f]at e;cases e
  |some t'=>have J:=(h _).2 (Az c) _ (kQ e);simp only[cR,f,ma]at J;rw[J];exact fC some (RX fun w hw=>by have:=(d1 w).1 (d.free _ (kQ e) w hw);simp[cR,this]).symm
def iw(s:List Bd):Prop:=s.length<=400/\∀b∈s,b.t.size<=5000
def aez{s:List Bd}(h:jB s):(s.map (·.v)).Nodup:=by rw[List.nodup_iff_pairwise_ne,List.pairwise_map];exact h.imp fun h=>Ω
def VL{s a:List Bd}(d:gD s)(g:gD a)(h:∀j,hW a j->hW s j)(l:iw a):iw s:=by
 have k:∀x∈s.map (·.v),x∈a.map (·.v):=by
  intro x m;obtain⟨b,f,rfl⟩:=hc.1 m;cases e:dG a b.v with
  |none=>have:=OW d g h e;rw[vR d.asc f]at this;cases this
  |some t=>exact hc.2 ⟨_,kQ e,rfl⟩
 have i:=RA (aez d.asc) k;simp only[List.length_map]at i;refine⟨kg i l.1,fun b f=>?_⟩;have J:=anu (s:=s) g h (v:=b.v);rw[cR,vR d.asc f]at J;obtain⟨c,ay,e⟩:=hc.1 (k b.v (hc.2 ⟨b,f,rfl⟩));have U:=l.2 c ay;rw[cR,<-e,vR g.asc ay]at J;exact kg J U
def km(E:List (T×T))(a:Int->T):Prop:= ∀e∈E,e.1.ap a=e.2.ap a
def F5(a:Int->T):km [] a:=fun _ h=>by simp at h
def sM{e:T×T}{E:List (T×T)}{a:Int->T}:km (e::E) a↔e.1.ap a=e.2.ap a/\km E a:=by simp[km]
def F4{E b:List (T×T)}{a:Int->T}:km (E++b) a↔km E a/\km b a:=by simp only[km,jT];exact⟨fun h=>⟨fun e he=>h e (.inl he),fun e he=>h e (.inr he)⟩,fun h e he=>he.elim (h.1 e) (h.2 e)⟩
def jG(s:List Bd)(E:List (T×T)):Option (List Bd)->Prop
 |some a=>(gD a/\iw a)/\∀b,hW a b↔hW s b/\km E b
 |none=> ∀a,gD a->(∀b,hW a b->hW s b/\km E b)->¬iw a
def aeg{s:List Bd}{E:List (T×T)}:∀{o o':Option (List Bd)},jG s E o->jG s E o'->o=o'
 |none,none,_,_=>rfl
 |some s1,none,h,a=>absurd h.1.2 (a s1 h.1.1 fun b=>(h.2 b).1)
 |none,some s1,a,h=>absurd h.1.2 (a s1 h.1.1 fun b=>(h.2 b).1)
 |some s1,some s2,h,a=>by rw[arO h.1.1 a.1.1 fun b=>(h.2 b).trans (a.2 b).symm]
def Du{s s2:List Bd}{E c:List (T×T)}(h:∀a,(hW s a/\km E a)↔(hW s2 a/\km c a)):∀{o:Option (List Bd)},jG s E o->jG s2 c o
 |none,b=>fun e J U=>b e J fun a d=>(h a).2 (U a d)
 |some s1,b=>⟨b.1,fun a=>(b.2 a).trans (h a)⟩
def RM{s s1:List Bd}{E d:List (T×T)}(h:jG s E (some s1)):∀{o:Option (List Bd)},jG s1 d o->jG s (E++d) o
 |none,b=>fun e J U=>b e J fun a c=>⟨(h.2 a).2 ⟨(U a c).1,(F4.1 (U a c).2).1⟩,(F4.1 (U a c).2).2⟩
 |some s2,b=>⟨b.1,fun a=>by rw[b.2 a,h.2 a,F4,and_assoc]⟩
def K1{s:List Bd}{E:List (T×T)}(c:List (T×T))(h:jG s E none):jG s (E++c) none:=fun d J U=>h d J fun b a=>⟨(U b a).1,(F4.1 (U b a).2).1⟩
def GF{s:List Bd}{E:List (T×T)}(h:∀a,hW s a->¬km E a):jG s E none:=fun b J U=>absurd (U _ (Az J)).2 (h _ (U _ (Az J)).1)
def K2{s:List Bd}(a:gD s)(c:iw s):jG s [] (some s):=⟨⟨a,c⟩,fun b=>⟨fun h=>⟨h,F5 b⟩,fun h=>h.1⟩⟩
def one(v:Int)(x:T)(w:Int):T:=if w=v then x else .var w
def qc(b:Bd):List Bd->List Bd
 |[]=>[b]
 |c::s=>if b.v<c.v then b::c::s else c::qc b s
def nQ(s:List Bd)(v:Int)(x:T):List Bd:=qc ⟨v,x⟩ (s.map fun b=>⟨b.v,b.t.ap (one v x)⟩)
def OP{b x:Bd}:∀{s:List Bd},x∈qc b s↔x=b\/x∈s
 |[]=>by simp[qc]
 |c::s=>by
  simp only[qc];split
  ·simp
  ·simp only[gJ,OP (s:=s)];constructor
   ·rintro(h|h|h)
    ·exact .inr (.inl h)
    ·exact .inl h
    ·exact .inr (.inr h)
   ·rintro(h|h|h)
    ·exact .inr (.inl h)
    ·exact .inl h
    ·exact .inr (.inr h)
def YH{b:Bd}:∀{s:List Bd},(qc b s).length=s.length+1
 |[]=>rfl
 |c::s=>by simp only[qc];split<;>simp[YH]
def R0{b:Bd}:∀{s:List Bd},jB s->(∀c∈s,c.v≠b.v)->jB (qc b s)
 |[],_,_=>by simp[qc]
 |c::s,e,f=>by
  have d:=ot.1 e;simp only[qc];split
  ·rename_i g;refine ot.2 ⟨fun x a=>?_,e⟩;rcases gJ.1 a with rfl|a
   ·exact g
   ·have:=d.1 x a;omega
  ·rename_i h;refine ot.2 ⟨fun x a=>?_,R0 d.2 fun c ay=>f c (by simp[ay])⟩;rcases OP.1 a with rfl|a
   ·have:=f c Ψ;omega
   ·exact d.1 x a
def rO{s:List Bd}{v:Int}{x:T}{b:Bd}:b∈nQ s v x↔b=⟨v,x⟩\/ ∃c∈s,b=⟨c.v,c.t.ap (one v x)⟩:=by unfold nQ;rw[OP,hc];refine or_congr Iff.rfl ⟨fun⟨c,J,U⟩=>⟨c,J,U.symm⟩,fun⟨c,J,U⟩=>⟨c,J,U.symm⟩⟩
def aaa{v:Int}{x:T}{a:Int->T}(h:a v=x.ap a)(t:T):(t.ap (one v x)).ap a=t.ap a:=by
 rw[Dw];refine vP fun w _=>?_;unfold one;split
 ·rename_i e;subst e;exact h.symm
 ·rfl
def GJ{s:List Bd}{v w:Int}{x:T}:dG (nQ s v x) w=none↔w≠v/\dG s w=none:=by
 rw[xd,xd];constructor
 ·intro h;exact⟨fun e=>h ⟨v,x⟩ (rO.2 (.inl rfl)) e.symm,fun b a=>h ⟨b.v,b.t.ap (one v x)⟩ (rO.2 (.inr ⟨b,a,rfl⟩))⟩
 ·rintro⟨J,U⟩ b a;rcases rO.1 a with rfl|⟨c,ay,rfl⟩
  ·exact fun e=>J e.symm
  ·exact U c ay
def QE{s:List Bd}(a:gD s){t:T}{w:Int}(h:(t.ap (cR s)).occ w=true):dG s w=none:=by
 obtain⟨u,_,U⟩:=Fm.1 h;unfold cR at U;cases e:dG s u with
 |none=>rw[e]at U;simp[T.occ]at U;subst U;exact e
 |some t=>rw[e]at U;exact a.free _ (kQ e) w U
def arN{s:List Bd}(d:gD s){v:Int}{t:T}(i:dG s v=none)(aq:(t.ap (cR s)).occ v=false)(f:∀w,t.ap (cR s)= .var w->w<v):gD (nQ s v (t.ap (cR s))):=by
 have g:∀w,(t.ap (cR s)).occ w=true->dG (nQ s v (t.ap (cR s))) w=none:=fun w hw=>GJ.2 ⟨fun e=>(by subst e;rw[aq]at hw;cases hw),QE d hw⟩;refine⟨R0 ?_ ?_,fun b a w hw=>?_,fun b a w hw=>?_⟩
 ·rw[jB,List.pairwise_map];exact d.asc
 ·intro c ay;obtain⟨b,a,rfl⟩:=hc.1 ay;exact xd.1 i b a
 ·rcases rO.1 a with rfl|⟨c,ay,rfl⟩
  ·exact g w hw
  ·obtain⟨u,J,U⟩:=Fm.1 hw;unfold one at U;split at U
   ·exact g w U
   ·rename_i h;simp[T.occ]at U;subst U;exact GJ.2 ⟨h,d.free c ay _ J⟩
 ·rcases rO.1 a with rfl|⟨c,ay,rfl⟩
  ·exact f w hw
  ·simp only at hw⊢;cases e:c.t with
   |var u=>
    have:=d.ori c ay u e;rw[e]at hw;simp only[T.ap,one]at hw;split at hw
    ·rename_i j;subst j;have:=f w hw;omega
    ·cases hw;exact this
   |_=>rw[e]at hw;simp[T.ap]at hw
def ace{s:List Bd}{v:Int}{t:T}(a:Int->T):hW (nQ s v (t.ap (cR s))) a↔hW s a/\km [(.var v,t)] a:=by
 have f:km [(.var v,t)] a↔a v=t.ap a:=by simp[km,T.ap]
 rw[f];constructor
 ·intro h;have d:a v=(t.ap (cR s)).ap a:=h _ (rO.2 (.inl rfl));have J:hW s a:=fun b e=>by have:=h _ (rO.2 (.inr ⟨b,e,rfl⟩));simp only at this;rw[aaa d]at this;exact this
  exact⟨J,by rw[QG J t];exact d⟩
 ·rintro⟨J,U⟩ b e;have d:a v=(t.ap (cR s)).ap a:=by rw[<-QG J t];exact U
  rcases rO.1 e with rfl|⟨c,ay,rfl⟩
  ·exact d
  ·simp only;rw[aaa d];exact J c ay
open Classical in
def aed{s:List Bd}(f:gD s){v:Int}{t:T}(h:dG s v=none)(aq:(t.ap (cR s)).occ v=false)(c:∀w,t.ap (cR s)= .var w->w<v):jG s [(.var v,t)] (if iw (nQ s v (t.ap (cR s)))then some (nQ s v (t.ap (cR s)))else none):=by
 have J:=arN f h aq c;split
 ·rename_i a;exact⟨⟨J,a⟩,ace⟩
 ·rename_i a;exact fun i U e g=>a (VL J U (fun b d=>(ace b).2 (e b d)) g)
def ig(s:List Bd):T->T
 | .var n=>cR s n
 |t=>t
def pa(s:List Bd)(v:Int)(t:T):Option (List Bd):=if(t.ap (cR s)).size<=5000/\(t.ap (cR s)).occ v=false/\s.length<400/\∀b∈s,(b.t.ap (one v (t.ap (cR s)))).size<=5000 then some (nQ s v (t.ap (cR s)))else none
def kN(rec:List Bd->T->T->Option (Option (List Bd)))(s:List Bd):T->T->Option (Option (List Bd))
 | .var i,.var j=>some (if i<j then pa s j (.var i)else if i=j then some s else pa s i (.var j))
 | .var i,y=>some (pa s i y)
 |x,.var j=>some (pa s j x)
 | .pair c a2,.pair a b=>match rec s c a with
  |none=>none
  |some none=>some none
  |some (some s1)=>rec s1 a2 b
 |x,y=>some (if x=y then some s else none)
def lG:Nat->List Bd->T->T->Option (Option (List Bd))
 |0,_,_,_=>none
 |n+1,s,a,b=>kN (lG n) s (ig s a) (ig s b)
def asj{rec c:List Bd->T->T->Option (Option (List Bd))}(h:∀s a b o,rec s a b=some o->c s a b=some o){s:List Bd}{x y:T}{o:Option (List Bd)}(he:kN rec s x y=some o):kN c s x y=some o:=by
 cases x<;>cases y<;>simp only[kN]at he⊢ <;>try exact he
 rename_i g a2 f i;cases e:rec s g f with
 |none=>rw[e]at he;cases he
 |some d=>
  rw[e]at he;rw[h _ _ _ _ e];cases d with
  |none=>exact he
  |some s1=>exact h _ _ _ _ he
def Gd:∀{n m:Nat} {s:List Bd} {a b:T} {o:Option (List Bd)},n<=m->lG n s a b=some o->lG m s a b=some o
 |0,_,_,_,_,_,_,h=>by simp[lG]at h
 |n+1,0,_,_,_,_,hm,_=>Ω
 |n+1,m+1,s,a,b,o,hm,h=>by simp only[lG]at h⊢;exact asj (fun s a b o h=>Gd Ω h) h
def MC{s:List Bd}{v:Int}{x:T}:iw (nQ s v x)↔(x.size<=5000/\s.length<400/\∀b∈s,(b.t.ap (one v x)).size<=5000):=by
 have d:(nQ s v x).length=s.length+1:=by simp[nQ,YH]
 unfold iw;rw[d];constructor
 ·rintro⟨J,U⟩;exact⟨U _ (rO.2 (.inl rfl)),Ω,fun b a=>U _ (rO.2 (.inr ⟨b,a,rfl⟩))⟩
 ·rintro⟨J,U,e⟩;refine⟨Ω,fun b a=>?_⟩;rcases rO.1 a with rfl|⟨c,ay,rfl⟩
  ·exact J
  ·exact e c ay
def aee{s:List Bd}(f:gD s){v:Int}{t:T}(i:dG s v=none)(d:t.ap (cR s)≠ .var v)(c:∀w,t.ap (cR s)= .var w->w<v):jG s [(.var v,t)] (pa s v t):=by
 unfold pa;cases aq:(t.ap (cR s)).occ v with
 |true=>
  rw[if_neg Ψ];refine GF fun g J U=>?_;have b:=(sM.1 U).1;simp only[T.ap]at b;rw[QG J t]at b;have ad:(t.ap (cR s)).kind≠1:=by
   intro ad;cases e:t.ap (cR s)with
   |var w=>rw[e]at aq;simp[T.occ]at aq;subst aq;exact d e
   |_=>rw[e]at ad;simp[T.kind]at ad
  have:=(Cv g aq).2 ad;rw[<-b]at this;omega
 |false=>
  have J:=aed f i aq c;by_cases a:iw (nQ s v (t.ap (cR s)))
  ·rw[if_pos a]at J;rw[if_pos ⟨(MC.1 a).1,rfl,(MC.1 a).2⟩];exact J
  ·rw[if_neg a]at J;rw[if_neg fun h=>a (MC.2 ⟨h.1,h.2.2⟩)];exact J
def adz{s:List Bd}(a:gD s){t:T}{i:Int}(h:ig s t= .var i):dG s i=none:=by
 cases t with
 |var n=>
  simp only[ig,cR]at h;cases e:dG s n with
  |none=>rw[e]at h;simp at h;subst h;exact e
  |some u=>rw[e]at h;simp at h;subst h;exact a.free _ (kQ e) i (by simp[T.occ])
 |_=>simp[ig]at h
def Rr{s:List Bd}{a:Int->T}(h:hW s a)(t:T):(ig s t).ap a=t.ap a:=by
 cases t with
 |var n=>
  simp only[ig,T.ap,cR];cases e:dG s n with
  |none=>rfl
  |some u=>exact(h _ (kQ e)).symm
 |_=>rfl
def adB{s:List Bd}(a:gD s)(t:T):(ig s t).ap (cR s)=t.ap (cR s):=Rr (Az a) t
def rG(V:List Int)(t:T):Prop:= ∀w,t.occ w=true->w∈V
def zO(V:List Int)(s:List Bd):Prop:= ∀b∈s,b.v∈V/\rG V b.t
def A8(V:List Int)(s:List Bd):Nat:=(V.filter fun v=>(dG s v).isNone).length
def VG{α:Type}{p q:α->Bool}{v:α}:∀{V:List α},(∀x∈V,q x=true->p x=true)->v∈V->p v=true->q v=false->(V.filter q).length<(V.filter p).length
 |[],_,h,_,_=>by simp at h
 |x::V,h,b,c,d=>by
  have hle:∀W:List α,(∀x∈W,q x=true->p x=true)->(W.filter q).length<=(W.filter p).length:=by
   intro W;induction W with
   |nil=>intro _;simp
   |cons y W g=>intro f;have:=g fun x a=>f x (by simp[a]);have j:=f y Ψ;simp only[List.filter_cons];cases e:q y<;>cases i:p y<;>simp_all<;>omega
  simp only[List.filter_cons];rcases gJ.1 b with rfl|b
  ·have:=hle V fun x a=>h x (by simp[a]);simp[c,d];omega
  ·have:=VG (fun x a=>h x (ri _ a)) b c d;have a:=h x Ψ;cases e:q x<;>cases i:p x<;>simp_all<;>omega
def afC{V:List Int}{s:List Bd}{v:Int}{x:T}(b:v∈V)(a:dG s v=none):A8 V (nQ s v x)<A8 V s:=by
 unfold A8;refine VG (v:=v) (fun w _ h=>?_) b (by simp[a]) ?_
 ·rw[Option.isNone_iff_eq_none,GJ]at h;simp[h.2]
 ·cases e:dG (nQ s v x) v with
  |none=>exact absurd rfl (GJ.1 e).1
  |some _=>rfl
def XI{V:List Int}{s:List Bd}(h:zO V s){t:T}(a:rG V t):rG V (t.ap (cR s)):=fun w hw=>by
 obtain⟨u,J,U⟩:=Fm.1 hw;unfold cR at U;cases e:dG s u with
 |none=>rw[e]at U;simp[T.occ]at U;subst U;exact a _ J
 |some x=>rw[e]at U;exact(h _ (kQ e)).2 w U
def al0{V:List Int}{s:List Bd}(h:zO V s){v:Int}{x:T}(e:v∈V)(a:rG V x):zO V (nQ s v x):=fun b d=>by
 rcases rO.1 d with rfl|⟨c,ay,rfl⟩
 ·exact⟨e,a⟩
 ·refine⟨(h c ay).1,fun w hw=>?_⟩;obtain⟨u,J,U⟩:=Fm.1 hw;unfold one at U;split at U
  ·exact a w U
  ·simp[T.occ]at U;subst U;exact(h c ay).2 _ J
def XJ{V:List Int}{s:List Bd}(h:zO V s){t:T}(a:rG V t):rG V (ig s t):=by
 cases t with
 |var n=>have:=XI h a;simpa[ig,T.ap]using this
 |_=>exact a
def Dt(V:List Int)(s:List Bd)(a b:T)(o:Option (List Bd)):Prop:=jG s [(a,b)] o/\∀c,o=some c->zO V c/\(c=s\/A8 V c<A8 V s)
def Ge{V:List Int}{s:List Bd}(j:gD s)(d:zO V s){v:Int}{t a b:T}(f:v∈V)(k:rG V t)(e:dG s v=none)(i:t.ap (cR s)≠ .var v)(g:∀w,t.ap (cR s)= .var w->w<v)(ay:∀c,hW s c->(c v=t.ap c↔a.ap c=b.ap c)):Dt V s a b (pa s v t):=by
 refine⟨Du (fun c=>?_) (aee j e i g),fun l h=>?_⟩
 ·refine and_congr_right fun h=>?_;rw[sM,sM];simp only[T.ap,ay c h]
 ·unfold pa at h;split at h
  ·cases h;exact⟨al0 d f (XI d k),.inr (afC f e)⟩
  ·cases h
def CY{s:List Bd}{i:Int}(h:dG s i=none):cR s i= .var i:=by simp[cR,h]
def acW(V:List Int)(k:Nat):∀(m:Nat) (s:List Bd) (a b:T),gD s->iw s->zO V s->rG V a->rG V b->A8 V s=k->(a.ap (cR s)).size+(b.ap (cR s)).size=m->
  ∃n o,lG n s a b=some o/\Dt V s a b o:=by
 induction k using Nat.strongRecOn with
 |ind k N0=>
 intro m;induction m using Nat.strongRecOn with
 |ind m B0=>
 intro s a b v L y bR ag ad hm;have r:=XJ y bR;have u:=XJ y ag;have P:=adB v a;have O:=adB v b;have E:=fun c (h:hW s c)=>Rr h a;have A:=fun c (h:hW s c)=>Rr h b;have sv:=fun i=>adz v (t:=a) (i:=i);have Q:=fun i=>adz v (t:=b) (i:=i);have key:∀(rec:List Bd->T->T->Option (Option (List Bd))) (o:Option (List Bd)),kN rec s (ig s a) (ig s b)=some o->(∀l a2 g f,ig s a= .pair l a2->ig s b= .pair g f->Dt V s a b o)->Dt V s a b o:=by
  intro rec o he bN;cases ex:ig s a with
  |var i=>
   have M:=sv i ex;have x:=fun c h=>(E c h).symm.trans (by rw[ex]);cases d:ig s b with
   |var j=>
    have z:=Q j d;have p:=fun c h=>(A c h).symm.trans (by rw[d]);rw[ex,d]at he;simp only[kN]at he;have hi:i∈V:=by rw[ex]at r;exact r i (by simp[T.occ])
    have ah:j∈V:=by rw[d]at u;exact u j (by simp[T.occ])
    rcases Int.lt_trichotomy i j with h|h|h
    ·rw[if_pos h]at he;cases he;refine Ge v y ah (by rw[ex]at r;exact r) z (by simp[T.ap,CY M];omega) (fun w hw=>by simp[T.ap,CY M]at hw;omega) fun c q=>?_;rw[x c q,p c q];simp only[T.ap];exact⟨Eq.symm,Eq.symm⟩
    ·subst h;rw[if_neg Ω,if_pos rfl]at he;cases he;refine⟨⟨⟨v,L⟩,fun c=>⟨fun h=>⟨h,sM.2 ⟨?_,F5 c⟩⟩,fun h=>h.1⟩⟩,fun B e=>by cases e;exact⟨y,.inl rfl⟩⟩;simp only;rw[x c h,p c h]
    ·rw[if_neg Ω,if_neg Ω]at he;cases he;refine Ge v y hi (by rw[d]at u;exact u) M (by simp[T.ap,CY z];omega) (fun w hw=>by simp[T.ap,CY z]at hw;omega) fun c q=>?_;rw[x c q,p c q];simp only[T.ap]
   |_=>have p:=fun c h=>(A c h).symm.trans (by rw[d]);rw[ex,d]at he;simp only[kN]at he;cases he;refine Ge v y (by rw[ex]at r;exact r i (by simp[T.occ])) (by rw[d]at u;exact u) M (by simp[T.ap]) (fun w hw=>by simp[T.ap]at hw) fun c q=>?_;rw[x c q,p c q];simp only[T.ap]
  |pair l a2=>
   cases d:ig s b with
   |pair g f=>exact bN l a2 g f ex d
   |var j=>have z:=Q j d;have x:=fun c h=>(E c h).symm.trans (by rw[ex]);have p:=fun c h=>(A c h).symm.trans (by rw[d]);rw[ex,d]at he;simp only[kN]at he;cases he;refine Ge v y (by rw[d]at u;exact u j (by simp[T.occ])) (by rw[ex]at r;exact r) z (by simp[T.ap]) (fun w hw=>by simp[T.ap]at hw) fun c q=>?_;rw[x c q,p c q];simp only[T.ap];exact⟨Eq.symm,Eq.symm⟩
   |_=>have x:=fun c h=>(E c h).symm.trans (by rw[ex]);have p:=fun c h=>(A c h).symm.trans (by rw[d]);rw[ex,d]at he;simp only[kN]at he;simp at he;subst he;refine⟨GF fun c J U=>?_,fun B e=>by cases e⟩;have:=(sM.1 U).1;simp only at this;rw[x c J,p c J]at this;simp[T.ap]at this
  |_=>
   have x:=fun c h=>(E c h).symm.trans (by rw[ex]);cases d:ig s b with
   |var j=>have z:=Q j d;have p:=fun c h=>(A c h).symm.trans (by rw[d]);rw[ex,d]at he;simp only[kN]at he;cases he;refine Ge v y (by rw[d]at u;exact u j (by simp[T.occ])) (by rw[ex]at r;exact r) z (by simp[T.ap]) (fun w hw=>by simp[T.ap]at hw) fun c q=>?_;rw[x c q,p c q];simp only[T.ap];exact⟨Eq.symm,Eq.symm⟩
   |_=>
    have p:=fun c h=>(A c h).symm.trans (by rw[d]);rw[ex,d]at he;simp only[kN,dV]at he;split at he
    ·rename_i e;subst he;refine⟨⟨⟨v,L⟩,fun c=>⟨fun h=>⟨h,sM.2 ⟨?_,F5 c⟩⟩,fun h=>h.1⟩⟩,fun B e=>by cases e;exact⟨y,.inl rfl⟩⟩;simp only;rw[x c h,p c h];try rw[e]
    ·rename_i e;subst he;refine⟨GF fun c J U=>?_,fun B e=>by cases e⟩;have:=(sM.1 U).1;simp only at this;rw[x c J,p c J]at this;simp[T.ap]at this e;try exact e this
 by_cases Ie:∃l a2 g f,ig s a= .pair l a2/\ig s b= .pair g f
 ·obtain⟨l,a2,g,f,ex,d⟩:=Ie;have W:(l.ap (cR s)).size+(g.ap (cR s)).size<m/\(a2.ap (cR s)).size+(f.ap (cR s)).size<m:=by rw[ex]at P;rw[d]at O;simp only[T.ap]at P O;rw[<-hm,<-P,<-O];simp only[T.size];omega
  have mi:rG V l:=fun w hw=>by rw[ex]at r;exact r w (by simp[T.occ,hw])
  have R:rG V a2:=fun w hw=>by rw[ex]at r;exact r w (by simp[T.occ,hw])
  have mI:rG V g:=fun w hw=>by rw[d]at u;exact u w (by simp[T.occ,hw])
  have S:rG V f:=fun w hw=>by rw[d]at u;exact u w (by simp[T.occ,hw])
  have WK:∀c,(hW s c/\km ([(l,g)]++[(a2,f)]) c)↔(hW s c/\km [(a,b)] c):=fun c=>and_congr_right fun h=>by simp only[List.singleton_append,sM,F5,jb];rw[<-E c h,<-A c h,ex,d];simp[T.ap]
  obtain⟨K,gT,Y,G⟩:=B0 _ W.1 s l g v L y mi mI ad rfl;cases gT with
  |none=>refine⟨K+1,none,?_,Du WK (K1 _ G.1),fun B e=>by cases e⟩;simp only[lG,ex,d,kN,Y]
  |some s1=>
   obtain⟨v1,v2⟩:=G.2 s1 rfl;have ED:∃F H,lG F s1 a2 f=some H/\Dt V s1 a2 f H:=by
    rcases v2 with rfl|v2
    ·exact B0 _ W.2 _ a2 f v L y R S ad rfl
    ·exact N0 _ Ω _ s1 a2 f G.1.1.1 G.1.1.2 v1 R S rfl rfl
   obtain⟨F,H,aC,X⟩:=ED;refine⟨max K F+1,H,?_,Du WK (RM G.1 X.1),fun B e=>?_⟩
   ·simp only[lG,ex,d,kN,Gd (Nat.le_max_left K F) Y];exact Gd (Nat.le_max_right K F) aC
   ·obtain⟨ff,N⟩:=X.2 B e;refine⟨ff,?_⟩;rcases v2 with rfl|v2
    ·exact N
    ·rcases N with rfl|N
     ·exact .inr v2
     ·exact .inr Ω
 ·have Z:∀l a2 g f,ig s a= .pair l a2->ig s b= .pair g f->eb:=fun l a2 g f J U=>Ie ⟨l,a2,g,f,J,U⟩;have:∃o,kN (lG 0) s (ig s a) (ig s b)=some o:=by cases ex:ig s a<;>cases d:ig s b<;>simp only[kN]<;>first|exact⟨_,rfl⟩|exact(Z _ _ _ _ ex d).elim
  obtain⟨o,aq⟩:=this;exact⟨1,o,aq,key _ o aq fun l a2 g f J U=>(Z l a2 g f J U).elim⟩
def dp{α:Type}(k:Int):List (Int×α)->Option α
 |[]=>none
 |(i,v)::r=>if k=i then some v else dp k r
def fD{α:Type}(k:Int)(v:α):List (Int×α)->List (Int×α)
 |[]=>[(k,v)]
 |(i,w)::r=>if k=i then(i,v)::r else(i,w)::fD k v r
def cF{α:Type}(m:List (Int×α)):List Int:=m.map (·.1)
def oY{α:Type}(k:Int)(v:α)(j:Int):∀m:List (Int×α),dp j (fD k v m)=if j=k then some v else dp j m
 |[]=>by simp only[fD,dp]
 |(i,w)::r=>by
  simp only[fD];by_cases h:k=i
  ·subst h;by_cases U:j=k<;>simp[dp,U]
  ·by_cases U:j=i
   ·subst U;have:¬j=k:=fun e=>h e.symm;simp[dp,h,this]
   ·simp[dp,h,U,oY k v j r]
def Kr{α:Type}{k:Int}:∀{m:List (Int×α)},(dp k m).isSome=true↔k∈cF m
 |[]=>by simp[dp,cF]
 |(i,w)::r=>by
  simp only[dp,cF,gX,gJ];by_cases h:k=i
  ·simp[h]
  ·simp only[h,if_false,false_or];exact Kr
def asb{α:Type}{k:Int}{m:List (Int×α)}:dp k m=none↔k∉cF m:=by rw[<-Kr];cases dp k m<;>simp
def E0{α:Type}{k:Int}{v:α}:∀{m:List (Int×α)},k∈cF m->cF (fD k v m)=cF m
 |[],h=>by simp[cF]at h
 |(i,w)::r,h=>by
  simp only[fD];by_cases e:k=i
  ·simp[e,cF]
  ·rw[if_neg e];have a:k∈cF r:=by simpa[cF,e]using h
   have:=E0 (v:=v) a;simp only[cF]at this⊢;simp[this]
def Yg{α:Type}{k:Int}{v:α}:∀{m:List (Int×α)},k∉cF m->cF (fD k v m)=cF m++[k]
 |[],h=>by simp[cF,fD]
 |(i,w)::r,h=>by have e:¬k=i:=fun e=>h (by simp[cF,e]);have a:k∉cF r:=fun ad=>h (by simp[cF]at ad⊢;exact .inr ad);have:=Yg (v:=v) a;simp only[fD,if_neg e];simp only[cF]at this⊢;simp[this]
structure bL where
 up:List (Int×Int)
 shape:List (Int×T)
 shaped:List (Int×Bool)
 color:List (Int×Int)
 size:List (Int×Int)
 full:List (Int×T)
def bL.shd(c:bL)(x:Int):Bool:=(dp x c.shaped).getD false
def bL.shp(c:bL)(x:Int):T:=(dp x c.shape).getD .nil
def bL.col(c:bL)(x:Int):Int:=(dp x c.color).getD 0
def bL.sz(c:bL)(x:Int):Int:=(dp x c.size).getD 0
def jR(m:List (Int×Int))(v:Int):Int:=(dp v m).getD 0
def yw:Nat->List (Int×Int)->Int->Option (Int×List (Int×Int))
 |0,_,_=>none
 |n+1,m,v=>if jR m v=v then some (v,m)else yw n (fD v (jR m (jR m v)) m) (jR (fD v (jR m (jR m v)) m) v)
def AT(v:Int)(m:List (Int×Int)):List (Int×Int):=if(dp v m).isSome then m else fD v v m
def rt(c:bL)(v:Int):Option (Int×bL):=(yw (v.toNat+1) (AT v c.up) v).map fun p=>(p.1,{c with up:=p.2})
def T.foldO{α:Type}(f:Int->α->Option α):T->α->Option α
 | .var n,a=>f n a
 | .pair x y,a=>(x.foldO f a).bind (y.foldO f)
 |_,a=>some a
def T.mapO{α:Type}(f:Int->α->Option (T×α)):T->α->Option (T×α)
 | .var n,a=>f n a
 | .pair x y,a=>(x.mapO f a).bind fun p=>(y.mapO f p.2).map fun q=>(.pair p.1 q.1,q.2)
 |t,a=>some (t,a)
def T.sizeO{α:Type}(f:Int->α->Option (Int×α)):T->α->Option (Int×α)
 | .var n,a=>(f n a).map fun p=>(if 5001<p.1 then 5001 else p.1,p.2)
 | .pair x y,a=>(x.sizeO f a).bind fun p=>if 5000<p.1 then some p else(y.sizeO f p.2).map fun q=>(if 5001<1+p.1+q.1 then 5001 else 1+p.1+q.1,q.2)
 |_,a=>some (1,a)
def Ch(t:T)(c:bL):Option bL:=t.foldO (fun v c=>(rt c v).map (·.2)) c
structure vI where
 c:bL
 seen:List (Int×Bool)
 found:Bool
def yu(rec:T->bL->List (Int×Bool)->Option vI)(x:Int)(v:Int)(a:vI):Option vI:=
 (rt a.c v).bind fun p=>if a.found=true\/p.1=x then some ⟨p.2,a.seen,true⟩
  else if(dp p.1 a.seen).getD false=false/\p.2.shd p.1=true then rec (p.2.shp p.1) p.2 (fD p.1 true a.seen)
  else some ⟨p.2,a.seen,a.found⟩
def q4:Nat->Int->T->bL->List (Int×Bool)->Option vI
 |0,_,_,_,_=>none
 |n+1,x,t,c,seen=>t.foldO (yu (q4 n x) x) ⟨c,seen,false⟩
def bL.know(c:bL)(x:Int)(t:T):bL:={c with shape:=fD x t c.shape,shaped:=fD x true c.shaped}
def wI(n:Nat)(x:Int)(t:T)(c:bL):Option (Bool×bL):=(q4 n x t (c.know x t) []).map fun a=>(!a.found,a.c)
def bL.join(c:bL)(x y:Int):bL:={c with up:=fD y x c.up}
def tb(rec:T->T->bL->Option (Bool×bL))(n:Nat)(x y:Int)(c:bL):Option (Bool×bL):=
 if c.shd y=false then
  (if c.shd x=false then some (true,c)else(q4 n x (c.shp x) c []).map fun a=>(!a.found,a.c))
 else if c.shd x=false then wI n x (c.shp y) c
 else(q4 n x (c.shp y) c []).bind fun a=>if a.found=true then some (false,a.c)else
  (q4 n x (a.c.shp x) a.c []).bind fun b=>if b.found=true then some (false,b.c)else rec (b.c.shp x) (c.shp y) b.c
def hv:Nat->T->T->bL->Option (Bool×bL)
 |0,_,_,_=>none
 |n+1,.var i,.var j,c=>(rt c i).bind fun p=>(rt p.2 j).bind fun q=>if p.1=q.1 then some (true,q.2)else if q.1<p.1 then tb (hv n) n q.1 p.1 (q.2.join q.1 p.1)else tb (hv n) n p.1 q.1 (q.2.join p.1 q.1)
 |n+1,.var i,b,c=>(rt c i).bind fun p=>if p.2.shd p.1=false then wI n p.1 b p.2 else hv n (p.2.shp p.1) b p.2
 |n+1,a,.var j,c=>hv n (.var j) a c
 |n+1,.pair f a2,.pair d e,c=>(hv n f d c).bind fun p=>if p.1=true then hv n a2 e p.2 else some (false,p.2)
 |_+1,a,b,c=>some (decide (a=b),c)
structure kl (m:List (Int×Int)) (ρ:Int->Int):Prop where
 up:∀v u,dp v m=some u->(0<=u/\u<=v/\u∈cF m)/\ρ u=ρ v/\(ρ v=v↔u=v)
 no:∀v,v∉cF m->ρ v=v
def kl.get{m:List (Int×Int)}{ρ:Int->Int}(h:kl m ρ){v:Int}(a:v∈cF m):∃u,dp v m=some u/\jR m v=u:=by have:=Kr.2 a;obtain⟨u,hu⟩:=fy.1 this;exact⟨u,hu,by simp[jR,hu]⟩
def kl.root{m:List (Int×Int)}{ρ:Int->Int}(h:kl m ρ):∀(n:Nat) (v:Int),v.toNat<=n->(ρ v<=v/\ρ (ρ v)=ρ v/\(v∈cF m->ρ v∈cF m/\0<=ρ v)):=by
 intro n;induction n using Nat.strongRecOn with
 |ind n f=>
 intro v i;by_cases a:v∈cF m
 ·obtain⟨u,J,_⟩:=h.get a;obtain⟨⟨d,a2,a3⟩,a4,a5⟩:=h.up v u J;by_cases e:u=v
  ·have:=a5.2 e;subst e;rw[this];exact⟨Ω,this,fun _=>⟨a3,d⟩⟩
  ·obtain⟨g,c,b⟩:=f (u.toNat) Ω u Ω;rw[<-a4];exact⟨Ω,c,fun _=>b a3⟩
 ·have:=h.no v a;rw[this];exact⟨Ω,this,fun h=>absurd h a⟩
def kl.le{m:List (Int×Int)}{ρ:Int->Int}(h:kl m ρ)(v:Int):ρ v<=v:=(h.root v.toNat v (dO _)).1
def kl.idem{m:List (Int×Int)}{ρ:Int->Int}(h:kl m ρ)(v:Int):ρ (ρ v)=ρ v:=(h.root v.toNat v (dO _)).2.1
def kl.mem{m:List (Int×Int)}{ρ:Int->Int}(h:kl m ρ){v:Int}(a:v∈cF m):ρ v∈cF m/\0<=ρ v:=(h.root v.toNat v (dO _)).2.2 a
def abY{ρ:Int->Int}:∀(n:Nat) (m:List (Int×Int)) (v:Int),kl m ρ->v∈cF m->v.toNat<n->∃a,yw n m v=some (ρ v,a)/\kl a ρ/\cF a=cF m
 |0,_,_,_,_,o=>Ω
 |n+1,m,v,h,f,o=>by
  obtain⟨u,J,U⟩:=h.get f;obtain⟨⟨r,a2,a3⟩,a4,a5⟩:=h.up v u J;simp only[yw,U];by_cases e:u=v
  ·rw[if_pos e];have:=a5.2 e;exact⟨m,by rw[this],h,rfl⟩
  ·rw[if_neg e];obtain⟨x,g1,g2⟩:=h.get a3;obtain⟨⟨k,q,d⟩,c,t⟩:=h.up u x g1;rw[g2];have ad:=E0 (v:=x) f;have g:kl (fD v x m) ρ:=by
    refine⟨fun w y hw=>?_,fun w hw=>h.no w (by rw[ad]at hw;exact hw)⟩;rw[oY]at hw;rw[ad];by_cases ew:w=v
    ·subst ew;rw[if_pos rfl]at hw;cases hw;refine⟨⟨k,Ω,d⟩,by rw[c,a4],⟨fun p=>absurd (a5.1 p) e,fun s=>?_⟩⟩;have:u=w:=Ω
     exact absurd this e
    ·rw[if_neg ew]at hw;exact h.up w y hw
   have b:jR (fD v x m) v=x:=by simp[jR,oY]
   rw[b];obtain⟨a,l,j,i⟩:=abY n (fD v x m) x g (by rw[ad];exact d) Ω;exact⟨a,by rw[l,c,a4],j,by rw[i,ad]⟩
structure hd (ρ:Int->Int) (c cB:bL):Prop where
 ru:kl cB.up ρ
 keys:cF cB.up=cF c.up
 eq:cB={c with up:=cB.up}
def hd.refl{ρ:Int->Int}{c:bL}(h:kl c.up ρ):hd ρ c c:=⟨h,rfl,rfl⟩
def hd.trans{ρ:Int->Int}{a b c:bL}(h:hd ρ a b)(k:hd ρ b c):hd ρ a c:=⟨k.ru,k.keys.trans h.keys,by rw[k.eq,h.eq]⟩
def hd.shd{ρ:Int->Int}{c a:bL}(h:hd ρ c a)(x:Int):a.shd x=c.shd x:=by rw[h.eq];rfl
def hd.shp{ρ:Int->Int}{c a:bL}(h:hd ρ c a)(x:Int):a.shp x=c.shp x:=by rw[h.eq];rfl
def vo{ρ:Int->Int}{c:bL}{v:Int}(h:kl c.up ρ)(b:v∈cF c.up):∃a,rt c v=some (ρ v,a)/\hd ρ c a:=by
 have e:AT v c.up=c.up:=by simp[AT,Kr.2 b]
 obtain⟨d,J,U,f⟩:=abY (v.toNat+1) c.up v h b Ω;exact⟨{c with up:=d},by simp[rt,e,J],⟨U,f,rfl⟩⟩
def ard{ρ:Int->Int}{c:bL}{v:Int}(h:kl c.up ρ)(d:0<=v)(a:v∉cF c.up):rt c v=some (v,{c with up:=fD v v c.up})/\kl (fD v v c.up) ρ/\cF (fD v v c.up)=cF c.up++[v]:=by
 have f:=asb.2 a;have ad:=Yg (v:=v) a;refine⟨?_,⟨fun w u hw=>?_,fun w hw=>h.no w fun hm=>hw (by rw[ad];simp[hm])⟩,ad⟩
 ·simp[rt,AT,f,yw,jR,oY]
 ·rw[oY]at hw;rw[ad];by_cases e:w=v
  ·subst e;rw[if_pos rfl]at hw;cases hw;exact⟨⟨d,Ω,Ψ⟩,rfl,⟨fun _=>rfl,fun _=>h.no _ a⟩⟩
  ·rw[if_neg e]at hw;obtain⟨⟨b,a2,a3⟩,a4⟩:=h.up w u hw;exact⟨⟨b,a2,by simp[a3]⟩,a4⟩
def bL.ph(c:bL)(x:Int):Option T:=if c.shd x then some (c.shp x)else none
def hd.ph{ρ:Int->Int}{c a:bL}(h:hd ρ c a):a.ph=c.ph:=by funext x;simp only[bL.ph,h.shd,h.shp]
def kP(ph:Int->Option T)(ρ:Int->Int)(a:Int->T):Prop:=(∀v,a v=a (ρ v))/\∀x t,ρ x=x->ph x=some t->a x=t.ap a
def jU(ph:Int->Option T)(ρ:Int->Int)(z u:Int):Prop:=ρ z=z/\∃t w,ph z=some t/\t.occ w=true/\ρ w=u
inductive ox (E:Int->Int->Prop):Int->Int->Prop
 |refl (a:Int):ox E a a
 |step {a b c:Int}:E a b->ox E b c->ox E a c
def pT(V:List Int)(ph:Int->Option T):Prop:= ∀x t,ph x=some t->t.kind≠1/\(∀w,t.occ w=true->w∈V)/\x∈V
def Kv(V:List Int)(ph:Int->Option T)(seen:List (Int×Bool)):Nat:=(V.filter fun v=>(ph v).isSome&& !((dp v seen).getD false)).length
def n3(seen:List (Int×Bool))(z:Int):Prop:=(dp z seen).getD false=true
structure ad5 (V:List Int) (ph:Int->Option T) (ρ:Int->Int) (x:Int) (occ:Int->Prop) (a bp:vI):Prop where
 sm:hd ρ a.c bp.c
 sub:∀z,n3 a.seen z->n3 bp.seen z
 yes:bp.found=true->a.found=true\/ ∃w,occ w/\ox (jU ph ρ) (ρ w) x
 kept:a.found=true->bp.found=true
 no:bp.found=false->(∀w,occ w->ρ w≠x/\((ph (ρ w)).isSome=true->n3 bp.seen (ρ w)))/\∀r,n3 bp.seen r->¬n3 a.seen r->∀u,jU ph ρ r u->u≠x/\((ph u).isSome=true->n3 bp.seen u)
def Hx{α:Type}{p q:α->Bool}:∀{V:List α},(∀x∈V,q x=true->p x=true)->(V.filter q).length<=(V.filter p).length
 |[],_=>by simp
 |y::V,h=>by have:=Hx (p:=p) (q:=q) (V:=V) fun x a=>h x (by simp[a]);have b:=h y Ψ;simp only[List.filter_cons];cases e:q y<;>cases c:p y<;>simp_all<;>omega
def Hy{α:Type}{p q:α->Bool}{v:α}:∀{V:List α},(∀x∈V,q x=true->p x=true)->v∈V->p v=true->q v=false->(V.filter q).length<(V.filter p).length
 |[],_,h,_,_=>by simp at h
 |x::V,h,b,c,d=>by
  have hle:=Hx (p:=p) (q:=q) (V:=V) fun x a=>h x (ri _ a);simp only[List.filter_cons];rcases gJ.1 b with rfl|b
  ·simp[c,d];omega
  ·have:=Hy (fun x a=>h x (ri _ a)) b c d;have a:=h x Ψ;cases e:q x<;>cases f:p x<;>simp_all<;>omega
def asm{V:List Int}{ph:Int->Option T}{s b:List (Int×Bool)}(h:∀z,n3 s z->n3 b z):Kv V ph b<=Kv V ph s:=
 Hx fun x _ a=>by
  simp only[cO,r4]at a⊢;refine⟨a.1,?_⟩;cases e:(dp x s).getD false with
  |false=>rfl
  |true=>have:=h x e;unfold n3 at this;rw[a.2]at this;cases this
def N2{s:List (Int×Bool)}{r z:Int}:n3 (fD r true s) z↔z=r\/n3 s z:=by unfold n3;rw[oY];by_cases h:z=r<;>simp[h]
def aq5{V:List Int}{ph:Int->Option T}{ρ:Int->Int}{x:Int}(gM:pT V ph)(k:Nat):∀(t:T) (a:vI),kl a.c.up ρ->cF a.c.up=V->a.c.ph=ph->(∀w,t.occ w=true->w∈V)->Kv V ph a.seen<=k->
  ∃N bp,(∀n,N<=n->t.foldO (yu (q4 n x) x) a=some bp)/\ad5 V ph ρ x (fun w=>t.occ w=true) a bp:=by
 induction k using Nat.strongRecOn with
 |ind k N0=>
 intro t;induction t with
 |var v=>
  intro a m ad g s y;obtain⟨i,J,U⟩:=vo m (by rw[ad];exact s v (by simp[T.occ]));have W:i.shd (ρ v)=(ph (ρ v)).isSome:=by rw[U.shd,<-g];simp only[bL.ph];split<;>simp_all
  by_cases d:a.found=true\/ρ v=x
  ·refine⟨0,⟨i,a.seen,true⟩,fun n _=>by simp[T.foldO,yu,J,d],U,fun z c=>c,fun _=>?_,fun _=>rfl,fun h=>by cases h⟩;rcases d with d|d
   ·exact .inl d
   ·exact .inr ⟨v,by simp[T.occ],by rw[d];exact .refl _⟩
  ·by_cases o:(dp (ρ v) a.seen).getD false=false/\i.shd (ρ v)=true
   ·have F:ph (ρ v)=some (i.shp (ρ v)):=by rw[<-g];simp only[bL.ph,U.shp];rw[if_pos (by rw[<-U.shd];exact o.2)]
    obtain⟨g1,g2,g3⟩:=gM _ _ F;have bO:Kv V ph (fD (ρ v) true a.seen)<k:=by
     refine Nat.lt_of_lt_of_le (Hy (v:=ρ v) (fun z _ c=>?_) g3 ?_ ?_) y
     ·simp only[cO,r4]at c⊢;refine⟨c.1,?_⟩;rw[oY]at c;by_cases e:z=ρ v
      ·subst e;exact o.1
      ·rw[if_neg e]at c;exact c.2
     ·simp[F,o.1]
     ·simp[oY]
    obtain⟨N,bp,G,b⟩:=N0 _ bO (i.shp (ρ v)) ⟨i,fD (ρ v) true a.seen,false⟩ U.ru (by rw[U.keys];exact ad) (by rw[U.ph];exact g) g2 (dO _);refine⟨N+1,bp,fun n aw=>?_,U.trans b.sm,fun z c=>b.sub z (N2.2 (.inr c)),fun O=>?_,fun h=>absurd (.inl h) d,fun A=>?_⟩
    ·obtain⟨n',rfl⟩:∃n',n=n'+1:=⟨n-1,Ω⟩;simp only[T.foldO,yu,J,l9,if_neg d,if_pos o,q4];exact G n' Ω
    ·rcases b.yes O with h|⟨w,l,j⟩
     ·cases h
     ·exact .inr ⟨v,by simp[T.occ],.step ⟨by rw[kl.idem m],_,w,F,l,rfl⟩ j⟩
    ·obtain⟨l,j⟩:=b.no A;have X:n3 bp.seen (ρ v):=b.sub _ (N2.2 (.inl rfl));refine⟨fun w hw=>?_,fun r M B u hu=>?_⟩
     ·simp[T.occ]at hw;subst hw;exact⟨fun e=>d (.inr e),fun _=>X⟩
     ·by_cases P:r=ρ v
      ·subst P;obtain⟨_,t',w,Q,z2,rfl⟩:=hu;rw[F]at Q;cases Q;exact l w z2
      ·exact j r M (fun h=>(N2.1 h).elim P B) u hu
   ·have Ek:a.found=false:=by cases e:a.found with
     |false=>rfl
     |true=>exact absurd (.inl e) d
    refine⟨0,⟨i,a.seen,a.found⟩,fun n _=>by simp only[T.foldO,yu,J,l9,if_neg d,if_neg o],U,fun z c=>c,fun h=>.inl h,fun h=>h,fun _=>⟨fun w hw=>?_,fun r J U=>absurd J U⟩⟩;simp[T.occ]at hw;subst hw;refine⟨fun e=>d (.inr e),fun bN=>?_⟩;unfold n3;cases e:(dp (ρ v) a.seen).getD false with
    |true=>rfl
    |false=>exact absurd ⟨e,by rw[W];exact bN⟩ o
 |pair p q K H=>
  intro a m ad g s y;obtain⟨Z,E,G,b⟩:=K a m ad g (fun w hw=>s w (by simp[T.occ,hw])) y;obtain⟨Y,a2,aC,f⟩:=H E b.sm.ru (by rw[b.sm.keys];exact ad) (by rw[b.sm.ph];exact g) (fun w hw=>s w (by simp[T.occ,hw])) (kg (asm b.sub) y);refine⟨max Z Y,a2,fun n aw=>by simp only[T.foldO];rw[G n Ω];exact aC n Ω,b.sm.trans f.sm,fun z c=>f.sub z (b.sub z c),fun O=>?_,fun h=>f.kept (b.kept h),fun A=>?_⟩
  ·rcases f.yes O with h|⟨w,l,j⟩
   ·rcases b.yes h with h|⟨w,l,j⟩
    ·exact .inl h
    ·exact .inr ⟨w,by simp[T.occ,l],j⟩
   ·exact .inr ⟨w,by simp[T.occ,l],j⟩
  ·have L:E.found=false:=by cases e:E.found with
    |false=>rfl
    |true=>have:=f.kept e;rw[A]at this;cases this
   obtain⟨S,R⟩:=b.no L;obtain⟨s1,s2⟩:=f.no A;refine⟨fun w hw=>?_,fun r M B u hu=>?_⟩
   ·simp only[T.occ,oo]at hw;rcases hw with hw|hw
    ·exact⟨(S w hw).1,fun h=>f.sub _ ((S w hw).2 h)⟩
    ·exact s1 w hw
   ·by_cases h:n3 E.seen r
    ·exact⟨(R r h B u hu).1,fun cI=>f.sub _ ((R r h B u hu).2 cI)⟩
    ·exact s2 r M h u hu
 |_=>intro a m ad g s y;exact⟨0,a,fun n _=>rfl,hd.refl m,fun z c=>c,fun h=>.inl h,fun h=>h,fun _=>⟨fun w hw=>by simp[T.occ]at hw,fun r J U=>absurd J U⟩⟩
def JN{ρ:Int->Int}{x:Int}{c:bL}{t:T}(f:kl c.up ρ)(j:pT (cF c.up) c.ph)(r:∀w,t.occ w=true->w∈cF c.up):
  ∃N a,(∀n,N<=n->q4 n x t c []=some a)/\hd ρ c a.c/\(a.found=true↔∃w,t.occ w=true/\ox (jU c.ph ρ) (ρ w) x):=by
 obtain⟨N,a,J,U⟩:=aq5 (x:=x) j _ t ⟨c,[],false⟩ f rfl rfl r (dO _);refine⟨N+1,a,fun n B=>?_,U.sm,fun h=>?_,fun⟨w,hw,s⟩=>?_⟩
 ·obtain⟨n',rfl⟩:∃n',n=n'+1:=⟨n-1,Ω⟩;exact J n' Ω
 ·rcases U.yes h with h|h
  ·cases h
  ·exact h
 ·cases e:a.found with
  |true=>rfl
  |false=>
   obtain⟨d,m⟩:=U.no e;have key:∀z,ox (jU c.ph ρ) z x->z≠x->((c.ph z).isSome=true->n3 a.seen z)->eb:=by
    have:∀z y,ox (jU c.ph ρ) z y->y=x->z≠x->((c.ph z).isSome=true->n3 a.seen z)->eb:=by
     intro z y u;induction u with
     |refl z=>intro h k;exact absurd h k
     | @step z b A he _ o=>intro q v i;obtain⟨_,t',w',g,_,_⟩:=id he;have p:=i (by simp[g]);obtain⟨g1,g2⟩:=m z p (by simp[n3,dp]) b he;exact o q g1 g2
    exact fun z l=>this z x l rfl
   exact(key _ s (d w hw).1 (d w hw).2).elim
end
section
open Go
def aei{E:Int->Int->Prop}{x:Int}{r:Int->Nat}{M:Nat}(h:∀z u,z≠x->E z u->r u<r z)(c:∀u,E x u->r u<M)(d:∀u,E x u->¬ox E u x):∃a:Int->Nat,∀z u,E z u->a u<a z:=by
 classical
 refine⟨fun z=>if ox E z x then r z+M else r z,fun z u he=>?_⟩;show(if ox E u x then r u+M else r u)<(if ox E z x then r z+M else r z);by_cases b:z=x
 ·subst b;have J:=d u he;have U:=c u he;rw[if_neg J,if_pos (ox.refl z)];omega
 ·have J:=h z u b he;by_cases hu:ox E u x
  ·rw[if_pos hu,if_pos (ox.step he hu)];omega
  ·rw[if_neg hu];split<;>omega
def oD(ph:Int->Option T)(ρ:Int->Int):Nat->Int->T
 |0,v=>.var (ρ v)
 |n+1,v=>match ph (ρ v)with
  |none=>.var (ρ v)
  |some t=>t.ap (oD ph ρ n)
section
variable {ph:Int->Option T} {ρ:Int->Int} {r:Int->Nat}
def agQ(a:∀v,ρ (ρ v)=ρ v):∀(n:Nat) (v:Int),oD ph ρ n v=oD ph ρ n (ρ v)
 |0,v=>by simp[oD,a]
 |n+1,v=>by simp[oD,a]
def Vd(a:∀v,ρ (ρ v)=ρ v)(b:∀z u,jU ph ρ z u->r u<r z):∀(n:Nat) (v:Int),r (ρ v)<n->oD ph ρ n v=oD ph ρ (n+1) v
 |0,_,h=>Ω
 |n+1,v,h=>by
  show(match ph (ρ v)with|none=>T.var (ρ v)|some t=>t.ap (oD ph ρ n))=(match ph (ρ v)with|none=>T.var (ρ v)|some t=>t.ap (oD ph ρ (n+1)));cases e:ph (ρ v)with
  |none=>rfl
  |some t=>refine vP fun w hw=>Vd a b n w ?_;have:=b (ρ v) (ρ w) ⟨a v,t,w,e,hw,rfl⟩;omega
def Vc(a:∀v,ρ (ρ v)=ρ v)(b:∀z u,jU ph ρ z u->r u<r z){n:Nat}{v:Int}(h:r (ρ v)<n):∀k,oD ph ρ (n+k) v=oD ph ρ n v
 |0=>rfl
 |k+1=>by rw[<-Vc a b h k];exact(Vd a b (n+k) v Ω).symm
def hY(ph:Int->Option T)(ρ:Int->Int)(r:Int->Nat)(v:Int):T:=oD ph ρ (r (ρ v)+1) v
def Bs(a:∀v,ρ (ρ v)=ρ v)(v:Int):hY ph ρ r v=hY ph ρ r (ρ v):=by unfold hY;rw[agQ a,a]
def D6{v:Int}(h:ph (ρ v)=none):hY ph ρ r v= .var (ρ v):=by simp[hY,oD,h]
def Bu(a:∀v,ρ (ρ v)=ρ v)(b:∀z u,jU ph ρ z u->r u<r z){v:Int}{t:T}(h:ph (ρ v)=some t):hY ph ρ r v=t.ap (hY ph ρ r):=by show oD ph ρ (r (ρ v)+1) v=_;simp only[oD,h];refine vP fun w hw=>?_;have J:=b (ρ v) (ρ w) ⟨a v,t,w,h,hw,rfl⟩;have:=Vc a b (n:=r (ρ w)+1) (v:=w) Ω (r (ρ v)-(r (ρ w)+1));rw[show r (ρ w)+1+(r (ρ v)-(r (ρ w)+1))=r (ρ v)from by omega]at this;exact this
def aj3(a:∀v,ρ (ρ v)=ρ v)(c:∀z u,jU ph ρ z u->r u<r z):kP ph ρ (hY ph ρ r):=⟨Bs a,fun x t b h=>Bu a c (by rw[b];exact h)⟩
def Kh{V:List Int}(b:pT V ph){a:Int->T}(h:kP ph ρ a){z u:Int}(he:jU ph ρ z u):(a u).size<(a z).size:=by obtain⟨J,t,w,U,c,rfl⟩:=he;rw[h.2 z t J U,<-h.1 w];exact(Cv a c).2 (b z t U).1
def Ki{V:List Int}(b:pT V ph){a:Int->T}(h:kP ph ρ a){z u:Int}(he:ox (jU ph ρ) z u):(a u).size<=(a z).size:=by
 induction he with
 |refl=>exact dO _
 |step J _ c=>have:=Kh b h J;omega
end
def aeN(r:Int->Nat)(t:T):∃M,∀w,t.occ w=true->r w<M:=by
 induction t with
 |var n=>exact⟨r n+1,fun w hw=>by simp[T.occ]at hw;subst hw;omega⟩
 |pair a b f e=>
  obtain⟨d,J⟩:=f;obtain⟨c,U⟩:=e;refine⟨d+c,fun w hw=>?_⟩;simp only[T.occ,oo]at hw;rcases hw with hw|hw
  ·have:=J w hw;omega
  ·have:=U w hw;omega
 |_=>exact⟨0,fun w hw=>by simp[T.occ]at hw⟩
def FX{ph:Int->Option T}{ρ:Int->Int}(b:∀v,ρ (ρ v)=ρ v){x:Int}{r:Int->Nat}(h:∀z u,z≠x->jU ph ρ z u->r u<r z)(d:∀u,jU ph ρ x u->¬ox (jU ph ρ) u x):∃g,kP ph ρ g:=by
 have a:∃M,∀u,jU ph ρ x u->r u<M:=by
  cases e:ph x with
  |none=>exact⟨0,fun u ⟨_,t,w,J,_⟩=>by rw[e]at J;cases J⟩
  |some t=>obtain⟨M,a⟩:=aeN (fun w=>r (ρ w)) t;refine⟨M,fun u ⟨_,t',w,J,U,f⟩=>?_⟩;rw[e]at J;cases J;subst f;exact a w U
 obtain⟨M,a⟩:=a;obtain⟨i,c⟩:=aei h a d;exact⟨_,aj3 b c⟩
structure nb (c:bL) (ρ:Int->Int):Prop where
 ru:kl c.up ρ
 sh:pT (cF c.up) c.ph
 sat:∃aT,kP c.ph ρ aT
def nb.sm{c a:bL}{ρ:Int->Int}(h:nb c ρ)(k:hd ρ c a):nb a ρ:=⟨k.ru,by rw[k.keys,k.ph];exact h.sh,by rw[k.ph];exact h.sat⟩
def jq(c:bL)(ρ:Int->Int):Nat:=((cF c.up).filter fun v=>decide (ρ v=v)).length+((cF c.up).filter fun v=>decide (ρ v=v)&& !(c.ph v).isSome).length
def yS{c a:bL}{ρ:Int->Int}(k:hd ρ c a):jq a ρ=jq c ρ:=by unfold jq;rw[k.keys,k.ph]
structure jV (c:bL) (ρ:Int->Int) (p:(Int->T)->Prop) (o:Bool×bL):Prop where
 keys:cF o.2.up=cF c.up
 rest:o.2.color=c.color/\o.2.size=c.size/\o.2.full=c.full
 yes:o.1=true->∃ρ',nb o.2 ρ'/\(∀aT,kP o.2.ph ρ' aT↔kP c.ph ρ aT/\p aT)/\((ρ'=ρ/\o.2.ph=c.ph)\/jq o.2 ρ'<jq c ρ)
 no:o.1=false->∀aT,kP c.ph ρ aT->¬p aT
def hd.rest{ρ:Int->Int}{c a:bL}(h:hd ρ c a):a.color=c.color/\a.size=c.size/\a.full=c.full:=by rw[h.eq];exact⟨rfl,rfl,rfl⟩
def jV.sm{c a:bL}{ρ:Int->Int}{p:(Int->T)->Prop}{o:Bool×bL}(k:hd ρ c a)(h:jV a ρ p o):jV c ρ p o:=⟨h.keys.trans k.keys,by rw[h.rest.1,h.rest.2.1,h.rest.2.2];exact k.rest,fun e=>by rw[<-yS k,<-k.ph];exact h.yes e,by rw[<-k.ph];exact h.no⟩
def jV.congr{c:bL}{ρ:Int->Int}{p q:(Int->T)->Prop}{o:Bool×bL}(d:∀a,kP c.ph ρ a->(p a↔q a))(h:jV c ρ p o):jV c ρ q o:=⟨h.keys,h.rest,fun e=>by obtain⟨ρ',J,U,g⟩:=h.yes e;exact⟨ρ',J,fun a=>(U a).trans (and_congr_right fun b=>d a b),g⟩,fun e a b f=>h.no e a b ((d a b).2 f)⟩
def ym(c:bL)(x:Int)(t:T)(z:Int):(c.know x t).ph z=if z=x then some t else c.ph z:=by
 simp only[bL.ph,bL.know,bL.shd,bL.shp,oY];by_cases h:z=x
 ·simp[h]
 ·simp only[if_neg h];exact ite_congr rfl (fun _=>rfl) fun _=>rfl
def Yz{c:bL}{ρ:Int->Int}(hi:nb c ρ){x:Int}(B:ρ x=x)(ad:x∈cF c.up)(y:c.ph x=none){t:T}(F:t.kind≠1)(E:∀w,t.occ w=true->w∈cF c.up):
  ∃N o,(∀n,N<=n->wI n x t c=some o)/\jV c ρ (fun d=>d x=t.ap d) o:=by
 have i:pT (cF (c.know x t).up) (c.know x t).ph:=by
  intro z u b;rw[ym]at b;split at b
  ·rename_i e;cases b;subst e;exact⟨F,E,ad⟩
  ·exact hi.sh z u b
 have s:∀d,kP (c.know x t).ph ρ d↔kP c.ph ρ d/\d x=t.ap d:=by
  intro d;constructor
  ·rintro⟨J,U⟩;refine⟨⟨J,fun z u b hu=>U z u b ?_⟩,U x t B (by rw[ym];simp)⟩;rw[ym];split
   ·rename_i e;subst e;rw[y]at hu;cases hu
   ·exact hu
  ·rintro⟨⟨J,U⟩,g⟩;refine⟨J,fun z u b hu=>?_⟩;rw[ym]at hu;split at hu
   ·rename_i e;subst e;cases hu;exact g
   ·exact U z u b hu
 obtain⟨N,a,J,U,g⟩:=JN (x:=x) (c:=c.know x t) (t:=t) hi.ru i E;refine⟨N,(!a.found,a.c),fun n O=>by simp[wI,J n O],U.keys,U.rest,fun f=>?_,fun f d A he=>?_⟩
 ·simp only[r4]at f;have m:∀u,jU (c.know x t).ph ρ x u->¬ox (jU (c.know x t).ph ρ) u x:=by rintro u ⟨_,t',w,h,j,rfl⟩ Q;rw[ym,if_pos rfl]at h;cases h;have:=g.2 ⟨w,j,Q⟩;rw[f]at this;cases this
  obtain⟨K,H⟩:=hi.sat
  have l:=FX (ph:=(c.know x t).ph) (ρ:=ρ) hi.ru.idem (x:=x) (r:=fun z=>(K z).size) (fun z u b he=>by refine Kh hi.sh H ?_;obtain⟨k,t',w,G,M⟩:=he;rw[ym,if_neg b]at G;exact⟨k,t',w,G,M⟩) m
  refine⟨ρ,⟨U.ru,?_,?_⟩,fun d=>?_,.inr ?_⟩
  ·simp only[U.keys,U.ph];exact i
  ·simp only[U.ph];exact l
  ·simp only[U.ph];exact s d
  ·simp only[yS U];unfold jq;have k:cF (c.know x t).up=cF c.up:=rfl;rw[k];have:=Hy (V:=cF c.up) (v:=x) (p:=fun v=>decide (ρ v=v)&& !(c.ph v).isSome) (q:=fun v=>decide (ρ v=v)&& !((c.know x t).ph v).isSome) (fun z _ b=>by
    rw[ym]at b;split at b
    ·simp at b
    ·exact b) ad (by simp[B,y]) (by simp[ym])
   omega
 ·simp only[Bool.not_eq_false']at f;obtain⟨w,h,j⟩:=g.1 f;have L:=(s d).2 ⟨A,he⟩;have:=Ki i L j;have P:=(Cv d h).2 F;rw[<-he]at P;rw[<-A.1 w]at this;omega
def jZ(ρ:Int->Int)(x y:Int)(v:Int):Int:=if ρ v=y then x else ρ v
section
variable {c:bL} {ρ:Int->Int} {x y:Int}
def rJ(b:ρ x=x)(c:ρ y=y)(a:x≠y){z:Int}:jZ ρ x y z=z↔ρ z=z/\z≠y:=by
 unfold jZ;split
 ·rename_i e;constructor
  ·intro h;subst h;rw[b]at e;exact absurd e a
  ·rintro⟨J,U⟩;rw[J]at e;exact absurd e U
 ·rename_i e;constructor
  ·intro h;exact⟨h,fun d=>e (by rw[d,c])⟩
  ·exact fun h=>h.1
def kl.join(h:kl c.up ρ)(d:ρ x=x)(f:ρ y=y)(l:x<y)(j:x∈cF c.up)(g:y∈cF c.up):kl (c.join x y).up (jZ ρ x y):=by
 have ad:cF (c.join x y).up=cF c.up:=E0 g;refine⟨fun v u b=>?_,fun v b=>?_⟩
 ·rw[ad];have a:dp v (fD y x c.up)=some u:=b;rw[oY]at a;by_cases e:v=y
  ·subst e;rw[if_pos rfl]at a;cases a;have i:=(h.mem j).2;rw[d]at i;refine⟨⟨i,Ω,j⟩,?_,⟨fun e=>?_,fun e=>Ω⟩⟩
   ·unfold jZ;rw[d,f,if_pos rfl,if_neg Ω]
   ·have:=((rJ d f Ω).1 e).2;exact absurd rfl this
  ·rw[if_neg e]at a;obtain⟨k,a2,a3⟩:=h.up v u a;refine⟨k,by unfold jZ;rw[a2],?_⟩;rw[rJ d f Ω,a3];exact⟨fun h=>h.1,fun h=>⟨h,e⟩⟩
 ·rw[ad]at b;have:=h.no v b;unfold jZ;rw[this,if_neg fun e=>b (by rw[e];exact g)]
def arJ{ph:Int->Option T}(i:ρ x=x)(d:ρ y=y)(h:x≠y)(a:Int->T):(kP ph (jZ ρ x y) a/\∀t,ph y=some t->a x=t.ap a)↔(kP ph ρ a/\a x=a y):=by
 constructor
 ·rintro⟨⟨J,U⟩,c⟩;have g:a y=a x:=by have:=J y;simpa[jZ,d]using this
  refine⟨⟨fun v=>?_,fun z t f b=>?_⟩,g.symm⟩
  ·have:=J v;unfold jZ at this;split at this
   ·rename_i e;rw[e,this,g]
   ·exact this
  ·by_cases e:z=y
   ·subst e;rw[g];exact c t b
   ·exact U z t ((rJ i d h).2 ⟨f,e⟩) b
 ·rintro⟨⟨J,U⟩,c⟩;refine⟨⟨fun v=>?_,fun z t f b=>U z t ((rJ i d h).1 f).1 b⟩,fun t b=>by rw[c];exact U y t d b⟩;unfold jZ;split
  ·rename_i e;rw[J v,e,c]
  ·exact J v
def aq4{V:List Int}{ph:Int->Option T}(d:pT V ph)(i:ρ x=x)(k:ρ y=y)(c:x≠y){b:Int->T}(h:kP ph ρ b){z u:Int}(f:z≠x)(he:jU ph (jZ ρ x y) z u):(if u=x then 0 else(b u).size)<(if z=x then 0 else(b z).size):=by
 obtain⟨J,t,w,U,g,rfl⟩:=he;have j:=(rJ i k c).1 J;rw[if_neg f];split
 ·exact T.size_pos _
 ·rename_i a;have:jZ ρ x y w=ρ w:=by
   unfold jZ at a⊢;split
   ·rename_i e;rw[if_pos e]at a;exact absurd rfl a
   ·rfl
  rw[this];exact Kh d h ⟨j.1,t,w,U,g,rfl⟩
def adY(e:ρ x=x)(b:ρ y=y)(d:x≠y)(f:y∈cF c.up):jq (c.join x y) (jZ ρ x y)<jq c ρ:=by have ad:cF (c.join x y).up=cF c.up:=E0 f;have g:(c.join x y).ph=c.ph:=rfl;unfold jq;rw[ad,g];have J:=Hy (V:=cF c.up) (v:=y) (p:=fun v=>decide (ρ v=v)) (q:=fun v=>decide (jZ ρ x y v=v)) (fun z _ a=>by simp only[gn]at a⊢;exact((rJ e b d).1 a).1) f (by simp[b]) (by simp only[iN];exact fun h=>((rJ e b d).1 h).2 rfl);have U:=Hx (V:=cF c.up) (p:=fun v=>decide (ρ v=v)&& !(c.ph v).isSome) (q:=fun v=>decide (jZ ρ x y v=v)&& !(c.ph v).isSome) (fun z _ a=>by simp only[cO,gn]at a⊢;exact⟨((rJ e b d).1 a.1).1,a.2⟩);omega
end
def CE{c:bL}{x:Int}(h:c.shd x=false):c.ph x=none:=by simp[bL.ph,h]
def CF{c:bL}{x:Int}(h:¬c.shd x=false):c.ph x=some (c.shp x):=by simp[bL.ph];simpa using h
def U5{c:bL}{ρ:Int->Int}(hi:nb c ρ){x y:Int}(g:ρ x=x)(B:ρ y=y)(iQ:x<y)(E3:x∈cF c.up)(W:y∈cF c.up)
  (rec:∀(M:bL) (X:Int->Int),nb M X->cF M.up=cF c.up->jq M X<jq c ρ->∀a b:T,(∀w,a.occ w=true->w∈cF c.up)->(∀w,b.occ w=true->w∈cF c.up)->∃N o,(∀n,N<=n->hv n a b M=some o)/\jV M X (fun d=>a.ap d=b.ap d) o):
  ∃N o,(∀n,N<=n->tb (hv n) n x y (c.join x y)=some o)/\jV c ρ (fun d=>d x=d y) o:=by
 have i:x≠y:=Ω
 have ad:cF (c.join x y).up=cF c.up:=E0 W;have O:(c.join x y).ph=c.ph:=rfl;have E:=hi.ru.join g B iQ E3 W;have Z:=adY (c:=c) g B i W;have L:pT (cF (c.join x y).up) (c.join x y).ph:=by rw[ad,O];exact hi.sh
 obtain⟨l8,wC⟩:=hi.sat
 have S:∀z u,z≠x->jU c.ph (jZ ρ x y) z u->(fun z=>if z=x then 0 else(l8 z).size) u<(fun z=>if z=x then 0 else(l8 z).size) z:=fun z u bz he=>aq4 hi.sh g B i wC bz he;have F:=fun d=>arJ (ph:=c.ph) g B i d;have Xw:∀{cB:bL},hd (jZ ρ x y) (c.join x y) cB->(∃d,kP c.ph (jZ ρ x y) d)->c.ph y=none->jV c ρ (fun d=>d x=d y) (true,cB):=by intro cB k r A;refine⟨k.keys.trans ad,k.rest,fun _=>⟨jZ ρ x y,⟨k.ru,by simp only[k.keys,k.ph];exact L,by simp only[k.ph];exact r⟩,fun d=>?_,.inr (by simp only[yS k];exact Z)⟩,fun e=>by cases e⟩;simp only[k.ph,O];rw[<-F d];exact⟨fun h=>⟨h,fun t H=>by rw[A]at H;cases H⟩,fun h=>h.1⟩
 by_cases J:(c.join x y).shd y=false
 ·have Xk:c.ph y=none:=CE J;by_cases U:(c.join x y).shd x=false
  ·have V:c.ph x=none:=CE U;refine⟨0,(true,c.join x y),fun n _=>by simp only[tb,if_pos J,if_pos U],Xw (hd.refl E) ?_ Xk⟩;exact FX E.idem (x:=x) S fun u ⟨_,t,w,q,_⟩=>by rw[V]at q;cases q
  ·have m:c.ph x=some ((c.join x y).shp x):=CF U;obtain⟨N,a,K,f,R⟩:=JN (x:=x) (c:=c.join x y) (t:=(c.join x y).shp x) E L (by rw[ad];exact(hi.sh _ _ m).2.1);refine⟨N,(!a.found,a.c),fun n A=>by simp only[tb,if_pos J,if_neg U,K n A,pN],?_⟩;cases s:a.found with
   |false=>refine Xw f (FX E.idem (x:=x) S fun u ⟨_,t,w,j,p,G⟩ aJ=>?_) Xk;rw[m]at j;cases j;subst G;have:=R.2 ⟨w,p,aJ⟩;rw[s]at this;cases this
   |true=>refine⟨f.keys.trans ad,f.rest,(fun e=>by cases e),fun _ d r he=>?_⟩;obtain⟨w,j,p⟩:=R.1 s;have v:=((F d).2 ⟨r,he⟩).1;have P:=Ki hi.sh v p;have Q:=(Cv d j).2 (hi.sh _ _ m).1;rw[<-v.2 x _ ((rJ g B i).2 ⟨g,i⟩) m]at Q;rw[<-v.1 w]at P;omega
 ·have l:c.ph y=some ((c.join x y).shp y):=CF J;by_cases U:(c.join x y).shd x=false
  ·have V:c.ph x=none:=CE U;have nq:nb (c.join x y) (jZ ρ x y):=⟨E,L,FX E.idem (x:=x) S fun u ⟨_,t,w,q,_⟩=>by rw[O,V]at q;cases q⟩;obtain⟨N,o,K,f⟩:=Yz nq (x:=x) ((rJ g B i).2 ⟨g,i⟩) (by rw[ad];exact E3) V (t:=(c.join x y).shp y) (hi.sh _ _ l).1 (by rw[ad];exact(hi.sh _ _ l).2.1);refine⟨N,o,fun n A=>by simp only[tb,if_neg J,if_pos U,K n A],f.keys.trans ad,f.rest,fun s=>?_,fun s d r he=>?_⟩
   ·obtain⟨ρ',g1,g2,g3⟩:=f.yes s;refine⟨ρ',g1,fun d=>?_,.inr ?_⟩
    ·rw[g2 d,<-F d];refine and_congr_right fun _=>⟨fun h t H=>by rw[l]at H;cases H;exact h,fun h=>h _ l⟩
    ·rcases g3 with⟨rfl,g3⟩|g3
     ·have:jq o.2 (jZ ρ x y)=jq (c.join x y) (jZ ρ x y):=by unfold jq;rw[f.keys,g3]
      omega
     ·omega
   ·obtain⟨s1,s2⟩:=(F d).2 ⟨r,he⟩;exact f.no s d s1 (s2 _ l)
  ·have m:c.ph x=some ((c.join x y).shp x):=CF U;obtain⟨Y,a,K,f,R⟩:=JN (x:=x) (c:=c.join x y) (t:=(c.join x y).shp y) E L (by rw[ad];exact(hi.sh _ _ l).2.1);cases s:a.found with
   |true=>refine⟨Y,(false,a.c),fun n A=>by simp only[tb,if_neg J,if_neg U,K n A,l9,s,if_true],f.keys.trans ad,f.rest,(fun e=>by cases e),fun _ d r he=>?_⟩;obtain⟨w,j,p⟩:=R.1 s;obtain⟨v,qQ⟩:=(F d).2 ⟨r,he⟩;have P:=Ki hi.sh v p;have Q:=(Cv d j).2 (hi.sh _ _ l).1;rw[<-qQ _ l]at Q;rw[<-v.1 w]at P;omega
   |false=>
    have Xz:a.c.shp x=(c.join x y).shp x:=f.shp x;obtain⟨jW,b,f1,f2,f3⟩:=JN (x:=x) (c:=a.c) (t:=(c.join x y).shp x) f.ru (by rw[f.keys,f.ph];exact L) (by rw[f.keys,ad];exact(hi.sh _ _ m).2.1);have e5:=f.trans f2;cases bd:b.found with
    |true=>refine⟨max Y jW,(false,b.c),fun n A=>by simp only[tb,if_neg J,if_neg U,K n Ω,l9,s,Xz,f1 n Ω,bd,if_true,hU,if_false],e5.keys.trans ad,e5.rest,(fun e=>by cases e),fun _ d r he=>?_⟩;obtain⟨w,j,p⟩:=f3.1 bd;obtain⟨v,_⟩:=(F d).2 ⟨r,he⟩;rw[f.ph]at p;have P:=Ki hi.sh v p;have Q:=(Cv d j).2 (hi.sh _ _ m).1;rw[<-v.2 x _ ((rJ g B i).2 ⟨g,i⟩) m]at Q;rw[<-v.1 w]at P;omega
    |false=>
     have BG:nb b.c (jZ ρ x y):=by refine⟨e5.ru,by rw[e5.keys,e5.ph];exact L,?_⟩;rw[e5.ph];refine FX E.idem (x:=x) S fun u ⟨_,t,w,j,p,G⟩ aJ=>?_;rw[O,m]at j;cases j;subst G;have:=f3.2 ⟨w,p,by rw[f.ph];exact aJ⟩;rw[bd]at this;cases this
     obtain⟨AO,o,g1,g2⟩:=rec b.c (jZ ρ x y) BG (e5.keys.trans ad) (by rw[yS e5];exact Z) ((c.join x y).shp x) ((c.join x y).shp y) (hi.sh _ _ m).2.1 (hi.sh _ _ l).2.1;refine⟨max (max Y jW) AO,o,fun n A=>?_,g2.keys.trans (e5.keys.trans ad),?_,fun cI=>?_,fun cI d r he=>?_⟩
     ·simp only[tb,if_neg J,if_neg U,K n Ω,l9,s,Xz,f1 n Ω,bd,hU,if_false,e5.shp];exact g1 n Ω
     ·rw[g2.rest.1,g2.rest.2.1,g2.rest.2.2];exact e5.rest
     ·obtain⟨ρ',j,p,G⟩:=g2.yes cI;refine⟨ρ',j,fun d=>?_,.inr ?_⟩
      ·rw[p d,e5.ph,O,<-F d];refine and_congr_right fun h=>?_;have:=h.2 x _ ((rJ g B i).2 ⟨g,i⟩) m;rw[<-this];exact⟨fun h t H=>by rw[l]at H;cases H;exact h,fun h=>h _ l⟩
      ·have:jq b.c (jZ ρ x y)<jq c ρ:=by rw[yS e5];exact Z
       rcases G with⟨rfl,G⟩|G
       ·have:jq o.2 (jZ ρ x y)=jq b.c (jZ ρ x y):=by unfold jq;rw[g2.keys,G]
        omega
       ·omega
     ·obtain⟨s1,s2⟩:=(F d).2 ⟨r,he⟩;refine g2.no cI d (by rw[e5.ph];exact s1) ?_;have:=s1.2 x _ ((rJ g B i).2 ⟨g,i⟩) m;rw[<-this];exact s2 _ l
def vX:T->T->Nat
 | .var _,_=>1
 |_,.var _=>2
 |_,_=>0
def afV(K:Nat):∀(m:Nat) (c:bL) (ρ:Int->Int) (a b:T) (k:Int->T),nb c ρ->kP c.ph ρ k->(∀w,a.occ w=true->w∈cF c.up)->(∀w,b.occ w=true->w∈cF c.up)->jq c ρ=K->((a.ap k).size+(b.ap k).size)*3+vX a b=m->
  ∃N o,(∀n,N<=n->hv n a b c=some o)/\jV c ρ (fun d=>a.ap d=b.ap d) o:=by
 induction K using Nat.strongRecOn with
 |ind K alX=>
 have XH:∀(f:bL) (g:Int->Int),nb f g->jq f g<K->∀a b:T,(∀w,a.occ w=true->w∈cF f.up)->(∀w,b.occ w=true->w∈cF f.up)->∃N o,(∀n,N<=n->hv n a b f=some o)/\jV f g (fun d=>a.ap d=b.ap d) o:=by
  intro f g J U a b v r;obtain⟨d,il⟩:=J.sat
  exact alX _ U _ f g a b d J il v r rfl rfl
 intro m;induction m using Nat.strongRecOn with
 |ind m B0=>
 intro c ρ a b k hi R v r P hm;have ak1:∀{a b:T},(∀n,hv (n+1) a b c=some (decide (a=b),c))->(∀d,a.ap d=a)->(∀d,b.ap d=b)->∃N o,(∀n,N<=n->hv n a b c=some o)/\jV c ρ (fun d=>a.ap d=b.ap d) o:=by
  intro a b J U F;refine⟨1,(decide (a=b),c),fun n A=>?_,rfl,⟨rfl,rfl,rfl⟩,fun h=>?_,fun h d _ he=>?_⟩
  ·obtain⟨n',rfl⟩:∃n',n=n'+1:=⟨n-1,Ω⟩;exact J n'
  ·simp only[gn]at h;subst h;exact⟨ρ,hi,fun d=>⟨fun h=>⟨h,rfl⟩,fun h=>h.1⟩,.inl ⟨rfl,rfl⟩⟩
  ·simp only[iN]at h;rw[U,F]at he;exact h he
 have WI:∀{a b:T},(∀n,hv (n+1) a b c=some (decide (a=b),c))->(∀d,a.ap d≠b.ap d)->a≠b->∃N o,(∀n,N<=n->hv n a b c=some o)/\jV c ρ (fun d=>a.ap d=b.ap d) o:=by intro a b J U F;refine⟨1,(false,c),fun n A=>?_,rfl,⟨rfl,rfl,rfl⟩,(fun h=>by cases h),fun _ d _ he=>U d he⟩;obtain⟨n',rfl⟩:∃n',n=n'+1:=⟨n-1,Ω⟩;rw[J n',mz F]
 have x0:∀(i:Int) (b:T),b.kind≠1->(∀n,hv (n+1) (.var i) b c=(rt c i).bind fun p=>if p.2.shd p.1=false then wI n p.1 b p.2 else hv n (p.2.shp p.1) b p.2)->i∈cF c.up->(∀w,b.occ w=true->w∈cF c.up)->((k i).size+(b.ap k).size)*3<m->∃N o,(∀n,N<=n->hv n (.var i) b c=some o)/\jV c ρ (fun d=>d i=b.ap d) o:=by
  intro i b xB WL ki r bO;obtain⟨f,y,s⟩:=vo hi.ru ki;have O:=hi.sm s;by_cases l:f.shd (ρ i)=false
  ·obtain⟨N,o,B,t⟩:=Yz O (x:=ρ i) (hi.ru.idem i) (by rw[s.keys];exact(hi.ru.mem ki).1) (CE l) xB (by rw[s.keys];exact r);refine⟨N+1,o,fun n A=>?_,jV.sm s (jV.congr (fun d h=>?_) t)⟩
   ·obtain⟨n',rfl⟩:∃n',n=n'+1:=⟨n-1,Ω⟩;rw[WL,y];simp only[l9,if_pos l];exact B n' Ω
   ·rw[<-h.1 i]
  ·have S:f.ph (ρ i)=some (f.shp (ρ i)):=CF l;have ml:∀d,kP f.ph ρ d->d i=(f.shp (ρ i)).ap d:=fun d h=>by rw[h.1 i];exact h.2 _ _ (hi.ru.idem i) S
   have Et:=(O.sh _ _ S).1;have akB:vX (f.shp (ρ i)) b=0:=by cases e:f.shp (ρ i)<;>cases b<;>simp_all[vX,T.kind]
   have XE:kP f.ph ρ k:=by rw[s.ph];exact R
   obtain⟨N,o,B,t⟩:=B0 (((f.shp (ρ i)).ap k).size*3+(b.ap k).size*3) (by rw[<-ml k XE];omega) f ρ (f.shp (ρ i)) b k O XE (O.sh _ _ S).2.1 (by rw[s.keys];exact r) (by rw[yS s];exact P) (by rw[akB];omega);refine⟨N+1,o,fun n A=>?_,jV.sm s (jV.congr (fun d h=>?_) t)⟩
   ·obtain⟨n',rfl⟩:∃n',n=n'+1:=⟨n-1,Ω⟩;rw[WL,y];simp only[l9,if_neg l];exact B n' Ω
   ·rw[ml d h]
 have EL:∀(i j:Int),i∈cF c.up->j∈cF c.up->∃N o,(∀n,N<=n->hv n (.var i) (.var j) c=some o)/\jV c ρ (fun d=>d i=d j) o:=by
  intro i j ki Q;obtain⟨f,y,s⟩:=vo hi.ru ki;obtain⟨H,B,bD⟩:=vo s.ru (by rw[s.keys];exact Q:j∈cF f.up);have z:=s.trans bD;have W:=hi.sm z;have fM:ρ i∈cF H.up:=by rw[z.keys];exact(hi.ru.mem ki).1
  have W1:ρ j∈cF H.up:=by rw[z.keys];exact(hi.ru.mem Q).1
  have xU:∀(f:bL) (g:Int->Int),nb f g->cF f.up=cF H.up->jq f g<jq H ρ->∀a b:T,(∀w,a.occ w=true->w∈cF H.up)->(∀w,b.occ w=true->w∈cF H.up)->∃N o,(∀n,N<=n->hv n a b f=some o)/\jV f g (fun d=>a.ap d=b.ap d) o:=fun di ρ3 J U F a b v r=>XH di ρ3 J (by rw[yS z,P]at F;exact F) a b (by rw[U];exact v) (by rw[U];exact r);rcases Int.lt_trichotomy (ρ i) (ρ j)with h|h|h
  ·obtain⟨N,o,bg,X⟩:=U5 W (hi.ru.idem i) (hi.ru.idem j) h fM W1 xU;refine⟨N+1,o,fun n A=>?_,jV.sm z (jV.congr (fun d h=>?_) X)⟩
   ·obtain⟨n',rfl⟩:∃n',n=n'+1:=⟨n-1,Ω⟩;simp only[hv,y,B,l9];rw[if_neg Ω,if_neg Ω];exact bg n' Ω
   ·rw[h.1 i,h.1 j]
  ·refine⟨1,(true,H),fun n A=>?_,z.keys,z.rest,fun _=>⟨ρ,W,fun d=>?_,.inl ⟨rfl,z.ph⟩⟩,fun e=>by cases e⟩
   ·obtain⟨n',rfl⟩:∃n',n=n'+1:=⟨n-1,Ω⟩;simp only[hv,y,B,l9,if_pos h]
   ·simp only[z.ph];exact⟨fun l=>⟨l,by rw[l.1 i,l.1 j,h]⟩,fun l=>l.1⟩
  ·obtain⟨N,o,bg,X⟩:=U5 W (hi.ru.idem j) (hi.ru.idem i) h W1 fM xU;refine⟨N+1,o,fun n A=>?_,jV.sm z (jV.congr (fun d h=>?_) X)⟩
   ·obtain⟨n',rfl⟩:∃n',n=n'+1:=⟨n-1,Ω⟩;simp only[hv,y,B,l9];rw[if_neg Ω,if_pos h];exact bg n' Ω
   ·rw[h.1 i,h.1 j];exact⟨Eq.symm,Eq.symm⟩
 have BU:∀(a:T) (j:Int),a.kind≠1->(∀n,hv (n+1) a (.var j) c=hv n (.var j) a c)->(∀n,hv (n+1) (.var j) a c=(rt c j).bind fun p=>if p.2.shd p.1=false then wI n p.1 a p.2 else hv n (p.2.shp p.1) a p.2)->j∈cF c.up->(∀w,a.occ w=true->w∈cF c.up)->((k j).size+(a.ap k).size)*3<m->∃N o,(∀n,N<=n->hv n a (.var j) c=some o)/\jV c ρ (fun d=>a.ap d=d j) o:=by intro a j J U F Q v bO;obtain⟨N,o,y,E⟩:=x0 j a J F Q v bO;refine⟨N+1,o,fun n A=>?_,jV.congr (fun d _=>⟨Eq.symm,Eq.symm⟩) E⟩;obtain⟨n',rfl⟩:∃n',n=n'+1:=⟨n-1,Ω⟩;rw[U];exact y n' Ω
 cases a with
 |var i=>
  have ki:i∈cF c.up:=v i (by simp[T.occ]);cases b with
  |var j=>exact EL i j ki (r j (by simp[T.occ]))
  |_=>exact x0 i _ (by simp[T.kind]) (fun n=>rfl) ki r (by simp only[T.ap,vX]at hm⊢;omega)
 |pair Z a2=>
  cases b with
  |var j=>exact BU _ j (by simp[T.kind]) (fun n=>rfl) (fun n=>rfl) (r j (by simp[T.occ])) v (by simp only[T.ap,vX]at hm⊢;omega)
  |pair Y L=>
   have uT:∀p q:T,vX p q<=2:=fun p q=>by cases p<;>cases q<;>simp[vX]
   have mi:∀w,Z.occ w=true->w∈cF c.up:=fun w hw=>v w (by simp[T.occ,hw]);have rz:∀w,a2.occ w=true->w∈cF c.up:=fun w hw=>v w (by simp[T.occ,hw]);have mI:∀w,Y.occ w=true->w∈cF c.up:=fun w hw=>r w (by simp[T.occ,hw]);have qM:∀w,L.occ w=true->w∈cF c.up:=fun w hw=>r w (by simp[T.occ,hw]);simp only[T.ap,T.size,vX]at hm;have f1:=uT Z Y;have f2:=uT a2 L;obtain⟨iI,gT,y,E⟩:=B0 _ (by rw[<-hm];omega) c ρ Z Y k hi R mi mI P rfl;obtain⟨anG,f⟩:=gT;cases anG with
   |false=>refine⟨iI+1,(false,f),fun n A=>?_,E.keys,E.rest,(fun e=>by cases e),fun _ d l he=>E.no rfl d l (by simp only[T.ap,T.pair.injEq]at he;exact he.1)⟩;obtain⟨n',rfl⟩:∃n',n=n'+1:=⟨n-1,Ω⟩;simp only[hv,y n' Ω,l9,hU,if_false]
   |true=>
    obtain⟨g,a8,bB,u⟩:=E.yes rfl;simp only at a8 bB u;have G:cF f.up=cF c.up:=E.keys;have ED:∃V M,(∀n,V<=n->hv n a2 L f=some M)/\jV f g (fun d=>a2.ap d=L.ap d) M:=by
     rcases u with⟨rfl,u⟩|u
     ·exact B0 _ (by rw[<-hm];omega) f g a2 L k a8 (by rw[u];exact R) (by rw[G];exact rz) (by rw[G];exact qM) (by unfold jq;rw[G,u];exact P) rfl
     ·exact XH f g a8 Ω a2 L (by rw[G];exact rz) (by rw[G];exact qM)
    obtain⟨V,M,B,t⟩:=ED;refine⟨max iI V+1,M,fun n A=>?_,t.keys.trans G,?_,fun aG=>?_,fun aG d l he=>?_⟩
    ·obtain⟨n',rfl⟩:∃n',n=n'+1:=⟨n-1,Ω⟩;simp only[hv,y n' Ω,l9,if_true];exact B n' Ω
    ·rw[t.rest.1,t.rest.2.1,t.rest.2.2];exact E.rest
    ·obtain⟨ρ2,s1,s2,s3⟩:=t.yes aG;refine⟨ρ2,s1,fun d=>?_,?_⟩
     ·rw[s2 d,bB d];simp only[T.ap,T.pair.injEq,and_assoc]
     ·rcases u with⟨rfl,u⟩|u
      ·rcases s3 with⟨rfl,s3⟩|s3
       ·exact .inl ⟨rfl,s3.trans u⟩
       ·have:jq f g=jq c g:=by unfold jq;rw[G,u]
        exact .inr Ω
      ·rcases s3 with⟨rfl,s3⟩|s3
       ·have:jq M.2 ρ2=jq f ρ2:=by unfold jq;rw[t.keys,s3]
        exact .inr Ω
       ·exact .inr Ω
    ·simp only[T.ap,T.pair.injEq]at he;exact t.no aG d ((bB d).2 ⟨l,he.1⟩) he.2
  |_=>exact WI (fun n=>rfl) (fun d=>by simp[T.ap]) Ψ
 |_=>
  cases b with
  |var j=>exact BU _ j (by simp[T.kind]) (fun n=>rfl) (fun n=>rfl) (r j (by simp[T.occ])) v (by simp only[T.ap,vX]at hm⊢;omega)
  |_=>first|exact ak1 (fun n=>rfl) (fun d=>rfl) (fun d=>rfl)|exact WI (fun n=>rfl) (fun d=>by simp[T.ap]) Ψ
end
section
open Go
def AH(rec:Int->bL->Option (Bool×bL))(v:Int)(a:bL×Bool):Option (bL×Bool):=if a.2=true then(rt a.1 v).bind fun p=>(rec p.1 p.2).map fun q=>(q.2,q.1)else some a
def Ax(v:Int)(c:bL):Option (Int×bL):=(rt c v).map fun p=>(p.2.sz p.1,p.2)
def bL.grey(c:bL)(x:Int):bL:={c with color:=fD x 1 c.color,size:=fD x 1 c.size}
def bL.black(c:bL)(x:Int):bL:={c with color:=fD x 2 c.color}
def r2:Nat->Int->bL->Option (Bool×bL)
 |0,_,_=>none
 |n+1,x,c=>if c.col x=2 then some (true,c)else if c.col x=1 then some (false,c)else
   if(c.grey x).shd x=false then some (true,(c.grey x).black x)else
   (((c.grey x).shp x).foldO (AH (r2 n)) (c.grey x,true)).bind fun a=>if a.2=false then some (false,a.1)else
   (((a.1.shp x).sizeO Ax a.1).map fun p=>(true,{p.2 with size:=fD x p.1 p.2.size}.black x))
def Dg(rec:Int->bL->Option (T×bL))(v:Int)(c:bL):Option (T×bL):=(rt c v).bind fun p=>rec p.1 p.2
def r1:Nat->Int->bL->Option (T×bL)
 |0,_,_=>none
 |n+1,x,c=>match dp x c.full with
  |some t=>some (t,c)
  |none=>if c.shd x=false then some (.var x,{c with full:=fD x (.var x) c.full})else
   ((c.shp x).mapO (Dg (r1 n)) c).map fun p=>(p.1,{p.2 with full:=fD x p.1 p.2.full})
def uf(n:Nat):List Int->bL->List Int->Option (Option (List Int)×bL)
 |[],c,out=>some (some out,c)
 |v::bk,c,out=>(rt c v).bind fun p=>(r2 n p.1 p.2).bind fun q=>if q.1=false then some (none,q.2)else
   if p.1=v/\q.2.shd p.1=false then uf n bk q.2 out else
   if 5000<q.2.sz p.1\/400<out.length+1 then some (none,q.2)else uf n bk q.2 (out++[v])
def Ay(n:Nat):List Int->bL->Option (List Bd×bL)
 |[],c=>some ([],c)
 |v::bk,c=>(rt c v).bind fun p=>(r1 n p.1 p.2).bind fun q=>(Ay n bk q.2).map fun r=>(⟨v,q.1⟩::r.1,r.2)
def F3(n:Nat)(bk:List Int)(c:bL):Option (Option (List Bd)):=(uf n bk c []).bind fun a=>match a.1 with
 |none=>some none
 |some out=>(Ay n out a.2).map fun r=>some r.1
def rr(n:Nat):List (T×T)->bL->Option (Bool×bL)
 |[],c=>some (true,c)
 |e::es,c=>(Ch e.1 c).bind fun b=>(Ch e.2 b).bind fun a=>(hv n e.1 e.2 a).bind fun p=>if p.1=true then rr n es p.2 else some (false,p.2)
def nb.rank{c:bL}{ρ:Int->Int}(h:nb c ρ):∃r:Int->Nat,∀z u,jU c.ph ρ z u->r u<r z:=by
 obtain⟨b,a⟩:=h.sat
 exact⟨fun z=>(b z).size,fun z u he=>Kh h.sh a he⟩
structure vG (V:List Int) (ph:Int->Option T) (ρ:Int->Int) (c:bL):Prop where
 ru:kl c.up ρ
 keys:cF c.up=V
 ph:c.ph=ph
def vG.sm{V:List Int}{ph:Int->Option T}{ρ:Int->Int}{c a:bL}(h:vG V ph ρ c)(k:hd ρ c a):vG V ph ρ a:=⟨k.ru,k.keys.trans h.keys,k.ph.trans h.ph⟩
def cut(n:Nat):Int:=if 5001<(n:Int)then 5001 else n
section
variable {V:List Int} {ph:Int->Option T} {ρ:Int->Int} {r:Int->Nat}
def arz(f:Int->T):∀(t:T) (c:bL),vG V ph ρ c->(∀w,t.occ w=true->w∈V/\c.sz (ρ w)=cut (f w).size)->∃i,t.sizeO Ax c=some (cut (t.ap f).size,i)/\hd ρ c i:=by
 intro t;induction t with
 |var v=>
  intro c h d;obtain⟨o,m⟩:=d v (by simp[T.occ]);obtain⟨e,J,U⟩:=vo h.ru (by rw[h.keys];exact o:v∈cF c.up);refine⟨e,?_,U⟩;have:e.sz (ρ v)=cut (f v).size:=by rw[<-m,U.eq];rfl
  simp only[T.sizeO,Ax,J,pN,this,T.ap,dV,jo,jb];unfold cut;split<;>omega
 |pair a b k j=>
  intro c h d;obtain⟨e,J,g⟩:=k c h fun w hw=>d w (by simp[T.occ,hw]);obtain⟨l,U,n⟩:=j e (h.sm g) fun w hw=>⟨(d w (by simp[T.occ,hw])).1,by rw[<-(d w (by simp[T.occ,hw])).2,g.eq];rfl⟩;have p:=T.size_pos (b.ap f);simp only[T.sizeO,J,l9,T.ap,T.size];by_cases ay:5000<cut (a.ap f).size
  ·rw[if_pos ay];refine⟨e,?_,g⟩;simp only[dV,jo,jb];unfold cut at ay⊢;split at ay<;>split<;>(try split)<;>omega
  ·rw[if_neg ay,U];refine⟨l,?_,g.trans n⟩;simp only[pN,dV,jo,jb];unfold cut at ay⊢;split at ay<;>(repeat' split)<;>omega
 |_=>intro c h d;exact⟨c,by simp[T.sizeO,T.ap,T.size,cut],hd.refl h.ru⟩
structure sd (V:List Int) (ph:Int->Option T) (ρ:Int->Int) (r:Int->Nat) (d:Nat) (c:bL):Prop where
 fin:vG V ph ρ c
 col:∀z,r z<d->c.col z=0\/(c.col z=2/\c.sz z=cut (hY ph ρ r z).size)
structure oB (ph:Int->Option T) (ρ:Int->Int) (r:Int->Nat) (d:Nat) (c cB:bL):Prop where
 full:cB.full=c.full
 hi:∀z,d<=r z->cB.col z=c.col z/\cB.sz z=c.sz z
 lo:∀z,c.col z=2->cB.col z=2/\cB.sz z=c.sz z
def oB.refl{c:bL}{d:Nat}:oB ph ρ r d c c:=⟨rfl,fun _ _=>⟨rfl,rfl⟩,fun _ h=>⟨h,rfl⟩⟩
def oB.trans{a b c:bL}{d:Nat}(h:oB ph ρ r d a b)(k:oB ph ρ r d b c):oB ph ρ r d a c:=⟨k.full.trans h.full,fun z e=>⟨(k.hi z e).1.trans (h.hi z e).1,(k.hi z e).2.trans (h.hi z e).2⟩,fun z e=>⟨(k.lo z (h.lo z e).1).1,(k.lo z (h.lo z e).1).2.trans (h.lo z e).2⟩⟩
def oB.mono{a b:bL}{d c:Nat}(f:d<=c)(h:oB ph ρ r d a b):oB ph ρ r c a b:=⟨h.full,fun z e=>h.hi z Ω,h.lo⟩
def oB.sm{c a:bL}{d:Nat}(k:hd ρ c a):oB ph ρ r d c a:=by
 have b:∀z,a.col z=c.col z:=fun z=>by rw[k.eq];rfl
 have e:∀z,a.sz z=c.sz z:=fun z=>by rw[k.eq];rfl
 exact⟨k.rest.2.2,fun z _=>⟨b z,e z⟩,fun z h=>⟨by rw[b];exact h,e z⟩⟩
def sd.sm{c a:bL}{d:Nat}(h:sd V ph ρ r d c)(k:hd ρ c a):sd V ph ρ r d a:=by
 have e:∀z,a.col z=c.col z:=fun z=>by rw[k.eq];rfl
 have f:∀z,a.sz z=c.sz z:=fun z=>by rw[k.eq];rfl
 exact⟨h.fin.sm k,fun z b=>by rw[e,f];exact h.col z b⟩
def atN(gM:pT V ph)(R:∀v,ρ (ρ v)=ρ v)(aJ:∀z u,jU ph ρ z u->r u<r z)(d:Nat):∀(x:Int) (c:bL),r x<d->ρ x=x->x∈V->sd V ph ρ r d c->
  ∃N A,(∀n,N<=n->r2 n x c=some (true,A))/\sd V ph ρ r d A/\oB ph ρ r (r x+1) c A/\A.col x=2/\A.sz x=cut (hY ph ρ r x).size:=by
 induction d using Nat.strongRecOn with
 |ind d b1=>
 intro x c aK P kS hw;rcases hw.col x aK with bA|⟨U,ar⟩;rotate_left
 ·refine⟨1,c,fun n F=>?_,hw,oB.refl,U,ar⟩;obtain⟨n',rfl⟩:∃n',n=n'+1:=⟨n-1,Ω⟩;simp only[r2,if_pos U]
 have k:∀z,(c.grey x).col z=if z=x then 1 else c.col z:=fun z=>by simp only[bL.grey,bL.col,oY];split<;>rfl
 have H:∀z,(c.grey x).sz z=if z=x then 1 else c.sz z:=fun z=>by simp only[bL.grey,bL.sz,oY];split<;>rfl
 have m:vG V ph ρ (c.grey x):=⟨hw.fin.ru,hw.fin.keys,hw.fin.ph⟩;have X:sd V ph ρ r (r x) (c.grey x):=⟨m,fun z g=>by
  have cw:z≠x:=fun e=>by subst e;omega
  rw[k,H,if_neg cw,if_neg cw];exact hw.col z Ω⟩
 have Ew:¬c.col x=2:=Ω
 have tB:¬c.col x=1:=Ω
 have p:∀(e:bL) (z:Int),(e.black x).col z=(if z=x then 2 else e.col z):=fun e z=>by simp only[bL.black,bL.col,oY];split<;>rfl
 by_cases O:(c.grey x).shd x=false
 ·have l:ph x=none:=by rw[<-m.ph];exact CE O
  have bd:hY ph ρ r x= .var x:=by rw[D6 (by rw[P];exact l),P]
  have K:∀z,((c.grey x).black x).sz z=if z=x then 1 else c.sz z:=H
  refine⟨1,(c.grey x).black x,fun n F=>?_,⟨⟨m.ru,m.keys,m.ph⟩,fun z g=>?_⟩,⟨rfl,fun z g=>?_,fun z g=>?_⟩,?_,?_⟩
  ·obtain⟨n',rfl⟩:∃n',n=n'+1:=⟨n-1,Ω⟩;simp only[r2,if_neg Ew,if_neg tB,if_pos O]
  ·rw[p,K,k];by_cases e:z=x
   ·subst e;simp only[if_true,bd];exact .inr ⟨trivial,by simp[T.size,cut]⟩
   ·simp only[if_neg e];exact hw.col z g
  ·have e:z≠x:=fun e=>by subst e;omega
   rw[p,K,k];simp only[if_neg e];exact⟨trivial,trivial⟩
  ·have e:z≠x:=fun e=>by subst e;omega
   rw[p,K,k];simp only[if_neg e];exact⟨g,trivial⟩
  ·rw[p,if_pos rfl]
  ·rw[K,if_pos rfl,bd];simp[T.size,cut]
 ·have l:ph x=some ((c.grey x).shp x):=by rw[<-m.ph];exact CF O
  obtain⟨g1,g2,g3⟩:=gM _ _ l;have Z:∀(t:T) (e:bL),(∀w,t.occ w=true->((c.grey x).shp x).occ w=true)->sd V ph ρ r (r x) e->∃N s,(∀n,N<=n->t.foldO (AH (r2 n)) (e,true)=some (s,true))/\sd V ph ρ r (r x) s/\oB ph ρ r (r x) e s/\∀w,t.occ w=true->s.col (ρ w)=2/\s.sz (ρ w)=cut (hY ph ρ r w).size:=by
   intro t;induction t with
   |var v=>intro e o he;have aN:=g2 v (o v (by simp[T.occ]));have xV:r (ρ v)<r x:=aJ x (ρ v) ⟨P,_,v,l,o v (by simp[T.occ]),rfl⟩;obtain⟨W,G,a7⟩:=vo he.fin.ru (by rw[he.fin.keys];exact aN:v∈cF e.up);obtain⟨N,i,E,j,y,cp,s2⟩:=b1 (r x) aK (ρ v) W xV (R v) (by rw[<-he.fin.keys];exact(he.fin.ru.mem (by rw[he.fin.keys];exact aN)).1) (he.sm a7);refine⟨N,i,fun n F=>by simp[T.foldO,AH,G,E n F],j,(oB.sm a7).trans (y.mono Ω),fun w hw=>?_⟩;simp[T.occ]at hw;subst hw;exact⟨cp,by rw[s2,<-Bs R]⟩
   |pair a b eu ev=>
    intro e o he;obtain⟨iI,W,G,q,S,s1⟩:=eu e (fun w hw=>o w (by simp[T.occ,hw])) he;obtain⟨jW,i,E,j,y,s2⟩:=ev W (fun w hw=>o w (by simp[T.occ,hw])) q;refine⟨max iI jW,i,fun n F=>by simp only[T.foldO];rw[G n Ω];exact E n Ω,j,S.trans y,fun w hw=>?_⟩;simp only[T.occ,oo]at hw;rcases hw with hw|hw
    ·obtain⟨l7,z2⟩:=s1 w hw;exact⟨(y.lo _ l7).1,by rw[(y.lo _ l7).2];exact z2⟩
    ·exact s2 w hw
   |_=>intro e _ he;exact⟨0,e,fun n _=>rfl,he,oB.refl,fun w hw=>by simp[T.occ]at hw⟩
  obtain⟨N,e,G,q,S,s1⟩:=Z ((c.grey x).shp x) (c.grey x) (fun w h=>h) X;have Y:e.shp x=(c.grey x).shp x:=by
   have J:e.ph x=some ((c.grey x).shp x):=by rw[q.fin.ph];exact l
   unfold bL.ph at J;split at J
   ·exact eZ J
   ·cases J
  obtain⟨i,E,bD⟩:=arz (V:=V) (ph:=ph) (ρ:=ρ) (hY ph ρ r) ((c.grey x).shp x) e q.fin (fun w hw=>⟨g2 w hw,(s1 w hw).2⟩);have nA:hY ph ρ r x=((c.grey x).shp x).ap (hY ph ρ r):=Bu R aJ (by rw[P];exact l);have Q:=S.trans (oB.sm (ph:=ph) (r:=r) (d:=r x) bD);have j:=q.sm bD;let M:bL:={i with size:=fD x (cut (hY ph ρ r x).size) i.size}.black x
  have L:∀z,M.col z=if z=x then 2 else i.col z:=fun z=>p _ z
  have s3:∀z,M.sz z=if z=x then cut (hY ph ρ r x).size else i.sz z:=fun z=>by show(dp z (fD x _ i.size)).getD 0=_;rw[oY];split<;>rfl
  refine⟨N+1,M,fun n F=>?_,⟨⟨j.fin.ru,j.fin.keys,j.fin.ph⟩,fun z g=>?_⟩,⟨Q.full,fun z g=>?_,fun z g=>?_⟩,by rw[L,if_pos rfl],by rw[s3,if_pos rfl]⟩
  ·obtain⟨n',rfl⟩:∃n',n=n'+1:=⟨n-1,Ω⟩;simp only[r2,if_neg Ew,if_neg tB,if_neg O,G n' Ω,l9,Bool.true_eq_false,if_false,Y,E,pN,nA,M]
  ·rw[L,s3];by_cases f:z=x
   ·subst f;simp only[if_true];exact .inr ⟨trivial,trivial⟩
   ·simp only[if_neg f];by_cases bO:r z<r x
    ·exact j.col z bO
    ·obtain⟨B,a2⟩:=Q.hi z Ω;rw[B,a2,k,H,if_neg f,if_neg f];exact hw.col z g
  ·have f:z≠x:=fun e=>by subst e;omega
   obtain⟨B,a2⟩:=Q.hi z Ω;rw[L,s3,if_neg f,if_neg f,B,a2,k,H,if_neg f,if_neg f];exact⟨rfl,rfl⟩
  ·have f:z≠x:=fun e=>by subst e;omega
   obtain⟨B,a2⟩:=Q.lo z (by rw[k,if_neg f];exact g);rw[L,s3,if_neg f,if_neg f,B,a2,H,if_neg f];exact⟨rfl,rfl⟩
structure s5 (V:List Int) (ph:Int->Option T) (ρ:Int->Int) (r:Int->Nat) (c:bL):Prop where
 fin:vG V ph ρ c
 full:∀x t,dp x c.full=some t->t=hY ph ρ r x
def s5.sm{c a:bL}(h:s5 V ph ρ r c)(k:hd ρ c a):s5 V ph ρ r a:=⟨h.fin.sm k,by rw[k.rest.2.2];exact h.full⟩
def atL(Q:pT V ph)(s:∀v,ρ (ρ v)=ρ v)(K:∀z u,jU ph ρ z u->r u<r z)(d:Nat):∀(x:Int) (c:bL),r x<d->ρ x=x->x∈V->s5 V ph ρ r c->
  ∃N J,(∀n,N<=n->r1 n x c=some (hY ph ρ r x,J))/\s5 V ph ρ r J:=by
 induction d with
 |zero=>intro x c h;omega
 |succ d W=>
 intro x c aK o Z f;cases p:dp x c.full with
 |some t=>refine⟨1,c,fun n j=>?_,f⟩;obtain⟨n',rfl⟩:∃n',n=n'+1:=⟨n-1,Ω⟩;simp only[r1,p,f.full x t p]
 |none=>
  have L:∀(e:bL),s5 V ph ρ r e->s5 V ph ρ r {e with full:=fD x (hY ph ρ r x) e.full}:=fun e he=>⟨⟨he.fin.ru,he.fin.keys,he.fin.ph⟩,fun z t U=>by
   have l:dp z (fD x (hY ph ρ r x) e.full)=some t:=U;rw[oY]at l;split at l
   ·rename_i e;subst e;cases l;rfl
   ·exact he.full z t l⟩
  by_cases m:c.shd x=false
  ·have i:ph x=none:=by rw[<-f.fin.ph];exact CE m
   have bd:hY ph ρ r x= .var x:=by rw[D6 (by rw[o];exact i),o]
   refine⟨1,_,fun n j=>?_,L c f⟩;obtain⟨n',rfl⟩:∃n',n=n'+1:=⟨n-1,Ω⟩;simp only[r1,p,if_pos m,bd]
  ·have i:ph x=some (c.shp x):=by rw[<-f.fin.ph];exact CF m
   obtain⟨g1,g2,g3⟩:=Q _ _ i;have E:∀(t:T) (e:bL),(∀w,t.occ w=true->(c.shp x).occ w=true)->s5 V ph ρ r e->∃N H,(∀n,N<=n->t.mapO (Dg (r1 n)) e=some (t.ap (hY ph ρ r),H))/\s5 V ph ρ r H:=by
    intro t;induction t with
    |var v=>intro e g he;have G:=g2 v (g v (by simp[T.occ]));have Y:r (ρ v)<r x:=K x (ρ v) ⟨o,_,v,i,g v (by simp[T.occ]),rfl⟩;obtain⟨B,k,X⟩:=vo he.fin.ru (by rw[he.fin.keys];exact G:v∈cF e.up);obtain⟨N,F,A,y⟩:=W (ρ v) B Ω (s v) (by rw[<-he.fin.keys];exact(he.fin.ru.mem (by rw[he.fin.keys];exact G)).1) (he.sm X);exact⟨N,F,fun n j=>by simp only[T.mapO,Dg,k,l9,A n j,T.ap];rw[<-Bs s],y⟩
    |pair a b S R=>intro e g he;obtain⟨P,B,k,q⟩:=S e (fun w hw=>g w (by simp[T.occ,hw])) he;obtain⟨O,F,A,y⟩:=R B (fun w hw=>g w (by simp[T.occ,hw])) q;exact⟨max P O,F,fun n j=>by simp only[T.mapO,k n Ω,l9,A n Ω,pN,T.ap],y⟩
    |_=>intro e _ he;exact⟨0,e,fun n _=>rfl,he⟩
   obtain⟨N,e,k,q⟩:=E (c.shp x) c (fun w h=>h) f;have M:hY ph ρ r x=(c.shp x).ap (hY ph ρ r):=Bu s K (by rw[o];exact i);refine⟨N+1,_,fun n j=>?_,L e q⟩;obtain⟨n',rfl⟩:∃n',n=n'+1:=⟨n-1,Ω⟩;simp only[r1,p,if_neg m,k n' Ω,pN,M]
def pb(ph:Int->Option T)(ρ:Int->Int)(v:Int):Bool:= !(decide (ρ v=v)&&(ph v).isNone)
def arC(Y:pT V ph)(s:∀v,ρ (ρ v)=ρ v)(aJ:∀z u,jU ph ρ z u->r u<r z)(X:∀v∈V,ρ v∈V):∀(bk:List Int) (c:bL) (out:List Int),(∀v∈bk,v∈V)->(∀d,sd V ph ρ r d c)->out.length<=400->(∀v∈out,(hY ph ρ r v).size<=5000)->
  ∃N x o,(∀n,N<=n->uf n bk c out=some (o,x))/\vG V ph ρ x/\x.full=c.full/\(∀l,o=some l->l=out++bk.filter (pb ph ρ)/\l.length<=400/\∀v∈l,(hY ph ρ r v).size<=5000)/\(o=none->¬((out++bk.filter (pb ph ρ)).length<=400/\∀v∈out++bk.filter (pb ph ρ),(hY ph ρ r v).size<=5000)):=by
 intro bk;induction bk with
 |nil=>intro c out _ hw J U;exact⟨0,c,some out,fun n _=>rfl,(hw 0).fin,rfl,fun l e=>by cases e;simp;exact⟨J,U⟩,fun e=>by cases e⟩
 |cons v bk P=>
  intro c out F hw J U;have K:=F v Ψ;obtain⟨O,a8,Q⟩:=vo (hw 0).fin.ru (by rw[(hw 0).fin.keys];exact K:v∈cF c.up);have W:∀d,sd V ph ρ r d O:=fun d=>(hw d).sm Q;obtain⟨i,a,bB,j,M,aC,s2⟩:=atN Y s aJ (r (ρ v)+1) (ρ v) O Ω (s v) (X v K) (W _);have L:∀d,sd V ph ρ r d a:=fun d=>⟨j.fin,fun z y=>by
   by_cases Z:r z<r (ρ v)+1
   ·exact j.col z Z
   ·obtain⟨A,a2⟩:=M.hi z Ω;rw[A,a2];exact(W d).col z y⟩
  have G:a.full=c.full:=M.full.trans Q.rest.2.2;have R:(a.shd (ρ v)=false)=((ph (ρ v)).isNone=true):=by rw[<-j.fin.ph];unfold bL.ph;cases a.shd (ρ v)<;>simp
  have m:∀n,i<=n->uf n (v::bk) c out=(if ρ v=v/\a.shd (ρ v)=false then uf n bk a out else if 5000<a.sz (ρ v)\/400<out.length+1 then some (none,a)else uf n bk a (out++[v])):=fun n g=>by simp only[uf,a8,l9,bB n g,Bool.true_eq_false,if_false]
  have S:hY ph ρ r (ρ v)=hY ph ρ r v:=(Bs s v).symm;by_cases ay:ρ v=v/\a.shd (ρ v)=false
  ·have f:pb ph ρ v=false:=by have E:=ay.2;rw[R]at E;rw[ay.1]at E;simp[pb,ay.1,E]
   obtain⟨p,t,o,B,f3,k,H,q⟩:=P a out (fun w hw=>F w (by simp[hw])) L J U;refine⟨max i p,t,o,fun n g=>by rw[m n Ω,if_pos ay];exact B n Ω,f3,k.trans G,?_,?_⟩
   ·simp only[List.filter_cons,f,hU,if_false];exact H
   ·simp only[List.filter_cons,f,hU,if_false];exact q
  ·have f:pb ph ρ v=true:=by
    cases e:pb ph ρ v with
    |true=>rfl
    |false=>simp only[pb,Bool.not_eq_false',cO,gn]at e;exact absurd ⟨e.1,by rw[R,e.1];exact e.2⟩ ay
   by_cases b:5000<a.sz (ρ v)\/400<out.length+1
   ·refine⟨i,a,none,fun n g=>by rw[m n g,if_neg ay,if_pos b],j.fin,G,(fun l e=>by cases e),fun _=>?_⟩;simp only[List.filter_cons,f,if_true];rintro⟨A,a2⟩;rcases b with b|b
    ·rw[s2,S]at b;have:=a2 v Ψ;unfold cut at b;split at b<;>omega
    ·simp at A;omega
   ·have y:(hY ph ρ r v).size<=5000:=by have:¬5000<a.sz (ρ v):=fun h=>b (.inl h);rw[s2,S]at this;unfold cut at this;split at this<;>omega
    obtain⟨p,t,o,B,f3,k,H,q⟩:=P a (out++[v]) (fun w hw=>F w (by simp[hw])) L d6 (fun w hw=>by
     rcases jT.1 hw with hw|hw
     ·exact U w hw
     ·simp at hw;subst hw;exact y)
    refine⟨max i p,t,o,fun n g=>by rw[m n Ω,if_neg ay,if_neg b];exact B n Ω,f3,k.trans G,?_,?_⟩
    ·simp only[List.filter_cons,f,if_true];simpa using H
    ·simp only[List.filter_cons,f,if_true];simpa using q
def arD(h:pT V ph)(a:∀v,ρ (ρ v)=ρ v)(s:∀z u,jU ph ρ z u->r u<r z)(e:∀v∈V,ρ v∈V):∀(bk:List Int) (c:bL),(∀v∈bk,v∈V)->s5 V ph ρ r c->∃N l,∀n,N<=n->Ay n bk c=some (bk.map fun v=>⟨v,hY ph ρ r v⟩,l):=by
 intro bk;induction bk with
 |nil=>intro c _ _;exact⟨0,c,fun n _=>rfl⟩
 |cons v bk q=>intro c d hw;have b:=d v Ψ;obtain⟨o,t,x⟩:=vo hw.fin.ru (by rw[hw.fin.keys];exact b:v∈cF c.up);obtain⟨g,k,p,j⟩:=atL h a s (r (ρ v)+1) (ρ v) o Ω (a v) (e v b) (hw.sm x);obtain⟨f,i,m⟩:=q k (fun w hw=>d w (by simp[hw])) j;refine⟨max g f,i,fun n y=>?_⟩;simp only[Ay,t,l9,p n Ω,m n Ω,pN,gX];rw[<-Bs a]
end
end
section
open Go
def bL.new:bL:=⟨[],[],[],[],[],[]⟩
def sO(l:List Int):List Int:=l.mergeSort fun x y=>decide (x<=y)
def C2(n:Nat)(E:List (T×T)):Option (Option (List Bd)):=(rr n E bL.new).bind fun p=>if p.1=false then some none else F3 n (sO (cF p.2.up)) p.2
def F6(l:List Int):(sO l).Perm l:=List.mergeSort_perm l _
def arR{l:List Int}(h:l.Nodup):(sO l).Pairwise (· < ·):=by have J:(sO l).Pairwise fun x y=>decide (x<=y)=true:=List.pairwise_mergeSort (fun a b c=>by simp;omega) (fun a b=>by simp;omega) l;have U:(sO l).Pairwise (· ≠ ·):=List.nodup_iff_pairwise_ne.1 ((F6 l).nodup_iff.2 h);exact(J.and U).imp fun h=>by simp at h;omega
structure ad3 (c:bL) (ρ:Int->Int) (cB:bL) (ZD:Int->Prop):Prop where
 inv:nb cB ρ
 ph:cB.ph=c.ph
 nd:(cF cB.up).Nodup
 sub:∀v∈cF c.up,v∈cF cB.up
 occ:∀v,ZD v->v∈cF cB.up
 rest:cB.color=c.color/\cB.size=c.size/\cB.full=c.full
 new:∀v∈cF cB.up,v∈cF c.up\/ZD v
def Y0{ρ:Int->Int}(t:T):∀(c:bL),nb c ρ->(cF c.up).Nodup->(∀v,t.occ v=true->0<=v)->∃n,Ch t c=some n/\ad3 c ρ n fun v=>t.occ v=true:=by
 unfold Ch;induction t with
 |var v=>
  intro c hi i j;by_cases d:v∈cF c.up
  ·obtain⟨l,k,f⟩:=vo hi.ru d;refine⟨l,by simp[T.foldO,k],hi.sm f,f.ph,by rw[f.keys];exact i,fun w hw=>by rw[f.keys];exact hw,fun w hw=>?_,f.rest,fun w hw=>.inl (by rw[f.keys]at hw;exact hw)⟩;simp[T.occ]at hw;subst hw;rw[f.keys];exact d
  ·obtain⟨k,m,g⟩:=ard hi.ru (j v (by simp[T.occ])) d;refine⟨{c with up:=fD v v c.up},by simp only[T.foldO,k,pN],⟨m,?_,hi.sat⟩,rfl,?_,fun w hw=>by rw[g];simp[hw],fun w hw=>?_,⟨rfl,rfl,rfl⟩,fun w hw=>?_⟩
   ·intro x u z;obtain⟨s,a2,a3⟩:=hi.sh x u z;refine⟨s,fun w hw=>?_,?_⟩
    ·show w∈cF (fD v v c.up);rw[g];simp[a2 w hw]
    ·show x∈cF (fD v v c.up);rw[g];simp[a3]
   ·rw[g];rw[r7];exact⟨i,Ψ,fun a y b o e=>by simp at o;subst o;subst e;exact d y⟩
   ·simp[T.occ]at hw;subst hw;rw[g];simp
   ·rw[g]at hw;simp at hw;rcases hw with hw|rfl;exact .inl hw;exact .inr (by simp[T.occ])
 |pair a b q p=>
  intro c hi i j;obtain⟨l,k,m1⟩:=q c hi i fun v d=>j v (by simp[T.occ,d]);obtain⟨r,m,m2⟩:=p l m1.inv m1.nd fun v d=>j v (by simp[T.occ,d]);refine⟨r,by simp only[T.foldO,k,l9,m],m2.inv,m2.ph.trans m1.ph,m2.nd,fun v d=>m2.sub v (m1.sub v d),fun v d=>?_,?_,fun v d=>?_⟩
  ·simp only[T.occ,oo]at d;rcases d with d|d
   ·exact m2.sub v (m1.occ v d)
   ·exact m2.occ v d
  ·rw[m2.rest.1,m2.rest.2.1,m2.rest.2.2];exact m1.rest
  ·rcases m2.new v d with h|h
   ·rcases m1.new v h with h|h
    ·exact .inl h
    ·exact .inr (by simp[T.occ,h])
   ·exact .inr (by simp[T.occ,h])
 |_=>intro c hi i j;exact⟨c,rfl,hi,rfl,i,fun v d=>d,fun v d=>by simp[T.occ]at d,⟨rfl,rfl,rfl⟩,fun v d=>.inl d⟩
def Pb(E:List (T×T)):Prop:= ∀e∈E,∀v,(e.1.occ v=true\/e.2.occ v=true)->0<=v
def DP:∀(E:List (T×T)) (c:bL) (ρ:Int->Int),nb c ρ->(cF c.up).Nodup->Pb E->∃N o,(∀n,N<=n->rr n E c=some o)/\((o.2.color=c.color/\o.2.size=c.size/\o.2.full=c.full)/\∀v∈cF o.2.up,v∈cF c.up\/ ∃e∈E,e.1.occ v=true\/e.2.occ v=true)/\(o.1=true->∃ρ',nb o.2 ρ'/\(cF o.2.up).Nodup/\∀a,kP o.2.ph ρ' a↔kP c.ph ρ a/\km E a)/\(o.1=false->∀a,kP c.ph ρ a->¬km E a):=by
 intro E;induction E with
 |nil=>intro c ρ hi g _;exact⟨0,(true,c),fun n _=>rfl,⟨⟨rfl,rfl,rfl⟩,fun v b=>.inl b⟩,fun _=>⟨ρ,hi,g,fun a=>⟨fun h=>⟨h,F5 a⟩,fun h=>h.1⟩⟩,fun e=>by cases e⟩
 |cons e E R=>
  intro c ρ hi g m;obtain⟨Q,B,m1⟩:=Y0 e.1 c hi g fun v b=>m e Ψ v (.inl b);obtain⟨x,A,m2⟩:=Y0 e.2 Q m1.inv m1.nd fun v b=>m e Ψ v (.inr b);obtain⟨K,F⟩:=m2.inv.sat
  obtain⟨t,i,z,d⟩:=afV _ _ x ρ e.1 e.2 K m2.inv F (fun w hw=>m2.sub w (m1.occ w hw)) (fun w hw=>m2.occ w hw) rfl rfl;have k:x.ph=c.ph:=m2.ph.trans m1.ph;have s:i.2.color=c.color/\i.2.size=c.size/\i.2.full=c.full:=by rw[d.rest.1,d.rest.2.1,d.rest.2.2,m2.rest.1,m2.rest.2.1,m2.rest.2.2];exact m1.rest
  have r:∀v∈cF i.2.up,v∈cF c.up\/e.1.occ v=true\/e.2.occ v=true:=fun v b=>by
   rw[d.keys]at b;rcases m2.new v b with h|h
   ·rcases m1.new v h with h|h
    ·exact .inl h
    ·exact .inr (.inl h)
   ·exact .inr (.inr h)
  obtain⟨f,u⟩:=i;cases f with
  |false=>refine⟨t,(false,u),fun n g=>?_,⟨s,fun v b=>(r v b).imp id fun h=>⟨e,Ψ,h⟩⟩,(fun e=>by cases e),fun _ a p he=>d.no rfl a (by rw[k];exact p) (sM.1 he).1⟩;simp only[rr,B,A,l9,z n g,hU,if_false]
  |true=>
   obtain⟨G,y,a2,_⟩:=d.yes rfl;simp only at y a2;obtain⟨L,M,P,j,O,H⟩:=R u G y (by have:=d.keys;simp only at this;rw[this];exact m2.nd) fun l he=>m l (by simp[he]);refine⟨max t L,M,fun n g=>?_,?_,fun q=>?_,fun q a p he=>?_⟩
   ·simp only[rr,B,A,l9,z n Ω,if_true];exact P n Ω
   ·refine⟨by rw[j.1.1,j.1.2.1,j.1.2.2];exact s,fun v b=>?_⟩;rcases j.2 v b with h|⟨l,J,U⟩
    ·exact(r v h).imp id fun h=>⟨e,Ψ,h⟩
    ·exact .inr ⟨l,by simp[J],U⟩
   ·obtain⟨ρ2,d1,d2,d3⟩:=O q;exact⟨ρ2,d1,d2,fun a=>by rw[d3 a,a2 a,k,sM,and_assoc]⟩
   ·exact H q a ((a2 a).2 ⟨by rw[k];exact p,(sM.1 he).1⟩) (sM.1 he).2
def GK{ph:Int->Option T}{ρ:Int->Int}{v:Int}:pb ph ρ v=false↔ρ v=v/\ph v=none:=by simp[pb]
def Wv{ph:Int->Option T}{ρ:Int->Int}{r:Int->Nat}(a:∀v,ρ (ρ v)=ρ v):∀(n:Nat) (v w:Int),(oD ph ρ n v).occ w=true->(∀z u,jU ph ρ z u->r u<r z)->r (ρ v)<n->ρ w=w/\ph w=none
 |0,v,w,_,_,h=>Ω
 |n+1,v,w,h,b,c=>by
  simp only[oD]at h;cases e:ph (ρ v)with
  |none=>rw[e]at h;simp[T.occ]at h;subst h;exact⟨a v,e⟩
  |some t=>rw[e]at h;obtain⟨u,J,U⟩:=Fm.1 h;have:=b (ρ v) (ρ u) ⟨a v,t,u,e,J,rfl⟩;exact Wv a n u w U b Ω
section
variable {V:List Int} {ph:Int->Option T} {ρ:Int->Int} {r:Int->Nat}
def vp(ph:Int->Option T)(ρ:Int->Int)(r:Int->Nat)(V:List Int):List Bd:=((sO V).filter (pb ph ρ)).map fun v=>⟨v,hY ph ρ r v⟩
def QF(a:V.Nodup):jB (vp ph ρ r V):=by unfold vp;rw[jB,List.pairwise_map];exact((arR a).filter _)
def acb(g:V.Nodup)(c:pT V ph)(f:∀v,v∉V->ρ v=v)(v:Int):dG (vp ph ρ r V) v=if pb ph ρ v then some (hY ph ρ r v)else none:=by
 by_cases a:pb ph ρ v=true
 ·rw[if_pos a];have i:v∈V:=by
   refine Classical.byContradiction fun h=>?_;have J:=f v h;have U:ph v=none:=by cases e:ph v with
    |none=>rfl
    |some t=>exact absurd (c v t e).2.2 h
   rw[GK.2 ⟨J,U⟩]at a;cases a
  have:(⟨v,hY ph ρ r v⟩:Bd)∈vp ph ρ r V:=hc.2 ⟨v,oq.2 ⟨(F6 V).mem_iff.2 i,a⟩,rfl⟩;exact vR (QF g) this
 ·rw[if_neg a];refine xd.2 fun b d e=>?_;obtain⟨u,J,rfl⟩:=hc.1 d;simp only at e;subst e;exact a (oq.1 J).2
def arF(g:V.Nodup)(d:pT V ph)(j:∀v,v∉V->ρ v=v)(f:∀v,ρ (ρ v)=ρ v)(hle:∀v,ρ v<=v)(i:∀z u,jU ph ρ z u->r u<r z):gD (vp ph ρ r V):=by
 refine⟨QF g,fun b a w hw=>?_,fun b a w hw=>?_⟩
 ·obtain⟨u,J,rfl⟩:=hc.1 a;rw[acb g d j];have:=Wv f _ u w hw i Ω;rw[GK.2 this];rfl
 ·obtain⟨u,J,rfl⟩:=hc.1 a;have c:=(oq.1 J).2;simp only at hw⊢;cases e:ph (ρ u)with
  |none=>
   rw[D6 e]at hw;cases hw;have U:=hle u;have k:ρ u≠u:=fun h=>by rw[GK.2 ⟨h,by rw[h]at e;exact e⟩]at c;cases c
   omega
  |some t=>rw[Bu f i e]at hw;have:=(d _ _ e).1;cases t<;>simp[T.ap,T.kind]at hw this
def aj2(a:∀v,ρ (ρ v)=ρ v)(c:∀z u,jU ph ρ z u->r u<r z)(b:Int->T):kP ph ρ b↔∀v,b v=(hY ph ρ r v).ap b:=by
 constructor
 ·intro h;have:∀(n:Nat) (v:Int),r (ρ v)<n->b v=(hY ph ρ r v).ap b:=by
   intro n;induction n with
   |zero=>intro v h;omega
   |succ n d=>
    intro v i;cases e:ph (ρ v)with
    |none=>rw[D6 e];exact h.1 v
    |some t=>rw[Bu a c e,Dw,h.1 v,h.2 _ t (a v) e];refine vP fun w hw=>d w ?_;have:=c (ρ v) (ρ w) ⟨a v,t,w,e,hw,rfl⟩;omega
  exact fun v=>this _ v (Nat.lt_succ_self _)
 ·intro h;refine⟨fun v=>by rw[h v,h (ρ v),<-Bs a],fun x t f g=>?_⟩;rw[h x,Bu a c (by rw[f];exact g),Dw];exact vP fun w _=>(h w).symm
def arE(a:V.Nodup)(c:pT V ph)(f:∀v,v∉V->ρ v=v)(d:∀v,ρ (ρ v)=ρ v)(g:∀z u,jU ph ρ z u->r u<r z)(b:Int->T):hW (vp ph ρ r V) b↔kP ph ρ b:=by
 rw[aj2 d g,arL (QF a)];refine forall_congr' fun v=>?_;rw[cR,acb a c f];cases e:pb ph ρ v with
 |true=>simp
 |false=>obtain⟨J,U⟩:=GK.1 e;rw[D6 (by rw[J];exact U),J];simp
end
def arM(E:List (T×T))(bA:Pb E):∃n o,C2 n E=some o/\jG [] E o/\∀c,rr n E bL.new=some (true,c)->(cF c.up).Nodup/\(∀v∈cF c.up,∃e∈E,e.1.occ v=true\/e.2.occ v=true)/\c.size=[]:=by
 have hi:nb bL.new id:=⟨⟨fun v u h=>by simp[bL.new,dp]at h,fun v _=>rfl⟩,fun x t h=>by simp[bL.new,bL.ph,bL.shd,dp]at h,⟨.var,fun v=>rfl,fun x t _ h=>by simp[bL.new,bL.ph,bL.shd,dp]at h⟩⟩;have G:∀a,kP bL.new.ph id a:=fun a=>⟨fun v=>rfl,fun x t _ h=>by simp[bL.new,bL.ph,bL.shd,dp]at h⟩;obtain⟨i,S,s,m,X,R⟩:=DP E bL.new id hi (by simp[bL.new,cF]) bA;obtain⟨m,q⟩:=m;obtain⟨f,c⟩:=S;cases f with
 |false=>refine⟨i,none,by simp[C2,s i (dO _)],GF fun a _ he=>R rfl a (G a) he,fun c h=>?_⟩;rw[s i (dO _)]at h;cases h
 |true=>
  obtain⟨ρ,g,a2,a3⟩:=X rfl;simp only at g a2 a3 m q;have O:∀n,i<=n->∀p,rr n E bL.new=some (true,p)->(cF p.up).Nodup/\(∀v∈cF p.up,∃e∈E,e.1.occ v=true\/e.2.occ v=true)/\p.size=[]:=fun n aw p h=>by rw[s n aw]at h;cases h;exact⟨a2,fun v j=>(q v j).resolve_left (by simp[bL.new,cF]),m.2.1⟩
  obtain⟨r,A⟩:=g.rank;have w:=g.ru.idem;have K:∀v∈cF c.up,ρ v∈cF c.up:=fun v j=>(g.ru.mem j).1;have W:vG (cF c.up) c.ph ρ c:=⟨g.ru,rfl,rfl⟩;have hw:∀d,sd (cF c.up) c.ph ρ r d c:=fun d=>⟨W,fun z _=>.inl (by simp[bL.col,m.1,bL.new,dp])⟩;obtain⟨k,L,o,M,Y,V,P,R5⟩:=arC g.sh w A K (sO (cF c.up)) c [] (fun v j=>(F6 _).mem_iff.1 j) hw Ψ (fun v j=>by simp at j);have dE:=arF (r:=r) a2 g.sh g.ru.no w g.ru.le A;have H:∀a,hW (vp c.ph ρ r (cF c.up)) a↔hW [] a/\km E a:=fun a=>by rw[arE a2 g.sh g.ru.no w A,a3 a];exact⟨fun h=>⟨fun b ag=>by simp at ag,h.2⟩,fun h=>⟨G a,h.2⟩⟩
  have N:iw (vp c.ph ρ r (cF c.up))↔(([]++(sO (cF c.up)).filter (pb c.ph ρ)).length<=400/\∀v∈[]++(sO (cF c.up)).filter (pb c.ph ρ),(hY c.ph ρ r v).size<=5000):=by unfold iw vp;simp only[List.length_map,cc,hc,forall_exists_index,and_imp,forall_apply_eq_imp_iff₂]
  cases o with
  |none=>refine⟨max i k,none,by simp[C2,s (max i k) Ω,F3,M (max i k) Ω],?_,O _ Ω⟩;exact fun ak J U ar=>R5 rfl (N.1 (VL dE J (fun a Q=>(H a).2 (U a Q)) ar))
  |some l=>
   obtain⟨y,aC,Z⟩:=P l rfl;have F:s5 (cF c.up) c.ph ρ r L:=⟨Y,fun x t h=>by rw[V,m.2.2]at h;simp[bL.new,dp]at h⟩;simp only[cc]at y;obtain⟨B,di,d1⟩:=arD g.sh w A K l L (fun v j=>by rw[y]at j;exact(F6 _).mem_iff.1 (oq.1 j).1) F;refine⟨max (max i k) B,some (vp c.ph ρ r (cF c.up)),?_,⟨⟨dE,N.2 ?_⟩,H⟩,O _ Ω⟩
   ·simp only[C2,s (max (max i k) B) Ω,l9,Bool.true_eq_false,if_false,F3,M (max (max i k) B) Ω,d1 (max (max i k) B) Ω,pN];rw[y];rfl
   ·rw[cc,<-y];exact⟨aC,Z⟩
def iy(s:List Bd):List (T×T):=s.map fun b=>(.var b.v,b.t)
def arK{s:List Bd}{a:Int->T}:km (iy s) a↔hW s a:=by simp[km,iy,hW,T.ap]
def aef{s:List Bd}{E:List (T×T)}{o:Option (List Bd)}:jG [] (iy s++E) o↔jG s E o:=by
 have h:∀a,(hW [] a/\km (iy s++E) a)↔(hW s a/\km E a):=fun a=>by rw[F4,arK];exact⟨fun h=>h.2,fun h=>⟨fun b c=>by simp at c,h⟩⟩
 exact⟨Du h,Du fun a=>(h a).symm⟩
end
section
open Go
open Classical in
noncomputable def mgu(s:List Bd)(E:List (T×T)):Option (List Bd):=if h:∃o,jG s E o then h.choose else none
def tU{s:List Bd}{E:List (T×T)}{o:Option (List Bd)}(h:jG s E o):mgu s E=o:=by have a:∃o,jG s E o:=⟨o,h⟩;unfold mgu;rw[dif_pos a];exact aeg a.choose_spec h
def rS(s:List Bd):Prop:= ∀b∈s,(0<=b.v/\b.v<=100000)/\b.t.ok=true
def RY{e:Int->T}{t:T}(c:t.ok=true)(h:∀v,t.occ v=true->(e v).ok=true):(t.ap e).ok=true:=by
 induction t with
 |var n=>exact h n (by simp[T.occ])
 |pair a b g f=>simp only[T.ok,cO]at c;simp only[T.ap,T.ok,cO];exact⟨g c.1 fun v d=>h v (by simp[T.occ,d]),f c.2 fun v d=>h v (by simp[T.occ,d])⟩
 |_=>exact c
def yK{t:T}(c:t.ok=true){v:Int}(h:t.occ v=true):0<=v/\v<=100000:=by
 induction t with
 |var n=>simp[T.occ]at h;subst h;simpa[T.ok]using c
 |pair a b e d=>
  simp only[T.ok,cO]at c;simp only[T.occ,oo]at h;rcases h with h|h
  ·exact e c.1 h
  ·exact d c.2 h
 |_=>simp[T.occ]at h
def Kc{s:List Bd}(b:rS s){t:T}(a:t.ok=true):(t.ap (cR s)).ok=true:=RY a fun v c=>by
 unfold cR;cases e:dG s v with
 |none=>have:=yK a c;simpa[T.ok]using this
 |some x=>exact(b _ (kQ e)).2
def Dz{s:List Bd}(a:rS s){v:Int}{t:T}(g:0<=v/\v<=100000)(e:t.ok=true){d:List Bd}(h:pa s v t=some d):rS d:=by
 unfold pa at h;split at h
 ·cases h;intro b f;rcases rO.1 f with rfl|⟨c,ay,rfl⟩
  ·exact⟨g,Kc a e⟩
  ·refine⟨(a c ay).1,RY (a c ay).2 fun w hw=>?_⟩;unfold one;split
   ·exact Kc a e
   ·have:=yK (a c ay).2 hw;simpa[T.ok]using this
 ·cases h
def adA{s:List Bd}(b:rS s){t:T}(a:t.ok=true):(ig s t).ok=true:=by
 cases t with
 |var n=>have:=Kc b a;simpa[ig,T.ap]using this
 |_=>exact a
def Q7:∀(n:Nat) (s:List Bd) (a b:T) (g:List Bd),rS s->a.ok=true->b.ok=true->lG n s a b=some (some g)->rS g
 |0,_,_,_,_,_,_,_,h=>by simp[lG]at h
 |n+1,s,a,b,g,c,o,q,h=>by
  have d:=adA c o;have e:=adA c q;simp only[lG]at h;generalize ig s a=x at h d;generalize ig s b=y at h e;have f:∀{i:Int},(T.var i).ok=true->0<=i/\i<=100000:=fun h=>yK h (by simp[T.occ]);cases x with
  |var i=>
   cases y with
   |var j=>
    simp only[kN,dV]at h;split at h
    ·exact Dz c (f e) d h
    ·split at h
     ·cases h;exact c
     ·exact Dz c (f d) e h
   |_=>simp only[kN,dV]at h;exact Dz c (f d) e h
  |pair m a2=>
   cases y with
   |var j=>simp only[kN,dV]at h;exact Dz c (f e) d h
   |pair k l=>
    simp only[T.ok,cO]at d e;simp only[kN]at h;split at h
    ·cases h
    ·cases h
    ·rename_i s1 p;exact Q7 n s1 a2 l g (Q7 n s m k s1 c d.1 e.1 p) d.2 e.2 h
   |_=>simp[kN]at h
  |_=>
   cases y with
   |var j=>simp only[kN,dV]at h;exact Dz c (f e) d h
   |_=>
    simp only[kN,dV]at h;split at h
    ·cases h;exact c
    ·cases h
def oZ:T->List Int
 | .var n=>[n]
 | .pair a b=>oZ a++oZ b
 |_=>[]
def z1{t:T}{v:Int}(h:t.occ v=true):v∈oZ t:=by
 induction t with
 |var n=>simp[T.occ]at h;subst h;simp[oZ]
 |pair a b d c=>simp only[T.occ,oo]at h;simp only[oZ,jT];exact h.imp d c
 |_=>simp[T.occ]at h
def Ku{s:List Bd}(d:gD s)(e:iw s)(a b:T):∃n o,lG n s a b=some o/\jG s [(a,b)] o:=by obtain⟨n,o,J,U⟩:=acW (s.flatMap (fun b=>b.v::oZ b.t)++oZ a++oZ b) _ _ s a b d e (fun c ay=>⟨by simp only[jT,List.mem_flatMap];exact .inl (.inl ⟨c,ay,Ψ⟩),fun w hw=>by simp only[jT,List.mem_flatMap];exact .inl (.inl ⟨c,ay,by simp[z1 hw]⟩)⟩) (fun w hw=>by simp[z1 hw]) (fun w hw=>by simp[z1 hw]) rfl rfl;exact⟨n,o,J,U.1⟩
def RN{s:List Bd}{e:T×T}{E:List (T×T)}{s1:List Bd}(h:jG s [e] (some s1)){o:Option (List Bd)}(U:jG s1 E o):jG s (e::E) o:=RM (E:=[e]) h U
def I6{s:List Bd}(b:gD s)(c:iw s)(E:List (T×T)):jG s E (mgu s E):=by
 induction E generalizing s with
 |nil=>rw[tU (K2 b c)];exact K2 b c
 |cons e E d=>
  obtain⟨n,o,_,U⟩:=Ku b c e.1 e.2;cases o with
  |none=>have a:jG s (e::E) none:=K1 E U;rw[tU a];exact a
  |some s1=>have a:=RN U (d U.1.1 U.1.2);rw[tU a];exact a
def I5{s:List Bd}(a:gD s)(b:iw s):mgu s []=some s:=tU (K2 a b)
def OU{s:List Bd}(b:gD s)(c:iw s)(e:T×T)(E:List (T×T)):mgu s (e::E)=match mgu s [e]with|some s1=>mgu s1 E|none=>none:=by
 have J:=I6 b c [e];cases h:mgu s [e]with
 |none=>rw[h]at J;have a:jG s (e::E) none:=K1 E J;exact tU a
 |some s1=>rw[h]at J;exact tU (RN J (I6 J.1.1 J.1.2 E))
def Ci{s:List Bd}(b:gD s)(c:iw s){E:List (T×T)}{a:List Bd}(h:mgu s E=some a):gD a/\iw a:=by have J:=I6 b c E;rw[h]at J;exact J.1
def anf{s:List Bd}(c:gD s)(d:iw s)(aq:rS s){E:List (T×T)}(a:∀e∈E,e.1.ok=true/\e.2.ok=true){f:List Bd}(h:mgu s E=some f):rS f:=by
 induction E generalizing s with
 |nil=>rw[I5 c d]at h;cases h;exact aq
 |cons e E j=>
  rw[OU c d]at h;split at h
  ·rename_i s1 J;obtain⟨n,o,U,b⟩:=Ku c d e.1 e.2;have g:=tU b;rw[J]at g;subst g;exact j b.1.1 b.1.2 (Q7 n s e.1 e.2 s1 aq (a e Ψ).1 (a e Ψ).2 U) (fun i he=>a i (by simp[he])) h
  ·cases h
def Yf{l:List Int}(f:l.Nodup)(h:∀v∈l,0<=v/\v<=100000):l.length<=100001:=by
 have J:(l.map Int.toNat).Nodup:=by rw[List.nodup_iff_pairwise_ne,List.pairwise_map];exact at4 (fun{a b} d g c e=>c (by have:=h a d;have:=h b g;omega)) f
 have:=RA J (l₂:=List.range 100001) (fun x i=>by obtain⟨v,j,rfl⟩:=hc.1 i;have:=h v j;simp;omega)
 simpa using this
end
end Go.Pv
