/- The most general unifier within the limits. -/
import Derived.Deep.LoopGhost
import Derived.Test.YtahlgcidhnjlbaaGreatE1
set_option linter.all false
set_option maxHeartbeats 4000000
set_option maxRecDepth 4000
open Array renaming getElem?_toList->vm
open Bool renaming and_eq_true->cQ,false_eq_true->hR,not_eq_true'->sO,or_eq_true->oe
open Decidable renaming not_not->aya
open Go renaming Program->cI,TypeId->gT
open Go.IntKind renaming bits->ps,i64->vn,signed->ua,u64->ik,wrap->ub
open Go.IntWalk renaming i64_in->pt
open Go.Op renaming bytesLess->iu
open Go.Region renaming wanted->qd
open Go.Result renaming andThen_ok->gC
open Go.Sem renaming run_bind->gx,run_pure->hA
open Go.Value renaming cells->pw
open List renaming all_eq_true->j6,cons_append->b7,drop_eq_getElem_cons->lG,getElem?_append_left->rR,getElem?_eq_getElem->cl,getElem?_eq_none->q0,getElem?_eq_some_iff->fH,length_append->qe,length_cons->mV,map_cons->gY,mem_append->kd,mem_cons->gI,mem_cons_of_mem->q1,mem_filter->oW,mem_map->gZ,nil_append->ca,nodup_append->rS,pairwise_cons->og,pairwise_iff_getElem->q2
open List.Nodup renaming length_le_of_subset->Rc
open List.Pairwise renaming imp_of_mem->atx,nil->ayj
open List.Perm renaming eq_of_pairwise->Re
open List.cons renaming injEq->rQ
open Nat renaming le_refl->dO,le_trans->kD
open Option renaming bind_some->lH,getD_none->k5,getD_some->lI,isSome_iff_exists->fx,isSome_none->kf,map_eq_some_iff->hq,map_some->pB
open Option.some renaming inj->e6,injEq->dU
open Prod.mk renaming injEq->jo
open _root_ renaming False->eu,Option->bd,UInt8->cS,and_true->jd,beq_iff_eq->ey,congrArg->fy,decide_eq_false->mv,decide_eq_false_iff_not->iO,decide_eq_true_eq->gy,eq_true->h2
namespace Go.Pv
section
open Go Go.RowKit
def am4(A:dE)(s a:cR)(rm:bd aB):Prop:=(∀k,(ae k a.b).isSome->(ae k s.b).isSome\/rm=some k)/\(∀k,(ae k a.e).isSome->(ae k s.e).isSome\/rm=some k)/\(∀k,(ae k s.b).isSome->(ae k a.b).isSome)/\(∀k,(ae k s.e).isSome->(ae k a.e).isSome)/\
 (∀k,rm=some k->(∃j,k= .obj j)/\A.F k/\A.b k=none/\A.e k=none/\((ae k a.b).isSome\/(ae k a.e).isSome))
def adk(P:cI)(n:Nat)(args:List af)(A:dE)(d:bd Nat)(x:lK):Prop:=
 ∃s a r rm,(∀k cs,ae k s.b=some cs->A.b k=some cs/\aH (aM s) cs)/\(∀k o,ae k s.e=some o->A.e k=some o/\dV (aM s) o)/\hX s/\hX a/\am4 A s a rm/\aH (aM s) args/\
  bG P n args s (fun b t'=>b=r/\t'=a)/\x=⟨d,r,a.b,a.e,rm⟩
def adl(P:cI)(n0 n:Nat)(args:List af)(A:dE)(d:bd Nat)(x:lK):Prop:=
 ∃cU r,d=some cU/\(A.F (.loc (n0+cU))/\A.b (.loc (n0+cU))=none/\A.e (.loc (n0+cU))=none)/\aH (fun _=>eu) args/\
  uf P n (n0+cU) args ⟨[],[]⟩ (fun a t'=>a=r/\t'=⟨[],[]⟩)/\x=⟨d,r,[],[],some (.loc (n0+cU))⟩
def zC:af->Bool
 | .ptr (.loc _) _=>true
 | .eptr _=>true
 |_=>false
def gO.isB:gO->Bool
 | .loadB _ _ _=>true
 | .mgetB _ _ _ _ _=>true
 |_=>false
def gO.ptrOf(t:Nat->af):gO->af
 | .load _ _ x=>dY t x
 | .loadB _ _ x=>dY t x
 |_=>.junk
def e1(P:cI)(q:Bool)(n0:Nat):eU->dE->lK->Prop
 | .s (.v d i),A,x=> ∃c p,qY A.t A.b A.e i=some (c,p)/\c/\(i.isLoad=true->i.isB=true\/q=true\/zC (i.ptrOf A.t)=true)/\x=⟨some d,p,[],[],none⟩
 | .s (.box d none v),A,x=>(A.F (.loc (n0+d))/\A.b (.loc (n0+d))=none/\A.e (.loc (n0+d))=none)/\eT (dY A.t v)=true/\x=⟨some d,.ptr (.loc (n0+d)) 0,[(.loc (n0+d),cells (dY A.t v))],[],some (.loc (n0+d))⟩
 | .s (.alloc d none z),A,x=>(A.F (.loc (n0+d))/\A.b (.loc (n0+d))=none/\A.e (.loc (n0+d))=none)/\x=⟨some d,.ptr (.loc (n0+d)) 0,[(.loc (n0+d),cells z)],[],some (.loc (n0+d))⟩
 | .s (.store sz u v),A,x=> ∃k off cs,dY A.t u= .ptr k off/\A.b k=some cs/\(gV cs=true/\eT (dY A.t v)=true/\(cells (dY A.t v)).length=sz/\off+sz<=cs.length)/\x=⟨none,.junk,[(k,nD cs off (cells (dY A.t v)))],[],none⟩
 | .s (.bsl d sz el xs),A,x=>(A.F (.loc (n0+d))/\A.b (.loc (n0+d))=none/\A.e (.loc (n0+d))=none)/\um sz (xs.map (dY A.t))/\x=⟨some d,.slice sz (.own (.loc (n0+d))) (xs.map (dY A.t)),[],[(.loc (n0+d),⟨xs.length,el,sz,none⟩)],some (.loc (n0+d))⟩
 | .s (.app d sz el u v),A,x=> ∃tag xs a ys,dY A.t u= .slice sz tag xs/\dY A.t v= .slice sz a ys/\
   ((∃k o,tag= .own k/\A.e k=some o/\(o.xs=none/\o.n=xs.length/\o.el=el/\o.sz=sz/\xs.length+ys.length<=lim)/\x=⟨some d,.slice sz (.own k) (xs++ys),[],[(k,⟨xs.length+ys.length,el,sz,none⟩)],none⟩)\/
    (tag= .nil/\ys.length<=lim/\(A.F (.loc (n0+d))/\A.b (.loc (n0+d))=none/\A.e (.loc (n0+d))=none)/\x=⟨some d,.slice sz (.own (.loc (n0+d))) ys,[],[(.loc (n0+d),⟨ys.length,el,sz,none⟩)],some (.loc (n0+d))⟩))
 | .s (.appm d _ sz el u v),A,x=> ∃k n xs a ys,dY A.t u= .row sz k n/\dY A.t v= .slice sz a ys/\A.e k=some ⟨n,el,sz,some xs⟩/\xs.length+ys.length<=lim/\x=⟨some d,.row sz k (xs.length+ys.length),[],[(k,⟨xs.length+ys.length,el,sz,some (xs++ys)⟩)],none⟩
 | .s (.storeE sz u v),A,x=> ∃k n i f el b xs q,dY A.t u= .rptr b k n i f/\A.e k=some ⟨n,el,b,some xs⟩/\xs[i]? =some q/\(eT q=true/\eT (dY A.t v)=true/\(cells (dY A.t v)).length=sz/\f+sz<=(cells q).length/\0<sz)/\x=⟨none,.junk,[],[(k,⟨n,el,b,some (xs.set i (oc q f (cells (dY A.t v))))⟩)],none⟩
 | .s (.mkmap d (some m)),A,x=>(A.F (.obj m)/\A.b (.obj m)=none/\A.e (.obj m)=none)/\x=⟨some d,.gmap (.obj m),[(.obj m,[.hdm 0 []])],[],some (.obj m)⟩
 | .s (.mput e u k v),A,x=> ∃m cs cs',dY A.t u= .gmap m/\A.b m=some cs/\qN e (dY A.t k) (dY A.t v) cs=some cs'/\x=⟨none,.junk,[(m,cs')],[],none⟩
 | .call d f xs,A,x=> ∃n dH,dY A.t f= .func n dH/\((adk P n (cf (xs.map (dY A.t)++dH)) A d x/\(q=true->x.bw=[]/\x.ew=[]))\/adl P n0 n (cf (xs.map (dY A.t)++dH)) A d x)
 |_,_,_=>eu
inductive C7 where
 |v|l|n|s|w|a|c|m|r|k
 deriving DecidableEq
def eU.mode:eU->C7
 | .s (.v _ (.loadB _ _ _))=>.m
 | .s (.v _ (.mgetB _ _ _ _ _))=>.m
 | .s (.v _ i)=>if i.isLoad then .l else .v
 | .s (.storeE _ _ _)=>.r
 | .s (.box _ _ _)=>.n
 | .s (.alloc _ _ _)=>.n
 | .s (.store _ _ _)=>.w
 | .s (.bsl _ _ _ _)=>.s
 | .s (.app _ _ _ _ _)=>.a
 | .s (.bslm _ _ _ _ _)=>.w
 | .s (.mks _ _ _ _ _ _)=>.w
 | .s (.appm _ _ _ _ _ _)=>.r
 | .s (.mkmap _ _)=>.k
 | .s (.mput _ _ _ _)=>.w
 | .s (.range _ _ _)=>.w
 | .call _ _ _=>.c
 | .next _ _=>.w
structure KC (q:Bool) (n0:Nat) (m:C7) (dst:bd Nat) (A:dE) (x:lK):Prop where
 d:x.d=dst
 b:∀k,(ae k x.bw).isSome->(m= .n/\∃d,dst=some d/\k= .loc (n0+d)/\A.b k=none/\A.e k=none)\/m= .w\/(m= .c/\(∃j,k= .obj j)/\q=false)\/(m= .k/\(∃j,k= .obj j)/\A.b k=none/\A.e k=none)
 e:∀k,(ae k x.ew).isSome->(m= .s/\∃d,dst=some d/\k= .loc (n0+d)/\A.b k=none/\A.e k=none)\/(m= .a/\(A.e k≠none\/ ∃d,dst=some d/\k= .loc (n0+d)/\A.b k=none/\A.e k=none))\/(m= .c/\(∃j,k= .obj j)/\q=false)\/(m= .r/\∃o,A.e k=some o/\o.xs≠none)
 r:∀k,x.rm=some k->(∃d,dst=some d/\k= .loc (n0+d))\/((m= .c\/m= .k)/\(∃j,k= .obj j)/\((ae k x.bw).isSome\/(ae k x.ew).isSome))
 ex:m= .a->∀k o,(ae k x.ew).isSome->A.e k=some o->o.xs=none
 xn:m= .a\/m= .s->∀k o,ae k x.ew=some o->o.xs=none
def u0{α:Type}{k bs:aB}{x:α}(h:(ae k [(bs,x)]).isSome):k=bs:=by
 simp only[ae]at h;split at h
 ·rename_i e;exact e.symm
 ·cases h
def Oe{k bs:aB}{n el sz:Nat}{o:dW}(h:ae k [(bs,(⟨n,el,sz,none⟩:dW))]=some o):o.xs=none:=by
 simp only[ae]at h;split at h
 ·cases h;rfl
 ·cases h
def acf{P:cI}{q:Bool}{n0:Nat}{i:eU}{A:dE}{x:lK}(h:e1 P q n0 i A x):KC q n0 i.mode i.dst A x:=by
 cases i with
 |s i=>
  cases i with
  |v d i=>simp only[e1]at h;obtain⟨c,p,_,_,_,rfl⟩:=h;exact⟨rfl,fun k a=>by simp[ae]at a,fun k a=>by simp[ae]at a,fun k a=>by simp at a,fun _ k o a=>by simp[ae]at a,fun _ k o a=>by simp[ae]at a⟩
  |box d key v=>
   cases key with
   |some m=>simp only[e1]at h
   |none=>simp only[e1]at h;obtain⟨⟨_,U,b⟩,_,rfl⟩:=h;exact⟨rfl,fun k a=>by obtain rfl:=u0 a;exact .inl ⟨rfl,d,rfl,rfl,U,b⟩,fun k a=>by simp[ae]at a,fun k a=>by simp at a;exact .inl ⟨d,rfl,a.symm⟩,fun _ k o a=>by simp[ae]at a,fun _ k o a=>by simp[ae]at a⟩
  |alloc d key z=>
   cases key with
   |some m=>simp only[e1]at h
   |none=>simp only[e1]at h;obtain⟨⟨_,U,b⟩,rfl⟩:=h;exact⟨rfl,fun k a=>by obtain rfl:=u0 a;exact .inl ⟨rfl,d,rfl,rfl,U,b⟩,fun k a=>by simp[ae]at a,fun k a=>by simp at a;exact .inl ⟨d,rfl,a.symm⟩,fun _ k o a=>by simp[ae]at a,fun _ k o a=>by simp[ae]at a⟩
  |store sz u v=>simp only[e1]at h;obtain⟨k,off,cs,_,_,_,rfl⟩:=h;exact⟨rfl,fun k a=>.inr (.inl rfl),fun k a=>by simp[ae]at a,fun k a=>by simp at a,fun _ k o a=>by simp[ae]at a,fun _ k o a=>by simp[ae]at a⟩
  |bsl d sz el xs=>simp only[e1]at h;obtain⟨⟨_,U,b⟩,_,rfl⟩:=h;exact⟨rfl,fun k a=>by simp[ae]at a,fun k a=>by obtain rfl:=u0 a;exact .inl ⟨rfl,d,rfl,rfl,U,b⟩,fun k a=>by simp at a;exact .inl ⟨d,rfl,a.symm⟩,fun e=>by simp[eU.mode]at e,fun _ k o a=>Oe a⟩
  |app d sz el u v=>
   simp only[e1]at h;obtain⟨tag,xs,l,ys,_,_,h⟩:=h;rcases h with⟨k,o,_,J,⟨t,_⟩,rfl⟩|⟨_,_,⟨_,U,b⟩,rfl⟩
   ·exact⟨rfl,fun k a=>by simp[ae]at a,fun k a=>by obtain rfl:=u0 a;exact .inr (.inl ⟨rfl,.inl (by rw[J];simp)⟩),fun k a=>by simp at a,fun _ bs o' a ar=>by obtain rfl:=u0 a;rw[J]at ar;cases ar;exact t,fun _ k o a=>Oe a⟩
   ·exact⟨rfl,fun k a=>by simp[ae]at a,fun k a=>by obtain rfl:=u0 a;exact .inr (.inl ⟨rfl,.inr ⟨d,rfl,rfl,U,b⟩⟩),fun k a=>by simp at a;exact .inl ⟨d,rfl,a.symm⟩,fun _ bs o' a ar=>(by obtain rfl:=u0 a;rw[b]at ar;cases ar),fun _ k o a=>Oe a⟩
  |bslm d key sz el xs=>simp only[e1]at h
  |mks d key sz el z x=>simp only[e1]at h
  |appm d key sz el u v=>simp only[e1]at h;obtain⟨k,n,xs,l,ys,_,_,J,_,rfl⟩:=h;exact⟨rfl,fun k a=>by simp[ae]at a,fun k a=>by obtain rfl:=u0 a;exact .inr (.inr (.inr ⟨rfl,_,J,Ψ⟩)),fun k a=>by simp at a,fun e=>by simp[eU.mode]at e,fun e=>by simp[eU.mode]at e⟩
  |storeE sz u v=>simp only[e1]at h;obtain⟨k,n,i,f,el,w,xs,q,_,J,_,_,rfl⟩:=h;exact⟨rfl,fun k a=>by simp[ae]at a,fun k a=>by obtain rfl:=u0 a;exact .inr (.inr (.inr ⟨rfl,_,J,Ψ⟩)),fun k a=>by simp at a,fun e=>by simp[eU.mode]at e,fun e=>by simp[eU.mode]at e⟩
  |mkmap d key=>
   cases key with
   |none=>simp only[e1]at h
   |some m=>simp only[e1]at h;obtain⟨⟨_,U,b⟩,rfl⟩:=h;exact⟨rfl,fun k a=>by obtain rfl:=u0 a;exact .inr (.inr (.inr ⟨rfl,⟨m,rfl⟩,U,b⟩)),fun k a=>by simp[ae]at a,fun k a=>by simp at a;subst a;exact .inr ⟨.inr rfl,⟨m,rfl⟩,.inl (by simp[ae])⟩,fun e=>by simp[eU.mode]at e,fun e=>by simp[eU.mode]at e⟩
  |mput y x k v=>simp only[e1]at h;obtain⟨m,cs,cs',_,_,_,rfl⟩:=h;exact⟨rfl,fun k a=>.inr (.inl rfl),fun k a=>by simp[ae]at a,fun k a=>by simp at a,fun e=>by simp[eU.mode]at e,fun e=>by simp[eU.mode]at e⟩
  |range d key x=>simp only[e1]at h
 |next d x=>simp only[e1]at h
 |call d f xs=>
  simp only[e1]at h;obtain⟨n,dH,_,h⟩:=h;rcases h with⟨⟨s,B,r,rm,_,_,_,ar,j,_,_,rfl⟩,g⟩|⟨cU,r,rfl,_,_,_,rfl⟩;rotate_left
  ·exact⟨rfl,fun k a=>by simp[ae]at a,fun k a=>by simp[ae]at a,fun k a=>by simp at a;exact .inl ⟨cU,rfl,a.symm⟩,fun _ k o a=>by simp[ae]at a,fun _ k o a=>by simp[ae]at a⟩
  refine⟨rfl,fun k a=>.inr (.inr (.inl ⟨rfl,?_,?_⟩)),fun k a=>.inr (.inr (.inl ⟨rfl,?_,?_⟩)),fun k a=>.inr ⟨.inl rfl,(j.2.2.2.2 k a).1,(j.2.2.2.2 k a).2.2.2.2⟩,fun e=>by simp[eU.mode]at e,fun e=>by simp[eU.mode]at e⟩
  ·cases k with
   |loc m=>rw[ar.1 m]at a;cases a
   |obj m=>exact⟨m,rfl⟩
  ·cases q with
   |false=>rfl
   |true=>rw[(g rfl).1]at a;simp[ae]at a
  ·cases k with
   |loc m=>rw[ar.2 m]at a;cases a
   |obj m=>exact⟨m,rfl⟩
  ·cases q with
   |false=>rfl
   |true=>rw[(g rfl).2]at a;simp[ae]at a
def Rh{P:cI}{q:Bool}{n0:Nat}{i:eU}{A b:dE}{x:lK}(h:e1 P q n0 i A x)(a:r2 i.looks A.t b.t)
  (av:i.mode= .l->∀k,(q=true\/ ∃m,k= .loc m)->A.b k≠none->b.b k=A.b k) (Wx:i.mode= .m->∀k,A.b k≠none->b.b k=A.b k)
  (lp:i.mode= .l->q=true->∀k o,A.e k=some o->o.xs≠none->b.e k=some o)
  (H:∀d,i.dst=some d->(i.mode= .n\/i.mode= .s\/i.mode= .a\/i.mode= .c)->(A.F (.loc (n0+d))/\A.b (.loc (n0+d))=none/\A.e (.loc (n0+d))=none)->(b.F (.loc (n0+d))/\b.b (.loc (n0+d))=none/\b.e (.loc (n0+d))=none))
  (bS:i.mode= .a->∀k o,A.e k=some o->b.e k=some o) (hw:i.mode= .w->∀k,b.b k=A.b k) (Y:i.mode= .k->∀m,(A.F (.obj m)/\A.b (.obj m)=none/\A.e (.obj m)=none)->(b.F (.obj m)/\b.b (.obj m)=none/\b.e (.obj m)=none)) (Ep:i.mode= .r->∀k o,A.e k=some o->o.xs≠none->b.e k=some o)
  (aw:i.mode= .c->∀m,b.b (.obj m)=A.b (.obj m)/\b.e (.obj m)=A.e (.obj m)/\(A.F (.obj m)->b.F (.obj m))):e1 P q n0 i b x:=by
 cases i with
 |s i=>
  cases i with
  |v d i=>
   simp only[e1]at h⊢;obtain⟨c,p,J,U,t,E⟩:=h;by_cases L:∃agg sz y,i= .loadB agg sz y
   ·obtain⟨agg,sz,y,rfl⟩:=L;simp only[eU.looks,eY.looks,gO.looks]at a;have K:=hl a;refine⟨c,p,?_,U,fun _=>.inl rfl,E⟩;rw[<-J];simp only[qY,<-K];have hm:=Wx (by simp[eU.mode]);simp only[qY]at J;cases B:dY A.t y<;>simp only[tF];rename_i key off;rw[B]at J;simp only[tF]at J;cases w:A.b key with
    |none=>simp[w]at J
    |some cs=>have:b.b key=A.b key:=hm key (by rw[w];simp);rw[this,w]
   by_cases N:∃M zero ok y z,i= .mgetB M zero ok y z
   ·obtain⟨M,zero,ok,y,z,rfl⟩:=N;simp only[eU.looks,eY.looks,gO.looks]at a;obtain⟨t1,t2⟩:=k6 a;refine⟨c,p,?_,U,fun _=>.inl rfl,E⟩;simp only[qY]at J⊢;rw[<-hl t1,<-hl t2];exact YB (Wx (by simp[eU.mode])) J
   replace t:i.isLoad=true->q=true\/zC (i.ptrOf A.t)=true:=fun g=>(t g).resolve_left (fun w=>by cases i<;>simp[gO.isB]at w;exact L ⟨_,_,_,rfl⟩;exact N ⟨_,_,_,_,_,rfl⟩);have akB:i.isLoad=true->(eU.s (.v d i)).mode= .l:=by intro g;cases i<;>simp only[gO.isLoad]at g<;>first|(cases g;done)|(simp[eU.mode,gO.isLoad];done)|exact absurd ⟨_,_,_,rfl⟩ L|exact absurd ⟨_,_,_,_,_,rfl⟩ N
   by_cases g:i.isLoad=true
   ·have W:∀(B:zC (i.ptrOf A.t)=false),∀k,A.b k≠none->b.b k=A.b k:=fun B k l=>av (akB g) k (.inl ((t g).resolve_right (by rw[B];simp))) l;cases i<;>simp only[gO.isLoad]at g<;>try(cases g;done)
    case mget M zero ok y z=>simp only[eU.looks,eY.looks,gO.looks]at a;obtain⟨t1,t2⟩:=k6 a;refine⟨c,p,?_,U,fun _=>.inr (t rfl),E⟩;simp only[qY]at J⊢;rw[<-hl t1,<-hl t2];exact YB (W rfl) J
    case ment y=>simp only[eU.looks,eY.looks,gO.looks]at a;refine⟨c,p,?_,U,fun _=>.inr (t rfl),E⟩;simp only[qY]at J⊢;rw[<-hl a];exact amx (W rfl) J
    case mlen y=>simp only[eU.looks,eY.looks,gO.looks]at a;refine⟨c,p,?_,U,fun _=>.inr (t rfl),E⟩;simp only[qY]at J⊢;rw[<-hl a];exact amW (W rfl) J
    case loadB agg sz y=>exact absurd ⟨_,_,_,rfl⟩ L
    case mgetB=>exact absurd ⟨_,_,_,_,_,rfl⟩ N
    rename_i agg sz y;simp only[eU.looks,eY.looks,gO.looks]at a;have K:=hl a;refine⟨c,p,?_,U,fun _=>.inr (by have:=t rfl;simpa only[gO.ptrOf,<-K]using this),E⟩;rw[<-J];simp only[qY,<-K];have hm:=av (by simp[eU.mode,gO.isLoad]);simp only[qY]at J;have F:=t rfl;simp only[gO.ptrOf]at F;cases B:dY A.t y<;>simp only[tF]
    ·rename_i key off;rw[B]at J F;simp only[tF]at J;cases w:A.b key with
     |none=>simp[w]at J
     |some cs=>have:b.b key=A.b key:=hm key (by rcases F with h|h;exact .inl h;cases key;exact .inr ⟨_,rfl⟩;simp[zC]at h) (by rw[w];simp);rw[this,w]
    ·rename_i ed key n i f;rw[B]at J F;simp only[tF]at J;have Z:q=true:=F.resolve_right (by simp[zC]);unfold Ad at J;split at J
     ·rename_i n' el j5 xs he;rw[he,lp (by simp[eU.mode,gO.isLoad]) Z key _ he Ψ]
     ·cases J
   ·have g:i.isLoad=false:=by simpa using g
    refine⟨c,p,?_,U,(fun e=>by rw[g]at e;cases e),E⟩;rw[<-J];exact(arN (by simpa only[eU.looks,eY.looks]using a) g).symm
  |box d key v=>
   cases key with
   |some m=>simp only[e1]at h
   |none=>simp only[e1,eU.looks,eY.looks]at h a⊢;obtain⟨J,U,t⟩:=h;rw[<-hl a];exact⟨H d rfl (.inl rfl) J,U,t⟩
  |alloc d key z=>
   cases key with
   |some m=>simp only[e1]at h
   |none=>simp only[e1]at h⊢;exact⟨H d rfl (.inl rfl) h.1,h.2⟩
  |store sz u v=>simp only[e1,eU.looks,eY.looks]at h a⊢;obtain⟨J,U⟩:=k6 a;rw[<-hl J,<-hl U];obtain⟨k,off,cs,g1,g2,g3,g4⟩:=h;exact⟨k,off,cs,g1,by rw[hw rfl];exact g2,g3,g4⟩
  |bsl d sz el xs=>simp only[e1,eU.looks,eY.looks]at h a⊢;rw[<-IF a];exact⟨H d rfl (.inr (.inl rfl)) h.1,h.2⟩
  |app d sz el u v=>
   simp only[e1,eU.looks,eY.looks]at h a⊢;obtain⟨J,U⟩:=k6 a;rw[<-hl J,<-hl U];obtain⟨tag,xs,O,ys,g1,g2,h⟩:=h;refine⟨tag,xs,O,ys,g1,g2,?_⟩;rcases h with⟨k,o,X,aC,S⟩|⟨X,aC,S,b3⟩
   ·exact .inl ⟨k,o,X,bS rfl k o aC,S⟩
   ·exact .inr ⟨X,aC,H d rfl (.inr (.inr (.inl rfl))) S,b3⟩
  |bslm d key sz el xs=>simp only[e1]at h
  |mks d key sz el z x=>simp only[e1]at h
  |appm d key sz el u v=>simp only[e1,eU.looks,eY.looks]at h a⊢;obtain⟨J,U⟩:=k6 a;rw[<-hl J,<-hl U];obtain⟨k,n,xs,O,ys,g1,g2,g3,g4,g5⟩:=h;exact⟨k,n,xs,O,ys,g1,g2,Ep rfl k _ g3 Ψ,g4,g5⟩
  |storeE sz u v=>simp only[e1,eU.looks,eY.looks]at h a⊢;obtain⟨J,U⟩:=k6 a;rw[<-hl J,<-hl U];obtain⟨k,n,i,f,el,ed,xs,q,g1,g2,g3⟩:=h;exact⟨k,n,i,f,el,ed,xs,q,g1,Ep rfl k _ g2 Ψ,g3⟩
  |mkmap d key=>
   cases key with
   |none=>simp only[e1]at h
   |some m=>simp only[e1]at h⊢;exact⟨Y rfl m h.1,h.2⟩
  |mput M u k v=>simp only[e1,eU.looks,eY.looks]at h a⊢;obtain⟨t1,t3⟩:=k6 a;obtain⟨t1,t2⟩:=k6 t1;obtain⟨m,cs,cs',g1,g2,g3,g4⟩:=h;rw[<-hl t1,<-hl t2,<-hl t3];exact⟨m,cs,cs',g1,by rw[hw rfl];exact g2,g3,g4⟩
  |range d key x=>simp only[e1]at h
 |next d x=>simp only[e1]at h
 |call d f xs=>
  simp only[e1,eU.looks]at h a⊢;obtain⟨J,U⟩:=k6 a;rw[<-hl J,<-IF U];obtain⟨n,dH,g1,h⟩:=h;rcases h with⟨⟨s,ak,r,rm,V,R,Q,h6,G,qm⟩,g3⟩|⟨cU,r,rfl,V,R⟩;rotate_left
  ·exact⟨n,dH,g1,.inr ⟨cU,r,rfl,H cU rfl (.inr (.inr (.inr rfl))) V,R⟩⟩
  refine⟨n,dH,g1,.inl ⟨⟨s,ak,r,rm,fun k cs l=>?_,fun k o l=>?_,Q,h6,⟨G.1,G.2.1,G.2.2.1,G.2.2.2.1,fun k l=>?_⟩,qm⟩,g3⟩⟩
  ·cases k with
   |loc m=>rw[Q.1 m]at l;cases l
   |obj m=>rw[(aw rfl m).1];exact V _ _ l
  ·cases k with
   |loc m=>rw[Q.2 m]at l;cases l
   |obj m=>rw[(aw rfl m).2.1];exact R _ _ l
  ·obtain⟨⟨j,rfl⟩,d2,d3,d4,d5⟩:=G.2.2.2.2 k l;exact⟨⟨j,rfl⟩,(aw rfl j).2.2 d2,by rw[(aw rfl j).1];exact d3,by rw[(aw rfl j).2.1];exact d4,d5⟩
def mo(d:bd Nat):lK:=⟨d,.tuple [],[],[],none⟩
def lL(P:cI)(q:Bool)(n0:Nat)(g:du)(A:dE)(x:lK):Prop:=
 match g.g with
 |none=>e1 P q n0 g.i A x
 |some (s,w)=>match A.t s with
  | .bool b=>(b=w/\e1 P q n0 g.i A x)\/(b= !w/\x=mo g.i.dst)
  | .tuple []=>x=mo g.i.dst
  |_=>eu
def fU:C7->C7->Bool
 | .v,_=>true
 |_,.v=>true
 | .l,.l| .l,.n| .l,.s| .l,.a| .l,.c=>true
 | .n,.n| .n,.s| .n,.a| .n,.c=>true
 | .s,.l| .s,.n| .s,.s| .s,.c=>true
 | .a,.l| .a,.n| .a,.s=>true
 | .c,.l| .c,.n| .c,.s=>true
 | .l,.m| .m,.l| .m,.m| .m,.n| .m,.s| .m,.a| .s,.m| .a,.m=>true
 | .l,.k| .m,.k| .n,.k| .s,.k=>true
 | .m,.r| .r,.m| .r,.n| .r,.s| .n,.r| .s,.r| .r,.w| .w,.r=>true
 |_,_=>false
def Bb(g h:du):Bool:=(match g.i.dst with|some d=> !(h.looks.contains d)&&h.i.dst !=some d|none=>true)&&(match h.i.dst with|some d=> !(g.looks.contains d)|none=>true)&&fU g.i.mode h.i.mode
def acg(q:Bool)(n0:Nat)(m:C7)(d:bd Nat)(A:dE):KC q n0 m d A (mo d):=⟨rfl,fun k a=>by simp[mo,ae]at a,fun k a=>by simp[mo,ae]at a,fun k a=>by simp[mo]at a,fun _ k o a=>by simp[mo,ae]at a,fun _ k o a=>by simp[mo,ae]at a⟩
def QL{P:cI}{q:Bool}{n0:Nat}{g:du}{A:dE}{x:lK}(h:lL P q n0 g A x):KC q n0 g.i.mode g.i.dst A x:=by
 unfold lL at h;split at h
 ·exact acf h
 ·split at h
  ·rcases h with⟨_,h⟩|⟨_,rfl⟩
   ·exact acf h
   ·exact acg _ _ _ _ _
  ·subst h;exact acg _ _ _ _ _
  ·exact h.elim
def uw{A:dE}{x:lK}{k:aB}(h:ae k x.bw=none):(A.do x).b k=A.b k:=by simp[dE.do,ju,h]
def ux{A:dE}{x:lK}{k:aB}(h:ae k x.ew=none):(A.do x).e k=A.e k:=by simp[dE.do,ju,h]
def LB{A:dE}{x:lK}{k:aB}(h:(A.do x).b k=none):A.b k=none:=by
 simp only[dE.do,ju]at h;split at h
 ·cases h
 ·exact h
def LC{A:dE}{x:lK}{k:aB}(h:(A.do x).e k=none):A.e k=none:=by
 simp only[dE.do,ju]at h;split at h
 ·cases h
 ·exact h
def mN{α:Type}{o:bd α}(h:¬o.isSome):o=none:=by cases o<;>simp at h⊢
def Rj{P:cI}{q:Bool}{n0:Nat}{g:du}{A a:dE}{x:lK}(h:lL P q n0 g A x)(b:r2 g.looks A.t a.t)(hm:e1 P q n0 g.i A x->e1 P q n0 g.i a x):lL P q n0 g a x:=by
 unfold lL at h⊢;cases bf:g.g with
 |none=>simp only[bf]at h⊢;exact hm h
 |some c=>
  obtain⟨s,w⟩:=c;have:A.t s=a.t s:=b s (by simp[du.looks,bf]);simp only[bf,this]at h⊢;split at h
  ·rcases h with⟨J,U⟩|h
   ·exact .inl ⟨J,hm U⟩
   ·exact .inr h
  ·exact h
  ·exact h
def swap{P:cI}{q:Bool}{n0:Nat}{g h:du}(S:Bb g h=true){A:dE}{x y:lK}(Q:lL P q n0 g A x)(X:lL P q n0 h (A.do x) y):
  lL P q n0 h A y/\lL P q n0 g (A.do y) x/\x.apart y:=by
 simp only[Bb,cQ]at S;obtain⟨⟨H,O⟩,hm⟩:=S;have c8:=QL Q;have w:∀d l,g.i.dst=some d->h.i.dst=some l->d≠l:=by intro d l a b e;simp only[a,cQ,bne_iff_ne]at H;exact H.2 (by rw[b,e])
 have W:r2 h.looks (A.do x).t A.t:=by intro i hi;simp only[dE.do];rw[if_neg];intro e;rw[c8.d]at e;simp only[e,cQ,sO,List.contains_eq_mem,iO]at H;exact H.1 hi
 have E:∀k,(ae k x.bw).isSome->_:=c8.b;have hle:∀k,(ae k x.ew).isSome->_:=c8.e;have R:lL P q n0 h A y:=by
  refine Rj X W fun J=>Rh J (fun i hi=>W i (by simp[du.looks,hi])) (fun e k t B=>?_) (fun e k B=>?_) (fun e L k o ar z=>?_) (fun d G U f=>?_) (fun e k o ar=>?_) (fun e k=>?_) (fun e m f=>⟨f.1.1,LB f.2.1,LC f.2.2⟩) (fun e k o ar z=>?_) (fun e m=>?_)
  ·rw[uw (mN fun c=>?_)];rcases E k c with⟨a,_⟩|a|⟨a,⟨j,b⟩,r⟩|⟨a,_⟩;rotate_left 3
   ·rw[e,a]at hm;simp[fU]at hm
   ·rw[e,a]at hm;simp[fU]at hm
   ·rw[e,a]at hm;simp[fU]at hm
   ·rcases t with t|⟨m,t⟩
    ·rw[t]at r;cases r
    ·rw[t]at b;cases b
  ·rw[uw (mN fun c=>?_)];rcases E k c with⟨a,_⟩|a|⟨a,_⟩|⟨a,_⟩<;>(rw[e,a]at hm;simp[fU]at hm)
  ·rw[e]at hm;cases v:ae k x.ew with
   |none=>rw[ux v]at ar;exact ar
   |some o'=>
    exfalso;have M:(A.do x).e k=some o':=by simp[dE.do,ju,v]
    rw[M]at ar;cases ar;rcases hle k (by simp[v])with⟨a,_⟩|⟨a,_⟩|⟨a,_,r⟩|⟨a,_⟩
    ·exact z (c8.xn (.inr a) k _ v)
    ·exact z (c8.xn (.inl a) k _ v)
    ·rw[L]at r;cases r
    ·rw[a]at hm;simp[fU]at hm
  ·exact⟨f.1.1,LB f.2.1,LC f.2.2⟩
  ·rw[ux (mN fun c=>?_)]at ar
   ·exact ar
   ·rw[e]at hm;rcases hle k c with⟨a,_⟩|⟨a,_⟩|⟨a,_⟩|⟨a,_⟩<;>(rw[a]at hm;simp[fU]at hm)
  ·rw[uw (mN fun c=>?_)];rw[e]at hm;rcases E k c with⟨a,_⟩|a|⟨a,_⟩|⟨a,_⟩<;>(rw[a]at hm;simp[fU]at hm)
  ·rw[e]at hm;cases v:ae k x.ew with
   |none=>rw[ux v]at ar;exact ar
   |some o'=>
    exfalso;have M:(A.do x).e k=some o':=by simp[dE.do,ju,v]
    rw[M]at ar;cases ar;rcases hle k (by simp[v])with⟨a,_⟩|⟨a,_⟩|⟨a,_⟩|⟨a,_⟩
    ·exact z (c8.xn (.inr a) k _ v)
    ·rw[a]at hm;simp[fU]at hm
    ·rw[a]at hm;simp[fU]at hm
    ·rw[a]at hm;simp[fU]at hm
  ·rw[e]at hm;refine⟨?_,?_,fun K=>K.1⟩
   ·rw[uw (mN fun c=>?_)];rcases E _ c with⟨a,d,_,b,_⟩|a|⟨a,_⟩|⟨a,_⟩;rotate_left 3
    ·rw[a]at hm;simp[fU]at hm
    ·cases b
    ·rw[a]at hm;simp[fU]at hm
    ·rw[a]at hm;simp[fU]at hm
   ·rw[ux (mN fun c=>?_)];rcases hle _ c with⟨a,d,_,b,_⟩|⟨a,_⟩|⟨a,_⟩|⟨a,_⟩
    ·cases b
    ·rw[a]at hm;simp[fU]at hm
    ·rw[a]at hm;simp[fU]at hm
    ·rw[a]at hm;simp[fU]at hm
 have ty:=QL R;have V:r2 g.looks A.t (A.do y).t:=by intro i hi;simp only[dE.do];rw[if_neg];intro e;rw[ty.d]at e;simp only[e,sO,List.contains_eq_mem,iO]at O;exact O hi
 refine⟨R,?_,?_⟩
 ·refine Rj Q V fun J=>Rh J (fun i hi=>V i (by simp[du.looks,hi])) (fun e k t B=>?_) (fun e k B=>?_) (fun e L k o ar z=>?_) (fun d G U f=>?_) (fun e k o ar=>?_) (fun e k=>?_) (fun e m f=>?_) (fun e k o ar z=>?_) (fun e m=>?_)
  ·refine uw (mN fun c=>?_);rcases ty.b k c with⟨a,d,_,_,b,_⟩|a|⟨a,⟨j,b⟩,r⟩|⟨_,_,b,_⟩;rotate_left 3
   ·exact B b
   ·exact B b
   ·rw[e,a]at hm;simp[fU]at hm
   ·rcases t with t|⟨m,t⟩
    ·rw[t]at r;cases r
    ·rw[t]at b;cases b
  ·refine uw (mN fun c=>?_);rcases ty.b k c with⟨a,d,_,_,b,_⟩|a|⟨a,_⟩|⟨_,_,b,_⟩;rotate_left 3
   ·exact B b
   ·exact B b
   ·rw[e,a]at hm;simp[fU]at hm
   ·rw[e,a]at hm;simp[fU]at hm
  ·rw[ux (mN fun c=>?_)]
   ·exact ar
   ·rcases ty.e k c with⟨a,d,_,_,_,b⟩|⟨a,b⟩|⟨a,_,r⟩|⟨a,_⟩
    ·rw[b]at ar;cases ar
    ·exact z (ty.ex a k o c ar)
    ·rw[L]at r;cases r
    ·rw[e,a]at hm;simp[fU]at hm
  ·refine⟨⟨f.1,fun F=>?_⟩,?_,?_⟩
   ·rcases ty.r _ F with⟨l,a,b⟩|⟨_,⟨j,b⟩,_⟩
    ·simp only[aB.loc.injEq]at b;exact w d l G a Ω
    ·cases b
   ·rw[uw (mN fun c=>?_)]
    ·exact f.2.1
    ·rcases ty.b _ c with⟨a,l,b,r,_⟩|a|⟨a,⟨j,b⟩,_⟩|⟨a,⟨j,b⟩,_⟩;rotate_left 3
     ·cases b
     ·simp only[aB.loc.injEq]at r;exact w d l G b Ω
     ·rcases U with b|b|b|b<;>(rw[a,b]at hm;simp[fU]at hm)
     ·cases b
   ·rw[ux (mN fun c=>?_)]
    ·exact f.2.2
    ·rcases ty.e _ c with⟨a,l,b,r,_⟩|⟨a,b⟩|⟨a,⟨j,b⟩,_⟩|⟨a,o,b,_⟩
     ·simp only[aB.loc.injEq]at r;exact w d l G b Ω
     ·rcases b with b|⟨l,b,r,_⟩
      ·exact b f.2.2
      ·simp only[aB.loc.injEq]at r;exact w d l G b Ω
     ·cases b
     ·rw[f.2.2]at b;cases b
  ·rw[ux (mN fun c=>?_)]
   ·exact ar
   ·rw[e]at hm;rcases ty.e k c with⟨a,d,_,_,_,b⟩|⟨a,_⟩|⟨a,_⟩|⟨a,_⟩
    ·rw[b]at ar;cases ar
    ·rw[a]at hm;simp[fU]at hm
    ·rw[a]at hm;simp[fU]at hm
    ·rw[a]at hm;simp[fU]at hm
  ·refine uw (mN fun c=>?_);rw[e]at hm;rcases ty.b k c with⟨a,_⟩|a|⟨a,_⟩|⟨a,_⟩<;>(rw[a]at hm;simp[fU]at hm)
  ·rw[e]at hm;refine⟨⟨f.1,fun F=>?_⟩,?_,?_⟩
   ·rcases ty.r _ F with⟨l,a,b⟩|⟨a|a,_⟩
    ·cases b
    ·rw[a]at hm;simp[fU]at hm
    ·rw[a]at hm;simp[fU]at hm
   ·rw[uw (mN fun c=>?_)]
    ·exact f.2.1
    ·rcases ty.b _ c with⟨a,_⟩|a|⟨a,_⟩|⟨a,_⟩<;>(rw[a]at hm;simp[fU]at hm)
   ·rw[ux (mN fun c=>?_)]
    ·exact f.2.2
    ·rcases ty.e _ c with⟨a,_⟩|⟨a,_⟩|⟨a,_⟩|⟨a,o,b,_⟩
     ·rw[a]at hm;simp[fU]at hm
     ·rw[a]at hm;simp[fU]at hm
     ·rw[a]at hm;simp[fU]at hm
     ·rw[f.2.2]at b;cases b
  ·rw[ux (mN fun c=>?_)]
   ·exact ar
   ·rw[e]at hm;rcases ty.e k c with⟨a,d,_,_,_,b⟩|⟨a,_⟩|⟨a,_⟩|⟨a,_⟩
    ·rw[b]at ar;cases ar
    ·rw[a]at hm;simp[fU]at hm
    ·rw[a]at hm;simp[fU]at hm
    ·rw[a]at hm;simp[fU]at hm
  ·rw[e]at hm;refine⟨?_,?_,fun K=>⟨K,fun F=>?_⟩⟩;rotate_left 2
   ·rcases ty.r _ F with⟨l,_,b⟩|⟨b|b,_⟩
    ·cases b
    ·rw[b]at hm;simp[fU]at hm
    ·rw[b]at hm;simp[fU]at hm
   ·refine uw (mN fun c=>?_);rcases ty.b _ c with⟨a,d,_,b,_⟩|a|⟨a,_⟩|⟨a,_⟩;rotate_left 3
    ·rw[a]at hm;simp[fU]at hm
    ·cases b
    ·rw[a]at hm;simp[fU]at hm
    ·rw[a]at hm;simp[fU]at hm
   ·refine ux (mN fun c=>?_);rcases ty.e _ c with⟨a,d,_,b,_⟩|⟨a,_⟩|⟨a,_⟩|⟨a,_⟩
    ·cases b
    ·rw[a]at hm;simp[fU]at hm
    ·rw[a]at hm;simp[fU]at hm
    ·rw[a]at hm;simp[fU]at hm
 ·refine⟨fun i hi e=>?_,fun k t=>mN fun c=>?_,fun k t=>mN fun c=>?_⟩
  ·rw[c8.d]at hi;rw[ty.d]at e;exact w i i hi e rfl
  ·rcases E k t with⟨p,d,a2,a3,_⟩|p|⟨p,⟨j,a2⟩,_⟩|⟨p,_⟩<;>rcases ty.b k c with⟨n,l,s,u,_⟩|n|⟨n,⟨dh,s⟩,_⟩|⟨n,⟨dh,s⟩,_⟩;all_goals first|(rw[p,n]at hm;simp[fU]at hm;done)|skip
   ·rw[a3]at u;simp only[aB.loc.injEq]at u;exact w d l a2 s Ω
   ·rw[a3]at s;cases s
   ·rw[a3]at s;cases s
   ·rw[a2]at u;cases u
  ·rcases hle k t with⟨p,d,a2,a3,_,a4⟩|⟨p,a2⟩|⟨p,⟨j,a2⟩,_⟩|⟨p,Z,a2,_⟩<;>rcases ty.e k c with⟨n,l,s,u,_,N⟩|⟨n,s⟩|⟨n,⟨dh,s⟩,_⟩|⟨n,Y,s,_⟩
   ·rw[a3]at u;simp only[aB.loc.injEq]at u;exact w d l a2 s Ω
   ·rw[p,n]at hm;simp[fU]at hm
   ·rw[a3]at s;cases s
   ·rw[a4]at s;cases s
   ·rcases a2 with a2|⟨d,a2,a3,_⟩
    ·exact a2 N
    ·rw[a3]at u;simp only[aB.loc.injEq]at u;exact w d l a2 s Ω
   ·rw[p,n]at hm;simp[fU]at hm
   ·rw[p,n]at hm;simp[fU]at hm
   ·rw[p,n]at hm;simp[fU]at hm
   ·rw[a2]at u;cases u
   ·rw[p,n]at hm;simp[fU]at hm
   ·rw[p,n]at hm;simp[fU]at hm
   ·rw[p,n]at hm;simp[fU]at hm
   ·rw[N]at a2;cases a2
   ·rw[p,n]at hm;simp[fU]at hm
   ·rw[p,n]at hm;simp[fU]at hm
   ·rw[p,n]at hm;simp[fU]at hm
def yF(C:fm)(A:dE)(a:Act)(w:World):Prop:= ∃st ν,mw st A/\(∀k,A.F k->fresh st.n st.o k)/\c9 C st a w ν
def Ob{st:bp}{A:dE}(h:mw st A)(d:Nat)(p:af):mw {st with t:=put d p st.t} (A.do ⟨some d,p,[],[],none⟩):=by
 refine⟨fun i=>?_,fun k=>?_,fun k=>?_⟩
 ·simp only[dE.do,qv,dU,h.t]
 ·simpa[dE.do,ju,ae]using h.b k
 ·simpa[dE.do,ju,ae]using h.e k
def Yh{st:bp}{A:dE}(h:mw st A)(d:Nat)(p:af)(o':List aB)(rm:bd aB):mw {st with t:=put d p st.t,o:=o'} (A.do ⟨some d,p,[],[],rm⟩):=by have:=Ob h d p;exact⟨this.t,this.b,this.e⟩
def ac3{α:Type}{β:Type}:∀l:List (aB×α),cL ([]:List (aB×β)) l=l
 |[]=>rfl
 |(k,x)::r=>by simp[cL,ae,ac3 r]
def BZ{st:bp}{A:dE}(h:mw st A)(d:Nat)(p:af)(κ:aB)(cs:List af)(n':Nat)(o':List aB)(rm:bd aB):mw ⟨put d p st.t,cJ κ cs st.b,st.e,n',o'⟩ (A.do ⟨some d,p,[(κ,cs)],[],rm⟩):=by
 refine⟨fun i=>?_,fun k=>?_,fun k=>?_⟩
 ·simp only[dE.do,qv,dU,h.t]
 ·simp only[dE.do,ju,ae,jk,h.b];by_cases e:κ=k<;>simp[e]
 ·simpa[dE.do,ju,ae]using h.e k
def Iz{st:bp}{A:dE}(h:mw st A)(κ:aB)(cs:List af)(p:af):mw {st with b:=cJ κ cs st.b} (A.do ⟨none,p,[(κ,cs)],[],none⟩):=by
 refine⟨fun i=>?_,fun k=>?_,fun k=>?_⟩
 ·simpa[dE.do]using h.t i
 ·simp only[dE.do,ju,ae,jk,h.b];by_cases e:κ=k<;>simp[e]
 ·simpa[dE.do,ju,ae]using h.e k
def xV{st:bp}{A:dE}(h:mw st A)(d:Nat)(p:af)(κ:aB)(o:dW)(n':Nat)(o':List aB)(rm:bd aB):mw ⟨put d p st.t,st.b,cJ κ o st.e,n',o'⟩ (A.do ⟨some d,p,[],[(κ,o)],rm⟩):=by
 refine⟨fun i=>?_,fun k=>?_,fun k=>?_⟩
 ·simp only[dE.do,qv,dU,h.t]
 ·simpa[dE.do,ju,ae]using h.b k
 ·simp only[dE.do,ju,ae,jk,h.e];by_cases e:κ=k<;>simp[e]
def Yg{st:bp}{A:dE}(h:mw st A)(κ:aB)(o:dW)(p:af):mw {st with e:=cJ κ o st.e} (A.do ⟨none,p,[],[(κ,o)],none⟩):=by
 refine⟨fun i=>?_,fun k=>?_,fun k=>?_⟩
 ·simpa[dE.do]using h.t i
 ·simpa[dE.do,ju,ae]using h.b k
 ·simp only[dE.do,ju,ae,jk];by_cases e:κ=k<;>simp[e,h.e]
def Ov{α:Type}{k:aB}:∀{l:List (aB×α)},k∈l.map (·.1)->(ae k l).isSome
 |[],h=>by simp at h
 |(i,x)::r,h=>by
  simp only[ae];split
  ·rfl
  ·rename_i e;simp only[gY,gI]at h;rcases h with h|h
   ·exact absurd h.symm e
   ·exact Ov h
def xd{n:Nat}{o:List aB}{κ:aB}:∀j,fresh n (κ::o) j->fresh n o j/\j≠κ:=by intro j a;simp only[fresh,gI,not_or]at a⊢;exact⟨⟨a.1,a.2.2⟩,a.2.1⟩
def ait{n:Nat}{o:List aB}{κ j:aB}(h:fresh n o j)(a:some κ≠some j):fresh n (κ::o) j:=by simp only[fresh,gI,not_or]at h⊢;exact⟨h.1,fun e=>a (by rw[e]),h.2⟩
def Ri{P:cI}{aT:List (Nat×ev)}(N:hY P aT=true){C:fm}{q:Bool}{n0:Nat}{i:eU}{o:Oper}(ar:wD C.N aT i o=true){A:dE}{x:lK}(l:e1 P q n0 i A x){a:Act}{w:World}(E:yF C A a w)
  {K:Act->World->Prop} {Q:Exit->Act->World->Prop} (H:∀br w',yF C (A.do x) br w'->K br w'):o.wp P a w K Q:=by
 obtain⟨st,ν,g,F,E⟩:=E;have y9:∀(t:List (Nat×af)) (b:List (aB×List af)) (e:List (aB×dW)) (d:bd Nat) (p:af) (bw:List (aB×List af)) (ew:List (aB×dW)),∀k,(A.do ⟨d,p,bw,ew,none⟩).F k->fresh st.n st.o k:=fun t b e d p bw ew k j=>F k j.1;have V:∀(d:bd Nat) (p:af) (bw:List (aB×List af)) (ew:List (aB×dW)) (κ:aB),∀k,(A.do ⟨d,p,bw,ew,some κ⟩).F k->fresh st.n (κ::st.o) k:=fun d p bw ew κ k j=>ait (F k j.1) j.2;cases i with
 |s i=>
  have L:FD C.N aT i o=true:=by simpa only[wD]using ar
  cases i with
  |v d i=>simp only[e1]at l;obtain⟨c,p,J,U,_,rfl⟩:=l;rw[<-acm g]at J;refine ky (κ:= .loc 0) (n':=0) (o₁:=[]) N E L (fun h=>by simp[eY.makes]at h) (fun h=>by simp[eY.makes]at h) (st':={st with t:=put d p st.t}) (by simp only[fk,J]) U fun br w' bn B=>H _ _ ⟨_,bn,Ob g d p,fun k j=>F k j.1,B⟩
  |box d key v=>
   cases key with
   |some m=>simp only[e1]at l
   |none=>simp only[e1]at l;obtain⟨⟨J,_⟩,U,rfl⟩:=l;rw[<-jI g]at U;refine ky (κ:= .loc (n0+d)) (n':=st.n) (o₁:= .loc (n0+d)::st.o) N E L (fun _=>F _ J) (fun _=>xd) (st':=⟨put d (.ptr (.loc (n0+d)) 0) st.t,cJ (.loc (n0+d)) (cells (cE st.t v)) st.b,st.e,st.n,.loc (n0+d)::st.o⟩) (by simp only[fk]) U fun br w' bn B=>H _ _ ⟨_,bn,?_,V _ _ _ _ _,B⟩;rw[jI g];exact BZ g d _ _ _ _ _ _
  |alloc d key z=>
   cases key with
   |some m=>simp only[e1]at l
   |none=>simp only[e1]at l;obtain⟨⟨J,_⟩,rfl⟩:=l;refine ky (κ:= .loc (n0+d)) (n':=st.n) (o₁:= .loc (n0+d)::st.o) N E L (fun _=>F _ J) (fun _=>xd) (st':=⟨put d (.ptr (.loc (n0+d)) 0) st.t,cJ (.loc (n0+d)) (cells z) st.b,st.e,st.n,.loc (n0+d)::st.o⟩) (by simp only[fk]) trivial fun br w' bn B=>H _ _ ⟨_,bn,BZ g d _ _ _ _ _ _,V _ _ _ _ _,B⟩
  |store sz u v=>simp only[e1]at l;obtain⟨k,off,cs,J,U,G,rfl⟩:=l;rw[<-jI g]at J G;rw[<-g.b]at U;refine ky (κ:= .loc 0) (n':=0) (o₁:=[]) N E L (fun h=>by simp[eY.makes]at h) (fun h=>by simp[eY.makes]at h) (st':={st with b:=cJ k (nD cs off (cells (cE st.t v))) st.b}) (by simp only[fk,J,U]) G fun br w' bn B=>H _ _ ⟨{st with b:=cJ k (nD cs off (cells (cE st.t v))) st.b},bn,by rw[jI g];exact Iz g k _ _,fun k j=>F k j.1,B⟩
  |bsl d sz el xs=>simp only[e1]at l;obtain⟨⟨J,_⟩,U,rfl⟩:=l;rw[<-vM g]at U;refine ky (κ:= .loc (n0+d)) (n':=st.n) (o₁:= .loc (n0+d)::st.o) N E L (fun _=>F _ J) (fun _=>xd) (st':=⟨put d (.slice sz (.own (.loc (n0+d))) (xs.map (cE st.t))) st.t,st.b,cJ (.loc (n0+d)) ⟨xs.length,el,sz,none⟩ st.e,st.n,.loc (n0+d)::st.o⟩) (by simp only[fk]) U fun br w' bn B=>H _ _ ⟨_,bn,?_,V _ _ _ _ _,B⟩;rw[vM g];exact xV g d _ _ _ _ _ _
  |app d sz el u v=>
   simp only[e1]at l;obtain⟨tag,xs,l1,ys,J,U,l⟩:=l;rw[<-jI g]at J U;rcases l with⟨k,ow,rfl,G,R,rfl⟩|⟨rfl,G,⟨R,_⟩,rfl⟩
   ·rw[<-g.e]at G;refine ky (κ:= .loc 0) (n':=0) (o₁:=[]) N E L (fun h=>by simp[eY.makes,J]at h) (fun h=>by simp[eY.makes,J]at h) (st':=⟨put d (.slice sz (.own k) (xs++ys)) st.t,st.b,cJ k ⟨xs.length+ys.length,el,sz,none⟩ st.e,st.n,st.o⟩) (by simp only[fk,J,U,G,and_self,if_true]) R.2 fun br w' bn B=>H _ _ ⟨_,bn,xV g d _ _ _ _ _ _,fun k j=>F k j.1,B⟩
   ·refine ky (κ:= .loc (n0+d)) (n':=st.n) (o₁:= .loc (n0+d)::st.o) N E L (fun _=>F _ R) (fun _=>xd) (st':=⟨put d (.slice sz (.own (.loc (n0+d))) ys) st.t,st.b,cJ (.loc (n0+d)) ⟨ys.length,el,sz,none⟩ st.e,st.n,.loc (n0+d)::st.o⟩) (by simp only[fk,J,U,and_self,if_true]) G fun br w' bn B=>H _ _ ⟨_,bn,xV g d _ _ _ _ _ _,V _ _ _ _ _,B⟩
  |bslm d key sz el xs=>simp only[e1]at l
  |mks d key sz el z x=>simp only[e1]at l
  |appm d key sz el u v=>simp only[e1]at l;obtain⟨k,n,xs,l1,ys,J,U,G,R,rfl⟩:=l;rw[<-jI g]at J U;rw[<-g.e]at G;refine ky (κ:= .loc 0) (n':=0) (o₁:=[]) N E L (fun h=>by simp[eY.makes,J]at h) (fun h=>by simp[eY.makes,J]at h) (st':=⟨put d (.row sz k (xs.length+ys.length)) st.t,st.b,cJ k ⟨xs.length+ys.length,el,sz,some (xs++ys)⟩ st.e,st.n,st.o⟩) (by simp only[fk,uo,J,U,G,and_self,if_true]) R fun br w' bn B=>H _ _ ⟨_,bn,xV g d _ _ _ _ _ _,fun k j=>F k j.1,B⟩
  |storeE sz u v=>simp only[e1]at l;obtain⟨k,n,i,f,el,ed,xs,q,J,U,G,R,rfl⟩:=l;rw[<-jI g]at J R;rw[<-g.e]at U;refine ky (κ:= .loc 0) (n':=0) (o₁:=[]) N E L (fun h=>by simp[eY.makes]at h) (fun h=>by simp[eY.makes]at h) (st':={st with e:=cJ k ⟨n,el,ed,some (xs.set i (oc q f (cells (cE st.t v))))⟩ st.e}) (by simp only[fk,sF,J,U,G,and_self,if_true]) R fun br w' bn B=>H _ _ ⟨{st with e:=cJ k ⟨n,el,ed,some (xs.set i (oc q f (cells (cE st.t v))))⟩ st.e},bn,by rw[jI g];exact Yg g k _ _,fun k j=>F k j.1,B⟩
  |mkmap d key=>
   cases key with
   |none=>simp only[e1]at l
   |some m=>simp only[e1]at l;obtain⟨⟨J,_⟩,rfl⟩:=l;exact ky (κ:= .obj m) (n':=st.n) (o₁:= .obj m::st.o) N E L (fun _=>F _ J) (fun _=>xd) (st':=⟨put d (.gmap (.obj m)) st.t,cJ (.obj m) [.hdm 0 []] st.b,st.e,st.n,.obj m::st.o⟩) (by simp only[fk]) trivial fun br w' bn B=>H _ _ ⟨_,bn,BZ g d _ _ _ _ _ _,V _ _ _ _ _,B⟩
  |mput cA u k v=>simp only[e1]at l;obtain⟨m,cs,cs',J,U,G,rfl⟩:=l;rw[<-jI g]at J;rw[<-jI g,<-jI g]at G;rw[<-g.b]at U;exact ky (κ:= .loc 0) (n':=0) (o₁:=[]) N E L (fun h=>by simp[eY.makes]at h) (fun h=>by simp[eY.makes]at h) (st':={st with b:=cJ m cs' st.b}) (by simp only[fk,J,U,G]) trivial fun br w' bn B=>H _ _ ⟨{st with b:=cJ m cs' st.b},bn,Iz g m _ _,fun k j=>F k j.1,B⟩
  |range d key x=>simp only[e1]at l
 |next d x=>simp only[e1]at l
 |call d f xs=>
  simp only[e1]at l;obtain⟨n,dH,J,l⟩:=l;rw[<-jI g]at J;rcases l with⟨⟨s,ak,r,rm,Y,W,dj,h6,nf,qm,Dm,rfl⟩,_⟩|⟨cU,r,rfl,Y,W,dj,rfl⟩;rotate_left
  ·rw[<-vM g]at W dj;simp only[wD]at ar;split at ar
   ·rename_i pO args CT oE;simp only[cQ,ey]at ar;obtain⟨⟨⟨ao,aC⟩,bh⟩,b3⟩:=ar;have X:=e3 E bh;rw[J]at X;refine TX E oE ao aC X (Fw E b3) (K:=fun st'=>st'={st with t:=put cU r st.t,o:= .loc (n0+cU)::st.o}) ⟨⟨[],[]⟩,_,some (n0+cU),st.n,fun _=>.loc (n0+cU)::st.o,fun k cs j=>by simp[ae]at j,fun k cs j=>by simp[ae]at j,⟨fun _=>rfl,fun _=>rfl⟩,jj (fun _ h=>h.elim) _ W,dj,fun m hm=>?_,fun k ec ak bM j=>?_,?_⟩ ?_
    ·cases hm;exact F _ Y.1
    ·obtain⟨_,rfl⟩:=bM;have:=xd k j;exact⟨by simpa[cK]using this.1,fun m hm=>by cases hm;exact this.2⟩
    ·rintro ec p6 ⟨rfl,rfl⟩;refine⟨⟨fun m hm=>by simp[ae]at hm,fun m hm=>by simp[ae]at hm⟩,?_⟩;simp[after,ac3,e5]
    ·rintro st' br w' bn rfl B;exact H _ _ ⟨_,bn,Yh g cU r _ _,V _ _ _ _ _,B⟩
   ·cases ar
  rw[<-vM g]at qm Dm;simp only[wD]at ar;split at ar
  ·rename_i pO args CT oE;simp only[cQ,ey]at ar;obtain⟨⟨⟨ao,aC⟩,bh⟩,b3⟩:=ar;have X:=e3 E bh;rw[J]at X;obtain⟨a7,bK,cp,eD,Z⟩:=nf;refine TW E oE ao aC X (Fw E b3) (K:=fun st'=>st'=after st s ak d r) (.inl ⟨s,_,fun k cs j=>⟨by rw[g.b];exact(Y k cs j).1,.inl (by simp[j]),(Y k cs j).2⟩,fun k o' j=>⟨by rw[g.e];exact(W k o' j).1,.inr (by simp[j]),(W k o' j).2⟩,dj,qm,Dm,?_⟩) ?_
   ·rintro ec p6 ⟨rfl,rfl⟩;refine⟨⟨fun m hm=>?_,fun m hm=>?_⟩,rfl⟩
    ·rcases a7 _ hm with h|h
     ·exact .inl h
     ·exact .inr (F _ (Z _ h).2.1).2
    ·rcases bK _ hm with h|h
     ·exact .inl h
     ·exact .inr (F _ (Z _ h).2.1).2
   ·rintro st' br w' bn rfl B;refine H _ _ ⟨_,bn,⟨fun i=>?_,fun k=>?_,fun k=>?_⟩,fun k j=>?_,B⟩
    ·simp only[after,dE.do];cases d with
     |none=>simpa[e5]using g.t i
     |some d=>simp only[e5,qv,dU,g.t]
    ·simp only[after,dE.do,ju,n4,tG];by_cases M:(ae k s.b).isSome
     ·have:=cp k M;obtain⟨y,S⟩:=fx.1 this;simp[M,S]
     ·cases aA:ae k ak.b with
      |none=>simp only[M,g.b];cases A.b k<;>simp
      |some y=>
       rcases a7 k (by simp[aA])with h|h
       ·exact absurd h M
       ·have:=Z k h;simp[M,g.b,this]
    ·simp only[after,dE.do,ju,n4,tG];by_cases M:(ae k s.e).isSome
     ·have:=eD k M;obtain⟨y,S⟩:=fx.1 this;simp[M,S]
     ·cases aA:ae k ak.e with
      |none=>simp only[M,g.e];cases A.e k<;>simp
      |some y=>
       rcases bK k (by simp[aA])with h|h
       ·exact absurd h M
       ·have:=Z k h;simp[M,g.e,this]
    ·have MQ:=F k j.1;have nS:=E.lookNone MQ;simp only[after];refine⟨MQ.1,fun O=>?_⟩;rcases kd.1 O with O|O
     ·exact MQ.2 O
     ·rcases kd.1 O with O|O
      ·rcases a7 k (Ov O)with h|h
       ·obtain⟨y,S⟩:=fx.1 h;have:=(Y k y S).1;rw[<-g.b,nS.1]at this;cases this
       ·exact j.2 h
      ·rcases bK k (Ov O)with h|h
       ·obtain⟨y,S⟩:=fx.1 h;have:=(W k y S).1;rw[<-g.e,nS.2]at this;cases this
       ·exact j.2 h
  ·cases ar
def adm{P:cI}{aT:List (Nat×ev)}(B:hY P aT=true){C:fm}{q:Bool}{n0:Nat}{ops:Array Oper}{g:du}{o:Oper}{j:Nat}(N:ops[j]? =some o)(ar:DQ C.N aT ops.toList g o=true){A:dE}{x:lK}(c:lL P q n0 g A x){a:Act}{w:World}(v:yF C A a w)
  {K:Act->World->Prop} {Q:Exit->Act->World->Prop} (r:∀br w',yF C (A.do x) br w'->K br w'):wpOp P ops Q j K a w:=by
 unfold wpOp;rw[N];simp only;simp only[DQ,cQ]at ar;obtain⟨m,y⟩:=ar;unfold lL at c;cases l:g.g with
 |none=>
  cases e:o.guard with
  |some x=>simp[e,l]at m
  |none=>
   have hw:qd o (yielded ops a.tmps)=true:=by simp[qd,e]
   rw[if_pos hw];simp only[l]at c;exact .inl (Ri B y c v r)
 |some S=>
  obtain⟨s,want⟩:=S;cases e:o.guard with
  |none=>simp[e,l]at m
  |some t=>
   obtain⟨L,b2⟩:=t;simp only[e,l,cQ,ey,gy]at m;obtain⟨⟨⟨⟨rfl,U⟩,M⟩,R⟩,J⟩:=m;obtain⟨st,ν,f,H,z⟩:=id v;obtain⟨G,F⟩:=ac9 z U M;simp only[l]at c;have E:∀(h:x=mo g.i.dst),K (a.put o.dst undef) w:=by
    rintro rfl;rw[R];refine r _ _ ⟨_,ν,?_,fun k O=>?_,z.put J (p:= .tuple []) (by simp[aU,c7,undef])⟩
    ·refine⟨fun i=>?_,fun k=>?_,fun k=>?_⟩
     ·simp only[dE.do,mo];cases g.i.dst with
      |none=>simpa[e5]using f.t i
      |some d=>simp only[e5,qv,dU,f.t]
     ·simpa[dE.do,ju,ae,mo]using f.b k
     ·simpa[dE.do,ju,ae,mo]using f.e k
    ·exact H k O.1
   split at c
   ·rename_i b u;have n:=G b (by rw[f.t];exact u);rcases c with⟨rfl,c⟩|⟨rfl,c⟩
    ·have hw:qd o (yielded ops a.tmps)=true:=by simp[qd,e,n]
     rw[if_pos hw];exact .inl (Ri B y c v r)
    ·have hw:¬(qd o (yielded ops a.tmps)=true):=by simp[qd,e,n]
     rw[if_neg hw];exact E c
   ·rename_i u;have n:=F (by rw[f.t];exact u);have hw:¬(qd o (yielded ops a.tmps)=true):=by simp[qd,e,n]
    rw[if_neg hw];exact E c
   ·exact c.elim
def w6(P:cI)(q:Bool)(n0:Nat)(K:dE->Prop):List (Nat×du)->dE->Prop
 |[],A=>K A
 |(_,g)::r,A=> ∃x,lL P q n0 g A x/\w6 P q n0 K r (A.do x)
def RQ{P:cI}{q:Bool}{n0:Nat}{K:dE->Prop}{i:Nat}{g:du}:∀(b a:List (Nat×du)) (A:dE),(∀x∈b,Bb x.2 g=true)->w6 P q n0 K (b++(i,g)::a) A->∃x,lL P q n0 g A x/\w6 P q n0 K (b++a) (A.do x)
 |[],a,A,_,h=>h
 |(j,f)::b,a,A,aw,h=>by simp only[b7,w6]at h;obtain⟨y,e,h⟩:=h;obtain⟨x,d,h⟩:=RQ b a (A.do y) (fun z c=>aw z (q1 _ c)) h;obtain⟨s1,s2,s3⟩:=swap (aw _ (List.mem_cons_self ..)) e d;refine⟨x,s1,y,s2,?_⟩;rw[<-dE.do_comm A s3];exact h
def rem(a:Array Bool):Nat->List du->List (Nat×du)
 |_,[]=>[]
 |k,g::r=>if a.getD k false then rem a (k+1) r else(k,g)::rem a (k+1) r
def aa6{l a:Array Bool}:∀(gs:List du) (k:Nat),(∀j,k<=j->l.getD j false=a.getD j false)->rem l k gs=rem a k gs
 |[],_,_=>rfl
 |g::r,k,h=>by simp only[rem,h k (dO _),aa6 r (k+1) fun j b=>h j Ω]
def Ht{l:Array Bool}{i j:Nat}(h:i<l.size):(l.setIfInBounds i true).getD j false=if i=j then true else l.getD j false:=by
 simp only[Array.getD_eq_getD_getElem?];by_cases e:i=j
 ·subst e;simp[h]
 ·simp[e]
def PU{l:Array Bool}{i:Nat}(hi:i<l.size)(s:l.getD i false=false):∀(gs:List du) (k:Nat),k<=i->i<k+gs.length->∃c d g,gs[i-k]? =some g/\rem l k gs=c++(i,g)::d/\rem (l.setIfInBounds i true) k gs=c++d/\
  ∀x∈c,gs[x.1-k]? =some x.2/\k<=x.1/\x.1<i/\l.getD x.1 false=false
 |[],k,J,U=>by simp at U;omega
 |g::r,k,J,U=>by
  by_cases e:k=i
  ·subst e;refine⟨[],rem l (k+1) r,g,Ψ,by simp[rem,s],?_,fun x a=>by simp at a⟩;simp only[rem,Ht hi,if_true,ca];exact aa6 r (k+1) fun j t=>by rw[Ht hi,if_neg Ω]
  ·obtain⟨c,d,m,p,q,n,o⟩:=PU hi s r (k+1) Ω (by simp at U;omega);have f:i-k=(i-(k+1))+1:=Ω
   have h:(l.setIfInBounds i true).getD k false=l.getD k false:=by rw[Ht hi,if_neg Ω]
   by_cases b:l.getD k false=true
   ·refine⟨c,d,m,by rw[f];simpa using p,by simp only[rem,b,if_true,q],by simp only[rem,h,b,if_true,n],fun x a=>?_⟩;obtain⟨f1,f2,f3,f4⟩:=o x a;refine⟨?_,Ω,f3,f4⟩;have:x.1-k=(x.1-(k+1))+1:=Ω
    rw[this];simpa using f1
   ·have b:l.getD k false=false:=by simpa using b
    refine⟨(k,g)::c,d,m,by rw[f];simpa using p,by simp[rem,b,q],by simp[rem,h,b,n],fun x a=>?_⟩;rcases gI.1 a with rfl|a
    ·exact⟨Ψ,dO _,by simp;omega,b⟩
    ·obtain⟨f1,f2,f3,f4⟩:=o x a;refine⟨?_,Ω,f3,f4⟩;have:x.1-k=(x.1-(k+1))+1:=Ω
     rw[this];simpa using f1
def wx(acc:List Nat):List Edge->Nat
 |[]=>0
 |e::r=>if Region.binds .any e then(2 ^ e.on)|||(acc.getD e.on 0)|||wx acc r else wx acc r
def tI(acc:List Nat):List Oper->List Nat
 |[]=>acc
 |o::os=>tI (acc++[wx acc o.after.toList]) os
def Fy(m:Nat)(h:du):Nat->List du->Bool
 |_,[]=>true
 |i,g::r=>(m.testBit i||Bb g h)&&Fy m h (i+1) r
def Fh:List du->List du->List Nat->Bool
 |_,[],_=>true
 |pre,h::r,m::ms=>Fy m h 0 pre&&Fh (pre++[h]) r ms
 |_,_,[]=>false
def Dx:Nat->List Oper->Bool
 |_,[]=>true
 |k,o::os=>o.after.toList.all (fun e=> !Region.binds .any e||decide (e.on<k))&&Dx (k+1) os
def Df(gs:List du)(ops:List Oper):Bool:=Dx 0 ops&&Fh [] gs (tI [] ops)
def Ol{acc:List Nat}{j:Nat}:∀{es:List Edge},(wx acc es).testBit j=true->∃e∈es,Region.binds .any e=true/\(j=e.on\/(acc.getD e.on 0).testBit j=true)
 |[],h=>by simp[wx]at h
 |e::r,h=>by
  simp only[wx]at h;split at h
  ·rename_i b;simp only[Nat.testBit_or,oe]at h;rcases h with(h|h)|h
   ·refine⟨e,Ψ,b,.inl ?_⟩;rw[Nat.testBit_two_pow]at h;have c:e.on=j:=by simpa using h
    exact c.symm
   ·exact⟨e,Ψ,b,.inr h⟩
   ·obtain⟨a,J,U⟩:=Ol h;exact⟨a,by simp[J],U⟩
  ·obtain⟨a,J,U⟩:=Ol h;exact⟨a,by simp[J],U⟩
def Om:∀(os:List Oper) (acc:List Nat) (k:Nat),k<acc.length->(tI acc os)[k]? =acc[k]?
 |[],acc,k,_=>rfl
 |o::os,acc,k,h=>by simp only[tI];rw[Om os _ k d6,rR h]
def Yr:∀(os:List Oper) (acc:List Nat) (k:Nat) (o:Oper),os[k]? =some o->∃a,(tI acc os)[acc.length+k]? =some (wx a o.after.toList)/\a.length=acc.length+k/\∀i,i<a.length->a[i]? =(tI acc os)[i]?
 |[],acc,k,o,h=>by simp at h
 |o'::os,acc,0,o,h=>by
  simp only[List.getElem?_cons_zero,dU]at h;subst h;refine⟨acc,?_,Ψ,fun i hi=>?_⟩
  ·simp only[tI,Nat.add_zero];rw[Om os _ _ Ψ];simp
  ·simp only[tI];rw[Om os _ i d6,rR hi]
 |o'::os,acc,k+1,o,h=>by simp only[List.getElem?_cons_succ]at h;obtain⟨a,J,U,b⟩:=Yr os (acc++[wx acc o'.after.toList]) k o h;refine⟨a,?_,by rw[U];simp;omega,fun i hi=>by rw[b i hi];rfl⟩;simp only[tI];rw[show acc.length+(k+1)=(acc++[wx acc o'.after.toList]).length+k from by simp;omega];exact J
def Rf(ops:Array Oper)(a:Array Bool):Prop:= ∀k o,ops[k]? =some o->a.getD k false=true->∀e∈o.after.toList,Region.binds .any e=true->a.getD e.on false=true
def amt{ops:Array Oper}{b:Array Bool}(r:Rf ops b):∀(k:Nat) (o:Oper),ops[k]? =some o->(∀e∈o.after.toList,Region.binds .any e=true->b.getD e.on false=true)->∀j,((tI [] ops.toList).getD k 0).testBit j=true->b.getD j false=true:=by
 intro k;induction k using Nat.strongRecOn with
 |_ k p=>
  intro o ar f j g;obtain⟨c,J,U,q⟩:=Yr ops.toList [] k o (by simpa using ar);simp only[List.length_nil,Nat.zero_add]at J U;rw[List.getD_eq_getElem?_getD,J]at g;obtain⟨e,he,h,a⟩:=Ol g;rcases a with rfl|a
  ·exact f e he h
  ·by_cases n:e.on<c.length
   ·have hm:c.getD e.on 0=(tI [] ops.toList).getD e.on 0:=by rw[List.getD_eq_getElem?_getD,q _ n,List.getD_eq_getElem?_getD]
    have s:k<ops.size:=(Array.getElem?_eq_some_iff.1 ar).1;have d:ops[e.on]? =some ops[e.on]:=Array.getElem?_eq_getElem Ω;rw[hm]at a;exact p e.on Ω _ d (fun l i m=>r e.on _ d (f e he h) l i m) j a
   ·rw[List.getD_eq_getElem?_getD,q0 Ω]at a;simp at a
def abm{m:Nat}{h:du}:∀{gs:List du} {i0:Nat},Fy m h i0 gs=true->∀i g,gs[i]? =some g->m.testBit (i0+i)=true\/Bb g h=true
 |[],i0,_,i,g,bf=>by simp at bf
 |b::r,i0,a,0,g,bf=>by simp only[Fy,cQ,oe]at a;simp only[List.getElem?_cons_zero,dU]at bf;subst bf;simpa using a.1
 |b::r,i0,a,i+1,g,bf=>by simp only[Fy,cQ]at a;have:=abm a.2 i g (by simpa using bf);rwa[show i0+1+i=i0+(i+1)from by omega]at this
def ZM:∀{gs pre:List du} {ms:List Nat},Fh pre gs ms=true->∀j h,gs[j]? =some h->∀i g,i<pre.length+j->(pre++gs)[i]? =some g->(ms.getD j 0).testBit i=true\/Bb g h=true
 |[],pre,ms,_,j,h,a,_,_,_,_=>by simp at a
 |c::r,pre,[],b,j,h,a,_,_,_,_=>by simp[Fh]at b
 |c::r,pre,m::ms,b,j,h,a,i,g,hi,bf=>by
  simp only[Fh,cQ]at b;cases j with
  |zero=>simp only[List.getElem?_cons_zero,dU]at a;subst a;rw[rR Ω]at bf;simpa using abm b.1 i g bf
  |succ j=>have:=ZM b.2 j h (by simpa using a) i g d6 (by simpa using bf);simpa using this
def Uu:∀{os:List Oper} {k:Nat},Dx k os=true->∀i o,os[i]? =some o->∀e∈o.after.toList,Region.binds .any e=true->e.on<k+i
 |[],k,_,i,o,ar,_,_,_=>by simp at ar
 |o'::os,k,h,0,o,ar,e,he,a=>by simp only[Dx,cQ,j6]at h;simp only[List.getElem?_cons_zero,dU]at ar;subst ar;have:=h.1 e he;simpa[a]using this
 |o'::os,k,h,i+1,o,ar,e,he,a=>by simp only[Dx,cQ]at h;have:=Uu h.2 i o (by simpa using ar) e he a;omega
def VX{N:Nat}{aT:List (Nat×ev)}{ops:List Oper}:∀{gs:List du} {os:List Oper},la N aT ops gs os=true->∀(i:Nat) (g:du),gs[i]? =some g->∃o,os[i]? =some o/\DQ N aT ops g o=true
 |[],[],_,i,g,h=>by simp at h
 |[],_::_,h,_,_,_=>by simp[la]at h
 |_::_,[],h,_,_,_=>by simp[la]at h
 |a::gs,o::os,h,0,g,bf=>by simp only[la,cQ]at h;simp only[List.getElem?_cons_zero,dU]at bf;subst bf;exact⟨o,Ψ,h.1⟩
 |a::gs,o::os,h,i+1,g,bf=>by simp only[la,cQ]at h;obtain⟨o',J,U⟩:=VX h.2 i g (by simpa using bf);exact⟨o',by simpa using J,U⟩
def Mt{N:Nat}{aT:List (Nat×ev)}{ops:List Oper}:∀{gs:List du} {os:List Oper},la N aT ops gs os=true->gs.length=os.length
 |[],[],_=>rfl
 |[],_::_,h=>by simp[la]at h
 |_::_,[],h=>by simp[la]at h
 |g::gs,o::os,h=>by simp only[la,cQ]at h;simp[Mt h.2]
def aa7{l:Array Bool}:∀(gs:List du) (k:Nat),rem l k gs=[]\/ ∃i g,i<gs.length/\gs[i]? =some g/\l.getD (k+i) false=false/\∀j,j<i->l.getD (k+j) false=true
 |[],_=>.inl rfl
 |g::r,k=>by
  by_cases h:l.getD k false=true
  ·rcases aa7 (l:=l) r (k+1)with J|⟨i,a,J,U,b,d⟩
   ·left;simp only[rem,h,if_true,J]
   ·refine .inr ⟨i+1,a,by simp;omega,by simpa using U,by rw[show k+(i+1)=k+1+i from by omega];exact b,fun j c=>?_⟩;cases j with
    |zero=>simpa using h
    |succ j=>rw[show k+(j+1)=k+1+j from by omega];exact d j Ω
  ·exact .inr ⟨0,g,Ψ,Ψ,by simpa using h,fun j c=>Ω⟩
def adN{P:cI}{aT:List (Nat×ev)}(aJ:hY P aT=true){C:fm}{q:Bool}{n0:Nat}{ops:Array Oper}{gs:List du}(L:la C.N aT ops.toList gs ops.toList=true)(V:Df gs ops.toList=true){K:dE->Prop}{Q:Exit->Act->World->Prop}
  (W:∀A a w,K A->yF C A a w->Q .normal a w):∀(fuel:Nat) (b:Array Bool) (A:dE) (a:Act) (w:World),b.size=ops.size->Rf ops b->(rem b 0 gs).length<=fuel->w6 P q n0 K (rem b 0 gs) A->yF C A a w->wpAny P .any ops Q fuel b a w:=by
 simp only[Df,cQ]at V;obtain⟨MD,t⟩:=V;have hlen:gs.length=ops.size:=by simpa using Mt L
 have S:∀(b:Array Bool) (A:dE) (a:Act) (w:World),b.size=ops.size->w6 P q n0 K (rem b 0 gs) A->yF C A a w->Region.ready .any ops b=[]->Q .normal a w:=by
  intro b A a w m d j p;rcases aa7 (l:=b) gs 0 with h|⟨i,g,J,U,c,aZ⟩
  ·rw[h]at d;exact W A a w d j
  ·exfalso;have hi:i<ops.size:=Ω
   have M:i∈Region.ready .any ops b:=by
    unfold Region.ready;simp only[oW,List.mem_range,cQ,sO];refine⟨hi,?_,?_⟩
    ·rw[Nat.zero_add]at c;simp only[Array.getD_eq_getD_getElem?]at c⊢;rw[Array.getElem?_eq_getElem Ω]at c⊢;simpa using c
    ·rw[Array.getElem?_eq_getElem hi];simp only[pB,lI];rw[<-Array.all_toList,j6];intro e he;by_cases f:Region.binds .any e=true
     ·have bO:=Uu MD i ops[i] (by simp[hi]) e he f;have:=aZ e.on Ω;rw[Nat.zero_add]at this;simp[this]
     ·simp[f]
   rw[p]at M;simp at M
 intro fuel;induction fuel with
 |zero=>
  intro b A a w m z B d j;have HQ:rem b 0 gs=[]:=List.eq_nil_of_length_eq_zero Ω;have p:Region.ready .any ops b=[]:=by
   rw[List.eq_nil_iff_forall_not_mem];intro i hi;unfold Region.ready at hi;simp only[oW,List.mem_range,cQ,sO]at hi;obtain⟨J,U,_⟩:=hi;have E:b.getD i false=false:=by simp only[Array.getD_eq_getD_getElem?]at U⊢;rw[Array.getElem?_eq_getElem Ω]at U⊢;simpa using U
   obtain⟨H,G,g,_,n,_⟩:=PU Ω E gs 0 Ω Ω;rw[HQ]at n;simp at n
  exact⟨p,S b A a w m d j p⟩
 |succ fuel Y=>
  intro b A a w m z B d j;refine⟨S b A a w m d j,fun i hi=>?_⟩;unfold Region.ready at hi;simp only[oW,List.mem_range,cQ,sO]at hi;obtain⟨J,U,c⟩:=hi;have E:b.getD i false=false:=by simp only[Array.getD_eq_getD_getElem?]at U⊢;rw[Array.getElem?_eq_getElem Ω]at U⊢;simpa using U
  have ar:ops[i]? =some ops[i]:=Array.getElem?_eq_getElem J;have R:∀e∈ops[i].after.toList,Region.binds .any e=true->b.getD e.on false=true:=by rw[ar]at c;simp only[pB,lI]at c;rw[<-Array.all_toList,j6]at c;intro e he f;simpa[f]using c e he
  obtain⟨H,G,g,s,n,N,O⟩:=PU Ω E gs 0 Ω Ω;simp only[Nat.sub_zero]at s O;rw[n]at d;obtain⟨x,Z,u⟩:=RQ H G A (fun y aK=>by
   obtain⟨f1,f2,f3,f4⟩:=O y aK;rcases ZM t i g s y.1 y.2 (by simpa using f3) (by simpa using f1)with h|h
   ·have:=amt z i ops[i] ar R y.1 h;rw[f4]at this;cases this
   ·exact h) d
  obtain⟨o',g1,g2⟩:=VX L i g s;have:o'=ops[i]:=by rw[vm,ar]at g1;exact(e6 g1).symm
  subst this;refine adm aJ ar g2 Z j fun br w' X=>?_;refine Y (b.setIfInBounds i true) (A.do x) br w' (by simpa using m) ?_ ?_ (by rw[N];exact u) X
  ·intro k o v r e he f;rw[Ht Ω]at r⊢;split
   ·rfl
   ·by_cases F:i=k
    ·subst F;rw[ar]at v;cases v;exact R e he f
    ·rw[if_neg F]at r;exact z k o v r e he f
  ·rw[N];rw[n]at B;simp at B⊢;omega
def qu(n0 d:Nat)(st:bp):Prop:= .loc (n0+d)∉st.o/\ae (.loc (n0+d)) st.b=none/\ae (.loc (n0+d)) st.e=none
def gO.loadO(q:Bool)(t:List (Nat×af)):gO->Prop
 | .load _ _ x=>q=true\/zC (cE t x)=true
 | .loadB _ _ _=>True
 | .mgetB _ _ _ _ _=>True
 | .mget _ _ _ _ _=>q=true
 | .ment _=>q=true
 | .mlen _=>q=true
 |_=>True
def nh(q:Bool)(nw:List Nat)(n0:Nat)(st:bp):eY->Prop
 | .v _ i=>i.loadO q st.t
 | .box d none _=>qu n0 d st
 | .alloc d none _=>qu n0 d st
 | .box _ (some _) _=>eu
 | .alloc _ (some _) _=>eu
 | .store _ x _=>match cE st.t x with| .ptr _ _=>True|_=>eu
 | .bslm _ _ _ _ _=>eu
 | .mks _ _ _ _ _ _=>eu
 | .appm _ _ _ _ x _=>match cE st.t x with| .row _ _ _=>True|_=>eu
 | .storeE _ _ _=>True
 | .mkmap _ none=>eu
 | .mkmap _ (some m)=>m∈nw/\ae (.obj m) st.b=none/\ae (.obj m) st.e=none
 | .mput _ _ _ _=>True
 | .range _ _ _=>eu
 | .bsl d _ _ _=>qu n0 d st
 | .app d _ _ x _=>match cE st.t x with
  | .slice _ .nil _=>qu n0 d st
  | .slice _ (.own k) _=>(ae k st.e).bind (·.xs)=none
  |_=>True
def qn(n0:Nat):eY->aB
 | .mkmap _ (some m)=>.obj m
 | .v d _| .box d _ _| .alloc d _ _| .bsl d _ _ _| .app d _ _ _ _| .bslm d _ _ _ _| .appm d _ _ _ _ _| .mkmap d _| .range d _ _| .mks d _ _ _ _ _=>.loc (n0+d)
 | .store _ _ _| .mput _ _ _ _| .storeE _ _ _=>.loc n0
def alY(nw:List Nat)(st:bp)(s a:cR)(rm:bd aB):Prop:=(∀k,(ae k a.b).isSome->(ae k s.b).isSome\/rm=some k)/\(∀k,(ae k a.e).isSome->(ae k s.e).isSome\/rm=some k)/\(∀k,(ae k s.b).isSome->(ae k a.b).isSome)/\(∀k,(ae k s.e).isSome->(ae k a.e).isSome)/\
 (∀k,rm=some k->(∃j,j∈nw/\k= .obj j)/\ae k st.b=none/\ae k st.e=none/\((ae k a.b).isSome\/(ae k a.e).isSome))
def hK(P:cI)(q:Bool)(nw:List Nat)(n:Nat)(args:List af)(st:bp)(d:bd Nat)(K:bp->Prop):Prop:=
 (∃cU r,d=some cU/\qu st.n cU st/\aH (fun _=>eu) args/\uf P n (st.n+cU) args ⟨[],[]⟩ (fun b t'=>b=r/\t'=⟨[],[]⟩)/\K {st with t:=put cU r st.t,o:= .loc (st.n+cU)::st.o})\/
 ∃s a r rm,hy (aM s) s.b st.b/\p9 (aM s) s.e st.e/\hX s/\hX a/\alY nw st s a rm/\aH (aM s) args/\bG P n args s (fun b t'=>b=r/\t'=a)/\(q=true->a.b=[]/\a.e=[])/\K {after st s a d r with o:=st.o}
def k9(P:cI)(q:Bool)(nw:List Nat)(n0:Nat)(st:bp)(K:bp->Prop):eU->Prop
 | .s i=>match fk (qn n0 i) st.n (qn n0 i::st.o) st i with
  |some (c,st')=>nh q nw n0 st i/\c/\K st'
  |none=>eu
 | .call d f xs=>match cE st.t f with
  | .func n dH=>hK P q nw n (cf (xs.map (cE st.t)++dH)) st d K
  |_=>eu
 | .next _ _=>eu
def iQ(P:cI)(q:Bool)(nw:List Nat)(n0:Nat):List du->bp->(bp->Prop)->Prop
 |[],st,K=>K st
 |⟨none,i⟩::r,st,K=>k9 P q nw n0 st (fun st'=>iQ P q nw n0 r st' K) i
 |⟨some (s,want),i⟩::r,st,K=>match get s st.t with
  | .bool b=>(b=want->k9 P q nw n0 {st with t:=put s (.bool want) st.t} (fun st'=>iQ P q nw n0 r st' K) i)/\(b= !want->iQ P q nw n0 r {st with t:=e5 i.dst (.tuple []) (put s (.bool !want) st.t)} K)
  | .tuple []=>iQ P q nw n0 r {st with t:=e5 i.dst (.tuple []) st.t} K
  |_=>eu
structure ue (nw:List Nat) (n0 N:Nat) (qO:List aB) (st:bp) (A:dE):Prop where
 like:mw st A
 n:st.n=n0
 F:∀k,fresh n0 st.o k->(∀j∈nw,k≠ .obj j)->A.F k
 o:∀k∈st.o,k∈qO\/(∃d,d<N/\k= .loc (n0+d))\/ ∃j∈nw,k= .obj j
def C8(nw:List Nat)(A:dE):Prop:= ∀j∈nw,A.b (.obj j)=none->A.e (.obj j)=none->A.F (.obj j)
def C8.do{P:cI}{q:Bool}{n0:Nat}{nw:List Nat}{A:dE}(h:C8 nw A){g:du}{x:lK}(k:lL P q n0 g A x):C8 nw (A.do x):=by
 intro j i c he;refine⟨h j i (LB c) (LC he),fun f=>?_⟩;rcases(QL k).r _ f with⟨d,_,e⟩|⟨_,_,a⟩
 ·cases e
 ·rcases a with a|a
  ·obtain⟨y,b⟩:=fx.1 a;simp[dE.do,ju,b]at c
  ·obtain⟨y,b⟩:=fx.1 a;simp[dE.do,ju,b]at he
def UE{P:cI}{q:Bool}{nw:List Nat}{n0 N:Nat}{qO:List aB}{i:eU}(F:∀d,i.dst=some d->d<N){st:bp}{A:dE}(h:ue nw n0 N qO st A)(ni:C8 nw A){K:bp->Prop}(he:k9 P q nw n0 st K i):∃x st',e1 P q n0 i A x/\K st'/\ue nw n0 N qO st' (A.do x):=by
 have a:=h.like;have Q:∀d,qu n0 d st->(A.F (.loc (n0+d))/\A.b (.loc (n0+d))=none/\A.e (.loc (n0+d))=none):=fun d w=>⟨h.F _ ⟨Ψ,w.1⟩ (fun _ _ e=>by cases e),by rw[<-a.b];exact w.2.1,by rw[<-a.e];exact w.2.2⟩;have H:∀(d:bd Nat) (p:af) (bw:List (aB×List af)) (ew:List (aB×dW)) (κ:aB),∀k,fresh n0 (κ::st.o) k->(∀j∈nw,k≠ .obj j)->(A.do ⟨d,p,bw,ew,some κ⟩).F k:=fun d p bw ew κ k b B=>⟨h.F k (xd k b).1 B,fun e=>(xd k b).2 (e6 e).symm⟩;have G:∀(d:bd Nat) (p:af) (bw:List (aB×List af)) (ew:List (aB×dW)),∀k,fresh n0 st.o k->(∀j∈nw,k≠ .obj j)->(A.do ⟨d,p,bw,ew,none⟩).F k:=fun d p bw ew k b B=>⟨h.F k b B,Ψ⟩;have R:∀d,d<N->∀k∈aB.loc (n0+d)::st.o,k∈qO\/(∃d,d<N/\k= .loc (n0+d))\/ ∃j∈nw,k= .obj j:=fun d F k b=>by
  rcases gI.1 b with rfl|b
  ·exact .inr (.inl ⟨d,F,rfl⟩)
  ·exact h.o k b
 cases i with
 |s i=>
  cases i with
  |v d i=>
   simp only[k9,fk]at he;cases l:hZ st i with
   |none=>simp[l]at he
   |some Ly=>
    obtain⟨c,p⟩:=Ly;simp only[l]at he;obtain⟨J,U,g⟩:=he;refine⟨⟨some d,p,[],[],none⟩,_,⟨c,p,by rw[<-acm a];exact l,U,fun pb=>?_,rfl⟩,g,Ob a d p,h.n,G _ _ _ _,h.o⟩;cases i<;>simp only[gO.isLoad]at pb<;>try(cases pb;done)
    case mget=>exact .inr (.inl J)
    case ment=>exact .inr (.inl J)
    case mlen=>exact .inr (.inl J)
    case loadB=>exact .inl rfl
    case mgetB=>exact .inl rfl
    simp only[nh,gO.loadO,jI a]at J;exact .inr (by simpa only[gO.ptrOf]using J)
  |box d key v=>
   cases key with
   |some m=>simp only[k9,fk,nh,false_and]at he
   |none=>simp only[k9,fk,nh,qn]at he;obtain⟨J,U,g⟩:=he;rw[jI a]at U;refine⟨_,_,⟨Q d J,U,rfl⟩,g,?_,h.n,H _ _ _ _ _,R d (F d rfl)⟩;rw[jI a];exact BZ a d _ _ _ _ _ _
  |alloc d key z=>
   cases key with
   |some m=>simp only[k9,fk,nh,false_and]at he
   |none=>simp only[k9,fk,nh,qn]at he;obtain⟨J,U,g⟩:=he;exact⟨_,_,⟨Q d J,rfl⟩,g,BZ a d _ _ _ _ _ _,h.n,H _ _ _ _ _,R d (F d rfl)⟩
  |store sz u v=>
   simp only[k9,fk]at he;cases hu:cE st.t u with
   |ptr k off=>
    cases E:ae k st.b with
    |none=>simp[hu,E]at he
    |some cs=>simp only[hu,E]at he;obtain⟨J,U,g⟩:=he;rw[jI a]at U hu;refine⟨⟨none,.junk,[(k,nD cs off (cells (dY A.t v)))],[],none⟩,_,⟨k,off,cs,hu,by rw[<-a.b];exact E,U,rfl⟩,g,?_,h.n,G _ _ _ _,h.o⟩;rw[jI a];exact Iz a k _ _
   |_=>
    exfalso;simp only[hu]at he;split at he
    ·have:=he.1;simp[nh,hu]at this
    ·exact he
  |bsl d sz el xs=>simp only[k9,fk,nh,qn]at he;obtain⟨J,U,g⟩:=he;rw[vM a]at U;refine⟨_,_,⟨Q d J,U,rfl⟩,g,?_,h.n,H _ _ _ _ _,R d (F d rfl)⟩;rw[vM a];exact xV a d _ _ _ _ _ _
  |app d sz el u v=>
   simp only[k9,fk]at he;cases hu:cE st.t u with
   |slice L tag xs=>
    cases l:cE st.t v with
    |slice Z Y ys=>
     simp only[hu,l]at he;by_cases S:L=sz/\Z=sz
     ·obtain⟨rfl,rfl⟩:=S;rw[jI a]at hu l;cases tag with
      |no=>simp at he
      |tr k j=>simp at he
      |lo k=>simp at he
      |nil=>simp only[and_self,if_true,nh,jI a,hu,qn]at he;obtain⟨J,U,g⟩:=he;exact⟨_,_,⟨.nil,xs,Y,ys,hu,l,.inr ⟨rfl,U,Q d J,rfl⟩⟩,g,xV a d _ _ _ _ _ _,h.n,H _ _ _ _ _,R d (F d rfl)⟩
      |own k=>
       cases b:ae k st.e with
       |none=>simp[b]at he
       |some o=>simp only[and_self,if_true,b]at he;obtain⟨J,U,g⟩:=he;exact⟨_,_,⟨.own k,xs,Y,ys,hu,l,.inl ⟨k,o,rfl,by rw[<-a.e];exact b,⟨by simpa[nh,jI a,hu,b]using J,U⟩,rfl⟩⟩,g,xV a d _ _ _ _ _ _,h.n,G _ _ _ _,h.o⟩
     ·simp[S]at he
    |_=>simp[hu,l]at he
   |_=>simp[hu]at he
  |bslm d key sz el xs=>simp only[k9,fk,nh,false_and]at he
  |mks d key sz el z x=>simp only[k9,fk,nh,false_and]at he;split at he<;>simp at he
  |appm d key sz el u v=>
   simp only[k9,fk]at he;cases hu:cE st.t u with
   |row L k n=>
    cases l:cE st.t v with
    |slice Z Y ys=>
     simp only[hu,l,uo]at he;by_cases S:L=sz/\Z=sz
     ·obtain⟨rfl,rfl⟩:=S;rw[jI a]at hu l;simp only[and_self,if_true]at he;cases b:ae k st.e with
      |none=>simp[b]at he
      |some o=>
       obtain⟨n',gJ,O,Pg⟩:=o;cases Pg with
       |none=>simp[b]at he
       |some xs=>
        simp only[b]at he;by_cases M:n'=n/\gJ=el/\O=Z
        ·obtain⟨rfl,rfl,rfl⟩:=M;simp only[and_self,if_true]at he;obtain⟨J,U,g⟩:=he;exact⟨_,_,⟨k,n',xs,Y,ys,hu,l,by rw[<-a.e];exact b,U,rfl⟩,g,xV a d _ _ _ _ _ _,h.n,G _ _ _ _,h.o⟩
        ·simp[M]at he
     ·simp[S]at he
    |_=>simp[hu,l,uo]at he
   |slice L tag xs=>
    exfalso;simp only[hu]at he;split at he
    ·have:=he.1;simp[nh,hu]at this
    ·exact he
   |_=>simp[hu,uo]at he
  |storeE sz u v=>
   simp only[k9,fk]at he;cases hu:cE st.t u with
   |rptr L k n i f=>
    cases b:ae k st.e with
    |none=>simp[hu,sF,b]at he
    |some o=>
     obtain⟨n',el,O,Pg⟩:=o;cases Pg with
     |none=>simp[hu,sF,b]at he
     |some xs=>
      simp only[hu,sF,b]at he;by_cases M:n'=n/\O=L
      ·obtain⟨rfl,rfl⟩:=M;simp only[and_self,if_true]at he;cases bM:xs[i]? with
       |none=>simp[bM]at he
       |some q=>simp only[bM]at he;obtain⟨J,U,g⟩:=he;rw[jI a]at U hu;refine⟨⟨none,.junk,[],[(k,⟨n',el,O,some (xs.set i (oc q f (cells (dY A.t v))))⟩)],none⟩,_,⟨k,n',i,f,el,O,xs,q,hu,by rw[<-a.e];exact b,bM,U,rfl⟩,g,?_,h.n,G _ _ _ _,h.o⟩;rw[jI a];exact Yg a k _ _
      ·simp[M]at he
   |_=>simp[hu,sF]at he
  |mkmap d key=>
   cases key with
   |none=>simp only[k9,fk,nh,false_and]at he
   |some m=>
    simp only[k9,fk,nh,qn]at he;obtain⟨⟨bA,J,U⟩,_,g⟩:=he;rw[a.b]at J;rw[a.e]at U;refine⟨_,_,⟨⟨ni m bA J U,J,U⟩,rfl⟩,g,BZ a d _ _ _ _ _ _,h.n,H _ _ _ _ _,fun k b=>?_⟩;rcases gI.1 b with rfl|b
    ·exact .inr (.inr ⟨m,bA,rfl⟩)
    ·exact h.o k b
  |mput cA u k v=>
   simp only[k9,fk,nh]at he;cases hu:cE st.t u with
   |gmap m=>
    cases E:ae m st.b with
    |none=>simp[hu,E]at he
    |some cs=>
     cases hm:qN cA (cE st.t k) (cE st.t v) cs with
     |none=>simp[hu,E,hm]at he
     |some cs'=>simp only[hu,E,hm]at he;rw[jI a]at hu;rw[jI a,jI a]at hm;exact⟨⟨none,.junk,[(m,cs')],[],none⟩,_,⟨m,cs,cs',hu,by rw[<-a.b];exact E,hm,rfl⟩,he.2.2,Iz a m _ _,h.n,G _ _ _ _,h.o⟩
   |_=>simp[hu]at he
  |range d key x=>simp only[k9,nh,false_and]at he;split at he<;>exact he.elim
 |next d x=>simp only[k9]at he
 |call d f xs=>
  simp only[k9]at he;cases w:cE st.t f with
  |func n dH=>
   simp only[w]at he;rw[jI a]at w;rcases he with⟨cU,r,rfl,bQ,V,dj,h6⟩|⟨s,W,r,rm,bQ,V,dj,h6,nf,qm,Dm,aeg,aeh⟩
   ·rw[vM a]at V dj;have X:=h.n;subst X;refine⟨⟨some cU,r,[],[],some (.loc (st.n+cU))⟩,_,⟨n,dH,w,.inr ⟨cU,r,rfl,Q cU bQ,V,dj,rfl⟩⟩,h6,Yh a cU r _ _,rfl,H _ _ _ _ _,R cU (F cU rfl)⟩
   rw[vM a]at qm Dm;obtain⟨a7,bK,cp,eD,dr⟩:=nf;refine⟨⟨d,r,W.b,W.e,rm⟩,_,⟨n,dH,w,.inl ⟨⟨s,W,r,rm,fun k cs b=>⟨by rw[<-a.b];exact(bQ k cs b).1,(bQ k cs b).2.2⟩,fun k o b=>⟨by rw[<-a.e];exact(V k o b).1,(V k o b).2.2⟩,dj,h6,⟨a7,bK,cp,eD,fun k b=>?_⟩,qm,Dm,rfl⟩,aeg⟩⟩,aeh,⟨fun i=>?_,fun k=>?_,fun k=>?_⟩,h.n,fun k b B=>⟨h.F k b B,fun r9=>?_⟩,h.o⟩
   ·obtain⟨⟨j,B,rfl⟩,aC,bh,b3⟩:=dr k b;rw[a.b]at aC;rw[a.e]at bh;exact⟨⟨j,rfl⟩,ni j B aC bh,aC,bh,b3⟩
   ·simp only[after,dE.do];cases d with
    |none=>simpa[e5]using a.t i
    |some d=>simp only[e5,qv,dU,a.t]
   ·simp only[after,dE.do,ju,n4,tG];by_cases t:(ae k s.b).isSome
    ·have:=cp k t;obtain⟨y,aK⟩:=fx.1 this;simp[t,aK]
    ·cases X:ae k W.b with
     |none=>simp only[t,a.b];cases A.b k<;>simp
     |some y=>
      rcases a7 k (by simp[X])with h|h
      ·exact absurd h t
      ·have:=dr k h;simp[t,this]
   ·simp only[after,dE.do,ju,n4,tG];by_cases t:(ae k s.e).isSome
    ·have:=eD k t;obtain⟨y,aK⟩:=fx.1 this;simp[t,aK]
    ·cases X:ae k W.e with
     |none=>simp only[t,a.e];cases A.e k<;>simp
     |some y=>
      rcases bK k (by simp[X])with h|h
      ·exact absurd h t
      ·have:=dr k h;simp[t,this]
   ·obtain⟨⟨j,kn,rfl⟩,_⟩:=dr k r9;exact B j kn rfl
  |_=>simp[w]at he
def AX(N:Nat):List du->Bool
 |[]=>true
 |g::r=>j8 N g.i.dst&&AX N r
def Ax:Nat->List du->List (Nat×du)
 |_,[]=>[]
 |k,g::r=>(k,g)::Ax (k+1) r
def Rv{nw:List Nat}{n0 N:Nat}{a:List aB}{st:bp}{A:dE}(h:ue nw n0 N a st A){s:Nat}{p:af}(b:get s st.t=p):ue nw n0 N a {st with t:=put s p st.t} A:=by
 refine⟨⟨fun i=>?_,h.like.b,h.like.e⟩,h.n,h.F,h.o⟩;simp only[qv];split
 ·rename_i e;subst e;rw[<-b];exact h.like.t _
 ·exact h.like.t i
def Rw{nw:List Nat}{n0 N:Nat}{a:List aB}{st:bp}{A:dE}(h:ue nw n0 N a st A)(d:bd Nat):ue nw n0 N a {st with t:=e5 d (.tuple []) st.t} (A.do (mo d)):=by
 refine⟨⟨fun i=>?_,fun k=>?_,fun k=>?_⟩,h.n,fun k c b=>⟨h.F k c b,by simp[mo]⟩,h.o⟩
 ·simp only[dE.do,mo];cases d with
  |none=>simpa[e5]using h.like.t i
  |some d=>simp only[e5,qv,dU,h.like.t]
 ·simpa[dE.do,ju,ae,mo]using h.like.b k
 ·simpa[dE.do,ju,ae,mo]using h.like.e k
def DC{P:cI}{q:Bool}{nw:List Nat}{n0 N:Nat}{l:List aB}{K:bp->Prop}:∀(gs:List du) (k:Nat),AX N gs=true->∀(st:bp) (A:dE),ue nw n0 N l st A->C8 nw A->iQ P q nw n0 gs st K->w6 P q n0 (fun n=> ∃st',K st'/\ue nw n0 N l st' n) (Ax k gs) A
 |[],k,_,st,A,h,_,he=>⟨st,he,h⟩
 |⟨m,i⟩::r,k,f,st,A,h,a,he=>by
  simp only[AX,cQ]at f;have j:∀d,i.dst=some d->d<N:=fun d e=>by have:=f.1;rw[e]at this;simpa[j8]using this
  simp only[Ax,w6];cases m with
  |none=>simp only[iQ]at he;obtain⟨x,st',J,U,g⟩:=UE j h a he;have bf:lL P q n0 ⟨none,i⟩ A x:=J;exact⟨x,bf,DC r (k+1) f.2 st' _ g (a.do bf) U⟩
  |some p=>
   obtain⟨s,want⟩:=p;simp only[iQ]at he;split at he
   ·rename_i b c;by_cases e:b=want
    ·subst e;obtain⟨x,st',J,U,g⟩:=UE j (Rv h c) a (he.1 rfl);have bf:lL P q n0 ⟨some (s,b),i⟩ A x:=by unfold lL;simp only[<-h.like.t,c];exact .inl ⟨trivial,J⟩
     exact⟨x,bf,DC r (k+1) f.2 st' _ g (a.do bf) U⟩
    ·have o:b= !want:=by cases b<;>cases want<;>simp at e⊢
     subst o;have bf:lL P q n0 ⟨some (s,want),i⟩ A (mo i.dst):=by unfold lL;simp only[<-h.like.t,c];exact .inr ⟨trivial,trivial⟩
     exact⟨mo i.dst,bf,DC r (k+1) f.2 _ _ (Rw (Rv h c) i.dst) (a.do bf) (he.2 rfl)⟩
   ·rename_i c;have bf:lL P q n0 ⟨some (s,want),i⟩ A (mo i.dst):=by unfold lL;simp only[<-h.like.t,c]
    exact⟨mo i.dst,bf,DC r (k+1) f.2 _ _ (Rw h i.dst) (a.do bf) he⟩
   ·exact he.elim
def PT:∀(gs:List du) (l:Array Bool) (k:Nat),(∀j,l.getD j false=false)->rem l k gs=Ax k gs
 |[],_,_,_=>rfl
 |g::r,l,k,h=>by simp only[rem,h k,Ax,PT r l (k+1) h];simp
def vr(n:Nat)(o:List aB)(K:bp->Prop)(st:bp):Prop:=K {st with n:=n,o:=o}
def Good.like{pr:Nat->Prop}{w:World}{ν:bc}{b b2:List (aB×List af)}{e d:List (aB×dW)}(h:Good pr w ν b e)(a:∀k,ae k b2=ae k b)(he:∀k,ae k d=ae k e):Good pr w ν b2 d:=
 ⟨h.alt,fun k cs i=>h.box k cs (by rw[<-a];exact i),fun k bs bl J U=>h.inj k bs bl (by rw[<-a];exact J) (by rw[<-a];exact U),fun g o bf=>h.own g o (by rw[<-he];exact bf),
  fun g f n n' v v' bl J U=>h.oinj g f n n' v v' bl (by rw[<-he];exact J) (by rw[<-he];exact U),fun g k n v bl J U=>h.obx g k n v bl (by rw[<-he];exact J) (by rw[<-a];exact U),h.one,
  fun bl j=>h.otr bl (j.imp (fun⟨k,c,a2⟩=>⟨k,by rw[<-a];exact c,a2⟩) (fun⟨g,n,v,c,a2⟩=>⟨g,n,v,by rw[<-he];exact c,a2⟩))⟩
def UG{P:cI}(hm:P.follows .mixedOrders=true){aT:List (Nat×ev)}(J:hY P aT=true){C:fm}{q:Bool}{nw:List Nat}{id:Nat}{ops:Array Oper}{gs:List du}(u:la C.N aT ops.toList gs ops.toList=true)(M:Df gs ops.toList=true)(E:AX C.N gs=true)
  {K:bp->Prop} {Q:Exit->Act->World->Prop} (B:∀st' br w' bn,K st'->c9 C st' br w' bn->Q .normal br w') {st:bp} {a:Act} {w:World} {ν:bc} (s:∀j∈nw,.obj j∉st.o) (he:iQ P q nw st.n gs st (vr (st.n+C.N) (nw.map aB.obj++st.o) K)) (L:c9 C st a w ν):(Code.region id ops true).wp P Q a w:=by
 refine wp_region_any hm ?_;have F:c9 C st a {w with drawn:=w.drawn+1} ν:=L.drawn _;let A:dE:=⟨fun i=>get i st.t,fun k=>ae k st.b,fun k=>ae k st.e,fresh st.n st.o⟩
 have t:ue nw st.n C.N st.o st A:=⟨⟨fun _=>rfl,fun _=>rfl,fun _=>rfl⟩,rfl,fun k b _=>b,fun k b=>.inl b⟩;have y:=DC gs 0 E st A t (fun j m _ _=>⟨trivial,s j m⟩) he;have p:∀j,(Array.replicate ops.size false).getD j false=false:=fun j=>by simp[Array.getD_eq_getD_getElem?,Array.getElem?_replicate];split<;>rfl
 refine adN J u M (q:=q) (n0:=st.n) (K:=fun v=> ∃st',vr (st.n+C.N) (nw.map aB.obj++st.o) K st'/\ue nw st.n C.N st.o st' v) ?_ ops.size _ A a _ Ψ ?_ ?_ (by rw[PT gs _ 0 p];exact y) ⟨st,ν,t.like,fun k b=>b,F⟩
 ·rintro v br w' ⟨st',b,l⟩ ⟨H,bn,n,N,c⟩;refine B _ br w' bn b ⟨c.good.like (fun k=>by rw[n.b,<-l.like.b]) (fun k=>by rw[n.e,<-l.like.e]),c.fr,c.defers,c.size,fun i=>?_,fun k f=>?_⟩
  ·have:=c.slot i;rw[n.t,<-l.like.t]at this;exact this
  ·refine c.new k (N k (l.F k ?_ fun j m e=>f.2 (by subst e;exact List.mem_append_left _ (List.mem_map_of_mem m))));simp only at f;refine⟨(Mi (Nat.le_add_right st.n C.N) (fun _ h=>h) f).1,fun z=>?_⟩;rcases l.o k z with h|⟨d,O,rfl⟩|⟨j,m,rfl⟩;rotate_left 2
   ·exact f.2 (List.mem_append_left _ (List.mem_map_of_mem m))
   ·exact f.2 (List.mem_append_right _ h)
   ·have:=f.1;simp at this;omega
 ·intro k o b x;rw[p]at x;cases x
 ·rw[PT gs _ 0 p];have:∀(gs:List du) k,(Ax k gs).length=gs.length:=by
   intro gs;induction gs with
   |nil=>intro k;rfl
   |cons g r G=>intro k;simp[Ax,G]
  rw[this];have:=Mt u;simp at this;omega
def eN:List af->Prop
 |[]=>True
 |p::a=>(match p with| .slice _ _ xs=>xs.length<=lim| .str s=>s.length<=lim|_=>True)/\eN a
def eV:af->Prop
 | .slice _ _ xs=>xs.length<=lim
 | .str s=>s.length<=lim
 | .agg cs=>eN cs
 |_=>True
def eM:List af->Prop
 |[]=>True
 |p::r=>eV p/\eM r
def PY{w:World}{ν:bc}:∀{cs:List af} {us:List Value},cW w ν cs us->eN cs
 |[],_,_=>trivial
 |c::cs,us,h=>by
  simp only[cW]at h;obtain⟨u,e,_,J,U⟩:=h;refine⟨?_,PY U⟩;cases c<;>simp only<;>have b:=J.1<;>simp only[aU]at b
  ·exact b.2
  ·obtain⟨⟨a,cap,_,_,d,_⟩,_⟩:=b;exact d.2
def PV{w:World}{ν:bc}{cs:List af}{us:List Value}(h:k3 w ν cs us):gV cs=true->eN cs:=fun a=>by rw[pk a]at h;exact PY h
def abi{w:World}{ν:bc}{p:af}{v:Value}(h:aU w ν p v):eV p:=by
 cases p<;>simp only[eV]<;>simp only[aU]at h
 ·exact h.2
 ·obtain⟨⟨a,cap,_,_,b,_⟩,_⟩:=h;exact b.2
 ·obtain⟨us,_,U⟩:=h;exact PY U
def PZ{w:World}{ν:bc}:∀{cs:List af} {us:List Value},c7 w ν cs us->eM cs
 |[],_,_=>trivial
 |c::cs,us,h=>by simp only[c7]at h;obtain⟨u,a,_,J,U⟩:=h;exact⟨abi J,PZ U⟩
inductive C where
 |skip
 |region (gs:List du)
 |drawn (q:Bool) (N:Nat) (gs:List du)
 |drawnW (nw:List Nat) (N:Nat) (gs:List du)
 |seq (a b:C)
 |cond (x:dP) (t e:C)
 |block (id:Nat) (c:C)
 |loop (c:C)
 |exit (id:Nat)
 |ret
 |pub (s:Nat) (c:C)
 |pubB (s:Nat) (c:C)
 |fg (qH:Bool) (s:Nat) (c:C)
 |fz (agg:Bool) (s:Nat) (c:C)
 |no
def Fk(st:bp):af->bd (af×List (aB×dW))
 | .row sz k n=>match ae k st.e with
  |some ⟨n',el,a,some xs⟩=>if n'=n/\a=sz then some (.slice sz (.own k) xs,cJ k ⟨n,el,sz,none⟩ st.e)else none
  |_=>none
 |_=>none
def ya(st:bp)(s:Nat):bd bp:=
 match Fk st (get s st.t)with
 |some (p,e)=>some {st with t:=put s p st.t,e:=e}
 |none=>none
def x9(st:bp)(s:Nat):bd bp:=
 match get (s%1000) st.t with
 | .ptr k off=>match ae k st.b with
  |some cs=>match cs[off+s/1000]? with
   |some p=>match Fk st p with
    |some (a,e)=>if gV cs then some {st with b:=cJ k (cs.set (off+s/1000) a) st.b,e:=e}else none
    |none=>none
   |none=>none
  |none=>none
 |_=>none
def Jx{C:fm}{st:bp}{a:Act}{w:World}{ν:bc}(h:c9 C st a w ν){s:Nat}{p:af}(b:aU w ν p (a.tmps.getD s undef)):c9 C {st with t:=put s p st.t} a w ν:=by
 refine⟨h.good,h.fr,h.defers,h.size,fun i=>?_,h.new⟩;have:=h.slot i;simp only[qv];split
 ·rename_i e;subst e;exact b
 ·exact this
def ZS{C:fm}{st:bp}{a:Act}{w:World}{ν:bc}(h:c9 C st a w ν){p f:af}{e:List (aB×dW)}{v:Value}(l:aU w ν p v)(he:Fk st p=some (f,e)):
  ∃bn,c9 C {st with e:=e} a w bn/\aU w bn f v/\mx w ν w bn:=by
 unfold Fk at he;split at he
 ·rename_i sz k n;split at he
  ·rename_i n' el A xs m;split at he
   ·rename_i aw;obtain⟨rfl,rfl⟩:=aw;cases he;simp only[aU]at l;obtain⟨_,s,n0,u,J,U,t⟩:=l;obtain⟨v0,z,d,E,B,q⟩:=h.good.own k _ m;rw[J]at d;simp only[dU,jo]at d;obtain⟨rfl,rfl⟩:=d;have y:v=u:=t rfl;subst y;obtain⟨i,_,_⟩:=q xs rfl;simp only at i;obtain⟨g1,g2⟩:=h.publish m rfl J (by rw[i];exact s);refine⟨_,g1,g2,⟨fun b o r=>⟨.inl r,rfl⟩,fun j b _ x=>x,fun g n u _ c=>⟨n,u,?_,.inl ⟨rfl,rfl⟩⟩,fun _ _ _=>rfl,fun _ _ _ _ h=>h⟩⟩;simp only[bc.withRowOf];split
    ·rename_i e;subst e;rw[J]at c;exact c
    ·exact c
   ·cases he
  ·cases he
 ·cases he
def A8(a:Bool):af->af
 | .slice sz tag xs=>.slice sz (if a then tag else .no) (cf xs)
 |p=>b5 p
def aii{w:World}{ν:bc}{a:Bool}{p:af}{v:Value}(h:aU w ν p v):aU w ν (A8 a p) v:=by
 have J:=yg p v h;cases p with
 |slice sz tag xs=>
  simp only[A8];cases a with
  |false=>simpa only[hR,if_false,b5]using J
  |true=>
   simp only[if_true];simp only[aU,b5]at h J⊢;refine⟨J.1,fun e=>h.2.1 e,fun g e=>?_,fun k j e=>?_,fun k e=>?_⟩
   ·obtain⟨n,u,c,d,b⟩:=h.2.2.1 g e;exact⟨n,u,c,by rw[nF];exact d,by rw[nF];exact b⟩
   ·exact DP _ _ (h.2.2.2.1 k j e)
   ·exact DP _ _ (h.2.2.2.2 k e)
 |_=>exact J
def apu{C:fm}{st st':bp}{a:Act}{w:World}{ν:bc}(h:c9 C st a w ν){s:Nat}(he:ya st s=some st'):∃bn,c9 C st' a w bn:=by
 unfold ya at he;split at he
 ·rename_i p e b;cases he;obtain⟨bn,J,U,_⟩:=ZS h (h.slot s) b;exact⟨_,Jx J U⟩
 ·cases he
def abd{w:World}{ν:bc}:∀{cs:List af} {us:List Value} {i:Nat} {p q:af} {v:Value},cW w ν cs us->cs[i]? =some p->us[i]? =some v->aU w ν q v->cW w ν (cs.set i q) us
 |[],_,_,_,_,_,_,h,_,_=>by simp at h
 |c::cs,us,0,p,q,v,h,_,a,b=>by simp only[cW]at h;obtain⟨u,e,rfl,J,U⟩:=h;simp only[List.getElem?_cons_zero,dU]at a;subst a;simp only[List.set_cons_zero,cW];exact⟨_,_,rfl,⟨b,J.2⟩,U⟩
 |c::cs,us,i+1,p,q,v,h,d,a,b=>by simp only[cW]at h;obtain⟨u,e,rfl,J,U⟩:=h;simp only[List.set_cons_succ,cW];exact⟨_,_,rfl,J,abd U (by simpa using d) (by simpa using a) b⟩
def apt{C:fm}{st st':bp}{a:Act}{w:World}{ν:bc}(h:c9 C st a w ν){s:Nat}(he:x9 st s=some st'):∃bn,c9 C st' a w bn:=by
 unfold x9 at he;split at he
 ·rename_i k m N;generalize m+s/1000=off at he;split at he
  ·rename_i cs d;split at he
   ·rename_i p i;split at he
    ·rename_i E e K;split at he
     ·rename_i q;cases he;obtain⟨bl,us,el,g1,g2,g3,g4,g5⟩:=h.good.box k cs d;rw[pk q]at g5;have t:off<us.toList.length:=by rw[qQ g5];exact(fH.1 i).1
      obtain⟨v,z⟩:∃v,us.toList[off]? =some v:=⟨_,cl t⟩;have L:aU w ν p v:=by have:=CE off g5;rw[lG (fH.1 i).1,lG t]at this;simp only[cW]at this;obtain⟨u,G,y,A,_⟩:=this;rw[(fH.1 i).2]at A;rw[(fH.1 z).2]at y;cases y;exact A.1
      obtain⟨bn,J,U,x⟩:=ZS h L K;have o:cW w bn (cs.set off E) us.toList:=abd (abc x g5) i z U;have B:=wI o;refine⟨bn,⟨J.good.alt,fun j F c=>?_,fun j dh b c f=>J.good.inj j dh b ?_ ?_,J.good.own,J.good.oinj,fun g j n v b bf c=>J.good.obx g j n v b bf ?_,J.good.one,fun bl H=>J.good.otr bl (H.imp (fun⟨bs,l,a2⟩=>⟨bs,by rw[jk]at l;split at l;(rename_i e;subst e;simp[d]);exact l,a2⟩) id)⟩,J.fr,J.defers,J.size,J.slot,J.new⟩
      ·simp only at c;rw[jk]at c;split at c
       ·rename_i e;subst e;cases c;obtain⟨r,G,M,f1,f2,f3,f4,f5⟩:=J.good.box k cs d;have:r=bl:=by have:=x.bx k bl trivial g1;rw[this]at f1;cases f1;rfl
        subst this;rw[pj q]at g4 f4;rw[g4]at f4;injection f4 with f4;injection f4 with f4 f6 f7;refine⟨r,us,el,f1,f2,f3,by rw[pj B];exact g4,by rw[pk B];exact o⟩
       ·exact J.good.box j F c
      ·simp only at c;rw[jk]at c;split at c
       ·rename_i e;subst e;simp[d]
       ·exact c
      ·simp only at f;rw[jk]at f;split at f
       ·rename_i e;subst e;simp[d]
       ·exact f
      ·simp only at c;rw[jk]at c;split at c
       ·rename_i e;subst e;simp[d]
       ·exact c
     ·cases he
    ·cases he
   ·cases he
  ·cases he
 ·cases he
def uu{α:Type}(k:aB)(l:List (aB×α)):List (aB×α):=match l with
 |[]=>[]
 |(i,x)::r=>if i=k then uu k r else(i,x)::uu k r
def Oc{α:Type}(k j:aB):∀l:List (aB×α),ae j (uu k l)=if j=k then none else ae j l
 |[]=>by simp[uu,ae]
 |(i,x)::r=>by
  simp only[uu];by_cases h:i=k
  ·subst h;rw[if_pos rfl,Oc i j r];by_cases U:j=i
   ·simp[U]
   ·have:¬i=j:=fun e=>U e.symm;simp[ae,U,this]
  ·rw[if_neg h];simp only[ae];by_cases U:i=j
   ·subst U;simp[h]
   ·simp only[U,if_false];exact Oc k j r
def Mk(agg:Bool):List af->bd af
 |[p]=>if agg then some (.agg [p])else some p
 |cs=>if agg then some (.agg cs)else none
def xe(st:bp)(agg:Bool)(s:Nat):bd bp:=
 match get s st.t with
 | .ptr k 0=>match ae k st.b with
  |some cs=>if gV cs then match Mk agg cs with
    |some x=>some {st with t:=put s (.eptr x) st.t,b:=uu k st.b}
    |none=>none
   else none
  |none=>none
 |_=>none
def apd{u:Value}(h:u.oneCell'=true):u.cells.toList=[u]:=by cases u<;>first|rfl|(simp[Value.oneCell']at h)
def X6{w:World}{A:Nat->Nat->Prop}{b:Nat}{us:Array Value}{el:gT}(d:w.heap[b]? =some (.cells us el))(c:∀o,o<us.size->A b o):∀(bm:List Value) (off:Nat),us.toList.drop off=bm->kY w A b off bm
 |[],_,_=>trivial
 |v::bm,off,h=>by
  have a:off<us.toList.length:=by
   rcases Nat.lt_or_ge off us.toList.length with J|J
   ·exact J
   ·rw[List.drop_eq_nil_of_le J]at h;cases h
  have U:=lG a;rw[h]at U;injection U with U f;refine⟨⟨c off (by simpa using a),?_⟩,X6 d c bm (off+1) f.symm⟩;have e:off<us.size:=by simpa using a
  simp only[World.cell?,d,kf,hR,if_false];rw[U];simp[e]
def aix{C:fm}{st st':bp}{a:Act}{w:World}{ν:bc}(h:c9 C st a w ν){agg:Bool}{s:Nat}(he:xe st agg s=some st'):∃bn,c9 C st' a w bn:=by
 unfold xe at he;split at he
 ·rename_i k ab;split at he
  ·rename_i cs z;split at he
   ·rename_i H;split at he
    ·rename_i x l;cases he;obtain⟨bl,us,el,g1,g2,g3,g4,g5⟩:=h.good.box k cs z;rw[pk H]at g5;rw[pj H]at g4;have Z:bl<w.heap.size:=by
      rcases Nat.lt_or_ge bl w.heap.size with J|J
      ·exact J
      ·rw[Array.getElem?_eq_none J]at g4;cases g4
     let bn:bc:={ν with A:=fun b o=>ν.A b o\/(b=bl/\o<us.size)}
     have ar:mx w ν w bn:=⟨fun b o c=>⟨.inl c,rfl⟩,fun j b _ d=>d,fun g n u _ Q=>⟨n,u,Q,.inl ⟨rfl,rfl⟩⟩,fun _ _ _=>rfl,fun _ _ _ _ h=>h⟩;have L:∀j f,ae j (uu k st.b)=some f->j≠k/\ae j st.b=some f:=fun j f d=>by
      rw[Oc]at d;split at d
      ·cases d
      ·rename_i e;exact⟨e,d⟩
     have t:∀j,(ae j (uu k st.b)).isSome->(ae j st.b).isSome:=fun j d=>by obtain⟨f,R⟩:=fx.1 d;simp[(L j f R).2]
     have O:∀(g:aB) (n:Nat) (v:Value),(ae g st.e).isSome->ν.ow g=some (n,v)->v.ownBlock=some bl->eu:=fun g n v J U aq=>h.good.obx g k n v bl J (by simp[z]) U aq g1;have P:aU w bn (.eptr x) (a.tmps.getD s undef):=by
      have F:=h.slot s;rw[ab]at F;simp only[aU]at F⊢;obtain⟨b2,N,B⟩:=F;rw[g1]at N;cases N;have E:kY w bn.A bl 0 us.toList:=X6 g4 (fun o ar=>.inr ⟨rfl,ar⟩) _ 0 rfl;have g6:cW w bn cs us.toList:=abc ar g5;unfold Mk at l;split at l
      ·rename_i p;simp only[cW]at g6;obtain⟨u,M,m,r,y⟩:=g6;subst y;split at l
       ·cases l;exact⟨bl,0,.agg us,B,by simp only[aU];exact⟨us,rfl,by rw[m];simp only[cW];exact⟨u,[],rfl,r,rfl⟩⟩,by simpa[pw]using E⟩
       ·cases l;refine⟨bl,0,u,B,r.1,?_⟩;rw[apd r.2,<-m];exact E
      ·split at l
       ·cases l;exact⟨bl,0,.agg us,B,by simp only[aU];exact⟨us,rfl,g6⟩,by simpa[pw]using E⟩
       ·cases l
     refine⟨bn,Jx (ν:=bn) (st:={st with b:=uu k st.b}) ⟨⟨fun b o c=>?_,fun j f d=>?_,fun j dh b J U=>h.good.inj j dh b (t j J) (t dh U),fun g o bf=>?_,h.good.oinj,fun g j n v b J U=>h.good.obx g j n v b J (t j U),h.good.one,fun b aJ=>h.good.otr b (aJ.imp (fun⟨j,Y,a2⟩=>⟨j,t j Y,a2⟩) id)⟩,⟨h.fr.os,h.fr.tape,h.fr.output,h.fr.size,h.fr.block,fun b o c=>⟨.inl (h.fr.keep b o c).1,(h.fr.keep b o c).2⟩,fun b o c=>?_,h.fr.obj,h.fr.obn,h.fr.row,h.fr.obr,h.fr.trd,h.fr.trb,h.fr.trn,h.fr.sh⟩,h.defers,h.size,fun i=>Ac ar (h.slot i),h.new⟩ P⟩
     ·rcases c with c|⟨rfl,_⟩
      ·exact h.good.alt b o c
      ·exact Z
     ·obtain⟨X,K⟩:=L j f d;obtain⟨S,M,W,f1,f2,f3,f4,f5⟩:=h.good.box j f K;refine⟨S,M,W,f1,f2,fun o c=>?_,f4,rI ar f5⟩;rcases c with c|⟨rfl,_⟩
      ·exact f3 o c
      ·exact X (h.good.inj j k _ (by simp[K]) (by simp[z]) f1 g1)
     ·obtain⟨v0,V,m,r,y,b3⟩:=h.good.own g o bf;have G:∀b,v0.ownBlock=some b->∀j,bn.A b j->ν.A b j:=fun b q j c=>by
       rcases c with c|⟨rfl,_⟩
       ·exact c
       ·exact(O g _ v0 (by simp[bf]) m q).elim
      exact⟨v0,V,m,r,fun b q=>⟨(y b q).1,fun j c=>(y b q).2 j (G b q j c)⟩,tU ar G b3⟩
     ·rcases c with c|⟨rfl,_⟩
      ·exact h.fr.fresh b o c
      ·exact .inr g2
    ·cases he
   ·cases he
  ·cases he
 ·cases he
def tT(st:bp)(x:dP)(b:Bool):bp:=match x with
 | .t i=>{st with t:=put i (.bool b) st.t}
 | .c _=>st
def df(P:cI)(ob:List aB):C->(Exit->bp->Prop)->bp->Prop
 | .skip,Q,st=>Q .normal st
 | .region gs,Q,st=>iZ P gs st (Q .normal)
 | .drawn q N gs,Q,st=>iQ P q [] st.n gs st (vr (st.n+N) st.o (Q .normal))
 | .drawnW nw N gs,Q,st=>(∀j∈nw,.obj j∉st.o)/\iQ P false nw st.n gs st (vr (st.n+N) (nw.map aB.obj++st.o) (Q .normal))
 | .seq a b,Q,st=>df P ob a (fun e st'=>match e with| .normal=>df P ob b Q st'|e=>Q e st') st
 | .cond x t e,Q,st=>match cE st.t x with
  | .bool b=>(b=true->df P ob t Q (tT st x true))/\(b=false->df P ob e Q (tT st x false))
  |_=>eu
 | .block id c,Q,st=>df P ob c (fun e st'=>match e with| .exit j=>if j=id then Q .normal st' else Q (.exit j) st'|e=>Q e st') st
 | .loop c,Q,st=> ∃(d:Nat->bp->Prop) (m:Nat) (f:bp),gn ob st f/\d m f/\
   ∀k s,d k s->(∀i,eV (get i s.t))->(∀j cs,ae j s.b=some cs->gV cs=true->eN cs)->df P ob c (fun e h=>match e with| .normal=> ∃bs g,bs<k/\gn ob h g/\d bs g|e=>Q e h) s
 | .exit id,Q,st=>Q (.exit id) st
 | .ret,Q,st=>Q .ret st
 | .pub s c,Q,st=>match ya st s with
  |some st'=>df P ob c Q st'
  |none=>eu
 | .pubB s c,Q,st=>match x9 st s with
  |some st'=>df P ob c Q st'
  |none=>eu
 | .fg l s c,Q,st=>df P ob c Q {st with t:=put s (A8 l (get s st.t)) st.t}
 | .fz n s c,Q,st=>match xe st n s with
  |some st'=>df P ob c Q st'
  |none=>eu
 | .no,_,_=>eu
def hU(N:Nat)(aT:List (Nat×ev)):C->Code->Bool
 | .skip,.skip=>true
 | .region gs,.region _ ops false=>la N aT ops.toList gs ops.toList
 | .drawn _ N' gs,.region _ ops true=>N'==N&&la N aT ops.toList gs ops.toList&&Df gs ops.toList&&AX N gs
 | .drawnW _ N' gs,.region _ ops true=>N'==N&&la N aT ops.toList gs ops.toList&&Df gs ops.toList&&AX N gs
 | .seq a b,.seq x y=>hU N aT a x&&hU N aT b y
 | .cond x t e,.cond o t' g=>eS x o&&hU N aT t t'&&hU N aT e g
 | .block id c,.block f d=>id==f&&hU N aT c d
 | .loop c,.loop d=>hU N aT c d
 | .exit id,.exit f=>id==f
 | .ret,.ret=>true
 | .pub _ c,d=>hU N aT c d
 | .pubB _ c,d=>hU N aT c d
 | .fg _ _ c,d=>hU N aT c d
 | .fz _ _ c,d=>hU N aT c d
 | .no,_=>true
 |_,_=>false
def VY{N:Nat}{aT:List (Nat×ev)}{ops:List Oper}:∀{gs:List du} {os:List Oper},la N aT ops gs os=true->gs.length=os.length
 |[],[],_=>rfl
 |[],_::_,h=>by simp[la]at h
 |_::_,[],h=>by simp[la]at h
 |g::gs,o::os,h=>by simp only[la,cQ]at h;simp[VY h.2]
def Kp(P:cI)(C:fm)(c:Code)(Q:Exit->bp->Prop)(st:bp):Prop:= ∀a w ν,c9 C st a w ν->c.wp P (fun e br w'=> ∃st' bn,Q e st'/\c9 C st' br w' bn) a w
def qs{P:cI}(hm:P.follows .mixedOrders=true){aT:List (Nat×ev)}(f:hY P aT=true){X:fm}:∀(c:C) (code:Code) (Q:Exit->bp->Prop) (st:bp),hU X.N aT c code=true->df P X.ob c Q st->Kp P X code Q st
 | .skip,code,Q,st,ar,he=>by
  cases code<;>simp only[hU]at ar<;>try cases ar
  intro a w ν d;exact wp_skip ⟨st,ν,he,d⟩
 | .region gs,code,Q,st,ar,he=>by
  cases code<;>try(simp[hU]at ar;done)
  rename_i id ops draw;cases draw<;>simp only[hU]at ar
  ·intro a w ν d;refine wp_region ?_;have V:gs.length=ops.size:=by simpa using VY ar
   rw[List.range_eq_range',<-V];exact UH f (K:=Q .normal) (fun st' br w' bn J U=>⟨st',bn,J,U⟩) gs ops.toList 0 Ψ ar st a w ν he d
  ·cases ar
 | .drawn q N gs,code,Q,st,ar,he=>by
  cases code<;>try(simp[hU]at ar;done)
  rename_i id ops draw;cases draw<;>simp only[hU]at ar
  ·cases ar
  ·simp only[cQ,ey]at ar;obtain⟨⟨⟨rfl,J⟩,U⟩,v⟩:=ar;intro a w ν d;exact UG hm f J U v (nw:=[]) (K:=Q .normal) (fun st' br w' bn J U=>⟨st',bn,J,U⟩) Ψ he d
 | .drawnW nw N gs,code,Q,st,ar,he=>by
  cases code<;>try(simp[hU]at ar;done)
  rename_i id ops draw;cases draw<;>simp only[hU]at ar
  ·cases ar
  ·simp only[cQ,ey]at ar;obtain⟨⟨⟨rfl,J⟩,U⟩,v⟩:=ar;intro a w ν d;exact UG hm f J U v (nw:=nw) (K:=Q .normal) (fun st' br w' bn J U=>⟨st',bn,J,U⟩) he.1 he.2 d
 | .seq x y,code,Q,st,ar,he=>by
  cases code<;>try(simp[hU]at ar;done)
  rename_i L M;simp only[hU,cQ]at ar;intro a w ν d;refine wp_seq ?_;have J:=qs hm f x L _ st ar.1 he a w ν d;refine wp_mono J fun e br w' l=>?_;obtain⟨st',bn,g,h⟩:=l;cases e with
  |normal=>exact qs hm f y M Q st' ar.2 g br w' bn h
  |_=>exact⟨st',bn,g,h⟩
 | .cond x t e,code,Q,st,ar,he=>by
  cases code<;>try(simp[hU]at ar;done)
  rename_i o A ce;simp only[hU,cQ]at ar;intro a w ν d;simp only[df]at he;have B:=e3 d ar.1.1;split at he
  ·rename_i b E;rw[E]at B;simp only[aU]at B;have F:c9 X (tT st x b) a w ν:=by
    unfold tT;split
    ·exact PS d (by simpa[cE]using E)
    ·exact d
   refine wp_cond B ?_;cases b
   ·exact qs hm f e ce Q _ ar.2 (he.2 rfl) a w ν F
   ·exact qs hm f t A Q _ ar.1.2 (he.1 rfl) a w ν F
  ·exact he.elim
 | .block id c,code,Q,st,ar,he=>by
  cases code<;>try(simp[hU]at ar;done)
  rename_i Z u;simp only[hU,cQ,ey]at ar;obtain⟨rfl,ar⟩:=ar;intro a w ν d;refine wp_block ?_;refine wp_mono (qs hm f c u _ st ar he a w ν d) fun e br w' l=>?_;obtain⟨st',bn,g,h⟩:=l;cases e with
  |exit j=>
   simp only[Exit.inBlock]at g⊢;by_cases p:j=id
   ·rw[if_pos p]at g⊢;exact⟨st',bn,g,h⟩
   ·rw[if_neg p]at g⊢;exact⟨st',bn,g,h⟩
  |_=>exact⟨st',bn,g,h⟩
 | .loop c,code,Q,st,ar,he=>by
  cases code<;>try(simp[hU]at ar;done)
  rename_i u;simp only[hU]at ar;intro a w ν d;simp only[df]at he;obtain⟨R,m,G,hw,hi,O⟩:=he;refine wp_loop_ghost (fun k a w=> ∃s ν,R k s/\c9 X s a w ν) m ⟨G,_,hi,d.weaker hw⟩ ?_;intro k a w z;obtain⟨s,ν,n,r⟩:=z;have J:=O k s n (fun i=>abi (r.slot i)) (fun j cs p=>by obtain⟨bl,us,el,_,_,_,_,g5⟩:=r.good.box j cs p;exact PV g5);refine wp_mono (qs hm f c u _ s ar J a w ν r) fun e br w' l=>?_;obtain⟨st',bn,g,h⟩:=l;cases e with
  |normal=>obtain⟨bs,H,W,Y,S⟩:=g;exact⟨bs,W,H,_,S,h.weaker Y⟩
  |_=>exact⟨st',bn,g,h⟩
 | .exit id,code,Q,st,ar,he=>by
  cases code<;>try(simp[hU]at ar;done)
  rename_i Z;simp only[hU,ey]at ar;subst ar;intro a w ν d;exact wp_exit ⟨st,ν,he,d⟩
 | .ret,code,Q,st,ar,he=>by
  cases code<;>try(simp[hU]at ar;done)
  intro a w ν d;exact wp_ret ⟨st,ν,he,d⟩
 | .pub s c,code,Q,st,ar,he=>by
  simp only[hU]at ar;simp only[df]at he;split at he
  ·rename_i st' n;intro a w ν d;obtain⟨bn,J⟩:=apu d n;exact qs hm f c code Q st' ar he a w bn J
  ·exact he.elim
 | .pubB s c,code,Q,st,ar,he=>by
  simp only[hU]at ar;simp only[df]at he;split at he
  ·rename_i st' n;intro a w ν d;obtain⟨bn,J⟩:=apt d n;exact qs hm f c code Q st' ar he a w bn J
  ·exact he.elim
 | .fg qH s c,code,Q,st,ar,he=>by simp only[hU]at ar;simp only[df]at he;intro a w ν d;exact qs hm f c code Q _ ar he a w ν (Jx d (aii (d.slot s)))
 | .fz hk s c,code,Q,st,ar,he=>by
  simp only[hU]at ar;simp only[df]at he;intro a w ν d;split at he
  ·rename_i st' dy;obtain⟨bn,J⟩:=aix d dy;exact qs hm f c code Q st' ar he a w bn J
  ·exact he.elim
 | .no,code,Q,st,ar,he=>by simp only[df]at he
inductive bW where
 |tmp (i:Nat)
 |cell (i:Nat) (agg:Bool) (sz:Nat)
def be(st:bp):bW->bd (Prop×af)
 | .tmp i=>some (True,get i st.t)
 | .cell i agg sz=>n3 st.b st.e agg sz (get i st.t)
def ba(st:bp):List bW->bd (Prop×List af)
 |[]=>some (True,[])
 |r::a=>match be st r,ba st a with
  |some (c,p),some (b,d)=>some (c/\b,p::d)
  |_,_=>none
def p5(aT:List (Nat×ev)):List bW->List ResultVar->Bool
 |[],[]=>true
 | .tmp i::a,.tmp j::os=>i==j&&p5 aT a os
 | .cell i agg sz::a,.cell j t::os=>i==j&&(match eF aT t with|some f=>f.size==sz&&f.kind.isAgg==agg|none=>false)&&p5 aT a os
 |_,_=>false
def a1:List af->af
 |[p]=>p
 |a=>.tuple a
def JM(tmps:Array Value):ResultVar->Sem Value
 | .tmp t=>pure (tmps.getD t undef)
 | .cell x t=>do loadVar t (<-asAddr (tmps.getD x undef))
def abk(fn:Func)(tmps:Array Value):results fn tmps=(do let bm<-fn.results.mapM (JM tmps);pure (if h:bm.size=1 then bm[0]else .tuple bm)):=by unfold results;congr 2
def JF{P:cI}{aT:List (Nat×ev)}(z:hY P aT=true){X:fm}{st:bp}{a:Act}{w:World}{ν:bc}(g:c9 X st a w ν):
  ∀(h:List bW) (os:List ResultVar) (c:Prop) (s:List af),p5 aT h os=true->ba st h=some (c,s)->c->
  ∃bm,(os.mapM (JM a.tmps)).run P w= .ok bm w/\c7 w ν s bm
 |[],[],c,s,_,he,_=>by simp only[ba]at he;cases he;exact⟨[],Ψ,by simp[c7]⟩
 |[],_::_,_,_,ar,_,_=>by simp[p5]at ar
 | .tmp _::_,[],_,_,ar,_,_=>by simp[p5]at ar
 | .cell _ _ _::_,[],_,_,ar,_,_=>by simp[p5]at ar
 |r::h,o::os,c,s,ar,he,aw=>by
  simp only[ba]at he;split at he
  ·rename_i M p A B J U;cases he;cases r with
   |tmp i=>
    cases o with
    |cell _ _=>simp[p5]at ar
    |tmp j=>simp only[p5,cQ,ey]at ar;obtain⟨rfl,ar⟩:=ar;simp only[be]at J;cases J;obtain⟨bm,g1,g2⟩:=JF z g h os A B ar U aw.2;refine⟨a.tmps.getD i undef::bm,?_,by simp only[c7];exact⟨_,_,rfl,g.slot i,g2⟩⟩;simp only[List.mapM_cons,gx,JM,hA,gC,g1]
   |cell i agg sz=>
    cases o with
    |tmp _=>simp[p5]at ar
    |cell j t=>
     simp only[p5,cQ,ey]at ar;obtain⟨⟨rfl,x⟩,ar⟩:=ar;split at x
     ·rename_i f F;simp only[cQ,ey]at x;obtain⟨rfl,rfl⟩:=x;simp only[be]at J;obtain⟨bm,g1,g2⟩:=JF z g h os A B ar U aw.2;obtain⟨v,f1,f2⟩:=IA z g.good F (g.slot i) J aw.1;have G:∃m,a.tmps.getD i undef= .pointer (some m):=by
       have d:=g.slot i;unfold n3 at J;split at J
       ·rename_i L k n K H l;rw[l]at d;simp only[aU]at d;obtain⟨⟨b,o,e⟩,_⟩:=d;exact⟨_,e⟩
       ·rename_i k off l;rw[l]at d;simp only[aU]at d;obtain⟨b,_,e⟩:=d;exact⟨_,e⟩
       ·rename_i q l;rw[l]at d;simp only[aU]at d;obtain⟨b,off,u,e,_⟩:=d;exact⟨_,e⟩
       ·cases J
      obtain⟨m,E⟩:=G;rw[E]at f1;simp only[Instr.loadAt,Instr.sureAddr,gx,hA,gC]at f1;refine⟨v::bm,?_,by simp only[c7];exact⟨_,_,rfl,f2,g2⟩⟩;have y:(asAddr (.pointer (some m)):Sem Addr).run P w= .ok m w:=rfl;simp only[List.mapM_cons,gx,JM,hA,gC,g1,E,y,f1]
     ·cases x
  ·cases he
def Aa{w:World}{ν:bc}:∀{a:List af} {bm:List Value},c7 w ν a bm->bm.length=a.length
 |[],bm,h=>by simp only[c7]at h;subst h;rfl
 |p::a,bm,h=>by simp only[c7]at h;obtain⟨u,b,rfl,_,U⟩:=h;simp[Aa U]
def jc:Nat->List af->List (Nat×af)
 |_,[]=>[]
 |i,p::a=>(i,p)::jc (i+1) a
def Hu:∀(a:List af) (i j:Nat),get j (jc i a)=if i<=j/\j<i+a.length then a.getD (j-i) .junk else .junk
 |[],i,j=>by simp[jc,get]
 |p::a,i,j=>by
  simp only[jc,get];by_cases h:i=j
  ·subst h;simp
  ·rw[if_neg h,Hu a (i+1) j];by_cases U:i<=j/\j<i+(p::a).length
   ·rw[if_pos U,if_pos (by simp at U⊢;omega)];have:j-i=(j-(i+1))+1:=Ω
    rw[this];simp
   ·rw[if_neg U,if_neg (by simp at U⊢;omega)]
def lX{α:Type}(a:cR):List (aB×α)->Prop
 |[]=>True
 |(k,_)::r=>aM a k/\lX a r
def xR{α:Type}{b:cR}:∀{l:List (aB×α)},lX b l->∀k,(ae k l).isSome->aM b k
 |[],_,k,h=>by simp[ae]at h
 |(i,x)::r,a,k,h=>by
  simp only[lX]at a;simp only[ae]at h;split at h
  ·rename_i e;subst e;exact a.1
  ·exact xR a.2 k h
def c5(d:List bW)(s:cR)(Q:af->cR->Prop)(e:Exit)(st:bp):Prop:=
 (e= .ret\/e= .normal)/\match ba st d with
  |some (c,b)=>c/\∃a,lX a s.b/\lX a s.e/\hy (aM a) a.b st.b/\p9 (aM a) a.e st.e/\hX a/\az (aM a) (b5 (a1 b))/\Q (b5 (a1 b)) a
  |none=>eu
def bG.ofW{P:cI}{aT:List (Nat×ev)}(aJ:hY P aT=true){f:FuncId}{fn:Func}(aG:P.funcs[f]? =some fn){code:Code}(ag:fn.body=some code)(v7:(fn.name== "runtime.NumGoroutine")=false){ea:List bW}(iK:p5 aT ea fn.results.toList=true)
  {args:List af} (av:args.length<=fn.ntmps) {s:cR} (kU:hX s) {Q:af->cR->Prop} (he:∀X:fm,X.N=fn.ntmps->X.ob=cK s->(∀b o,X.ν0.A b o->b<X.w0.heap.size)->eM args->(∀j cs,ae j s.b=some cs->gV cs=true->eN cs)->Kp P X code (c5 ea s Q) ⟨jc 0 args,s.b,s.e,0,cK s⟩):bG P f args s Q:=by
 intro w ν bm bf ad aI;refine .inl ⟨⟨fn,aG,by simp[ag],v7⟩,?_⟩;have pX:=Aa aI;have lr:bm.size=args.length:=by simpa using pX
 let X:fm:=⟨w,ν,fB ν s,fn.ntmps,cK s⟩
 have nS:∀k,fresh 0 (cK s) k->ν.bx k=none/\ν.ow k=none/\∀j b,¬ν.tr k j b:=by
  intro k ab;cases k with
  |loc m=>exact⟨(ad _).1 (kU.1 m),(ad _).2.1 (kU.2 m),(ad _).2.2⟩
  |obj m=>
   simp only[fresh,true_and]at ab;refine⟨?_,?_,(ad _).2.2⟩
   ·refine(ad _).1 ?_;cases h:ae (.obj m) s.b with
    |none=>rfl
    |some x=>exact absurd (rF (.inl (by simp[h]))) ab
   ·refine(ad _).2.1 ?_;cases h:ae (.obj m) s.e with
    |none=>rfl
    |some x=>exact absurd (rF (.inr (by simp[h]))) ab
 have jb:∀m,(ν.bx (.obj m)≠none\/ν.ow (.obj m)≠none)-> .obj m∈cK s:=by
  intro m hm;refine Classical.byContradiction fun aw=>?_;obtain⟨J,U,_⟩:=nS (.obj m) ⟨trivial,aw⟩;rcases hm with hm|hm
  ·exact hm J
  ·exact hm U
 have pV:c9 X ⟨jc 0 args,s.b,s.e,0,cK s⟩ {tmps:=bm++Array.replicate (fn.ntmps-bm.size) undef,defers:=[]} w ν:=by
  refine⟨⟨bf.alt,fun k cs ab=>?_,bf.inj,fun g o fu=>?_,bf.oinj,bf.obx,bf.one,bf.otr⟩,⟨rfl,rfl,rfl,dO _,fun _ _ _=>rfl,fun b o h=>⟨h,rfl⟩,fun b o h=>.inl h,fun n b h=>h,fun n b h=>jb n (.inl (by rw[h];simp)),fun m n u h=>⟨n,u,h,.inl ⟨rfl,rfl⟩⟩,fun m n u h=>jb m (.inr (by rw[h];simp)),fun k j _ _ b h=>absurd h ((ad k).2.2 j b),fun k j b h=>absurd h ((ad k).2.2 j b),fun k j b h=>absurd h ((ad k).2.2 j b),fun _ _ _=>rfl⟩,rfl,?_,fun i=>?_,nS⟩
  ·obtain⟨bl,us,el,g1,g2,g3⟩:=bf.box k cs ab;exact⟨bl,us,el,g1,.inl g2,g3⟩
  ·obtain⟨v,us,g1,g2,g3,g4⟩:=bf.own g o fu;exact⟨v,us,g1,g2,fun bl gf=>⟨.inl (g3 bl gf).1,(g3 bl gf).2⟩,g4⟩
  ·show(bm++Array.replicate (fn.ntmps-bm.size) undef).size=fn.ntmps;simp;omega
  ·rw[Hu];by_cases hi:i<args.length
   ·rw[if_pos Ω];have se:args[i]? =some args[i]:=cl hi;obtain⟨v,ao,aC⟩:=Fx i aI se;have aN:(bm++Array.replicate (fn.ntmps-bm.size) undef).getD i undef=v:=by
     have o5:bm[i]? =some v:=by simpa using ao
     rw[Array.getD_eq_getD_getElem?,Array.getElem?_append_left Ω,o5];rfl
    show aU w ν _ ((bm++Array.replicate (fn.ntmps-bm.size) undef).getD i undef);rw[aN];simpa[List.getD,se]using aC
   ·rw[if_neg Ω];simp[aU]
 have Nv:=he X rfl rfl bf.alt (PZ aI) (fun j cs ah=>by obtain⟨bl,us,el,_,_,_,_,g5⟩:=bf.box j cs ah;exact PV g5) _ w ν pV;refine calls_of_wp aG ag (wp_mono Nv fun e br w' cM=>?_);obtain⟨st',bn,⟨ri,bM⟩,dd⟩:=cM;cases qA:ba st' ea with
 |none=>simp[qA]at bM
 |some x=>
  obtain⟨cC,bT⟩:=x;simp only[qA]at bM;obtain⟨h7,ak,kb,ke,a8,bB,bX,dq,dK⟩:=bM;obtain⟨oP,g1,g2⟩:=JF aJ dd ea fn.results.toList cC bT iK qA h7;have Nf:=Aa g2;have ee:br.defers=[]/\∃v,(results fn br.tmps).run P w'= .ok v w'/\(fun(e:Ending) w'=> ∃v r ak bn,e= .returned v/\Q r ak/\aU w' bn r v/\Good (fun bl=>fB ν s bl\/w.heap.size<=bl) w' bn ak.b ak.e/\pN bn ak/\hX ak/\pC ⟨w,ν,fB ν s,0,cK s⟩ w' bn) (.returned v) w':=by
   refine⟨dd.defers,?_⟩;have jM:(results fn br.tmps).run P w'= .ok (if h:oP.toArray.size=1 then oP.toArray[0]else .tuple oP.toArray) w':=by rw[abk];simp only[gx,Array.mapM_eq_mapM_toList,Sem.run_map,g1,gC,hA]
   refine⟨_,jM,_,b5 (a1 bT),ak,bn.cut (aM ak),rfl,dK,?_,dd.good.cut a8 bB (fun bl h _=>h),?_,bX,?_⟩
   ·have nV:aU w' bn (a1 bT) (if h:oP.toArray.size=1 then oP.toArray[0]else .tuple oP.toArray):=by
     match bT,oP,g2,Nf with
     |[p],[v],g2,_=>simp only[c7]at g2;obtain⟨u,b1,ao,aC,_⟩:=g2;cases ao;simpa[a1]using aC
     |[],[],g2,_=>simp[a1,aU,c7]
     |p::dD::bT,v::v2::oP,g2,_=>rw[dif_neg Ψ];simp only[a1,aU];exact⟨_,rfl,by simpa using g2⟩
     |[_],[],_,h=>simp at h
     |[],_::_,_,h=>simp at h
     |[_],_::_::_,_,h=>simp at h
     |_::_::_,[],_,h=>simp at h
     |_::_::_,[_],_,h=>simp at h
    exact vb (oX.cut _ w' bn) _ _ dq (yg _ _ nV)
   ·intro k;refine⟨?_,?_,?_⟩;rotate_left 2
    ·rintro j b ⟨ai,ag⟩;obtain⟨t1,t2⟩:=dd.fr.trn k j b ag;rcases ai with ai|ai<;>obtain⟨x,ji⟩:=fx.1 ai
     ·obtain⟨bl,b1,el,ao,_⟩:=dd.good.box k x (a8 k x ji).1;rw[t1]at ao;cases ao
     ·obtain⟨v',b1,ao,_⟩:=dd.good.own k x (bB k x ji).1;rw[t2]at ao;cases ao
    ·intro ab;by_cases ai:aM ak k
     ·rw[bc.cut_bx ai];rcases ai with ai|ai
      ·rw[ab]at ai;cases ai
      ·obtain⟨x,ji⟩:=fx.1 ai;obtain⟨v',b1,ao,_⟩:=dd.good.own k x (bB k x ji).1;rcases dd.good.one k with J|J
       ·exact J
       ·rw[J]at ao;cases ao
     ·exact(bc.cut_no ai).1
    ·intro ab;by_cases ai:aM ak k
     ·rw[bc.cut_ow ai];rcases ai with ai|ai
      ·obtain⟨x,ji⟩:=fx.1 ai;obtain⟨bl,b1,el,ao,_⟩:=dd.good.box k x (a8 k x ji).1;rcases dd.good.one k with J|J
       ·rw[J]at ao;cases ao
       ·exact J
      ·rw[ab]at ai;cases ai
     ·exact(bc.cut_no ai).2.1
   ·refine⟨dd.fr.os,dd.fr.tape,dd.fr.output,dd.fr.size,dd.fr.block,dd.fr.keep,dd.fr.fresh,fun n b h=>?_,fun n b h=>jb n (.inl (by rw[h];simp)),fun m n u h=>?_,fun m n u h=>jb m (.inr (by rw[h];simp)),fun k j bs dh b J U=>dd.fr.trd k j bs dh b J.2 U.2,fun k j b ag=>dd.fr.trb k j b ag.2,fun k j b ag=>(by rw[bc.cut_bx ag.1,bc.cut_ow ag.1];exact dd.fr.trn k j b ag.2),dd.fr.sh⟩
    ·have ai:aM ak (.obj n):=by
      cases av:ae (.obj n) s.b with
      |none=>rw[(ad _).1 av]at h;cases h
      |some x=>exact xR kb _ (by simp[av])
     rw[bc.cut_bx ai];exact dd.fr.obj n b h
    ·have ai:aM ak (.obj m):=by
      cases av:ae (.obj m) s.e with
      |none=>rw[(ad _).2.1 av]at h;cases h
      |some x=>exact xR ke _ (by simp[av])
     rw[bc.cut_ow ai];exact dd.fr.row m n u h
  rcases ri with rfl|rfl<;>exact ee
def bG.of{P:cI}(hm:P.follows .mixedOrders=true){aT:List (Nat×ev)}(aJ:hY P aT=true){f:FuncId}{fn:Func}(aG:P.funcs[f]? =some fn){code:Code}(ag:fn.body=some code)(v7:(fn.name== "runtime.NumGoroutine")=false){c:C}(aw:hU fn.ntmps aT c code=true){ea:List bW}(iK:p5 aT ea fn.results.toList=true)
  {args:List af} (av:args.length<=fn.ntmps) {s:cR} (kU:hX s) {Q:af->cR->Prop} (he:eM args->(∀j cs,ae j s.b=some cs->gV cs=true->eN cs)->df P (cK s) c (c5 ea s Q) ⟨jc 0 args,s.b,s.e,0,cK s⟩):bG P f args s Q:=
 bG.ofW aJ aG ag v7 iK av kU fun X ni rn _ J U=>qs hm aJ c code _ _ (by rw[ni];exact aw) (by rw[rn];exact he J U)
def b4(aT:List (Nat×ev))(c:C)(ea:List bW)(OF:Nat)(fn:Func):Bool:=
 match fn.body with
 |some code=>hU fn.ntmps aT c code&&p5 aT ea fn.results.toList&& !(fn.name== "runtime.NumGoroutine")&&decide (OF<=fn.ntmps)
 |none=>false
def bG.mk{P:cI}(hm:P.follows .mixedOrders=true){aT:List (Nat×ev)}(k:hY P aT=true){f:FuncId}{fn:Func}(l:P.funcs[f]? =some fn){c:C}{b:List bW}{n:Nat}(a:b4 aT c b n fn=true)
  {args:List af} (e:args.length<=n) {s:cR} (d:hX s) {Q:af->cR->Prop} (he:eM args->(∀j cs,ae j s.b=some cs->gV cs=true->eN cs)->df P (cK s) c (c5 b s Q) ⟨jc 0 args,s.b,s.e,0,cK s⟩):bG P f args s Q:=by
 unfold b4 at a;split at a
 ·rename_i code h;simp only[cQ,sO,gy]at a;obtain⟨⟨⟨J,U⟩,g⟩,i⟩:=a;exact bG.of hm k l h g J U (kD e i) d he
 ·cases a
def sx:hX ⟨[],[]⟩:=⟨fun _=>rfl,fun _=>rfl⟩
def bZ(a:List bW)(r:af)(e:Exit)(st:bp):Prop:=
 (e= .ret\/e= .normal)/\match ba st a with
  |some (c,b)=>c/\b5 (a1 b)=r
  |none=>eu
def Rl{b:List bW}{r:af}(g:az (fun _=>eu) r):bZ b r=c5 b ⟨[],[]⟩ (fun f d=>f=r/\d=⟨[],[]⟩):=by
 funext e st;unfold bZ c5;apply propext;refine and_congr_right fun _=>?_;cases ba st b with
 |none=>exact Iff.rfl
 |some x=>
  obtain⟨c,i⟩:=x;refine and_congr_right fun _=>?_;constructor
  ·intro h;refine⟨⟨[],[]⟩,trivial,trivial,fun k cs a=>by simp[ae]at a,fun k cs a=>by simp[ae]at a,sx,?_,h,rfl⟩;rw[h];exact tE (fun k a=>a.elim) r g
  ·rintro⟨d,_,_,_,_,_,_,h,_⟩;exact h
def bU.mk{P:cI}(hm:P.follows .mixedOrders=true){aT:List (Nat×ev)}(e:hY P aT=true){f:FuncId}{fn:Func}(h:P.funcs[f]? =some fn){c:C}{a:List bW}{n:Nat}(b:b4 aT c a n fn=true)
  {args:List af} (d:args.length<=n) {r:af} (g:az (fun _=>eu) r) (he:eM args->df P [] c (bZ a r) ⟨jc 0 args,[],[],0,[]⟩):bU P f args r:=by
 refine bG.mk hm e h b d sx fun J _=>?_;rw[<-Rl g];exact he J
def C2{α:Type}{β:Type}:∀l:List (aB×α),cL ([]:List (aB×β)) l=l
 |[]=>rfl
 |(k,x)::r=>by simp[cL,ae,C2 r]
def CallDo.val{P:cI}{n:Nat}{args:List af}{st:bp}{d:bd Nat}{K:bp->Prop}{r:af}(a:aH (fun _=>eu) args)(c:bU P n args r)(h:K {st with t:=e5 d r st.t}):CallDo P n args st d K:=by
 refine .inl ⟨⟨[],[]⟩,_,fun k cs a=>by simp[ae]at a,fun k cs a=>by simp[ae]at a,sx,jj (fun _ h=>h.elim) _ a,c,?_⟩;rintro b e ⟨rfl,rfl⟩;refine⟨⟨fun m h=>by simp[ae]at h,fun m h=>by simp[ae]at h⟩,?_⟩;have:after st ⟨[],[]⟩ ⟨[],[]⟩ d b={st with t:=e5 d b st.t}:=by simp[after,C2,cK]
 rw[this];exact h
@[reducible,simp] def gX(n:Int):dP:= .c (.int .i64 n)
@[reducible,simp] def I(a b:Nat):du:=⟨none,.s (.v a (.mov (.t b)))⟩
@[reducible,simp] def cd(a:Nat)(i:gO):du:=⟨none,.s (.v a i)⟩
@[reducible,simp] def dt(i:eY):du:=⟨none,.s i⟩
@[reducible,simp] def dT(a f:Nat)(l:List dP):du:=⟨none,.call (some a) (.c (.func f [])) l⟩
@[reducible,simp] def cg(j:Nat)(w:Bool)(a b:Nat):du:=⟨some (j,w),.s (.v a (.mov (.t b)))⟩
@[reducible,simp] def yy(j:Nat)(w:Bool)(a:Nat)(i:gO):du:=⟨some (j,w),.s (.v a i)⟩
@[reducible,simp] def ys(j:Nat)(w:Bool)(i:eY):du:=⟨some (j,w),.s i⟩
@[reducible,simp] def ck(d s a b:Nat):du:=cd d (.iaddr s (.t a) (.t b))
@[reducible,simp] def ay(d s a:Nat):du:=cd d (.load false s (.t a))
@[reducible,simp] def bk(d s a:Nat):du:=cd d (.load true s (.t a))
@[reducible,simp] def aF(d o s a:Nat):du:=cd d (.faddr o false s (.t a))
@[reducible,simp] def hp(d o s a:Nat):du:=cd d (.faddr o true s (.t a))
@[reducible,simp] def bu(d:Nat)(o:BinOp)(a b:Nat):du:=cd d (.bin o false (.t a) (.t b))
@[reducible,simp] def aV(d:Nat)(o:BinOp)(a:Nat)(n:Int):du:=cd d (.bin o false (.t a) (gX n))
@[reducible,simp] def cw(d a:Nat):du:=cd d (.len (.t a))
@[reducible,simp] def cO(d a:Nat):du:=cd d (.notB (.t a))
@[reducible,simp] def cV(d i a:Nat):du:=cd d (.ext i (.t a))
@[reducible,simp] def ds(d a b:Nat):du:=cd d (.pick (.t a) (.c (.bool true)) (.t b))
@[reducible,simp] def eg(d a b:Nat):du:=cd d (.pick (.t a) (.t b) (.c (.bool false)))
@[reducible,simp] def bz(d:Nat)(b:Bool):du:=cd d (.mov (.c (.bool b)))
@[reducible,simp] def bP(d:Nat)(n:Int):du:=cd d (.mov (gX n))
@[reducible,simp] def bV(s a b:Nat):du:=dt (.store s (.t a) (.t b))
@[reducible,simp] def ax(j:Nat)(w:Bool)(x:du):du:=⟨some (j,w),x.i⟩
@[reducible,simp] def aa(l:List du)(c:C):C:= .seq (.region l) c
@[reducible,simp] def aW(n:Nat)(a b:C):C:= .cond (.t n) a b
@[reducible,simp] def hJ(d a:Nat)(l:List dP):du:=⟨none,.call (some d) (.t a) l⟩
@[reducible,simp] def c0(d f a:Nat):du:=dT d f [.t a]
@[reducible,simp] def cb(d f a b:Nat):du:=dT d f [.t a,.t b]
@[reducible,simp] def eB:List af:=[.int .i64 0,.int .i64 0,.str [],.slice 4 .nil []]
@[reducible,simp] def ku:List af:=[.int .i64 0,.int .i64 0,.int .i64 0,.str [],.slice 4 .nil []]
@[reducible,simp] def ic:List af:=[.int .i64 0,.slice 5 .nil [],.slice 1 .nil [],.slice 2 .nil [],.slice 2 .nil []]
@[reducible,simp] def cZ(a b:Nat):du:=dt (.box a none (.t b))
@[reducible,simp] def dI(a:Nat)(l:List af):du:=dt (.alloc a none (.agg l))
@[reducible,simp] def fw(a n:Nat):du:=cd a (.mov (.c (.slice n .nil [])))
@[reducible,simp] def h1(a b c d e:Nat):du:=dt (.app a b c (.t d) (.t e))
@[reducible,simp] def fe(a b c:Nat)(l:List dP):du:=dt (.bsl a b c l)
@[reducible,simp] def gv(a b:Nat):du:=cd a (.nck (.t b))
@[reducible,simp] def kB(d s a:Nat)(n:Int):du:=cd d (.iaddr s (.t a) (gX n))
@[reducible,simp] def jn(d:Nat)(l:List af)(m:List (Nat×Nat×dP)):du:=cd d (.build l m)
@[reducible,simp] def gw(a b c:Nat)(x:C):C:= .block 0 (.loop (aa [bu a .lss b c] (.seq (aW a .skip (.exit 0)) x)))
@[reducible,simp,match_pattern] def aj(n:Int):af:= .int .i64 n
@[reducible,simp,match_pattern] def cX(l:List af):af:= .slice 1 .no l
@[reducible,simp,match_pattern] def b6(l:List af):af:= .slice 2 .no l
@[reducible,simp,match_pattern] def dx(l:List af):af:= .slice 4 .no l
@[reducible,simp,match_pattern] def bL(l:List af):af:= .slice 5 .no l
def QF:List cS:=[0,1,2,2,3,3,3,3,4,4,4,4,4,4,4,4,5,5,5,5,5,5,5,5,5,5,5,5,5,5,5,5,6,6,6,6,6,6,6,6,6,6,6,6,6,6,6,6,6,6,6,6,6,6,6,6,6,6,6,6,6,6,6,6,7,7,7,7,7,7,7,7,7,7,7,7,7,7,7,7,7,7,7,7,7,7,7,7,7,7,7,7,7,7,7,7,7,7,7,7,7,7,7,7,7,7,7,7,7,7,7,7,7,7,7,7,7,7,7,7,7,7,7,7,7,7,7,7,8,8,8,8,8,8,8,8,8,8,8,8,8,8,8,8,8,8,8,8,8,8,8,8,8,8,8,8,8,8,8,8,8,8,8,8,8,8,8,8,8,8,8,8,8,8,8,8,8,8,8,8,8,8,8,8,8,8,8,8,8,8,8,8,8,8,8,8,8,8,8,8,8,8,8,8,8,8,8,8,8,8,8,8,8,8,8,8,8,8,8,8,8,8,8,8,8,8,8,8,8,8,8,8,8,8,8,8,8,8,8,8,8,8,8,8,8,8,8,8,8,8,8,8,8,8,8,8]
end
section
open Go Go.RowKit
def eW{α:Type}{l:List α}{i:Nat}(h:i<l.length):∃b,l[i]? =some b/\∀h,(l[i]'h)=b:=⟨l[i],cl h,fun _=>rfl⟩
def P9(st:bp)(i:eY):Prop:=match nC st i with|some (c,_)=>c|none=>eu
def Qa(st:bp)(i:eY):bp:=match nC st i with|some (_,s)=>s|none=>st
def Gi(P:cI)(r:List du)(K:bp->Prop)(st:bp):Prop:=iZ P r st K
def AE(P:cI)(ob:List aB)(c:C)(Q:Exit->bp->Prop)(st:bp):Prop:=df P ob c Q st
def re(P:cI)(v:af)(s:Nat)(w:Bool)(i:eU)(r:List du)(st:bp)(K:bp->Prop):Prop:=
 match v with
 | .bool b=>(b=w->iZ P (⟨none,i⟩::r) {st with t:=put s (.bool w) st.t} K)/\(b= !w->iZ P r {st with t:=e5 i.dst (.tuple []) (put s (.bool !w) st.t)} K)
 | .tuple []=>iZ P r {st with t:=e5 i.dst (.tuple []) st.t} K
 |_=>eu
def vL(P:cI)(ob:List aB)(v:af)(x:dP)(t e:C)(Q:Exit->bp->Prop)(st:bp):Prop:=
 match v with
 | .bool b=>(b=true->df P ob t Q (tT st x true))/\(b=false->df P ob e Q (tT st x false))
 |_=>eu
def LU(P:cI)(v:af)(d:bd Nat)(xs:List af)(r:List du)(st:bp)(K:bp->Prop):Prop:=
 match v with
 | .func n dH=>CallDo P n (cf (xs++dH)) st d (Gi P r K)
 |_=>eu
section
variable {P:cI} {ob:List aB} {st:bp} {K:bp->Prop} {r:List du} {Q:Exit->bp->Prop} {a b c t e:C}
def af9:iZ P [] st K=K st:=rfl
def aga{i:eY}:iZ P (⟨none,.s i⟩::r) st K=(P9 st i/\iZ P r (Qa st i) K):=by
 simp only[iZ,vK,P9,Qa];cases nC st i with
 |none=>simp
 |some x=>rfl
def af6{d:bd Nat}{f:dP}{xs:List dP}:iZ P (⟨none,.call d f xs⟩::r) st K=LU P (cE st.t f) d (xs.map (cE st.t)) r st K:=by simp only[iZ,vK,LU];rfl
def af8{d:Nat}{x:dP}:iZ P (⟨none,.next d x⟩::r) st K=uA st d (cE st.t x) (Gi P r K):=by simp only[iZ,vK];rfl
def yE(P:cI)(ob:List aB)(c:C)(Q:Exit->bp->Prop):bd bp->Prop
 |some st=>df P ob c Q st
 |none=>eu
def adt:yE P ob c Q (some st)=df P ob c Q st:=rfl
def afK{s:Nat}:df P ob (.pub s c) Q st=yE P ob c Q (ya st s):=by simp only[df];cases ya st s<;>rfl
def afG{a:Bool}{s:Nat}:df P ob (.fg a s c) Q st=df P ob c Q {st with t:=put s (A8 a (get s st.t)) st.t}:=rfl
def afH{a:Bool}{s:Nat}{d:C}:df P ob (.seq (.fg a s c) d) Q st=df P ob (.seq c d) Q {st with t:=put s (A8 a (get s st.t)) st.t}:=rfl
def afI{a:Bool}{s:Nat}:df P ob (.fz a s c) Q st=yE P ob c Q (xe st a s):=by simp only[df];cases xe st a s<;>rfl
def afJ{a:Bool}{s:Nat}{d:C}:df P ob (.seq (.fz a s c) d) Q st=yE P ob (.seq c d) Q (xe st a s):=by simp only[df];cases xe st a s<;>rfl
def afL{s:Nat}:df P ob (.pubB s c) Q st=yE P ob c Q (x9 st s):=by simp only[df];cases x9 st s<;>rfl
def af5{n:Nat}{dH:List af}{d:bd Nat}{xs:List af}:LU P (.func n dH) d xs r st K=CallDo P n (cf (xs++dH)) st d (Gi P r K):=rfl
def af7{s:Nat}{w:Bool}{i:eU}:iZ P (⟨some (s,w),i⟩::r) st K=re P (get s st.t) s w i r st K:=by simp only[iZ,re];try rfl
def agf{s:Nat}{i:eU}:re P (.bool true) s true i r st K=iZ P (⟨none,i⟩::r) {st with t:=put s (.bool true) st.t} K:=by simp[re]
def agb{s:Nat}{i:eU}:re P (.bool false) s false i r st K=iZ P (⟨none,i⟩::r) {st with t:=put s (.bool false) st.t} K:=by simp[re]
def age{s:Nat}{i:eU}:re P (.bool true) s false i r st K=iZ P r {st with t:=e5 i.dst (.tuple []) (put s (.bool true) st.t)} K:=by simp[re]
def agc{s:Nat}{i:eU}:re P (.bool false) s true i r st K=iZ P r {st with t:=e5 i.dst (.tuple []) (put s (.bool false) st.t)} K:=by simp[re]
def agd{s:Nat}{w:Bool}{i:eU}:re P (.tuple []) s w i r st K=iZ P r {st with t:=e5 i.dst (.tuple []) st.t} K:=by simp[re]
def cz{x:Bool}{s:Nat}{w:Bool}{i:eU}(J:x=w->iZ P (⟨none,i⟩::r) {st with t:=put s (.bool w) st.t} K)(U:x= !w->iZ P r {st with t:=e5 i.dst (.tuple []) (put s (.bool !w) st.t)} K):re P (.bool x) s w i r st K:=⟨J,U⟩
def afv:df P ob (.seq (.seq a b) c) Q st=df P ob (.seq a (.seq b c)) Q st:=by simp only[df];congr 1;funext e st';cases e<;>rfl
def afQ:df P ob (.seq .skip c) Q st=df P ob c Q st:=rfl
def afO:df P ob (.seq .ret c) Q st=Q .ret st:=rfl
def afE{n:Nat}:df P ob (.seq (.exit n) c) Q st=Q (.exit n) st:=rfl
def afR:df P ob .skip Q st=Q .normal st:=rfl
def afP:df P ob .ret Q st=Q .ret st:=rfl
def afF{n:Nat}:df P ob (.exit n) Q st=Q (.exit n) st:=rfl
def afM{gs:List du}:df P ob (.seq (.region gs) c) Q st=iZ P gs st (AE P ob c Q):=rfl
def afN{gs:List du}:df P ob (.region gs) Q st=iZ P gs st (Q .normal):=rfl
def afy{x:dP}:df P ob (.seq (.cond x t e) c) Q st=vL P ob (cE st.t x) x (.seq t c) (.seq e c) Q st:=by simp only[df,vL];try rfl
def afz{x:dP}:df P ob (.cond x t e) Q st=vL P ob (cE st.t x) x t e Q st:=by simp only[df,vL];try rfl
def afT{x:dP}:vL P ob (.bool true) x t e Q st=df P ob t Q (tT st x true):=by simp[vL]
def afS{x:dP}:vL P ob (.bool false) x t e Q st=df P ob e Q (tT st x false):=by simp[vL]
def ct{v:Bool}{x:dP}(J:v=true->df P ob t Q (tT st x true))(U:v=false->df P ob e Q (tT st x false)):vL P ob (.bool v) x t e Q st:=⟨J,U⟩
def Ay(P:cI)(ob:List aB)(id:Nat)(c:C)(Q:Exit->bp->Prop)(e:Exit)(st:bp):Prop:=
 match e with
 | .normal=>df P ob c Q st
 | .exit j=>if j=id then df P ob c Q st else Q (.exit j) st
 |e=>Q e st
def afw{id:Nat}:df P ob (.seq (.block id a) c) Q st=df P ob a (Ay P ob id c Q) st:=by
 simp only[df];congr 1;funext e st';cases e with
 |exit j=>rfl
 |_=>rfl
def afx{id:Nat}:df P ob (.block id a) Q st=df P ob a (Ay P ob id .skip Q) st:=by
 simp only[df];congr 1;funext e st';cases e with
 |exit j=>simp only[Ay];by_cases b:j=id<;>simp[b,df]
 |_=>rfl
def adi{id:Nat}:Ay P ob id c Q .normal st=AE P ob c Q st:=rfl
def adh{id j:Nat}:Ay P ob id c Q (.exit j) st=if j=id then AE P ob c Q st else Q (.exit j) st:=rfl
def adj{id:Nat}:Ay P ob id c Q .ret st=Q .ret st:=rfl
def bY(ob:List aB)(b:Nat->bp->Prop)(k:Nat)(Q:Exit->bp->Prop)(e:Exit)(st:bp):Prop:=
 match e with
 | .normal=> ∃bs a,bs<k/\gn ob st a/\b bs a
 |e=>Q e st
def Gd{b:Nat->bp->Prop}{k:Nat}:bY ob b k Q .normal st= ∃bs a,bs<k/\gn ob st a/\b bs a:=rfl
def ado{a:Nat->bp->Prop}{k n:Nat}:bY ob a k Q (.exit n) st=Q (.exit n) st:=rfl
def adp{a:Nat->bp->Prop}{k:Nat}:bY ob a k Q .ret st=Q .ret st:=rfl
def qq(b:Nat->bp->Prop)(m:Nat)(c:bp)(hw:gn ob st c)(l:b m c)(h:∀k s,b k s->(∀i,eV (get i s.t))->(∀j cs,ae j s.b=some cs->gV cs=true->eN cs)->df P ob a (bY ob b k Q) s):df P ob (.loop a) Q st:=by
 simp only[df];refine⟨b,m,c,hw,l,fun k s J U n=>?_⟩;have:=h k s J U n;have g:(bY ob b k Q)=(fun e d=>match e with| .normal=> ∃bs f,bs<k/\gn ob d f/\b bs f|e=>Q e d):=by funext e d;cases e<;>rfl
 rw[g]at this;exact this
end
/-Regions cT draw kA order. -/
def P7(n0:Nat)(st:bp)(i:eY):Prop:=match fk (qn n0 i) st.n (qn n0 i::st.o) st i with|some (c,_)=>c|none=>eu
def P8(n0:Nat)(st:bp)(i:eY):bp:=match fk (qn n0 i) st.n (qn n0 i::st.o) st i with|some (_,s)=>s|none=>st
def Kr(P:cI)(q:Bool)(nw:List Nat)(n0:Nat)(r:List du)(K:bp->Prop)(st:bp):Prop:=iQ P q nw n0 r st K
def rb(P:cI)(q:Bool)(nw:List Nat)(n0:Nat)(v:af)(s:Nat)(w:Bool)(i:eU)(r:List du)(st:bp)(K:bp->Prop):Prop:=
 match v with
 | .bool b=>(b=w->iQ P q nw n0 (⟨none,i⟩::r) {st with t:=put s (.bool w) st.t} K)/\(b= !w->iQ P q nw n0 r {st with t:=e5 i.dst (.tuple []) (put s (.bool !w) st.t)} K)
 | .tuple []=>iQ P q nw n0 r {st with t:=e5 i.dst (.tuple []) st.t} K
 |_=>eu
def LR(P:cI)(q:Bool)(nw:List Nat)(n0:Nat)(v:af)(d:bd Nat)(xs:List af)(r:List du)(st:bp)(K:bp->Prop):Prop:=
 match v with
 | .func n dH=>hK P q nw n (cf (xs++dH)) st d (Kr P q nw n0 r K)
 |_=>eu
section
variable {P:cI} {ob:List aB} {st:bp} {K:bp->Prop} {r:List du} {Q:Exit->bp->Prop} {c:C} {q:Bool} {nw:List Nat} {n0 N:Nat}
def afX:iQ P q nw n0 [] st K=K st:=rfl
def afY{i:eY}:iQ P q nw n0 (⟨none,.s i⟩::r) st K=(nh q nw n0 st i/\P7 n0 st i/\iQ P q nw n0 r (P8 n0 st i) K):=by
 simp only[iQ,k9,P7,P8];cases fk (qn n0 i) st.n (qn n0 i::st.o) st i with
 |none=>simp
 |some x=>rfl
def afV{d:bd Nat}{f:dP}{xs:List dP}:iQ P q nw n0 (⟨none,.call d f xs⟩::r) st K=LR P q nw n0 (cE st.t f) d (xs.map (cE st.t)) r st K:=by simp only[iQ,k9,LR];rfl
def afU{n:Nat}{dH:List af}{d:bd Nat}{xs:List af}:LR P q nw n0 (.func n dH) d xs r st K=hK P q nw n (cf (xs++dH)) st d (Kr P q nw n0 r K):=rfl
def afW{s:Nat}{w:Bool}{i:eU}:iQ P q nw n0 (⟨some (s,w),i⟩::r) st K=rb P q nw n0 (get s st.t) s w i r st K:=by simp only[iQ,rb];try rfl
def af3{s:Nat}{i:eU}:rb P q nw n0 (.bool true) s true i r st K=iQ P q nw n0 (⟨none,i⟩::r) {st with t:=put s (.bool true) st.t} K:=by simp[rb]
def afZ{s:Nat}{i:eU}:rb P q nw n0 (.bool false) s false i r st K=iQ P q nw n0 (⟨none,i⟩::r) {st with t:=put s (.bool false) st.t} K:=by simp[rb]
def af2{s:Nat}{i:eU}:rb P q nw n0 (.bool true) s false i r st K=iQ P q nw n0 r {st with t:=e5 i.dst (.tuple []) (put s (.bool true) st.t)} K:=by simp[rb]
def af0{s:Nat}{i:eU}:rb P q nw n0 (.bool false) s true i r st K=iQ P q nw n0 r {st with t:=e5 i.dst (.tuple []) (put s (.bool false) st.t)} K:=by simp[rb]
def af1{s:Nat}{w:Bool}{i:eU}:rb P q nw n0 (.tuple []) s w i r st K=iQ P q nw n0 r {st with t:=e5 i.dst (.tuple []) st.t} K:=by simp[rb]
def cy{x:Bool}{s:Nat}{w:Bool}{i:eU}(J:x=w->iQ P q nw n0 (⟨none,i⟩::r) {st with t:=put s (.bool w) st.t} K)(U:x= !w->iQ P q nw n0 r {st with t:=e5 i.dst (.tuple []) (put s (.bool !w) st.t)} K):rb P q nw n0 (.bool x) s w i r st K:=⟨J,U⟩
def afA{gs:List du}:df P ob (.seq (.drawn q N gs) c) Q st=iQ P q [] st.n gs st (vr (st.n+N) st.o (AE P ob c Q)):=rfl
def afB{gs:List du}:df P ob (.drawn q N gs) Q st=iQ P q [] st.n gs st (vr (st.n+N) st.o (Q .normal)):=rfl
def afC{gs:List du}:df P ob (.seq (.drawnW nw N gs) c) Q st=((∀j∈nw,.obj j∉st.o)/\iQ P false nw st.n gs st (vr (st.n+N) (nw.map aB.obj++st.o) (AE P ob c Q))):=rfl
def afD{gs:List du}:df P ob (.drawnW nw N gs) Q st=((∀j∈nw,.obj j∉st.o)/\iQ P false nw st.n gs st (vr (st.n+N) (nw.map aB.obj++st.o) (Q .normal))):=rfl
def hK.val{n:Nat}{args:List af}{d:bd Nat}{r:af}(a:aH (fun _=>eu) args)(b:bU P n args r)(h:K {st with t:=e5 d r st.t}):hK P q nw n args st d K:=by
 refine .inr ⟨⟨[],[]⟩,⟨[],[]⟩,r,none,fun k cs a=>by simp[ae]at a,fun k cs a=>by simp[ae]at a,sx,sx,⟨fun k h=>.inl h,fun k h=>.inl h,fun k h=>h,fun k h=>h,fun k h=>by cases h⟩,jj (fun _ h=>h.elim) _ a,b,fun _=>⟨rfl,rfl⟩,?_⟩;have:({after st ⟨[],[]⟩ ⟨[],[]⟩ d r with o:=st.o}:bp)={st with t:=e5 d r st.t}:=by simp[after,C2]
 rw[this];exact h
def aP{n:Nat}{args:List af}{d:bd Nat}{r:af}(b:bU P n args r)(h:K {st with t:=e5 d r st.t})(a:aH (fun _=>eu) args:=by simp):hK P q nw n args st d K:=hK.val a b h
end
section
variable {k:IntKind} {n:Int} {b:Bool} {s:List cS} {sz:Nat} {tag:jF} {xs:List af} {key:aB} {off f:Nat} {x:af}
@[simp]def axu:eT (.int k n)=true:=rfl
@[simp]def axh:eT (.bool b)=true:=rfl
@[simp]def axD:eT (.str s)=true:=rfl
@[simp]def axC:eT (.slice sz tag xs)=true:=rfl
@[simp]def axd:eT (.agg xs)=true:=rfl
@[simp]def axA:eT (.ptr key off)=true:=rfl
@[simp]def axq:eT (.eptr x)=true:=rfl
@[simp]def axt{t:Nat}:eT (.iface t x)=true:=rfl
@[simp]def at9{t:Nat}:cells (.iface t x)=[.iface t x]:=rfl
@[simp]def axj{a:bd Addr}{n c:Nat}:eT (.cst (.slice a n c))=true:=rfl
@[simp]def axk{s}:eT (.cst (.string s))=true:=rfl
@[simp]def axz:eT .nilp=true:=rfl
@[simp]def axr:eT (.func f xs)=true:=rfl
@[simp]def axs:eT (.gmap key)=true:=rfl
@[simp]def axB{n:Nat}:eT (.row sz key n)=true:=rfl
@[simp]def aui{n:Nat}:cells (.row sz key n)=[.row sz key n]:=rfl
@[simp]def aua:cells (.int k n)=[.int k n]:=rfl
@[simp]def atZ:cells (.bool b)=[.bool b]:=rfl
@[simp]def auk:cells (.str s)=[.str s]:=rfl
@[simp]def auj:cells (.slice sz tag xs)=[.slice sz tag xs]:=rfl
@[simp]def atV:cells (.agg xs)=xs:=rfl
@[simp]def auh:cells (.ptr key off)=[.ptr key off]:=rfl
@[simp]def at6:cells (.eptr x)=[.eptr x]:=rfl
@[simp]def aug:cells .nilp=[.nilp]:=rfl
@[simp]def at7:cells (.func f xs)=[.func f xs]:=rfl
@[simp]def at8:cells (.gmap key)=[.gmap key]:=rfl
end
section
variable {b:List (aB×List af)} {e:List (aB×dW)} {agg:Bool} {sz off:Nat} {k:aB} {p:af} {cs xs bm:List af} {gk:IntKind} {n i:Int} {m j:Nat} {tag:jF} {s:List cS} {RM:Bool} {lo hi:bd af}
@[simp]def awh{a:Nat}{f:Nat}:n3 b e agg sz (.rptr a k m j f)=Ad agg sz a m j f (ae k e):=rfl
@[simp]def awg:n3 b e agg sz (.ptr k off)=(match ae k b with
  |some cs=>if agg then some (gV cs=true/\off+sz<=cs.length,.agg ((cs.drop off).take sz))else(cs[off]?).map fun p=>(gV cs=true,p)
  |none=>none):=rfl
@[simp]def awf:n3 b e agg sz (.eptr p)=if agg then some (qI sz p,p)else some (eT p=true/\cells p=[p],p):=rfl
@[simp]def auT:DO agg sz (.eptr p)=if agg then some (qI sz p,p)else some (eT p=true/\cells p=[p],p):=rfl
@[simp]def auL{o:Nat}:sY off agg sz (.ptr k o)=some (True,.ptr k (o+off)):=rfl
@[simp]def auM{a f:Nat}:sY off agg sz (.rptr a k m j f)=some (True,.rptr a k m j (f+off)):=rfl
@[simp]def auG:sY off agg sz (.eptr (.agg cs))=if agg then some (off+sz<=cs.length,.eptr (.agg ((cs.drop off).take sz)))else(cs[off]?).map fun p=>(eT p=true/\cells p=[p],.eptr p):=rfl
@[simp]def auO:vO off agg sz (.agg cs)=if agg then some (off+sz<=cs.length,.agg ((cs.drop off).take sz))else(cs[off]?).map fun p=>(True,p):=rfl
@[simp]def avm{a:Nat}:BL sz (.slice a tag xs) (.int gk i)=if a=sz then some (0<=i/\i<xs.length,.eptr (xs.getD i.toNat .junk))else none:=rfl
@[simp]def avl{a:Nat}:BL sz (.row a k m) (.int gk i)=if a=sz then some (0<=i/\i<m,.rptr a k m i.toNat 0)else none:=rfl
@[simp]def awe{a:Nat}:BY (.slice a tag xs)=some (True,.int .i64 xs.length):=rfl
@[simp]def awd{a:Nat}:BY (.row a k m)=some (True,.int .i64 m):=rfl
@[simp]def awc{a:bd Addr}{n c:Nat}:BY (.cst (.slice a n c))=some (True,.int .i64 n):=rfl
@[simp]def axb{s}:FJ (.cst (.string s))=some (True,.int .i64 s.size):=rfl
@[simp]def axc:FJ (.str s)=some (True,.int .i64 s.length):=rfl
@[simp]def auF:A3 j (.tuple bm)=(bm[j]?).map fun p=>(True,p):=rfl
@[simp]def awJ:Cc (.ptr k off)=some (True,.ptr k off):=rfl
@[simp]def awH:Cc (.eptr p)=some (True,.eptr p):=rfl
@[simp]def awI:Cc (.func j cs)=some (True,.func j cs):=rfl
@[simp]def awN:IW (.bool RM)=some (True,.bool (!RM)):=rfl
@[simp]def axa:JT (.str s) (.int gk i)=some (0<=i/\i<s.length,.int .u8 (s.getD i.toNat 0).toNat):=rfl
@[simp]def axG:JY (.str s) lo hi=(match sy 0 lo,sy s.length hi with
  |some l,some h=>some (0<=l/\l<=h/\h<=s.length,.str ((s.take h.toNat).drop l.toNat))
  |_,_=>none):=rfl
@[simp]def awl{a:Nat}:IC sz (.slice a tag xs) lo hi=(if a=sz then match sy 0 lo,sy xs.length hi with
  |some l,some h=>some (0<=l/\l<=h/\h<=xs.length,.slice sz .no ((xs.take h.toNat).drop l.toNat))
  |_,_=>none else none):=rfl
def YC{f:aB->bd (List af)}{a:kh}{z q:af}{ok:Bool}:pf f a z ok (.gmap k) q=(match f k with
  |some (.hdm _ _::kvs)=>if xT a q=false then none else match xY a q kvs with
   |some (some v)=>some (True,if ok then .tuple [v,.bool true]else v)
   |some none=>some (True,if ok then .tuple [z,.bool false]else z)
   |none=>none
  |_=>none):=rfl
def Yz{f:aB->bd (List af)}:qL f (.ptr k 0)=(match f k with
  |some [.hdi _ seen last,.gmap mk]=>match f mk with
   |some (.hdm clock borns::kvs)=>match seen.getLast? with
    |some n=>(n5 n borns kvs).map fun p=>(clock=last,p)
    |none=>none
   |_=>none
  |_=>none):=rfl
@[simp]def aw6{b f n' el a:Nat}:Ad agg sz b m j f (some ⟨n',el,a,some xs⟩)=(if n'=m/\a=b then
   (match xs[j]? with
    |some p=>if agg then some (eT p=true/\f+sz<=(cells p).length,.agg (((cells p).drop f).take sz))else((cells p)[f]?).map fun q=>(eT p=true,q)
    |none=>none)else none):=rfl
end
attribute [simp] afv afM afw afy afQ afO afE afR afP afF afN afx afz AE adi adh adj ado adp af9 aga af6 af5 af7
 agf agb age agc agd afT afS P9 Qa nC hZ jc cE get put kv rz oK oL cJ sy Di Ia JZ nD vG I9 IQ GY IM
 ae e5 eY.dst eU.dst tT Gi um cf b5 az aH
 afA afB afC afD afX afY afV afU afW af3 afZ af2 af0 af1 P7 P8 fk qn nh qu gO.loadO vr Kr zC gV uo af8 afK afL afG afH afI afJ xe Mk uu A8 adt ya Fk x9 sF oc js IG Gu r4
def aO{P:cI}{n:Nat}{args:List af}{st:bp}{d:bd Nat}{K:bp->Prop}{r:af}(b:bU P n args r)(h:K {st with t:=e5 d r st.t})(a:aH (fun _=>eu) args:=by simp):CallDo P n args st d K:=CallDo.val a b h
def al{a b:Prop}(d:b)(c:a:=by first|omega|(unfold tB;omega)|(unfold lim;omega)):a/\b:=⟨c,d⟩
def c3{p:Prop}(h:eu:=by first|contradiction|omega):p:=h.elim
def cr{p:Prop}(h:p:=by(try simp[*]);(repeat' first|with_reducible refine al ?_|with_reducible refine aO (by assumption) ?_|with_reducible refine aP (by assumption) ?_|simp[*]);(all_goals first|done|(simp[bZ,ba,be,a1, *];done))):p:=h
end
section
open Go Go.RowKit
structure ez (s:cR):Prop where
 obj:hX s
 kb:∀k cs,ae k s.b=some cs->aH (aM s) cs
 ke:∀k o,ae k s.e=some o->dV (aM s) o
structure Same (s ak:cR):Prop where
 b:∀k,(ae k s.b).isSome=(ae k ak.b).isSome
 e:∀k,(ae k s.e).isSome=(ae k ak.e).isSome
def Same.refl(s:cR):Same s s:=⟨fun _=>rfl,fun _=>rfl⟩
def Same.inObs{s a:cR}(h:Same s a)(k:aB):aM s k↔aM a k:=by unfold aM;rw[h.b,h.e]
def uZ{α:Type}{k:aB}{x:α}:∀{l:List (aB×α)},(k,x)∈l->(ae k l).isSome
 |(i,y)::r,h=>by
  simp only[ae];split
  ·rfl
  ·rename_i a;rcases gI.1 h with h|h
   ·cases h;exact absurd rfl a
   ·exact uZ h
def ND{s:cR}{k:aB}(h:k∈cK s):aM s k:=by
 unfold cK at h;rcases kd.1 h with h|h
 ·obtain⟨⟨bs,x⟩,J,rfl⟩:=gZ.1 h;exact .inl (uZ J)
 ·obtain⟨⟨bs,x⟩,J,rfl⟩:=gZ.1 h;exact .inr (uZ J)
def kJ{s:cR}(h:hX s)(m:Nat):aB.loc m∉cK s:=fun hm=>by
 rcases ND hm with J|J
 ·rw[h.1 m]at J;cases J
 ·rw[h.2 m]at J;cases J
def jz{α β:Type}(s:List (aB×β)):∀(a b:List (aB×α)),cL s (a++b)=cL s a++cL s b
 |[],b=>rfl
 |(k,x)::r,b=>by
  simp only[b7,cL];cases ae k s with
  |none=>simp[jz s r b]
  |some _=>exact jz s r b
def Q5{α β:Type}(s:List (aB×β)):∀(l:List (aB×α)),(∀k x,(k,x)∈l->(ae k s).isSome)->cL s l=[]
 |[],_=>rfl
 |(k,x)::r,h=>by
  have J:=h k x Ψ;simp only[cL];cases a:ae k s with
  |none=>rw[a]at J;cases J
  |some _=>exact Q5 s r fun k x b=>h k x (by simp[b])
def hH{α:Type}(s:List (aB×α)):cL s s=[]:=Q5 s s fun k x h=>uZ h
def kO{α:Type}{k:aB}{x:α}:∀{l:List (aB×α)},ae k l=none->cJ k x l=l++[(k,x)]
 |[],_=>rfl
 |(i,y)::r,h=>by
  simp only[ae]at h;split at h
  ·cases h
  ·rename_i a;simp[cJ,a,kO h]
def c6{α:Type}(k:aB):∀(a b:List (aB×α)),ae k (a++b)=match ae k a with|some x=>some x|none=>ae k b
 |[],b=>rfl
 |(i,y)::r,b=>by
  simp only[b7,ae];split
  ·rfl
  ·exact c6 k r b
def CallDo.ob{P:cI}{n:Nat}{args:List af}{st:bp}{d:bd Nat}{K:bp->Prop}{s:cR}{Q:af->cR->Prop}(g:bG P n args s Q)(b:ez s)(e:∀k cs,ae k s.b=some cs->ae k st.b=some cs)(he:∀k o,ae k s.e=some o->ae k st.e=some o)
  (f:aH (aM s) args) (h:∀r a,Q r a->Same s a/\K ⟨e5 d r st.t,cL s.b st.b++a.b,cL s.e st.e++a.e,st.n,st.o++cK a⟩):CallDo P n args st d K:=by
 refine .inl ⟨s,Q,fun k cs aw=>⟨e k cs aw,.inl (by simp[aw]),b.kb k cs aw⟩,fun k o ar=>⟨he k o ar,.inr (by simp[ar]),b.ke k o ar⟩,b.obj,f,g,fun r a c=>?_⟩;obtain⟨J,U⟩:=h r a c;exact⟨⟨fun m hm=>.inl (by rw[J.b];exact hm),fun m hm=>.inl (by rw[J.e];exact hm)⟩,U⟩
def c5.ob{j:List bW}{s a:cR}{Q:af->cR->Prop}{e:Exit}{st:bp}{c:Prop}{f:List af}(n:e= .ret\/e= .normal)(p:ba st j=some (c,f))(aw:c)(g:ez a)(i:Same s a)(v:∀k cs,ae k a.b=some cs->ae k st.b=some cs)(q:∀k o,ae k a.e=some o->ae k st.e=some o)
  (w:az (aM a) (b5 (a1 f))) (t:Q (b5 (a1 f)) a):c5 j s Q e st:=by
 refine⟨n,?_⟩;rw[p];have m:∀{α:Type} (l:List (aB×α)),(∀k x,(k,x)∈l->aM a k)->lX a l:=by
  intro α l;induction l with
  |nil=>intro _;trivial
  |cons x r u=>obtain⟨k,x⟩:=x;intro h;exact⟨h k x Ψ,u fun k x b=>h k x (by simp[b])⟩
 exact⟨aw,a,m _ fun k x b=>.inl (by rw[<-i.b];exact uZ b),m _ fun k x b=>.inr (by rw[<-i.e];exact uZ b),fun k cs d=>⟨v k cs d,.inl (by simp[d]),g.kb k cs d⟩,fun k o ar=>⟨q k o ar,.inr (by simp[ar]),g.ke k o ar⟩,g.obj,w,t⟩
def bG.mono{P:cI}{f:FuncId}{args:List af}{s:cR}{Q b:af->cR->Prop}(h:bG P f args s Q)(g:∀r a,Q r a->b r a):bG P f args s b:=by
 intro w ν bm J U i;have hm:∀(e:Ending) (w':World),(∃v r a bn,e= .returned v/\Q r a/\aU w' bn r v/\Good (fun bl=>fB ν s bl\/w.heap.size<=bl) w' bn a.b a.e/\pN bn a/\hX a/\pC ⟨w,ν,fB ν s,0,cK s⟩ w' bn)->(∃v r a bn,e= .returned v/\b r a/\aU w' bn r v/\Good (fun bl=>fB ν s bl\/w.heap.size<=bl) w' bn a.b a.e/\pN bn a/\hX a/\pC ⟨w,ν,fB ν s,0,cK s⟩ w' bn):=by rintro e w' ⟨v,r,a,bn,d,a2,a3⟩;exact⟨v,r,a,bn,d,g _ _ a2,a3⟩
 rcases h w ν bm J U i with⟨c,aw⟩|⟨v,w',aw,j⟩
 ·exact .inl ⟨c,aw.mono hm⟩
 ·exact .inr ⟨v,w',aw,hm _ _ j⟩
def E2{s:cR}{k:aB}(h:aM s k):¬fresh 0 (cK s) k:=fun a=>a.2 (rF h)
def gn.ob{s:cR}(c:ez s){st:bp}{t':List (Nat×af)}(d:∀x∈t',get x.1 st.t=x.2/\az (aM s) x.2)(e:∀k cs,ae k s.b=some cs->ae k st.b=some cs)(he:∀k o,ae k s.e=some o->ae k st.e=some o):
  gn (cK s) st ⟨t',s.b,s.e,0,cK s⟩:=
 ⟨fun x b=>⟨(d x b).1,tE (fun k a=>E2 a) _ (d x b).2⟩,fun k cs aw=>⟨e k cs aw,E2 (.inl (by simp[aw])),jj (fun k a=>E2 a) _ (c.kb k cs aw)⟩,
  fun k o ar=>⟨he k o ar,E2 (.inr (by simp[ar])),fun xs b=>jj (fun k a=>E2 a) _ (c.ke k o ar xs b)⟩,fun m hm=>hm⟩
def dc(st:bp)(a:List bW)(R:af->Prop):Prop:=match ba st a with
 |some (c,b)=>c/\R (b5 (a1 b))
 |none=>eu
def c5.at{b:List bW}{s:cR}{Q:af->cR->Prop}{e:Exit}{st:bp}(a:cR)(d:e= .ret\/e= .normal)(i:ez a)(f:Same s a)(j:∀k cs,ae k a.b=some cs->ae k st.b=some cs)(g:∀k o,ae k a.e=some o->ae k st.e=some o)
  (h:dc st b fun r=>az (aM a) r/\Q r a):c5 b s Q e st:=by
 unfold dc at h;split at h
 ·rename_i c m l;exact c5.ob d l h.1 i f j g h.2.1 h.2.2
 ·exact h.elim
def hK.ob{P:cI}{nw:List Nat}{n:Nat}{args:List af}{st:bp}{d:bd Nat}{K:bp->Prop}{s b:cR}{r:af}(l:bG P n args s fun i t'=>i=r/\t'=b)(f:ez s)(g:ez b)(c:Same s b)(j:∀k cs,ae k s.b=some cs->ae k st.b=some cs)(he:∀k o,ae k s.e=some o->ae k st.e=some o)
  (a:aH (aM s) args) (h:K ⟨e5 d r st.t,cL s.b st.b++b.b,cL s.e st.e++b.e,st.n,st.o⟩):hK P false nw n args st d K:=
 .inr ⟨s,b,r,none,fun k cs aw=>⟨j k cs aw,.inl (by simp[aw]),f.kb k cs aw⟩,fun k o ar=>⟨he k o ar,.inr (by simp[ar]),f.ke k o ar⟩,f.obj,g.obj,⟨fun k a=>.inl (by rw[c.b];exact a),fun k a=>.inl (by rw[c.e];exact a),fun k a=>by rw[<-c.b];exact a,fun k a=>by rw[<-c.e];exact a,fun k a=>by cases a⟩,a,l,(fun e=>by cases e),h⟩
def ez.of{s:cR}(ar:hX s)(b:∀x∈s.b,aH (aM s) x.2)(he:∀x∈s.e,∀xs,x.2.xs=some xs->aH (aM s) xs):ez s:=⟨ar,fun k cs a=>b (k,cs) (uY a),fun k o a xs c=>he (k,o) (uY a) xs c⟩
@[simp]def awQ(b:List (aB×List af))(e:List (aB×dW)):cK ⟨b,e⟩=b.map (·.1)++e.map (·.1):=rfl
def CV{α:Type}{k:aB}{p:α}:∀{a r:List (aB×α)},ae k a=none->cJ k p (a++r)=a++cJ k p r
 |[],_,_=>rfl
 |(i,y)::a,r,h=>by
  simp only[ae]at h;split at h
  ·cases h
  ·rename_i b;simp[cJ,b,CV h]
def amb{α:Type}{s b:List (aB×α)}(h:∀p∈s,ae p.1 b=some p.2):∀k x,ae k s=some x->ae k b=some x:=fun k x a=>h (k,x) (uY a)
def eo{S:aB->Prop}{b2 b:List (aB×List af)}(h:∀p∈b2,ae p.1 b=some p.2/\S p.1/\aH S p.2):hy S b2 b:=fun k x a=>h (k,x) (uY a)
def ep{S:aB->Prop}{b2 b:List (aB×dW)}(h:∀p∈b2,ae p.1 b=some p.2/\S p.1/\dV S p.2):p9 S b2 b:=fun k x a=>h (k,x) (uY a)
def aX{α:Type}{s b:List (aB×α)}(h:∀k x,ae k s=some x->ae k b=some x:=by first|(refine amb ?_;simp;done)|(intro k x a;first|exact a|(simp[a,hH];done)|(simp[c6,hH,a];done)|(cases k<;>simp_all[c6];done))):∀k x,ae k s=some x->ae k b=some x:=h
def b9{ob:List aB}{st st':bp}(J:∀x∈st'.t,get x.1 st.t=x.2/\az (fun k=> ¬fresh st'.n st'.o k) x.2:=by simp[fresh,aH,az,cc,aM,ae])(U:∀p∈st'.b,ae p.1 st.b=some p.2/\(¬fresh st'.n st'.o p.1)/\aH (fun k=> ¬fresh st'.n st'.o k) p.2:=by simp[fresh,aH,az,cc,aM,ae])(a:∀p∈st'.e,ae p.1 st.e=some p.2/\(¬fresh st'.n st'.o p.1)/\dV (fun k=> ¬fresh st'.n st'.o k) p.2:=by simp[fresh,aH,az,dV,aM,ae])(b:∀m∈ob,m∈st'.o:=by simp):gn ob st st':=⟨J,eo U,ep a,b⟩
def bY.next{ob:List aB}{b:Nat->bp->Prop}{k:Nat}{Q:Exit->bp->Prop}{st:bp}(bs:Nat){a:bp}(c:bs<k)(hi:b bs a)(hw:gn ob st a):bY ob b k Q .normal st:=⟨bs,a,c,hw,hi⟩
def flat:List (Int×af)->List af
 |[]=>[]
 |(k,v)::r=>.int .i64 k::v::flat r
def k0(l:List (Int×af)):List af:= .hdm l.length (List.range l.length)::flat l
def yL(k:Int):List (Int×af)->bd af
 |[]=>none
 |(i,v)::r=>if k=i then some v else yL k r
def qk(k:Int)(v:af):List (Int×af)->bd (List (Int×af))
 |[]=>none
 |(i,w)::r=>if k=i then some ((k,v)::r)else match qk k v r with|some a=>some ((i,w)::a)|none=>none
def Gt(k:Int)(v:af)(l:List (Int×af)):List (Int×af):=match qk k v l with|some a=>a|none=>l++[(k,v)]
@[simp]def awv:[af.hdm 0 []]=k0 []:=rfl
def Vj:∀a b,flat (a++b)=flat a++flat b
 |[],_=>rfl
 |(k,v)::r,b=>by simp[flat,Vj r b]
def YA(k:Int):∀l,xY .i (.int .i64 k) (flat l)=some (yL k l)
 |[]=>rfl
 |(i,v)::r=>by
  simp only[flat,xY,uS,yL];by_cases h:k=i
  ·simp[h]
  ·have:(k==i)=false:=by simp[h]
   simp[h,YA k r,this]
def RD{k:Int}{v:af}:∀{l a},qk k v l=some a->a.length=l.length
 |[],_,h=>by simp[qk]at h
 |(i,w)::r,a,h=>by
  simp only[qk]at h;split at h
  ·cases h;rfl
  ·split at h
   ·rename_i c b;cases h;simp[RD b]
   ·cases h
def YX(k:Int)(v:af):∀l,wz .i (.int .i64 k) v (flat l)=some ((qk k v l).map flat)
 |[]=>rfl
 |(i,w)::r=>by
  simp only[flat,wz,uS,qk];by_cases h:k=i
  ·subst h;simp[flat]
  ·simp only[and_self,if_true,h,if_false,ey,YX k v r];have:(k==i)=false:=by simp[h]
   rw[this];cases qk k v r<;>simp[flat]
@[simp]def YW(k:Int)(v:af)(l:List (Int×af)):qN .i (.int .i64 k) v (k0 l)=some (k0 (Gt k v l)):=by
 simp only[k0,qN,XF,Bool.true_eq_false,reduceCtorEq,if_false,YX,Gt];cases h:qk k v l with
 |some a=>simp[RD h]
 |none=>simp[Vj,flat,List.range_succ]
@[simp]def amC(f:aB->bd (List af))(m:aB)(l:List (Int×af))(z:af)(ok:Bool)(k:Int)(hm:f m=some (k0 l)):pf f .i z ok (.gmap m) (.int .i64 k)=(match yL k l with
  |some v=>some (True,if ok then .tuple [v,.bool true]else v)
  |none=>some (True,if ok then .tuple [z,.bool false]else z)):=by
 simp only[YC,hm,k0,XF,Bool.true_eq_false,reduceCtorEq,if_false,YA];cases yL k l<;>rfl
def cc(n:Nat)(seen:List Nat)(m:aB):List af:=[.hdi n seen n,.gmap m]
@[simp]def aw5(m:aB)(l:List (Int×af)):z6 m (k0 l)=some (cc l.length [] m):=rfl
@[simp]def aw1(l:List (Int×af)):gV (k0 l)=false:=rfl
def On(b:Nat):∀(n:Nat) (l:List (Int×af)),n5 b (List.range' n l.length) (flat l)=(if n<=b then(l[b-n]?).map fun x=>.tuple [.int .i64 x.1,x.2]else none)
 |n,[]=>by simp[n5,flat]
 |n,(k,v)::r=>by
  simp only[mV,List.range'_succ,flat,n5];by_cases h:n=b
  ·subst h;simp
  ·rw[if_neg h,On b (n+1) r];by_cases U:n<=b
   ·rw[if_pos U,if_pos Ω];have:b-n=(b-(n+1))+1:=Ω
    rw[this];simp
   ·rw[if_neg U,if_neg Ω]
@[simp]def Yy(f:aB->bd (List af))(gk mk:aB)(n:Nat)(seen:List Nat)(b:Nat)(l:List (Int×af))(hi:f gk=some (cc n (seen++[b]) mk))(hm:f mk=some (k0 l))(a:n=l.length):qL f (.ptr gk 0)=(l[b]?).map fun x=>(True,.tuple [.int .i64 x.1,x.2]):=by subst a;simp only[Yz,hi,hm,cc,k0,List.getLast?_append,List.getLast?_singleton,Option.some_or,List.range_eq_range',On,Nat.zero_le,if_true,Nat.sub_zero,Option.map_map];cases l[b]?<;>simp
def UF{st:bp}{d:Nat}{K:bp->Prop}{gk mk:aB}{n:Nat}{seen:List Nat}{l:List (Int×af)}(hi:ae gk st.b=some (cc n seen mk))(hm:ae mk st.b=some (k0 l))(i:n=l.length)
  (J:(∀b,b<n->b∈seen)->K {st with t:=put d (.tuple [.bool false]) st.t}) (U:∀b k v,l[b]? =some (k,v)->b∉seen->K {st with t:=put d (.tuple [.bool true,.int .i64 k,v]) st.t,b:=cJ gk (cc n (seen++[b]) mk) st.b}):
  uA st d (.ptr gk 0) K:=by
 subst i;simp only[uA,hi,cc,hm,k0,OG,and_self,true_and];refine⟨fun h=>J fun b c=>h b (by simpa using c),fun b k v a c=>?_⟩;rw[List.range_eq_range',On]at a;simp only[Nat.zero_le,if_true,Nat.sub_zero,hq,af.tuple.injEq,rQ,jd]at a;obtain⟨⟨bs,v'⟩,g,f,e⟩:=a;simp only at f e;subst f e;exact U b bs v' g c
def apq{n:Nat}{seen:List Nat}(d:seen.Nodup)(c:∀b∈seen,b<n)(a:∀b,b<n->b∈seen):seen.Perm (List.range n):=(List.perm_ext_iff_of_nodup d List.nodup_range).2 fun b=>⟨fun h=>by simpa using c b h,fun h=>a b (by simpa using h)⟩
def JR{n:Nat}{seen:List Nat}(d:seen.Nodup)(a:∀b∈seen,b<n):seen.length<=n:=by have:=Rc d (l₂:=List.range n) (fun b c=>by simpa using a b c);simpa using this
def Qf{n b:Nat}{seen:List Nat}(d:seen.Nodup)(a:∀b∈seen,b<n)(c:b<n)(e:b∉seen):seen.length<n:=by have J:(b::seen).Nodup:=List.nodup_cons.2 ⟨e,d⟩;have:=JR J (n:=n) (by simp;exact⟨c,a⟩);simp at this;omega
def aaY{α:Type}:∀(l pre:List α),(List.range' pre.length l.length).filterMap (fun b=>(pre++l)[b]?)=l
 |[],_=>rfl
 |x::r,pre=>by have a:=aaY r (pre++[x]);simp only[qe,List.length_singleton,List.append_assoc,List.singleton_append]at a;simp[List.range'_succ,a]
def Qe{α:Type}{l:List α}{seen:List Nat}(d:seen.Nodup)(c:∀b∈seen,b<l.length)(a:∀b,b<l.length->b∈seen):(seen.filterMap fun b=>l[b]?).Perm l:=by have J:=(apq d c a).filterMap fun b=>l[b]?;have U:=aaY l [];simp only[List.length_nil,ca,<-List.range_eq_range']at U;rwa[U]at J
def OP{b:Nat}{seen:List Nat}(d:seen.Nodup)(f:b∉seen):(seen++[b]).Nodup:=by rw[rS];exact⟨d,Ψ,by simp;intro a c e;subst e;exact f c⟩
def c9.start{w:World}{ν:bc}{s:cR}{args:List af}{bm:Array Value}(f:hX s)(bf:Good (fB ν s) w ν s.b s.e)(a:pN ν s)(q:c7 w ν args bm.toList):
  c9 ⟨w,ν,fB ν s,bm.size,cK s⟩ ⟨jc 0 args,s.b,s.e,0,cK s⟩ {tmps:=bm,defers:=[]} w ν:=by
 have r:=Aa q;have B:bm.size=args.length:=by simpa using r
 have e:∀k,fresh 0 (cK s) k->ν.bx k=none/\ν.ow k=none/\∀j b,¬ν.tr k j b:=by
  intro k c;cases k with
  |loc m=>exact⟨(a _).1 (f.1 m),(a _).2.1 (f.2 m),(a _).2.2⟩
  |obj m=>
   simp only[fresh,true_and]at c;refine⟨?_,?_,(a _).2.2⟩
   ·refine(a _).1 ?_;cases h:ae (.obj m) s.b with
    |none=>rfl
    |some x=>exact absurd (rF (.inl (by simp[h]))) c
   ·refine(a _).2.1 ?_;cases h:ae (.obj m) s.e with
    |none=>rfl
    |some x=>exact absurd (rF (.inr (by simp[h]))) c
 have l:∀m,(ν.bx (.obj m)≠none\/ν.ow (.obj m)≠none)-> .obj m∈cK s:=by
  intro m hm;refine Classical.byContradiction fun aw=>?_;obtain⟨J,U,_⟩:=e (.obj m) ⟨trivial,aw⟩;rcases hm with hm|hm
  ·exact hm J
  ·exact hm U
 refine⟨⟨bf.alt,fun k cs c=>?_,bf.inj,fun g o y=>?_,bf.oinj,bf.obx,bf.one,bf.otr⟩,⟨rfl,rfl,rfl,dO _,fun _ _ _=>rfl,fun b o h=>⟨h,rfl⟩,fun b o h=>.inl h,fun n b h=>h,fun n b h=>l n (.inl (by rw[h];simp)),fun m n u h=>⟨n,u,h,.inl ⟨rfl,rfl⟩⟩,fun m n u h=>l m (.inr (by rw[h];simp)),fun k j _ _ b h=>absurd h ((a k).2.2 j b),fun k j b h=>absurd h ((a k).2.2 j b),fun k j b h=>absurd h ((a k).2.2 j b),fun _ _ _=>rfl⟩,rfl,rfl,fun i=>?_,e⟩
 ·obtain⟨bl,us,el,g1,g2,g3⟩:=bf.box k cs c;exact⟨bl,us,el,g1,.inl g2,g3⟩
 ·obtain⟨v,us,g1,g2,g3,g4⟩:=bf.own g o y;exact⟨v,us,g1,g2,fun bl p=>⟨.inl (g3 bl p).1,(g3 bl p).2⟩,g4⟩
 ·rw[Hu];by_cases hi:i<args.length
  ·rw[if_pos Ω];have d:args[i]? =some args[i]:=cl hi;obtain⟨v,z,A⟩:=Fx i q d;have t:bm[i]? =some v:=by simpa using z
   show aU w ν _ (bm.getD i undef);rw[Array.getD_eq_getD_getElem?,t];simpa[List.getD,d]using A
  ·rw[if_neg Ω];simp[aU]
def bG.sem{P:cI}{f:FuncId}{args:List af}{s:cR}{Q:af->cR->Prop}(K:hX s)
  (h:∀(w:World) (ν:bc) (bm:Array Value),bm.size=args.length->c9 ⟨w,ν,fB ν s,bm.size,cK s⟩ ⟨jc 0 args,s.b,s.e,0,cK s⟩ {tmps:=bm,defers:=[]} w ν->
   yz P f bm w fun e w'=> ∃v st' br bn r a,e= .returned v/\c9 ⟨w,ν,fB ν s,bm.size,cK s⟩ st' br w' bn/\aU w' bn r v/\lX a s.b/\lX a s.e/\hy (aM a) a.b st'.b/\p9 (aM a) a.e st'.e/\hX a/\az (aM a) r/\Q r a):bG P f args s Q:=by
 intro w ν bm bf t A;have H:bm.size=args.length:=by simpa using Aa A
 have F:=c9.start K bf t A;have hm:∀(e:Ending) (w':World),(∃v st' br bn r a,e= .returned v/\c9 ⟨w,ν,fB ν s,bm.size,cK s⟩ st' br w' bn/\aU w' bn r v/\lX a s.b/\lX a s.e/\hy (aM a) a.b st'.b/\p9 (aM a) a.e st'.e/\hX a/\az (aM a) r/\Q r a)->
   ∃v r a bn,e= .returned v/\Q r a/\aU w' bn r v/\Good (fun bl=>fB ν s bl\/w.heap.size<=bl) w' bn a.b a.e/\pN bn a/\hX a/\pC ⟨w,ν,fB ν s,0,cK s⟩ w' bn:=by
  rintro e w' ⟨v,st',br,bn,r,a,rfl,d,G,kb,ke,z,p,N,L,M⟩;refine⟨v,r,a,bn.cut (aM a),rfl,M,vb (oX.cut _ w' bn) _ _ L G,d.good.cut z p (fun bl h _=>h),?_,N,?_⟩
  ·intro k;refine⟨?_,?_,?_⟩;rotate_left 2
   ·rintro j b ⟨c,i⟩;obtain⟨t1,t2⟩:=d.fr.trn k j b i;rcases c with c|c<;>obtain⟨x,l⟩:=fx.1 c
    ·obtain⟨bl,q,el,g,_⟩:=d.good.box k x (z k x l).1;rw[t1]at g;cases g
    ·obtain⟨v',q,g,_⟩:=d.good.own k x (p k x l).1;rw[t2]at g;cases g
   ·intro y;by_cases c:aM a k
    ·rw[bc.cut_bx c];rcases c with c|c
     ·rw[y]at c;cases c
     ·obtain⟨x,l⟩:=fx.1 c;obtain⟨v',q,g,_⟩:=d.good.own k x (p k x l).1;rcases d.good.one k with J|J
      ·exact J
      ·rw[J]at g;cases g
    ·exact(bc.cut_no c).1
   ·intro y;by_cases c:aM a k
    ·rw[bc.cut_ow c];rcases c with c|c
     ·obtain⟨x,l⟩:=fx.1 c;obtain⟨bl,q,el,g,_⟩:=d.good.box k x (z k x l).1;rcases d.good.one k with J|J
      ·rw[J]at g;cases g
      ·exact J
     ·rw[y]at c;cases c
    ·exact(bc.cut_no c).2.1
  ·refine⟨d.fr.os,d.fr.tape,d.fr.output,d.fr.size,d.fr.block,d.fr.keep,d.fr.fresh,fun n b h=>?_,d.fr.obn,fun m n u h=>?_,d.fr.obr,fun k j bs dh b J U=>d.fr.trd k j bs dh b J.2 U.2,fun k j b i=>d.fr.trb k j b i.2,fun k j b i=>(by rw[bc.cut_bx i.1,bc.cut_ow i.1];exact d.fr.trn k j b i.2),d.fr.sh⟩
   ·have c:aM a (.obj n):=by
     cases o:ae (.obj n) s.b with
     |none=>rw[(t _).1 o]at h;cases h
     |some x=>exact xR kb _ (by simp[o])
    rw[bc.cut_bx c];exact d.fr.obj n b h
   ·have c:aM a (.obj m):=by
     cases o:ae (.obj m) s.e with
     |none=>rw[(t _).2.1 o]at h;cases h
     |some x=>exact xR ke _ (by simp[o])
    rw[bc.cut_ow c];exact d.fr.row m n u h
 rcases h w ν bm H F with⟨B,aw⟩|⟨v,w',aw,E⟩
 ·exact .inl ⟨B,aw.mono hm⟩
 ·exact .inr ⟨v,w',aw,hm _ _ E⟩
def c9.grown{C:fm}{st:bp}{a:Act}{w w':World}{ν:bc}(h:c9 C st a w ν)(bf:w.grownBy w' none):c9 C st a w' ν:=by
 have d:mx w ν w' ν:=⟨fun b o c=>⟨c,GV bf (h.good.alt b o c)⟩,fun _ _ _ h=>h,fun _ n u _ h=>⟨n,u,h,.inl ⟨rfl,rfl⟩⟩,fun b o c=>yl (bf.block b (h.good.alt b o c) Ψ),fun _ _ _ _ h=>h⟩;refine h.over d rfl ⟨fun b o c=>Nat.lt_of_lt_of_le (h.good.alt b o c) bf.size,fun k cs e=>?_,h.good.inj,fun g o l=>?_,h.good.oinj,h.good.obx,h.good.one,h.good.otr⟩
  ⟨bf.os.trans h.fr.os,bf.tape.trans h.fr.tape,bf.output.trans h.fr.output,kD h.fr.size bf.size,fun k e hm=>?_,fun b o c=>?_,h.fr.fresh,h.fr.obj,h.fr.obn,h.fr.row,h.fr.obr,h.fr.trd,fun k j b f=>⟨(h.fr.trb k j b f).1,Nat.lt_of_lt_of_le (h.fr.trb k j b f).2 bf.size⟩,h.fr.trn,fun b o c=>(d.sh b o (h.fr.keep b o c).1).trans (h.fr.sh b o c)⟩ h.new
 ·obtain⟨bl,us,el,g1,g2,g3,g4,g5⟩:=h.good.box k cs e;exact⟨bl,us,el,g1,g2,g3,by rw[bf.block bl (Array.getElem?_eq_some_iff.1 g4).1 Ψ];exact g4,rI d g5⟩
 ·obtain⟨v,us,g1,g2,g3,g4⟩:=h.good.own g o l;exact⟨v,us,g1,g2.kept bf (by cases v.ownBlock<;>simp),g3,tU d (fun _ _ _ h=>h) g4⟩
 ·rw[bf.block k (Nat.lt_of_lt_of_le e h.fr.size) Ψ];exact h.fr.block k e hm
 ·obtain⟨i,m⟩:=h.fr.keep b o c;exact⟨i,(d.A b o i).2.trans m⟩
def CallDo.new{P:cI}{n:Nat}{args:List af}{st:bp}{d:bd Nat}{K:bp->Prop}{s:cR}{Q:af->cR->Prop}(i:bG P n args s Q)(c:ez s)(f:∀k cs,ae k s.b=some cs->ae k st.b=some cs)(he:∀k o,ae k s.e=some o->ae k st.e=some o)
  (g:aH (aM s) args) (h:∀r a,Q r a->(∀m,aM a (.obj m)->aM s (.obj m)/\Same s a\/ .obj m∉st.o)/\K ⟨e5 d r st.t,cL s.b st.b++a.b,cL s.e st.e++a.e,st.n,st.o++cK a⟩):CallDo P n args st d K:=by
 refine .inl ⟨s,Q,fun k cs aw=>⟨f k cs aw,.inl (by simp[aw]),c.kb k cs aw⟩,fun k o ar=>⟨he k o ar,.inr (by simp[ar]),c.ke k o ar⟩,c.obj,g,i,fun r a e=>?_⟩;obtain⟨J,U⟩:=h r a e;refine⟨⟨fun m hm=>?_,fun m hm=>?_⟩,U⟩
 ·rcases J m (.inl hm)with⟨_,b⟩|b
  ·exact .inl (by rw[b.b];exact hm)
  ·exact .inr b
 ·rcases J m (.inr hm)with⟨_,b⟩|b
  ·exact .inl (by rw[b.e];exact hm)
  ·exact .inr b
def c5.new{g:List bW}{s:cR}{Q:af->cR->Prop}{e:Exit}{st:bp}(a:cR)(i:e= .ret\/e= .normal)(d:ez a)(f:lX a s.b/\lX a s.e)(l:∀k cs,ae k a.b=some cs->ae k st.b=some cs)(j:∀k o,ae k a.e=some o->ae k st.e=some o)
  (h:dc st g fun r=>az (aM a) r/\Q r a):c5 g s Q e st:=by
 unfold dc at h;split at h
 ·rename_i c n m;refine⟨i,?_⟩;rw[m];exact⟨h.1,a,f.1,f.2,fun k cs b=>⟨l k cs b,.inl (by simp[b]),d.kb k cs b⟩,fun k o ar=>⟨j k o ar,.inr (by simp[ar]),d.ke k o ar⟩,d.obj,h.2.1,h.2.2⟩
 ·exact h.elim
@[simp]def auA{P:cI}{ob:List aB}{c d:C}{Q:Exit->bp->Prop}{st:bp}{s:Nat}:df P ob (.seq (.pub s c) d) Q st=yE P ob (.seq c d) Q (ya st s):=by simp only[df];cases ya st s<;>rfl
@[simp]def auz{P:cI}{ob:List aB}{c d:C}{Q:Exit->bp->Prop}{st:bp}{s:Nat}:df P ob (.seq (.pubB s c) d) Q st=yE P ob (.seq c d) Q (x9 st s):=by simp only[df];cases x9 st s<;>rfl
end
section
open Go Go.RowKit
def wk(t:List (Nat×af))(a:List Nat):List (Nat×af):=a.map fun k=>(k,get k t)
@[simp]def avB(t:List (Nat×af)):wk t []=[]:=rfl
@[simp]def avA(t:List (Nat×af))(k:Nat)(a:List Nat):wk t (k::a)=(k,get k t)::wk t a:=rfl
def qM(st:bp)(a:List Nat)(cs:List (Nat×af)):bp:=⟨wk st.t a++cs,st.b,st.e,st.n,st.o⟩
def amT(t:List (Nat×af))(b:List (aB×List af))(e:List (aB×dW))(n:Nat)(o:List aB)(a:List Nat)(cs:List (Nat×af)):qM ⟨t,b,e,n,o⟩ a cs=⟨wk t a++cs,b,e,n,o⟩:=rfl
def Az{α:Type}(S:Nat->α->bp)(n:Nat)(b:Nat->α->Prop)(k:Nat)(st:bp):Prop:= ∃i a,i<=n/\k=n-i/\b i a/\st=S i a
section
variable {P:cI} {ob:List aB} {st:bp} {Q:Exit->bp->Prop} {c:C} {α:Type}
def fS(S:Nat->α->bp)(n:Nat)(b:Nat->α->Prop)(a0:α)(hw:gn ob st (S 0 a0))(l:b 0 a0)(f:∀a,b n a->(∀i,eV (get i (S n a).t))->df P ob c (bY ob (Az S n b) 0 Q) (S n a))
  (g:∀i a,i<n->b i a->(∀j,eV (get j (S i a).t))->df P ob c (bY ob (Az S n b) (n-i) Q) (S i a)):df P ob (.loop c) Q st:=by
 refine qq (Az S n b) n _ hw ⟨0,a0,Ω,Ω,l,rfl⟩ ?_;rintro k s ⟨i,a,hi,rfl,d,rfl⟩ e _;rcases Nat.lt_or_ge i n with h|h
 ·exact g i a h d e
 ·obtain rfl:i=n:=Ω
  rw[Nat.sub_self];exact f a d e
def bY.rng{S:Nat->α->bp}{n:Nat}{a:Nat->α->Prop}{i:Nat}(br:α)(hi:i<n)(b:a (i+1) br)(hw:gn ob st (S (i+1) br)):bY ob (Az S n a) (n-i) Q .normal st:=⟨n-(i+1),_,Ω,hw,i+1,br,Ω,rfl,b,rfl⟩
def C6{α:Type}(S:α->bp)(μ:α->Nat)(b:α->Prop)(k:Nat)(st:bp):Prop:= ∃a,k=μ a/\b a/\st=S a
def o7(S:α->bp)(μ:α->Nat)(b:α->Prop)(a0:α)(hw:gn ob st (S a0))(e:b a0)
  (d:∀a,b a->(∀j,eV (get j (S a).t))->df P ob c (bY ob (C6 S μ b) (μ a) Q) (S a)):df P ob (.loop c) Q st:=by
 refine qq (C6 S μ b) (μ a0) _ hw ⟨a0,rfl,e,rfl⟩ ?_;rintro k s ⟨a,rfl,f,rfl⟩ g _;exact d a f g
def bY.whl{S:α->bp}{μ:α->Nat}{a:α->Prop}{k:Nat}(br:α)(hm:μ br<k)(b:a br)(hw:gn ob st (S br)):bY ob (C6 S μ a) k Q .normal st:=⟨μ br,_,hm,hw,br,rfl,b,rfl⟩
end
def iV{p:Prop}(h:p:=by(try simp[*]);(repeat' first|with_reducible refine al ?_|with_reducible refine aO (by assumption) ?_|with_reducible refine aP (by assumption) ?_|simp[*]);(all_goals first|exact bY.rng () (by assumption) (by first|assumption|trivial) b9|exact bY.rng _ (by assumption) (by assumption) b9)):p:=h
end
section
open Go Go.RowKit
def nA(s:cR)(n:Nat)(k:aB):Prop:=aM s k\/ ∃m,m<n/\k= .loc m
@[simp]def YZ(s:cR)(n m:Nat)(hm:m<n):nA s n (.loc m):= .inr ⟨m,hm,rfl⟩
def Cd{s:cR}{n:Nat}{l:List af}(h:aH (aM s) l):aH (nA s n) l:=jj (fun _ h=>.inl h) l h
def zN{s b:cR}(c:Same s b){n:Nat}{k:aB}(h:nA b n k):¬fresh n (cK s) k:=by
 rcases h with h|⟨m,hm,rfl⟩
 ·exact fun a=>a.2 (rF ((c.inObs k).2 h))
 ·intro a;have:=a.1;simp at this;omega
def gn.obL{s b:cR}(f:ez b)(c:Same s b){st:bp}{t':List (Nat×af)}{L:List (aB×List af)}{n:Nat}(g:∀x∈t',get x.1 st.t=x.2/\az (nA b n) x.2)(h:∀x∈L,ae x.1 st.b=some x.2/\nA b n x.1/\aH (nA b n) x.2)
  (j:∀k cs,ae k b.b=some cs->ae k st.b=some cs) (he:∀k o,ae k b.e=some o->ae k st.e=some o):gn (cK s) st ⟨t',L++b.b,b.e,n,cK s⟩:=by
 refine⟨fun x d=>⟨(g x d).1,tE (fun k a=>zN c a) _ (g x d).2⟩,fun k cs a=>?_,fun k o ar=>?_,fun m hm=>hm⟩
 ·simp only at a;rw[c6]at a;cases e:ae k L with
  |some x=>rw[e]at a;simp only[dU]at a;subst a;obtain⟨J,U,i⟩:=h _ (uY e);exact⟨J,zN c U,jj (fun k a=>zN c a) _ i⟩
  |none=>rw[e]at a;exact⟨j k cs a,zN c (.inl (.inl (by simp[a]))),jj (fun k a=>zN c (.inl a)) _ (f.kb k cs a)⟩
 ·exact⟨he k o ar,zN c (.inl (.inr (by simp at ar;simp[ar]))),fun xs d=>jj (fun k a=>zN c (.inl a)) _ (f.ke k o ar xs d)⟩
def ie{α:Type}(l:List α)(i j:Nat):List α:=match l[i]?,l[j]? with
 |some x,some y=>(l.set i y).set j x
 |_,_=>l
section
variable {α:Type}
@[simp]def aml(l:List α)(i j:Nat):(ie l i j).length=l.length:=by unfold ie;split<;>simp
def B2(l:List α)(i j k:Nat)(hi:i<l.length)(a:j<l.length):(ie l i j)[k]? =if k=i then l[j]? else if k=j then l[i]? else l[k]?:=by
 unfold ie;rw[cl hi,cl a];simp only[List.getElem?_set,List.length_set];by_cases J:j=k
 ·subst J;by_cases U:j=i
  ·subst U;simp[hi]
  ·simp[U,a]
 ·by_cases U:i=k
  ·subst U;simp[J,hi]
  ·simp[J,U,Ne.symm J,Ne.symm U]
def Yl(l:List α)(i j:Nat):(ie l i j).Perm l:=by
 unfold ie;split
 ·rename_i x y b c;obtain⟨hi,rfl⟩:=fH.1 b;obtain⟨a,rfl⟩:=fH.1 c;exact List.set_set_perm hi a
 ·exact .refl _
inductive hj (a b:Nat):List α->List α->Prop
 |refl (l:List α):hj a b l l
 |step {l m:List α} {i j:Nat}:hj a b l m->a<=i->i<b->a<=j->j<b->i<m.length->j<m.length->hj a b l (ie m i j)
def hj.length{a b:Nat}{l m:List α}(h:hj a b l m):m.length=l.length:=by
 induction h with
 |refl=>rfl
 |step _ _ _ _ _ _ _ c=>rw[aml,c]
def hj.perm{a b:Nat}{l m:List α}(h:hj a b l m):m.Perm l:=by
 induction h with
 |refl=>exact .refl _
 |step _ _ _ _ _ _ _ c=>exact(Yl _ _ _).trans c
def hj.out{a b:Nat}{l m:List α}(h:hj a b l m)(k:Nat)(g:k<a\/b<=k):m[k]? =l[k]?:=by
 induction h with
 |refl=>rfl
 |step _ J U f i d c e=>rw[B2 _ _ _ _ d c,if_neg Ω,if_neg Ω];exact e
def hj.all{a b:Nat}{l m:List α}(h:hj a b l m)(p:α->Prop)(j:∀k x,a<=k->k<b->l[k]? =some x->p x):∀k x,a<=k->k<b->m[k]? =some x->p x:=by
 induction h with
 |refl=>exact j
 |step _ J U n o i g d=>
  intro k x f e c;rw[B2 _ _ _ _ i g]at c;split at c
  ·exact d _ _ n o c
  ·split at c
   ·exact d _ _ J U c
   ·exact d _ _ f e c
def hj.trans{a b:Nat}{l m r:List α}(h:hj a b l m)(d:hj a b m r):hj a b l r:=by
 induction d with
 |refl=>exact h
 |step _ J U g i e c f=>exact .step f J U g i e c
def hj.mono{a b br b2:Nat}{l m:List α}(h:hj a b l m)(f:br<=a)(i:b<=b2):hj br b2 l m:=by
 induction h with
 |refl=>exact .refl _
 |step _ J U g j d c e=>exact .step e Ω Ω Ω Ω d c
def fY(lt:α->α->Bool)(a b:Nat)(l:List α):Prop:= ∀i j x y,a<=i->i<j->j<b->l[i]? =some x->l[j]? =some y->lt y x=false
structure rW (lt:α->α->Bool):Prop where
 asym:∀x y,lt x y=true->lt y x=false
 ntr:∀x y z,lt y x=false->lt z y=false->lt z x=false
def fY.pairwise{lt:α->α->Bool}{l:List α}(h:fY lt 0 l.length l):l.Pairwise fun x y=>lt y x=false:=by rw[q2];intro i j hi a b;exact h i j _ _ Ω b a (cl hi) (cl a)
def iW(a m b k:Nat):Nat:=if k<a then k else if k<a+(b-m)then k+(m-a)else if k<b then k-(b-m)else k
def tW(a b c k:Nat):Nat:=if a<=k/\k<a+c then b+(k-a)else if b<=k/\k<b+c then a+(k-b)else k
end
def HB(i j:Nat)(h:i+j<=1099511627776):vn.wrap (Int.fdiv (ik.wrap ((i:Int)+j)) (2 ^ (min 1 ik.bits)))=((i+j)/2:Nat):=by
 have hw:ik.wrap ((i:Int)+j)=i+j:=by simp[ub,ps,ua];omega
 have a:ik.bits=64:=rfl;rw[hw,a,show(2:Int) ^ (min 1 64)=2 from by decide,Int.fdiv_eq_ediv_of_nonneg _ Ω,pt]
 ·omega
 ·omega
end
section
open Go
inductive Tm where
 |mk (kind n:Int) (name:List cS) (args:List Tm)
def Tm.kind:Tm->Int| .mk k _ _ _=>k
def Tm.num:Tm->Int| .mk _ n _ _=>n
def Tm.name:Tm->List cS| .mk _ _ s _=>s
def Tm.args:Tm->List Tm| .mk _ _ _ a=>a
mutual
def enc:Tm->af
 | .mk k n s a=>.agg [.int .i64 k,.int .i64 n,.str s,.slice 4 .no (mc a)]
def mc:List Tm->List af
 |[]=>[]
 |x::xs=>enc x::mc xs
end
def A1:∀l,mc l=l.map enc
 |[]=>rfl
 |x::xs=>by simp[mc,A1 xs]
def vI(t:Tm):enc t= .agg [.int .i64 t.kind,.int .i64 t.num,.str t.name,.slice 4 .no (t.args.map enc)]:=by cases t;simp[enc,A1,Tm.kind,Tm.num,Tm.name,Tm.args]
mutual
def XZ(S:aB->Prop):∀t:Tm,az S (enc t)
 | .mk k n s a=>by simp[enc,az,aH,NY S a]
def NY(S:aB->Prop):∀l:List Tm,aH S (mc l)
 |[]=>by simp[mc,aH]
 |x::xs=>by simp[mc,aH,XZ S x,NY S xs]
end
mutual
def abQ:∀t:Tm,b5 (enc t)=enc t
 | .mk k n s a=>by simp[enc,b5,cf,Qq a]
def Qq:∀l:List Tm,cf (mc l)=mc l
 |[]=>by simp[mc,cf]
 |x::xs=>by simp[mc,cf,abQ x,Qq xs]
end
@[simp]def av0(S:aB->Prop)(t:Tm):az S (enc t)=True:=h2 (XZ S t)
@[simp]def avL(S:aB->Prop)(l:List Tm):aH S (l.map enc)=True:=by rw[<-A1];exact h2 (NY S l)
def abP(l:List Tm):cf (l.map enc)=l.map enc:=by rw[<-A1];exact Qq l
attribute [simp] abQ abP
@[simp]def axp(t:Tm):eT (enc t)=true:=by rw[vI];rfl
@[simp]def at5(t:Tm):cells (enc t)=[.int .i64 t.kind,.int .i64 t.num,.str t.name,.slice 4 .no (t.args.map enc)]:=by rw[vI];rfl
@[simp]def atJ(t:Tm):af.agg [.int .i64 t.kind,.int .i64 t.num,.str t.name,.slice 4 .no (t.args.map enc)]=enc t:=(vI t).symm
@[simp]def avu(t:Tm):qI 4 (enc t):=by rw[vI];exact⟨_,rfl,rfl⟩
inductive T where
 |nil
 |var (n:Int)
 |sym (s:List cS)
 |num (n:Int)
 |pair (a b:T)
 deriving DecidableEq,Inhabited
def T.tm:T->Tm
 | .nil=>.mk 0 0 [] []
 | .var n=>.mk 1 n [] []
 | .sym s=>.mk 2 0 s []
 | .num n=>.mk 3 n [] []
 | .pair a b=>.mk 4 0 [] [a.tm,b.tm]
def T.e:T->af
 | .nil=>.agg [.int .i64 0,.int .i64 0,.str [],.slice 4 .no []]
 | .var n=>.agg [.int .i64 1,.int .i64 n,.str [],.slice 4 .no []]
 | .sym s=>.agg [.int .i64 2,.int .i64 0,.str s,.slice 4 .no []]
 | .num n=>.agg [.int .i64 3,.int .i64 n,.str [],.slice 4 .no []]
 | .pair a b=>.agg [.int .i64 4,.int .i64 0,.str [],.slice 4 .no [a.e,b.e]]
def mB:∀t:T,enc t.tm=t.e
 | .nil| .var _| .sym _| .num _=>rfl
 | .pair a b=>by simp[T.tm,enc,mc,T.e,mB a,mB b]
def T.kind:T->Int
 | .nil=>0| .var _=>1| .sym _=>2| .num _=>3| .pair _ _=>4
def T.int:T->Int
 | .var n=>n| .num n=>n|_=>0
def T.name:T->List cS
 | .sym s=>s|_=>[]
def T.args:T->List T
 | .pair a b=>[a,b]|_=>[]
def T.e_eq(t:T):t.e= .agg [.int .i64 t.kind,.int .i64 t.int,.str t.name,.slice 4 .no (t.args.map T.e)]:=by cases t<;>rfl
@[simp]def atI(t:T):af.agg [.int .i64 t.kind,.int .i64 t.int,.str t.name,.slice 4 .no (t.args.map T.e)]=t.e:=(T.e_eq t).symm
@[simp]def atK:af.agg [.int .i64 0,.int .i64 0,.str [],.slice 4 .no []]=T.nil.e:=rfl
@[simp]def atO(n:Int):af.agg [.int .i64 1,.int .i64 n,.str [],.slice 4 .no []]=(T.var n).e:=rfl
@[simp]def atN(s:List cS):af.agg [.int .i64 2,.int .i64 0,.str s,.slice 4 .no []]=(T.sym s).e:=rfl
@[simp]def atL(n:Int):af.agg [.int .i64 3,.int .i64 n,.str [],.slice 4 .no []]=(T.num n).e:=rfl
@[simp]def atM(a b:T):af.agg [.int .i64 4,.int .i64 0,.str [],.slice 4 .no [a.e,b.e]]=(T.pair a b).e:=rfl
@[simp]def al3:(T.nil).kind=0:=rfl
@[simp]def alu:(T.nil).int=0:=rfl
@[simp]def amY:(T.nil).name=[]:=rfl
@[simp]def adR:(T.nil).args=[]:=rfl
@[simp]def al8(n:Int):(T.var n).kind=1:=rfl
@[simp]def aly(n:Int):(T.var n).int=n:=rfl
@[simp]def am3(n:Int):(T.var n).name=[]:=rfl
@[simp]def adV(n:Int):(T.var n).args=[]:=rfl
@[simp]def al7(s:List cS):(T.sym s).kind=2:=rfl
@[simp]def alx(s:List cS):(T.sym s).int=0:=rfl
@[simp]def am2(s:List cS):(T.sym s).name=s:=rfl
@[simp]def adU(s:List cS):(T.sym s).args=[]:=rfl
@[simp]def al4(n:Int):(T.num n).kind=3:=rfl
@[simp]def alv(n:Int):(T.num n).int=n:=rfl
@[simp]def amZ(n:Int):(T.num n).name=[]:=rfl
@[simp]def adS(n:Int):(T.num n).args=[]:=rfl
@[simp]def al5(a b:T):(T.pair a b).kind=4:=rfl
@[simp]def alw(a b:T):(T.pair a b).int=0:=rfl
@[simp]def am0(a b:T):(T.pair a b).name=[]:=rfl
@[simp]def adT(a b:T):(T.pair a b).args=[a,b]:=rfl
@[simp]def avZ(S:aB->Prop)(t:T):az S t.e=True:=by rw[<-mB];simp
@[simp]def axQ(t:T):b5 t.e=t.e:=by rw[<-mB];simp
def XQ(S:aB->Prop):∀l:List T,aH S (l.map T.e)
 |[]=>by simp[aH]
 |x::xs=>by simp[aH,XQ S xs]
@[simp]def XP(S:aB->Prop)(l:List T):aH S (l.map T.e)=True:=h2 (XQ S l)
@[simp]def arl:∀l:List T,cf (l.map T.e)=l.map T.e
 |[]=>rfl
 |x::xs=>by simp[cf,arl xs]
@[simp]def axo(t:T):eT t.e=true:=by rw[T.e_eq];rfl
@[simp]def at4(t:T):cells t.e=[.int .i64 t.kind,.int .i64 t.int,.str t.name,.slice 4 .no (t.args.map T.e)]:=by rw[T.e_eq];rfl
@[simp]def avt(t:T):qI 4 t.e:=by rw[T.e_eq];exact⟨_,rfl,rfl⟩
def T.size:T->Nat
 | .pair a b=>1+a.size+b.size
 |_=>1
def T.size_pos(t:T):1<=t.size:=by cases t<;>simp[T.size]<;>omega
def low(b:cS):Bool:=decide (97<=b.toNat/\b.toNat<=122)
def nW(b:cS):Bool:=low b||decide (48<=b.toNat/\b.toNat<=57)||b.toNat==45
def ks(s:List cS):Bool:=decide (1<=s.length/\s.length<=12)&&low (s.getD 0 0)&&(s.drop 1).all nW
def T.ok:T->Bool
 | .nil=>true
 | .var n=>decide (0<=n/\n<=100000)
 | .sym s=>ks s
 | .num n=>decide (-1000000000<=n/\n<=1000000000)
 | .pair a b=>a.ok&&b.ok
def ml(k n:Int)(s:List cS):Bool:=if k=0 then n==0&&s==[]else if k=1 then decide (0<=n/\n<=100000)&&s==[]else if k=2 then n==0&&ks s else if k=3 then decide (-1000000000<=n/\n<=1000000000)&&s==[]else false
def gr:Tm->Int->Int
 | .mk k n s [a,b],room=>if room<1\/k≠4\/n≠0\/s≠[]then-1 else if gr a (room-1)<0 then-1 else if gr b (room-1-gr a (room-1))<0 then-1 else 1+gr a (room-1)+gr b (room-1-gr a (room-1))
 | .mk k n s args,room=>if room<1\/k=4\/args≠[]\/ml k n s=false then-1 else 1
def OM(k n:Int)(s:List cS)(args:List Tm)(room:Int):gr (.mk k n s args) room=if room<1 then-1 else if k≠4 then(if args≠[]then-1 else if ml k n s then 1 else-1)else if n≠0\/s≠[]then-1 else match args with
  |[a,b]=>if gr a (room-1)<0 then-1 else if gr b (room-1-gr a (room-1))<0 then-1 else 1+gr a (room-1)+gr b (room-1-gr a (room-1))
  |_=> -1:=by
 match args with
 |[]=>simp only[gr];by_cases J:room<1<;>by_cases U:k=4<;>by_cases d:ml k n s=true<;>simp[J,U,d]
 |[a]=>simp[gr]
 |[a,b]=>simp only[gr];by_cases J:room<1<;>by_cases U:k=4<;>simp[J,U]
 |a::b::c::r=>simp[gr]
def IU:∀(t:T) (room:Int),gr t.tm room=if t.ok=true/\(t.size:Int)<=room then(t.size:Int)else-1
 | .nil,room=>by simp[T.tm,gr,T.ok,T.size,ml];split<;>rename_i h<;>simp_all<;>omega
 | .var n,room=>by simp[T.tm,gr,T.ok,T.size,ml];split<;>split<;>simp_all<;>omega
 | .sym s,room=>by simp[T.tm,gr,T.ok,T.size,ml];by_cases J:room<1<;>by_cases U:ks s=true<;>simp[J,U]<;>omega
 | .num n,room=>by simp[T.tm,gr,T.ok,T.size,ml];split<;>split<;>simp_all<;>omega
 | .pair a b,room=>by
  have f:=a.size_pos;have g:=b.size_pos;simp only[T.tm,gr,IU a,IU b,T.ok,T.size,cQ];by_cases J:room<1
  ·simp[J];omega
  ·by_cases U:a.ok=true/\(a.size:Int)<=room-1
   ·rw[if_pos U];by_cases c:b.ok=true/\(b.size:Int)<=room-1-a.size
    ·rw[if_pos c];simp[J,U.1,c.1];split<;>omega
    ·rw[if_neg c];simp[J,U.1];intro e;have:=c;simp[e]at this;omega
   ·rw[if_neg U];simp[J];intro d;have:=U;simp[d]at this;omega
def E1:∀(t:Tm) (room:Int),gr t room= -1\/1<=gr t room
 | .mk k n s [a,b],room=>by
  simp only[gr];split
  ·exact .inl rfl
  ·split
   ·exact .inl rfl
   ·split
    ·exact .inl rfl
    ·right;omega
 | .mk k n s [],room=>by simp only[gr];split<;>simp
 | .mk k n s [a],room=>by simp[gr]
 | .mk k n s (a::b::c::r),room=>by simp[gr]
def OO:∀(t:Tm) (room:Int),0<gr t room->∃x:T,x.tm=t
 | .mk k n s [a,b],room,h=>by
  simp only[gr]at h;split at h
  ·omega
  ·rename_i J;simp only[not_or,Int.not_lt,ne_eq,aya]at J;obtain⟨J,rfl,rfl,rfl⟩:=J;split at h
   ·omega
   ·split at h
    ·omega
    ·obtain⟨x,rfl⟩:=OO a (room-1) (by rcases E1 a (room-1)with h|h<;>omega);obtain⟨y,rfl⟩:=OO b (room-1-gr x.tm (room-1)) (by rcases E1 b (room-1-gr x.tm (room-1))with h|h<;>omega);exact⟨.pair x y,rfl⟩
 | .mk k n s [],room,h=>by
  simp only[gr]at h;split at h
  ·omega
  ·rename_i J;simp only[not_or,ne_eq,not_true_eq_false,not_false_eq_true,true_and,Bool.not_eq_false]at J;obtain⟨_,_,J⟩:=J;unfold ml at J;split at J
   ·rename_i e;subst e;simp at J;obtain⟨rfl,rfl⟩:=J;exact⟨.nil,rfl⟩
   ·split at J
    ·rename_i e;subst e;simp at J;obtain⟨_,rfl⟩:=J;exact⟨.var n,rfl⟩
    ·split at J
     ·rename_i e;subst e;simp at J;obtain⟨rfl,_⟩:=J;exact⟨.sym s,rfl⟩
     ·split at J
      ·rename_i e;subst e;simp at J;obtain⟨_,rfl⟩:=J;exact⟨.num n,rfl⟩
      ·cases J
 | .mk k n s [a],room,h=>by simp[gr]at h
 | .mk k n s (a::b::c::r),room,h=>by simp[gr]at h
def ON:∀(t:Tm) (room:Int),gr t room<=room\/gr t room= -1
 | .mk k n s [a,b],room=>by
  simp only[gr];split
  ·exact .inr rfl
  ·split
   ·exact .inr rfl
   ·split
    ·exact .inr rfl
    ·rcases ON b (room-1-gr a (room-1))with h|h<;>omega
 | .mk k n s [],room=>by simp only[gr];split<;>simp;rename_i h;omega
 | .mk k n s [a],room=>by simp[gr]
 | .mk k n s (a::b::c::r),room=>by simp[gr]
mutual
def Tm.sz:Tm->Nat
 | .mk _ _ _ a=>1+Tm.szL a
def Tm.szL:List Tm->Nat
 |[]=>0
 |x::xs=>x.sz+Tm.szL xs
end
def szL_mem:∀{l:List Tm} {x:Tm},x∈l->x.sz<=Tm.szL l
 |y::l,x,h=>by
  rcases gI.1 h with rfl|h
  ·simp[Tm.szL]
  ·have:=szL_mem h;simp[Tm.szL];omega
def QD{t x:Tm}(h:x∈t.args):x.sz<t.sz:=by cases t;simp[Tm.args]at h;have:=szL_mem h;simp[Tm.sz];omega
def T.fit(t:T):Bool:=t.ok&&decide (t.size<=5000)
def Tm.fits(t:Tm):Bool:=decide (0<gr t 5000)
def Tm.fits_T(t:T):t.tm.fits=t.fit:=by
 unfold Tm.fits T.fit;rw[IU];have:=t.size_pos;by_cases J:t.ok=true<;>by_cases U:t.size<=5000
 ·rw[if_pos ⟨J,Ω⟩];simp[J,U];omega
 ·rw[if_neg Ω];simp[U]
 ·rw[if_neg (by simp[J])];simp[J]
 ·rw[if_neg (by simp[J])];simp[J]
def Tm.fits_ex{t:Tm}(h:t.fits=true):∃x:T,x.tm=t/\x.fit=true:=by obtain⟨x,rfl⟩:=OO t 5000 (by simpa[Tm.fits]using h);exact⟨x,rfl,by rw[<-Tm.fits_T];exact h⟩
structure Bd where
 v:Int
 t:T
 deriving DecidableEq,Inhabited
def Bd.e(b:Bd):af:= .agg [.int .i64 b.v,.int .i64 b.t.kind,.int .i64 b.t.int,.str b.t.name,.slice 4 .no (b.t.args.map T.e)]
@[simp]def Bd.eta(b:Bd):Bd.mk b.v b.t=b:=rfl
@[simp]def Rs(v:Int)(t:T):af.agg [.int .i64 v,.int .i64 t.kind,.int .i64 t.int,.str t.name,.slice 4 .no (t.args.map T.e)]=(Bd.mk v t).e:=rfl
@[simp]def atD(v:Int):af.agg [.int .i64 v,.int .i64 0,.int .i64 0,.str [],.slice 4 .no []]=(Bd.mk v .nil).e:=rfl
@[simp]def atH(v n:Int):af.agg [.int .i64 v,.int .i64 1,.int .i64 n,.str [],.slice 4 .no []]=(Bd.mk v (.var n)).e:=rfl
@[simp]def atG(v:Int)(s:List cS):af.agg [.int .i64 v,.int .i64 2,.int .i64 0,.str s,.slice 4 .no []]=(Bd.mk v (.sym s)).e:=rfl
@[simp]def atE(v n:Int):af.agg [.int .i64 v,.int .i64 3,.int .i64 n,.str [],.slice 4 .no []]=(Bd.mk v (.num n)).e:=rfl
@[simp]def atF(v:Int)(a b:T):af.agg [.int .i64 v,.int .i64 4,.int .i64 0,.str [],.slice 4 .no [a.e,b.e]]=(Bd.mk v (.pair a b)).e:=rfl
@[simp]def avS(S:aB->Prop)(b:Bd):az S b.e=True:=by simp[Bd.e,-Rs]
@[simp]def axJ(b:Bd):b5 b.e=b.e:=by simp[Bd.e,-Rs]
def XM(S:aB->Prop):∀l:List Bd,aH S (l.map Bd.e)
 |[]=>by simp[aH]
 |x::xs=>by simp[aH,XM S xs]
@[simp]def avH(S:aB->Prop)(l:List Bd):aH S (l.map Bd.e)=True:=h2 (XM S l)
@[simp]def abO:∀l:List Bd,cf (l.map Bd.e)=l.map Bd.e
 |[]=>rfl
 |x::xs=>by simp[cf,abO xs]
@[simp]def axf(b:Bd):eT b.e=true:=rfl
@[simp]def atX(b:Bd):cells b.e=[.int .i64 b.v,.int .i64 b.t.kind,.int .i64 b.t.int,.str b.t.name,.slice 4 .no (b.t.args.map T.e)]:=rfl
@[simp]def avq(b:Bd):qI 5 b.e:=⟨_,rfl,rfl⟩
@[simp]def auP(off:Nat)(a:Bool)(sz:Nat)(b:Bd):vO off a sz b.e=if a then some (off+sz<=5,.agg (([.int .i64 b.v,.int .i64 b.t.kind,.int .i64 b.t.int,.str b.t.name,.slice 4 .no (b.t.args.map T.e)].drop off).take sz))else(([.int .i64 b.v,.int .i64 b.t.kind,.int .i64 b.t.int,.str b.t.name,.slice 4 .no (b.t.args.map T.e)]:List af)[off]?).map fun p=>(True,p):=rfl
@[simp]def auH(off:Nat)(a:Bool)(sz:Nat)(b:Bd):sY off a sz (.eptr b.e)=if a then some (off+sz<=5,.eptr (.agg (([.int .i64 b.v,.int .i64 b.t.kind,.int .i64 b.t.int,.str b.t.name,.slice 4 .no (b.t.args.map T.e)].drop off).take sz)))else(([.int .i64 b.v,.int .i64 b.t.kind,.int .i64 b.t.int,.str b.t.name,.slice 4 .no (b.t.args.map T.e)]:List af)[off]?).map fun p=>(eT p=true/\cells p=[p],.eptr p):=rfl
def T.occ(v:Int):T->Bool
 | .var n=>n==v
 | .pair a b=>a.occ v||b.occ v
 |_=>false
def fb(a b:Int):Int:=if a<b then-1 else if b<a then 1 else 0
def lz(a b:List cS):Int:=if a=b then 0 else if iu a b then-1 else 1
def e4:T->T->Int
 | .pair a b,.pair c d=>if e4 a c=0 then e4 b d else e4 a c
 |x,y=>if x.kind≠y.kind then fb x.kind y.kind else if x.int≠y.int then fb x.int y.int else lz x.name y.name
structure Bt where
 v:Int
 t:Tm
def Bt.e(b:Bt):af:= .agg [.int .i64 b.v,.int .i64 b.t.kind,.int .i64 b.t.num,.str b.t.name,.slice 4 .no (b.t.args.map enc)]
def Bd.b(b:Bd):Bt:=⟨b.v,b.t.tm⟩
def Bd.b_e(b:Bd):b.b.e=b.e:=by obtain⟨v,t⟩:=b;cases t<;>simp only[Bd.b,Bt.e,Bd.e,T.tm,Tm.kind,Tm.num,Tm.name,Tm.args,mB,al3,al8,al7,al4,al5,alu,aly,alx,alv,alw,amY,am3,am2,amZ,am0,adR,adV,adU,adS,adT,gY,List.map_nil]
@[simp]def Bt.eta(b:Bt):Bt.mk b.v b.t=b:=rfl
@[simp]def Rt(v:Int)(t:Tm):af.agg [.int .i64 v,.int .i64 t.kind,.int .i64 t.num,.str t.name,.slice 4 .no (t.args.map enc)]=(Bt.mk v t).e:=rfl
@[simp]def avU(S:aB->Prop)(b:Bt):az S b.e=True:=by simp[Bt.e,-Rt]
@[simp]def axL(b:Bt):b5 b.e=b.e:=by simp[Bt.e,-Rt]
def XO(S:aB->Prop):∀l:List Bt,aH S (l.map Bt.e)
 |[]=>by simp[aH]
 |x::xs=>by simp[aH,XO S xs]
@[simp]def avJ(S:aB->Prop)(l:List Bt):aH S (l.map Bt.e)=True:=h2 (XO S l)
@[simp]def ark:∀l:List Bt,cf (l.map Bt.e)=l.map Bt.e
 |[]=>rfl
 |x::xs=>by simp[cf,ark xs]
@[simp]def axi(b:Bt):eT b.e=true:=rfl
@[simp]def at0(b:Bt):cells b.e=[.int .i64 b.v,.int .i64 b.t.kind,.int .i64 b.t.num,.str b.t.name,.slice 4 .no (b.t.args.map enc)]:=rfl
@[simp]def avs(b:Bt):qI 5 b.e:=⟨_,rfl,rfl⟩
@[simp]def auQ(off:Nat)(a:Bool)(sz:Nat)(b:Bt):vO off a sz b.e=if a then some (off+sz<=5,.agg (([.int .i64 b.v,.int .i64 b.t.kind,.int .i64 b.t.num,.str b.t.name,.slice 4 .no (b.t.args.map enc)].drop off).take sz))else(([.int .i64 b.v,.int .i64 b.t.kind,.int .i64 b.t.num,.str b.t.name,.slice 4 .no (b.t.args.map enc)]:List af)[off]?).map fun p=>(True,p):=rfl
@[simp]def auI(off:Nat)(a:Bool)(sz:Nat)(b:Bt):sY off a sz (.eptr b.e)=if a then some (off+sz<=5,.eptr (.agg (([.int .i64 b.v,.int .i64 b.t.kind,.int .i64 b.t.num,.str b.t.name,.slice 4 .no (b.t.args.map enc)].drop off).take sz)))else(([.int .i64 b.v,.int .i64 b.t.kind,.int .i64 b.t.num,.str b.t.name,.slice 4 .no (b.t.args.map enc)]:List af)[off]?).map fun p=>(eT p=true/\cells p=[p],.eptr p):=rfl
def Ci(l:List Bt)(i:Nat):Prop:= ∀b,l[i]? =some b->(0<=b.v/\b.v<=100000)/\(∀c,0<i->l[i-1]? =some c->c.v<b.v)/\b.t.fits=true
def AF(l:List Bt):Prop:=l.length<=400/\∀i,i<l.length->Ci l i
def sA:∀a b:T,e4 a b=0↔a=b
 | .pair a b,.pair c d=>by
  simp only[e4,T.pair.injEq];split
  ·rename_i h;rw[sA b d,<-sA a c];simp[h]
  ·rename_i h;simp[h,<-sA a c]
 | .nil,y=>by cases y<;>simp[e4,fb,lz]
 | .var n,y=>by cases y<;>simp[e4,fb,lz]<;>omega
 | .sym s,y=>by cases y<;>simp[e4,fb,lz];rename_i e;by_cases h:s=e<;>simp[h];by_cases U:iu s e=true<;>simp[U]
 | .num n,y=>by cases y<;>simp[e4,fb,lz]<;>omega
 | .pair a b,.nil| .pair a b,.var _| .pair a b,.sym _| .pair a b,.num _=>by simp[e4,fb]
def T.sub(f:Int->bd T):T->T
 | .var n=>match f n with|some x=>x|none=>.var n
 | .pair a b=>.pair (a.sub f) (b.sub f)
 |t=>t
def mn(f:Int->Int):T->Int
 | .var n=>if 5001<f n then 5001 else f n
 | .pair a b=>if 5000<mn f a then mn f a else if 5001<1+mn f a+mn f b then 5001 else 1+mn f a+mn f b
 |_=>1
def JU(f:Int->Int)(c:∀v,-1<=f v):∀t,-1<=mn f t/\mn f t<=5001
 | .var n=>by have:=c n;simp only[mn];split<;>omega
 | .pair a b=>by have:=JU f c a;have:=JU f c b;simp only[mn];split<;>(try split)<;>omega
 | .nil| .sym _| .num _=>by simp[mn]
def dG(l:List Bd)(v:Int):bd T:=(l.find? fun b=>b.v==v).map (·.t)
end
section
open Go
structure kg {α:Type} (c:α->α->Int):Prop where
 neg:∀a b,c b a= -c a b
 tr:∀a b d,c a b<=0->c b d<=0->c a d<=0
 zero:∀a b,c a b=0↔a=b
section
variable {α:Type} {c:α->α->Int}
def iL(c:α->α->Int)(a b:α):Bool:=decide (c a b<0)
def kg.ltOk(h:kg c):rW (iL c):=by
 refine⟨fun x y a=>?_,fun x y z J U=>?_⟩
 ·simp only[iL,gy,iO]at a⊢;rw[h.neg x y];omega
 ·simp only[iL,iO]at J U⊢;have d:=h.neg x y;have e:=h.neg y z;have b:=h.neg x z;have:=h.tr x y z Ω Ω;omega
def kg.refl(h:kg c)(a:α):c a a=0:=(h.zero a a).2 rfl
def kg.ltr(h:kg c){a b d:α}(J:c a b<0)(U:c b d<=0):c a d<0:=by
 have f:=h.tr a b d Ω U;rcases(by omega:c a d<0\/c a d=0)with e|e
 ·exact e
 ·obtain rfl:=(h.zero a d).1 e;have:=h.neg a b;omega
def p8(c:α->α->Int)(l:List α):List α:=l.mergeSort fun x y=>decide (c x y<=0)
def Ak(c:α->α->Int)(l:List α):(p8 c l).Perm l:=List.mergeSort_perm l _
def Qm(h:kg c)(l:List α):(p8 c l).Pairwise fun x y=>c x y<=0:=by have:=List.pairwise_mergeSort (le:=fun x y=>decide (c x y<=0)) (fun a b d J U=>by simp at J U⊢;exact h.tr a b d J U) (fun a b=>by simp;have:=h.neg a b;omega) l;exact this.imp Ψ
def abK(h:kg c){l a:List α}(d:a.Perm l)(e:a.Pairwise fun x y=>iL c y x=false):a=p8 c l:=by refine Re (le:=fun x y=>c x y<=0) (fun x y _ _ J U=>(h.zero x y).1 (by have:=h.neg x y;omega)) (e.imp fun{x y} b=>?_) (Qm h l) (d.trans (Ak c l).symm);simp only[iL,iO]at b;have:=h.neg x y;omega
def cU[DecidableEq α](p:bd α):List α->List α
 |[]=>[]
 |x::r=>if p=some x then cU (some x) r else x::cU (some x) r
def asc[DecidableEq α](c:α->α->Int)(l:List α):List α:=cU none (p8 c l)
def iP(c:α->α->Int)(l:List α):Prop:=l.Pairwise fun x y=>c x y<0
variable [DecidableEq α]
def LA:∀(l:List α) (p:bd α) (x:α),x∈cU p l->x∈l
 |[],_,_,h=>by simp[cU]at h
 |y::r,p,x,h=>by
  simp only[cU]at h;split at h
  ·exact q1 _ (LA r _ x h)
  ·rcases gI.1 h with rfl|h
   ·simp
   ·exact q1 _ (LA r _ x h)
def Oq:∀(l:List α) (p:bd α) (x:α),x∈l->x∈cU p l\/p=some x
 |y::r,p,x,h=>by
  simp only[cU];rcases gI.1 h with rfl|h
  ·split
   ·rename_i U;exact .inr U
   ·simp
  ·split
   ·rename_i U;rcases Oq r (some y) x h with a|a
    ·exact .inl a
    ·cases a;exact .inr U
   ·rcases Oq r (some y) x h with a|a
    ·exact .inl (q1 _ a)
    ·cases a;simp
def Um(aw:kg c):∀(l:List α) (p:bd α),l.Pairwise (fun x y=>c x y<=0)->(∀y,p=some y->∀x∈l,c y x<=0)->iP c (cU p l)/\∀y,p=some y->∀x∈cU p l,c y x<0
 |[],p,_,_=>⟨ayj,fun y _ x a=>by simp[cU]at a⟩
 |z::r,p,h,i=>by
  obtain⟨J,U⟩:=og.1 h;have b:=Um aw r (some z) U (fun y f x a=>by cases f;exact J x a);simp only[cU];split
  ·rename_i e;subst e;exact b
  ·rename_i e;refine⟨og.2 ⟨fun x a=>b.2 z rfl x a,b.1⟩,fun y f x a=>?_⟩;subst f;have g:c y z<0:=by
    have j:=i y rfl z Ψ;rcases(by omega:c y z<0\/c y z=0)with d|d
    ·exact d
    ·exact absurd (fy some ((aw.zero y z).1 d)) e
   rcases gI.1 a with rfl|a
   ·exact g
   ·exact aw.ltr g (by have:=b.2 z rfl x a;omega)
def KM(aw:kg c)(l:List α):iP c (asc c l):=(Um aw _ none (Qm aw l) (fun y h=>by cases h)).1
def Yv(l:List α)(x:α):x∈asc c l↔x∈l:=by
 constructor
 ·intro h;exact(Ak c l).mem_iff.1 (LA _ _ _ h)
 ·intro h;rcases Oq (p8 c l) none x ((Ak c l).mem_iff.2 h)with h|h
  ·exact h
  ·cases h
omit [DecidableEq α]in
def iP.ext(aw:kg c){l d:List α}(h:iP c l)(f:iP c d)(hm:∀x,x∈l↔x∈d):l=d:=by
 have g:∀{l:List α},iP c l->l.Nodup:=fun{l} h=>h.imp fun{a b} h e=>by subst e;have:=aw.refl a;omega
 refine Re (le:=fun x y=>c x y<=0) (fun x y _ _ J U=>(aw.zero x y).1 (by have:=aw.neg x y;omega)) (h.imp fun h=>Ω) (f.imp fun h=>Ω) ?_;exact(List.perm_ext_iff_of_nodup (g h) (g f)).2 hm
omit [DecidableEq α]in
def iP.nodup(aw:kg c){l:List α}(h:iP c l):l.Nodup:=h.imp fun{a b} h e=>by subst e;have:=aw.refl a;omega
end
def KU:∀a b:List cS,iu a b=true->iu b a=false
 |_,[],h=>by simp[iu]at h
 |[],_::_,_=>by simp[iu]
 |x::a,y::b,h=>by
  simp only[iu,oe,gy,cQ,ey]at h;simp only[iu,Bool.or_eq_false_iff,iO,Bool.and_eq_false_iff];rcases h with h|⟨rfl,h⟩
  ·refine⟨fun U=>?_,.inl ?_⟩
   ·rw[UInt8.lt_iff_toNat_lt]at h U;omega
   ·simp;intro e;subst e;rw[UInt8.lt_iff_toNat_lt]at h;omega
  ·exact⟨fun U=>by rw[UInt8.lt_iff_toNat_lt]at U;omega,.inr (KU a b h)⟩
def RL:∀a b:List cS,a≠b->iu a b=false->iu b a=true
 |[],[],h,_=>absurd rfl h
 |x::a,[],_,_=>by simp[iu]
 |[],_::_,_,h=>by simp[iu]at h
 |x::a,y::b,c,h=>by
  simp only[iu,Bool.or_eq_false_iff,iO,Bool.and_eq_false_iff]at h;simp only[iu,oe,gy,cQ,ey];by_cases e:x=y
  ·subst e;right;refine⟨rfl,RL a b (fun e=>c (by rw[e])) ?_⟩;rcases h.2 with U|U
   ·simp at U
   ·exact U
  ·left;have J:=h.1;rw[UInt8.lt_iff_toNat_lt]at J⊢;have:x.toNat≠y.toNat:=fun h=>e (UInt8.toNat_inj.1 h);omega
def RK:∀a b d:List cS,iu a b=true->iu b d=true->iu a d=true
 |_,[],_,h,_=>by simp[iu]at h
 |_,_::_,[],_,h=>by simp[iu]at h
 |[],_::_,_::_,_,_=>by simp[iu]
 |x::a,y::b,z::d,J,U=>by
  simp only[iu,oe,gy,cQ,ey,UInt8.lt_iff_toNat_lt]at J U⊢;rcases J with J|⟨rfl,J⟩<;>rcases U with U|⟨rfl,U⟩
  ·left;omega
  ·left;exact J
  ·left;exact U
  ·exact .inr ⟨rfl,RK a b d J U⟩
def k2:kg fb:=by
 refine⟨fun a b=>?_,fun a b d=>?_,fun a b=>?_⟩
 ·simp only[fb];repeat' split
  all_goals omega
 ·simp only[fb];repeat' split
  all_goals omega
 ·simp only[fb];repeat' split
  all_goals omega
def Fe:kg lz:=by
 have g:∀a b,lz b a= -lz a b:=fun a b=>by
  simp only[lz];by_cases e:a=b
  ·subst e;simp
  ·rw[if_neg e,if_neg (Ne.symm e)];cases h:iu a b with
   |true=>simp[KU a b h]
   |false=>simp[RL a b e h]
 refine⟨g,fun a b d J U=>?_,fun a b=>?_⟩
 ·simp only[lz]at J U⊢;by_cases c:a=b
  ·subst c;exact U
  ·by_cases f:b=d
   ·subst f;exact J
   ·rw[if_neg c]at J;rw[if_neg f]at U;have g1:iu a b=true:=by cases h:iu a b<;>simp[h]at J⊢
    have g2:iu b d=true:=by cases h:iu b d<;>simp[h]at U⊢
    rw[RK a b d g1 g2];split<;>simp
 ·simp only[lz];by_cases e:a=b
  ·simp[e]
  ·rw[if_neg e];simp[e];split<;>omega
def tM{a b:T}(h:a.kind≠b.kind):e4 a b=fb a.kind b.kind:=by cases a<;>cases b<;>simp at h<;>simp[e4]
def I6:∀a b:T,e4 b a= -e4 a b
 | .pair a b,.pair c d=>by
  simp only[e4];have J:=I6 a c;have U:=I6 b d;by_cases e:e4 a c=0
  ·rw[if_pos e,if_pos Ω,U]
  ·rw[if_neg e,if_neg Ω,J]
 | .nil,y=>by
  by_cases f:T.nil.kind=y.kind
  ·cases y<;>simp at f;simp[e4,lz]
  ·rw[tM f,tM (Ne.symm f),k2.neg]
 | .var n,y=>by
  by_cases f:(T.var n).kind=y.kind
  ·cases y<;>simp at f;rename_i m;by_cases e:n=m
   ·subst e;simp[e4,lz]
   ·simp[e4,e,Ne.symm e,k2.neg n m]
  ·rw[tM f,tM (Ne.symm f),k2.neg]
 | .sym s,y=>by
  by_cases f:(T.sym s).kind=y.kind
  ·cases y<;>simp at f;rename_i m;simp[e4,Fe.neg s m]
  ·rw[tM f,tM (Ne.symm f),k2.neg]
 | .num n,y=>by
  by_cases f:(T.num n).kind=y.kind
  ·cases y<;>simp at f;rename_i m;by_cases e:n=m
   ·subst e;simp[e4,lz]
   ·simp[e4,e,Ne.symm e,k2.neg n m]
  ·rw[tM f,tM (Ne.symm f),k2.neg]
 | .pair a b,.nil| .pair a b,.var _| .pair a b,.sym _| .pair a b,.num _=>by simp[e4,fb]
def I5{a b:T}(h:e4 a b<=0):a.kind<=b.kind:=by
 by_cases c:a.kind=b.kind
 ·omega
 ·rw[tM c]at h;simp only[fb]at h;repeat' split at h
  all_goals omega
def ZJ(n m:Int):e4 (.var n) (.var m)=fb n m:=by
 simp only[e4,T.kind,T.int,T.name,lz];by_cases e:n=m
 ·subst e;simp[fb]
 ·simp[e]
def ZI(n m:Int):e4 (.num n) (.num m)=fb n m:=by
 simp only[e4,T.kind,T.int,T.name,lz];by_cases e:n=m
 ·subst e;simp[fb]
 ·simp[e]
def apg(n m:List cS):e4 (.sym n) (.sym m)=lz n m:=by simp[e4]
def I7(a b d:T)(e:a.kind≠4)(J:e4 a b<=0)(U:e4 b d<=0):e4 a d<=0:=by
 have g:=I5 J;have f:=I5 U;by_cases c:a.kind=d.kind
 ·cases a<;>cases d<;>simp at c e;all_goals(cases b<;>simp at g f)
  ·simp[e4,lz]
  ·rw[ZJ]at J U⊢;exact k2.tr _ _ _ J U
  ·rw[apg]at J U⊢;exact Fe.tr _ _ _ J U
  ·rw[ZI]at J U⊢;exact k2.tr _ _ _ J U
 ·rw[tM c];simp only[fb];repeat' split
  all_goals omega
def aph:∀a b d:T,e4 a b<=0->e4 b d<=0->e4 a d<=0:=by
 intro a;induction a with
 |pair e a2 o m=>
  intro b d J U;have l:=I5 J;have i:=I5 U;cases b<;>simp at l;all_goals(cases d<;>simp at i)
  rename_i c j d1 d2;simp only[e4]at J U⊢;by_cases g:e4 e c=0
  ·obtain rfl:=(sA e c).1 g;rw[if_pos g]at J;by_cases f:e4 e d1=0
   ·rw[if_pos f]at U⊢;exact m j d2 J U
   ·rw[if_neg f]at U⊢;exact U
  ·rw[if_neg g]at J;by_cases f:e4 c d1=0
   ·obtain rfl:=(sA c d1).1 f;rw[if_neg g];exact J
   ·rw[if_neg f]at U;have k:=o c d1 J U;by_cases h:e4 e d1=0
    ·obtain rfl:=(sA e d1).1 h;have:=I6 e c;omega
    ·rw[if_neg h];exact k
 |nil=>exact fun b d=>I7 _ b d Ψ
 |var n=>exact fun b d=>I7 _ b d Ψ
 |sym n=>exact fun b d=>I7 _ b d Ψ
 |num n=>exact fun b d=>I7 _ b d Ψ
def Pf:kg e4:=⟨I6,aph,sA⟩
end
section
open Go
section
variable {α:Type} {c:α->α->Int}
def kI(c:α->α->Int):List α->List α->Int
 |[],[]=>0
 |[],_::_=> -1
 |_::_,[]=>1
 |x::xs,y::ys=>if c x y=0 then kI c xs ys else c x y
def Yc(h:kg c):∀a b:List α,kI c b a= -kI c a b
 |[],[]=>rfl
 |[],_::_=>rfl
 |_::_,[]=>rfl
 |x::xs,y::ys=>by
  simp only[kI];have J:=h.neg x y;by_cases e:c x y=0
  ·rw[if_pos e,if_pos Ω,Yc h xs ys]
  ·rw[if_neg e,if_neg Ω,J]
def Ye(h:kg c):∀a b:List α,kI c a b=0↔a=b
 |[],[]=>by simp[kI]
 |[],_::_=>by simp[kI]
 |_::_,[]=>by simp[kI]
 |x::xs,y::ys=>by
  simp only[kI,rQ];by_cases e:c x y=0
  ·rw[if_pos e,Ye h xs ys];simp[(h.zero x y).1 e]
  ·rw[if_neg e];exact⟨fun d=>absurd d e,fun d=>absurd ((h.zero x y).2 d.1) e⟩
def Yd(h:kg c):∀a b d:List α,kI c a b<=0->kI c b d<=0->kI c a d<=0
 |[],_,[],_,_=>by simp[kI]
 |[],_,_::_,_,_=>by simp[kI]
 |_::_,[],_,J,_=>by simp[kI]at J
 |_::_,_::_,[],_,U=>by simp[kI]at U
 |x::xs,y::ys,z::dt,J,U=>by
  simp only[kI]at J U⊢;by_cases f:c x y=0
  ·have:=(h.zero x y).1 f;subst this;rw[if_pos f]at J;by_cases e:c x z=0
   ·rw[if_pos e]at U⊢;exact Yd h xs ys dt J U
   ·rw[if_neg e]at U⊢;exact U
  ·rw[if_neg f]at J;have g:c x y<0:=Ω
   by_cases e:c y z=0
   ·have:=(h.zero y z).1 e;subst this;rw[if_neg f];omega
   ·rw[if_neg e]at U;have:=h.ltr g U;rw[if_neg Ω];omega
def amf(h:kg c):kg (kI c):=⟨Yc h,Yd h,Ye h⟩
end
def zV(x y:Bd):Int:=if fb x.v y.v=0 then e4 x.t y.t else fb x.v y.v
def ape:kg zV:=by
 refine⟨fun x y=>?_,fun x y z J U=>?_,fun x y=>?_⟩
 ·unfold zV;have:=k2.neg x.v y.v;have:=Pf.neg x.t y.t;by_cases e:fb x.v y.v=0
  ·rw[if_pos e,if_pos Ω];omega
  ·rw[if_neg e,if_neg Ω];omega
 ·unfold zV at J U⊢;by_cases b:fb x.v y.v=0
  ·rw[if_pos b]at J;rw[(k2.zero _ _).1 b];by_cases a:fb y.v z.v=0
   ·rw[if_pos a]at U⊢;exact Pf.tr _ _ _ J U
   ·rw[if_neg a]at U⊢;exact U
  ·rw[if_neg b]at J;have c:fb x.v y.v<0:=Ω
   by_cases a:fb y.v z.v=0
   ·rw[<-(k2.zero _ _).1 a,if_neg b];exact J
   ·rw[if_neg a]at U;have:=k2.ltr c U;rw[if_neg Ω];omega
 ·unfold zV;by_cases e:fb x.v y.v=0
  ·rw[if_pos e,Pf.zero];have:=(k2.zero _ _).1 e;cases x;cases y;simp_all
  ·rw[if_neg e];exact⟨fun h=>absurd h e,fun h=>by rw[h]at e;exact absurd (k2.refl _) e⟩
def fa:List Bd->List Bd->Int:=kI zV
def mO:kg fa:=amf ape
end
section
open Go
def T.ap(c:Int->T):T->T
 | .var n=>c n
 | .pair a b=>.pair (a.ap c) (b.ap c)
 |t=>t
def Dg(f g:Int->T)(t:T):(t.ap f).ap g=t.ap fun v=>(f v).ap g:=by
 induction t with
 |pair a b d c=>simp[T.ap,d,c]
 |_=>simp[T.ap]
def vC{f g:Int->T}{t:T}(h:∀v,t.occ v=true->f v=g v):t.ap f=t.ap g:=by
 induction t with
 |var n=>exact h n (by simp[T.occ])
 |pair a b e d=>simp only[T.ap];rw[e fun v c=>h v (by simp[T.occ,c]),d fun v c=>h v (by simp[T.occ,c])]
 |_=>rfl
def adP(t:T):t.ap .var=t:=by induction t<;>simp_all[T.ap]
def Ry{f:Int->T}{t:T}(h:∀v,t.occ v=true->f v= .var v):t.ap f=t:=(vC h).trans (adP t)
def abS(f:Int->bd T)(t:T):t.sub f=t.ap fun v=>(f v).getD (.var v):=by
 induction t with
 |var n=>simp only[T.sub,T.ap];cases f n<;>rfl
 |pair a b d c=>simp[T.sub,T.ap,d,c]
 |_=>rfl
def adO(c:Int->T)(t:T):t.size<=(t.ap c).size:=by
 induction t with
 |var n=>exact T.size_pos _
 |pair a b e d=>simp only[T.ap,T.size];omega
 |_=>exact dO _
def Ch(c:Int->T){v:Int}{t:T}(h:t.occ v=true):(c v).size<=(t.ap c).size/\(t.kind≠1->(c v).size<(t.ap c).size):=by
 induction t with
 |var n=>simp[T.occ]at h;subst h;simp[T.ap,T.kind]
 |pair a b e d=>
  simp only[T.occ,oe]at h;simp only[T.ap,T.size];rcases h with h|h
  ·have:=(e h).1;exact⟨Ω,fun _=>Ω⟩
  ·have:=(d h).1;exact⟨Ω,fun _=>Ω⟩
 |_=>simp[T.occ]at h
def Cg{c:Int->T}{v:Int}{t:T}:(t.ap c).occ v=true↔∃w,t.occ w=true/\(c w).occ v=true:=by
 induction t with
 |var n=>simp[T.ap,T.occ]
 |pair a b e d=>
  simp only[T.ap,T.occ,oe,e,d];constructor
  ·rintro(⟨w,J,U⟩|⟨w,J,U⟩)
   ·exact⟨w,.inl J,U⟩
   ·exact⟨w,.inr J,U⟩
  ·rintro⟨w,J|J,U⟩
   ·exact .inl ⟨w,J,U⟩
   ·exact .inr ⟨w,J,U⟩
 |_=>simp[T.ap,T.occ]
def cG(s:List Bd)(v:Int):T:=(dG s v).getD (.var v)
abbrev jB(s:List Bd):Prop:=s.Pairwise fun x y=>x.v<y.v
def hT(s:List Bd)(a:Int->T):Prop:= ∀b∈s,a b.v=b.t.ap a
structure gD (s:List Bd):Prop where
 asc:jB s
 free:∀b∈s,∀w,b.t.occ w=true->dG s w=none
 ori:∀b∈s,∀w,b.t= .var w->w<b.v
def vE(b:Bd)(s:List Bd)(v:Int):dG (b::s) v=if b.v=v then some b.t else dG s v:=by
 unfold dG;by_cases h:b.v=v
 ·simp[h]
 ·have:(b.v==v)=false:=by simp[h]
  simp[this,h,List.find?_cons]
def kQ{v:Int}{t:T}:∀{s:List Bd},dG s v=some t->(⟨v,t⟩:Bd)∈s
 |[],h=>by simp[dG]at h
 |b::s,h=>by
  rw[vE]at h;split at h
  ·rename_i e;cases h;subst e;simp
  ·exact q1 _ (kQ h)
def wY{v:Int}:∀{s:List Bd},dG s v=none↔∀b∈s,b.v≠v
 |[]=>by simp[dG]
 |b::s=>by
  rw[vE];by_cases h:b.v=v
  ·simp[h]
  ·simp[h,wY (s:=s)]
def wX{b:Bd}:∀{s:List Bd},jB s->b∈s->dG s b.v=some b.t
 |[],_,h=>by simp at h
 |c::s,d,h=>by
  rw[vE];have a:=og.1 d;rcases gI.1 h with rfl|h
  ·simp
  ·have:=a.1 b h;rw[if_neg Ω];exact wX a.2 h
def RA:∀{s a:List Bd},jB s->jB a->(∀v,dG s v=dG a v)->s=a
 |[],[],_,_,_=>rfl
 |[],c::a,_,_,h=>by have:=h c.v;rw[vE]at this;simp[dG]at this
 |c::s,[],_,_,h=>by have:=h c.v;rw[vE]at this;simp[dG]at this
 |b::s,c::a,k,m,h=>by
  have f:=og.1 m;have d:=og.1 k;have J:(⟨b.v,b.t⟩:Bd)∈c::a:=kQ (by rw[<-h b.v,vE];simp);have U:(⟨c.v,c.t⟩:Bd)∈b::s:=kQ (by rw[h c.v,vE];simp);have o:b=c:=by
   rcases gI.1 J with e|e
   ·exact e
   ·rcases gI.1 U with i|i
    ·exact i.symm
    ·have n:=f.1 _ e;have l:=d.1 _ i;simp only at n l;omega
  subst o;rw[RA d.2 f.2 fun v=>?_];have:=h v;rw[vE,vE]at this;by_cases e:b.v=v
  ·have j:dG s v=none:=wY.2 fun x g=>by have:=d.1 x g;omega
   have z2:dG a v=none:=wY.2 fun x g=>by have:=f.1 x g;omega
   rw[j,z2]
  ·simpa[e]using this
def aq7{s:List Bd}(c:jB s){a:Int->T}:hT s a↔∀v,a v=(cG s v).ap a:=by
 constructor
 ·intro h v;unfold cG;cases e:dG s v with
  |none=>rfl
  |some t=>exact h _ (kQ e)
 ·intro h b d;have:=h b.v;rw[cG,wX c d]at this;exact this
def Qk{s:List Bd}{a:Int->T}(h:hT s a)(t:T):t.ap a=(t.ap (cG s)).ap a:=by
 rw[Dg];refine vC fun v _=>?_;unfold cG;cases e:dG s v with
 |none=>rfl
 |some t=>exact h _ (kQ e)
def aqO{s:List Bd}(b:gD s){t:T}(h:∀w,t.occ w=true->dG s w=none):t.ap (cG s)=t:=Ry fun v a=>by simp[cG,h v a]
def Aj{s:List Bd}(a:gD s):hT s (cG s):=fun b c=>by rw[aqO a (a.free b c),cG,wX a.asc c];rfl
def OB{s a:List Bd}(f:gD s)(c:gD a)(h:∀d,hT a d->hT s d){v:Int}(g:dG a v=none):dG s v=none:=by
 cases e:dG s v with
 |none=>rfl
 |some t=>
  have J:=h _ (Aj c) _ (kQ e);simp only[cG,g,k5]at J;cases t with
  |var w=>
   have U:w<v:=f.ori _ (kQ e) w rfl;simp only[T.ap,cG]at J;cases b:dG a w with
   |none=>rw[b]at J;simp at J;omega
   |some u=>rw[b]at J;simp only[lI]at J;subst J;have:=c.ori _ (kQ b) v rfl;simp only at this;omega
  |_=>simp[T.ap]at J
def amX{s a:List Bd}(c:gD a)(h:∀b,hT a b->hT s b){v:Int}:(cG s v).size<=(cG a v).size:=by
 have J:=h _ (Aj c);unfold cG;cases e:dG s v with
 |none=>exact T.size_pos _
 |some t=>have:=J _ (kQ e);show t.size<=(cG a v).size;simp only at this;rw[this];exact adO _ _
def ara{s b:List Bd}(d:gD s)(c:gD b)(h:∀a,hT s a↔hT b a):s=b:=by
 refine RA d.asc c.asc fun v=>?_;have d1:∀w,dG s w=none↔dG b w=none:=fun w=>⟨OB c d (fun a=>(h a).1),OB d c fun a=>(h a).2⟩;cases e:dG s v with
 |none=>exact((d1 v).1 e).symm
 |some t=>
  cases f:dG b v with
  |none=>rw[(d1 v).2 f]at e;cases e
  |some t'=>have J:=(h _).2 (Aj c) _ (kQ e);simp only[cG,f,lI]at J;rw[J];exact fy some (Ry fun w hw=>by have:=(d1 w).1 (d.free _ (kQ e) w hw);simp[cG,this]).symm
def iw(s:List Bd):Prop:=s.length<=400/\∀b∈s,b.t.size<=5000
def adY{s:List Bd}(h:jB s):(s.map (·.v)).Nodup:=by rw[List.nodup_iff_pairwise_ne,List.pairwise_map];exact h.imp fun h=>Ω
def Vf{s a:List Bd}(d:gD s)(g:gD a)(h:∀j,hT a j->hT s j)(l:iw a):iw s:=by
 have k:∀x∈s.map (·.v),x∈a.map (·.v):=by
  intro x m;obtain⟨b,f,rfl⟩:=gZ.1 m;cases e:dG a b.v with
  |none=>have:=OB d g h e;rw[wX d.asc f]at this;cases this
  |some t=>exact gZ.2 ⟨_,kQ e,rfl⟩
 have i:=Rc (adY d.asc) k;simp only[List.length_map]at i;refine⟨kD i l.1,fun b f=>?_⟩;have J:=amX (s:=s) g h (v:=b.v);rw[cG,wX d.asc f]at J;obtain⟨c,aw,e⟩:=gZ.1 (k b.v (gZ.2 ⟨b,f,rfl⟩));have U:=l.2 c aw;rw[cG,<-e,wX g.asc aw]at J;exact kD J U
def kl(E:List (T×T))(a:Int->T):Prop:= ∀e∈E,e.1.ap a=e.2.ap a
def FN(a:Int->T):kl [] a:=fun _ h=>by simp at h
def sC{e:T×T}{E:List (T×T)}{a:Int->T}:kl (e::E) a↔e.1.ap a=e.2.ap a/\kl E a:=by simp[kl]
def FM{E b:List (T×T)}{a:Int->T}:kl (E++b) a↔kl E a/\kl b a:=by simp only[kl,kd];exact⟨fun h=>⟨fun e he=>h e (.inl he),fun e he=>h e (.inr he)⟩,fun h e he=>he.elim (h.1 e) (h.2 e)⟩
def jG(s:List Bd)(E:List (T×T)):bd (List Bd)->Prop
 |some a=>(gD a/\iw a)/\∀b,hT a b↔hT s b/\kl E b
 |none=> ∀a,gD a->(∀b,hT a b->hT s b/\kl E b)->¬iw a
def adF{s:List Bd}{E:List (T×T)}:∀{o o':bd (List Bd)},jG s E o->jG s E o'->o=o'
 |none,none,_,_=>rfl
 |some s1,none,h,a=>absurd h.1.2 (a s1 h.1.1 fun b=>(h.2 b).1)
 |none,some s1,a,h=>absurd h.1.2 (a s1 h.1.1 fun b=>(h.2 b).1)
 |some s1,some s2,h,a=>by rw[ara h.1.1 a.1.1 fun b=>(h.2 b).trans (a.2 b).symm]
def De{s s2:List Bd}{E c:List (T×T)}(h:∀a,(hT s a/\kl E a)↔(hT s2 a/\kl c a)):∀{o:bd (List Bd)},jG s E o->jG s2 c o
 |none,b=>fun e J U=>b e J fun a d=>(h a).2 (U a d)
 |some s1,b=>⟨b.1,fun a=>(b.2 a).trans (h a)⟩
def Ro{s s1:List Bd}{E d:List (T×T)}(h:jG s E (some s1)):∀{o:bd (List Bd)},jG s1 d o->jG s (E++d) o
 |none,b=>fun e J U=>b e J fun a c=>⟨(h.2 a).2 ⟨(U a c).1,(FM.1 (U a c).2).1⟩,(FM.1 (U a c).2).2⟩
 |some s2,b=>⟨b.1,fun a=>by rw[b.2 a,h.2 a,FM,and_assoc]⟩
def KD{s:List Bd}{E:List (T×T)}(c:List (T×T))(h:jG s E none):jG s (E++c) none:=fun d J U=>h d J fun b a=>⟨(U b a).1,(FM.1 (U b a).2).1⟩
def Gq{s:List Bd}{E:List (T×T)}(h:∀a,hT s a->¬kl E a):jG s E none:=fun b J U=>absurd (U _ (Aj J)).2 (h _ (U _ (Aj J)).1)
def KE{s:List Bd}(a:gD s)(c:iw s):jG s [] (some s):=⟨⟨a,c⟩,fun b=>⟨fun h=>⟨h,FN b⟩,fun h=>h.1⟩⟩
def one(v:Int)(x:T)(w:Int):T:=if w=v then x else .var w
def pZ(b:Bd):List Bd->List Bd
 |[]=>[b]
 |c::s=>if b.v<c.v then b::c::s else c::pZ b s
def nL(s:List Bd)(v:Int)(x:T):List Bd:=pZ ⟨v,x⟩ (s.map fun b=>⟨b.v,b.t.ap (one v x)⟩)
def Ot{b x:Bd}:∀{s:List Bd},x∈pZ b s↔x=b\/x∈s
 |[]=>by simp[pZ]
 |c::s=>by
  simp only[pZ];split
  ·simp
  ·simp only[gI,Ot (s:=s)];constructor
   ·rintro(h|h|h)
    ·exact .inr (.inl h)
    ·exact .inl h
    ·exact .inr (.inr h)
   ·rintro(h|h|h)
    ·exact .inr (.inl h)
    ·exact .inl h
    ·exact .inr (.inr h)
def Yb{b:Bd}:∀{s:List Bd},(pZ b s).length=s.length+1
 |[]=>rfl
 |c::s=>by simp only[pZ];split<;>simp[Yb]
def RB{b:Bd}:∀{s:List Bd},jB s->(∀c∈s,c.v≠b.v)->jB (pZ b s)
 |[],_,_=>by simp[pZ]
 |c::s,e,f=>by
  have d:=og.1 e;simp only[pZ];split
  ·rename_i g;refine og.2 ⟨fun x a=>?_,e⟩;rcases gI.1 a with rfl|a
   ·exact g
   ·have:=d.1 x a;omega
  ·rename_i h;refine og.2 ⟨fun x a=>?_,RB d.2 fun c aw=>f c (by simp[aw])⟩;rcases Ot.1 a with rfl|a
   ·have:=f c Ψ;omega
   ·exact d.1 x a
def rC{s:List Bd}{v:Int}{x:T}{b:Bd}:b∈nL s v x↔b=⟨v,x⟩\/ ∃c∈s,b=⟨c.v,c.t.ap (one v x)⟩:=by unfold nL;rw[Ot,gZ];refine or_congr Iff.rfl ⟨fun⟨c,J,U⟩=>⟨c,J,U.symm⟩,fun⟨c,J,U⟩=>⟨c,J,U.symm⟩⟩
def ZE{v:Int}{x:T}{a:Int->T}(h:a v=x.ap a)(t:T):(t.ap (one v x)).ap a=t.ap a:=by
 rw[Dg];refine vC fun w _=>?_;unfold one;split
 ·rename_i e;subst e;exact h.symm
 ·rfl
def Gv{s:List Bd}{v w:Int}{x:T}:dG (nL s v x) w=none↔w≠v/\dG s w=none:=by
 rw[wY,wY];constructor
 ·intro h;exact⟨fun e=>h ⟨v,x⟩ (rC.2 (.inl rfl)) e.symm,fun b a=>h ⟨b.v,b.t.ap (one v x)⟩ (rC.2 (.inr ⟨b,a,rfl⟩))⟩
 ·rintro⟨J,U⟩ b a;rcases rC.1 a with rfl|⟨c,aw,rfl⟩
  ·exact fun e=>J e.symm
  ·exact U c aw
def Qi{s:List Bd}(a:gD s){t:T}{w:Int}(h:(t.ap (cG s)).occ w=true):dG s w=none:=by
 obtain⟨u,_,U⟩:=Cg.1 h;unfold cG at U;cases e:dG s u with
 |none=>rw[e]at U;simp[T.occ]at U;subst U;exact e
 |some t=>rw[e]at U;exact a.free _ (kQ e) w U
def aq9{s:List Bd}(d:gD s){v:Int}{t:T}(i:dG s v=none)(ar:(t.ap (cG s)).occ v=false)(f:∀w,t.ap (cG s)= .var w->w<v):gD (nL s v (t.ap (cG s))):=by
 have g:∀w,(t.ap (cG s)).occ w=true->dG (nL s v (t.ap (cG s))) w=none:=fun w hw=>Gv.2 ⟨fun e=>(by subst e;rw[ar]at hw;cases hw),Qi d hw⟩;refine⟨RB ?_ ?_,fun b a w hw=>?_,fun b a w hw=>?_⟩
 ·rw[jB,List.pairwise_map];exact d.asc
 ·intro c aw;obtain⟨b,a,rfl⟩:=gZ.1 aw;exact wY.1 i b a
 ·rcases rC.1 a with rfl|⟨c,aw,rfl⟩
  ·exact g w hw
  ·obtain⟨u,J,U⟩:=Cg.1 hw;unfold one at U;split at U
   ·exact g w U
   ·rename_i h;simp[T.occ]at U;subst U;exact Gv.2 ⟨h,d.free c aw _ J⟩
 ·rcases rC.1 a with rfl|⟨c,aw,rfl⟩
  ·exact f w hw
  ·simp only at hw⊢;cases e:c.t with
   |var u=>
    have:=d.ori c aw u e;rw[e]at hw;simp only[T.ap,one]at hw;split at hw
    ·rename_i j;subst j;have:=f w hw;omega
    ·cases hw;exact this
   |_=>rw[e]at hw;simp[T.ap]at hw
def abE{s:List Bd}{v:Int}{t:T}(a:Int->T):hT (nL s v (t.ap (cG s))) a↔hT s a/\kl [(.var v,t)] a:=by
 have f:kl [(.var v,t)] a↔a v=t.ap a:=by simp[kl,T.ap]
 rw[f];constructor
 ·intro h;have d:a v=(t.ap (cG s)).ap a:=h _ (rC.2 (.inl rfl));have J:hT s a:=fun b e=>by have:=h _ (rC.2 (.inr ⟨b,e,rfl⟩));simp only at this;rw[ZE d]at this;exact this
  exact⟨J,by rw[Qk J t];exact d⟩
 ·rintro⟨J,U⟩ b e;have d:a v=(t.ap (cG s)).ap a:=by rw[<-Qk J t];exact U
  rcases rC.1 e with rfl|⟨c,aw,rfl⟩
  ·exact d
  ·simp only;rw[ZE d];exact J c aw
open Classical in
def adC{s:List Bd}(f:gD s){v:Int}{t:T}(h:dG s v=none)(ar:(t.ap (cG s)).occ v=false)(c:∀w,t.ap (cG s)= .var w->w<v):jG s [(.var v,t)] (if iw (nL s v (t.ap (cG s)))then some (nL s v (t.ap (cG s)))else none):=by
 have J:=aq9 f h ar c;split
 ·rename_i a;exact⟨⟨J,a⟩,abE⟩
 ·rename_i a;exact fun i U e g=>a (Vf J U (fun b d=>(abE b).2 (e b d)) g)
def ij(s:List Bd):T->T
 | .var n=>cG s n
 |t=>t
def o2(s:List Bd)(v:Int)(t:T):bd (List Bd):=if(t.ap (cG s)).size<=5000/\(t.ap (cG s)).occ v=false/\s.length<400/\∀b∈s,(b.t.ap (one v (t.ap (cG s)))).size<=5000 then some (nL s v (t.ap (cG s)))else none
def kN(rec:List Bd->T->T->bd (bd (List Bd)))(s:List Bd):T->T->bd (bd (List Bd))
 | .var i,.var j=>some (if i<j then o2 s j (.var i)else if i=j then some s else o2 s i (.var j))
 | .var i,y=>some (o2 s i y)
 |x,.var j=>some (o2 s j x)
 | .pair b a2,.pair a c=>match rec s b a with
  |none=>none
  |some none=>some none
  |some (some s1)=>rec s1 a2 c
 |x,y=>some (if x=y then some s else none)
def lD:Nat->List Bd->T->T->bd (bd (List Bd))
 |0,_,_,_=>none
 |n+1,s,a,b=>kN (lD n) s (ij s a) (ij s b)
def arK{rec c:List Bd->T->T->bd (bd (List Bd))}(h:∀s a b o,rec s a b=some o->c s a b=some o){s:List Bd}{x y:T}{o:bd (List Bd)}(he:kN rec s x y=some o):kN c s x y=some o:=by
 cases x<;>cases y<;>simp only[kN]at he⊢ <;>try exact he
 rename_i g a2 f i;cases e:rec s g f with
 |none=>rw[e]at he;cases he
 |some d=>
  rw[e]at he;rw[h _ _ _ _ e];cases d with
  |none=>exact he
  |some s1=>exact h _ _ _ _ he
def FZ:∀{n m:Nat} {s:List Bd} {a b:T} {o:bd (List Bd)},n<=m->lD n s a b=some o->lD m s a b=some o
 |0,_,_,_,_,_,_,h=>by simp[lD]at h
 |n+1,0,_,_,_,_,hm,_=>Ω
 |n+1,m+1,s,a,b,o,hm,h=>by simp only[lD]at h⊢;exact arK (fun s a b o h=>FZ Ω h) h
def Mf{s:List Bd}{v:Int}{x:T}:iw (nL s v x)↔(x.size<=5000/\s.length<400/\∀b∈s,(b.t.ap (one v x)).size<=5000):=by
 have d:(nL s v x).length=s.length+1:=by simp[nL,Yb]
 unfold iw;rw[d];constructor
 ·rintro⟨J,U⟩;exact⟨U _ (rC.2 (.inl rfl)),Ω,fun b a=>U _ (rC.2 (.inr ⟨b,a,rfl⟩))⟩
 ·rintro⟨J,U,e⟩;refine⟨Ω,fun b a=>?_⟩;rcases rC.1 a with rfl|⟨c,aw,rfl⟩
  ·exact J
  ·exact e c aw
def adD{s:List Bd}(g:gD s){v:Int}{t:T}(j:dG s v=none)(f:t.ap (cG s)≠ .var v)(d:∀w,t.ap (cG s)= .var w->w<v):jG s [(.var v,t)] (o2 s v t):=by
 unfold o2;cases ar:(t.ap (cG s)).occ v with
 |true=>
  rw[if_neg Ψ];refine Gq fun i J U=>?_;have c:=(sC.1 U).1;simp only[T.ap]at c;rw[Qk J t]at c;have b:(t.ap (cG s)).kind≠1:=by
   intro b;cases e:t.ap (cG s)with
   |var w=>rw[e]at ar;simp[T.occ]at ar;subst ar;exact f e
   |_=>rw[e]at b;simp[T.kind]at b
  have:=(Ch i ar).2 b;rw[<-c]at this;omega
 |false=>
  have J:=adC g j ar d;by_cases a:iw (nL s v (t.ap (cG s)))
  ·rw[if_pos a]at J;rw[if_pos ⟨(Mf.1 a).1,rfl,(Mf.1 a).2⟩];exact J
  ·rw[if_neg a]at J;rw[if_neg fun h=>a (Mf.2 ⟨h.1,h.2.2⟩)];exact J
def acX{s:List Bd}(a:gD s){t:T}{i:Int}(h:ij s t= .var i):dG s i=none:=by
 cases t with
 |var n=>
  simp only[ij,cG]at h;cases e:dG s n with
  |none=>rw[e]at h;simp at h;subst h;exact e
  |some u=>rw[e]at h;simp at h;subst h;exact a.free _ (kQ e) i (by simp[T.occ])
 |_=>simp[ij]at h
def Q3{s:List Bd}{a:Int->T}(h:hT s a)(t:T):(ij s t).ap a=t.ap a:=by
 cases t with
 |var n=>
  simp only[ij,T.ap,cG];cases e:dG s n with
  |none=>rfl
  |some u=>exact(h _ (kQ e)).symm
 |_=>rfl
def acZ{s:List Bd}(a:gD s)(t:T):(ij s t).ap (cG s)=t.ap (cG s):=Q3 (Aj a) t
def rq(V:List Int)(t:T):Prop:= ∀w,t.occ w=true->w∈V
def zA(V:List Int)(s:List Bd):Prop:= ∀b∈s,b.v∈V/\rq V b.t
def AV(V:List Int)(s:List Bd):Nat:=(V.filter fun v=>(dG s v).isNone).length
def Vb{α:Type}{p q:α->Bool}{v:α}:∀{V:List α},(∀x∈V,q x=true->p x=true)->v∈V->p v=true->q v=false->(V.filter q).length<(V.filter p).length
 |[],_,h,_,_=>by simp at h
 |x::V,h,b,c,d=>by
  have hle:∀W:List α,(∀x∈W,q x=true->p x=true)->(W.filter q).length<=(W.filter p).length:=by
   intro W;induction W with
   |nil=>intro _;simp
   |cons y W g=>intro f;have:=g fun x a=>f x (by simp[a]);have j:=f y Ψ;simp only[List.filter_cons];cases e:q y<;>cases i:p y<;>simp_all<;>omega
  simp only[List.filter_cons];rcases gI.1 b with rfl|b
  ·have:=hle V fun x a=>h x (by simp[a]);simp[c,d];omega
  ·have:=Vb (fun x a=>h x (q1 _ a)) b c d;have a:=h x Ψ;cases e:q x<;>cases i:p x<;>simp_all<;>omega
def ae2{V:List Int}{s:List Bd}{v:Int}{x:T}(a:v∈V)(b:dG s v=none):AV V (nL s v x)<AV V s:=by
 unfold AV;refine Vb (v:=v) (fun w _ h=>?_) a (by simp[b]) ?_
 ·rw[Option.isNone_iff_eq_none,Gv]at h;simp[h.2]
 ·cases e:dG (nL s v x) v with
  |none=>exact absurd rfl (Gv.1 e).1
  |some _=>rfl
def Xb{V:List Int}{s:List Bd}(h:zA V s){t:T}(a:rq V t):rq V (t.ap (cG s)):=fun w hw=>by
 obtain⟨u,J,U⟩:=Cg.1 hw;unfold cG at U;cases e:dG s u with
 |none=>rw[e]at U;simp[T.occ]at U;subst U;exact a _ J
 |some x=>rw[e]at U;exact(h _ (kQ e)).2 w U
def alr{V:List Int}{s:List Bd}(h:zA V s){v:Int}{x:T}(e:v∈V)(a:rq V x):zA V (nL s v x):=fun b d=>by
 rcases rC.1 d with rfl|⟨c,aw,rfl⟩
 ·exact⟨e,a⟩
 ·refine⟨(h c aw).1,fun w hw=>?_⟩;obtain⟨u,J,U⟩:=Cg.1 hw;unfold one at U;split at U
  ·exact a w U
  ·simp[T.occ]at U;subst U;exact(h c aw).2 _ J
def Xc{V:List Int}{s:List Bd}(h:zA V s){t:T}(a:rq V t):rq V (ij s t):=by
 cases t with
 |var n=>have:=Xb h a;simpa[ij,T.ap]using this
 |_=>exact a
def Dd(V:List Int)(s:List Bd)(a b:T)(o:bd (List Bd)):Prop:=jG s [(a,b)] o/\∀c,o=some c->zA V c/\(c=s\/AV V c<AV V s)
def F0{V:List Int}{s:List Bd}(j:gD s)(d:zA V s){v:Int}{t a b:T}(e:v∈V)(k:rq V t)(f:dG s v=none)(i:t.ap (cG s)≠ .var v)(g:∀w,t.ap (cG s)= .var w->w<v)(aw:∀c,hT s c->(c v=t.ap c↔a.ap c=b.ap c)):Dd V s a b (o2 s v t):=by
 refine⟨De (fun c=>?_) (adD j f i g),fun l h=>?_⟩
 ·refine and_congr_right fun h=>?_;rw[sC,sC];simp only[T.ap,aw c h]
 ·unfold o2 at h;split at h
  ·cases h;exact⟨alr d e (Xb d k),.inr (ae2 e f)⟩
  ·cases h
def CK{s:List Bd}{i:Int}(h:dG s i=none):cG s i= .var i:=by simp[cG,h]
def acj(V:List Int)(k:Nat):∀(m:Nat) (s:List Bd) (a b:T),gD s->iw s->zA V s->rq V a->rq V b->AV V s=k->(a.ap (cG s)).size+(b.ap (cG s)).size=m->
  ∃n o,lD n s a b=some o/\Dd V s a b o:=by
 induction k using Nat.strongRecOn with
 |ind k NC=>
 intro m;induction m using Nat.strongRecOn with
 |ind m BM=>
 intro s a b v L y bS ag Z hm;have r:=Xc y bS;have u:=Xc y ag;have P:=acZ v a;have O:=acZ v b;have E:=fun c (h:hT s c)=>Q3 h a;have A:=fun c (h:hT s c)=>Q3 h b;have sb:=fun i=>acX v (t:=a) (i:=i);have Q:=fun i=>acX v (t:=b) (i:=i);have key:∀(rec:List Bd->T->T->bd (bd (List Bd))) (o:bd (List Bd)),kN rec s (ij s a) (ij s b)=some o->(∀l a2 g f,ij s a= .pair l a2->ij s b= .pair g f->Dd V s a b o)->Dd V s a b o:=by
  intro rec o he bN;cases ex:ij s a with
  |var i=>
   have M:=sb i ex;have x:=fun c h=>(E c h).symm.trans (by rw[ex]);cases d:ij s b with
   |var j=>
    have z:=Q j d;have p:=fun c h=>(A c h).symm.trans (by rw[d]);rw[ex,d]at he;simp only[kN]at he;have hi:i∈V:=by rw[ex]at r;exact r i (by simp[T.occ])
    have ah:j∈V:=by rw[d]at u;exact u j (by simp[T.occ])
    rcases Int.lt_trichotomy i j with h|h|h
    ·rw[if_pos h]at he;cases he;refine F0 v y ah (by rw[ex]at r;exact r) z (by simp[T.ap,CK M];omega) (fun w hw=>by simp[T.ap,CK M]at hw;omega) fun c q=>?_;rw[x c q,p c q];simp only[T.ap];exact⟨Eq.symm,Eq.symm⟩
    ·subst h;rw[if_neg Ω,if_pos rfl]at he;cases he;refine⟨⟨⟨v,L⟩,fun c=>⟨fun h=>⟨h,sC.2 ⟨?_,FN c⟩⟩,fun h=>h.1⟩⟩,fun B e=>by cases e;exact⟨y,.inl rfl⟩⟩;simp only;rw[x c h,p c h]
    ·rw[if_neg Ω,if_neg Ω]at he;cases he;refine F0 v y hi (by rw[d]at u;exact u) M (by simp[T.ap,CK z];omega) (fun w hw=>by simp[T.ap,CK z]at hw;omega) fun c q=>?_;rw[x c q,p c q];simp only[T.ap]
   |_=>have p:=fun c h=>(A c h).symm.trans (by rw[d]);rw[ex,d]at he;simp only[kN]at he;cases he;refine F0 v y (by rw[ex]at r;exact r i (by simp[T.occ])) (by rw[d]at u;exact u) M (by simp[T.ap]) (fun w hw=>by simp[T.ap]at hw) fun c q=>?_;rw[x c q,p c q];simp only[T.ap]
  |pair l a2=>
   cases d:ij s b with
   |pair g f=>exact bN l a2 g f ex d
   |var j=>have z:=Q j d;have x:=fun c h=>(E c h).symm.trans (by rw[ex]);have p:=fun c h=>(A c h).symm.trans (by rw[d]);rw[ex,d]at he;simp only[kN]at he;cases he;refine F0 v y (by rw[d]at u;exact u j (by simp[T.occ])) (by rw[ex]at r;exact r) z (by simp[T.ap]) (fun w hw=>by simp[T.ap]at hw) fun c q=>?_;rw[x c q,p c q];simp only[T.ap];exact⟨Eq.symm,Eq.symm⟩
   |_=>have x:=fun c h=>(E c h).symm.trans (by rw[ex]);have p:=fun c h=>(A c h).symm.trans (by rw[d]);rw[ex,d]at he;simp only[kN]at he;simp at he;subst he;refine⟨Gq fun c J U=>?_,fun B e=>by cases e⟩;have:=(sC.1 U).1;simp only at this;rw[x c J,p c J]at this;simp[T.ap]at this
  |_=>
   have x:=fun c h=>(E c h).symm.trans (by rw[ex]);cases d:ij s b with
   |var j=>have z:=Q j d;have p:=fun c h=>(A c h).symm.trans (by rw[d]);rw[ex,d]at he;simp only[kN]at he;cases he;refine F0 v y (by rw[d]at u;exact u j (by simp[T.occ])) (by rw[ex]at r;exact r) z (by simp[T.ap]) (fun w hw=>by simp[T.ap]at hw) fun c q=>?_;rw[x c q,p c q];simp only[T.ap];exact⟨Eq.symm,Eq.symm⟩
   |_=>
    have p:=fun c h=>(A c h).symm.trans (by rw[d]);rw[ex,d]at he;simp only[kN,dU]at he;split at he
    ·rename_i e;subst he;refine⟨⟨⟨v,L⟩,fun c=>⟨fun h=>⟨h,sC.2 ⟨?_,FN c⟩⟩,fun h=>h.1⟩⟩,fun B e=>by cases e;exact⟨y,.inl rfl⟩⟩;simp only;rw[x c h,p c h];try rw[e]
    ·rename_i e;subst he;refine⟨Gq fun c J U=>?_,fun B e=>by cases e⟩;have:=(sC.1 U).1;simp only at this;rw[x c J,p c J]at this;simp[T.ap]at this e;try exact e this
 by_cases HX:∃l a2 g f,ij s a= .pair l a2/\ij s b= .pair g f
 ·obtain⟨l,a2,g,f,ex,d⟩:=HX;have W:(l.ap (cG s)).size+(g.ap (cG s)).size<m/\(a2.ap (cG s)).size+(f.ap (cG s)).size<m:=by rw[ex]at P;rw[d]at O;simp only[T.ap]at P O;rw[<-hm,<-P,<-O];simp only[T.size];omega
  have mf:rq V l:=fun w hw=>by rw[ex]at r;exact r w (by simp[T.occ,hw])
  have R:rq V a2:=fun w hw=>by rw[ex]at r;exact r w (by simp[T.occ,hw])
  have mE:rq V g:=fun w hw=>by rw[d]at u;exact u w (by simp[T.occ,hw])
  have S:rq V f:=fun w hw=>by rw[d]at u;exact u w (by simp[T.occ,hw])
  have Wd:∀c,(hT s c/\kl ([(l,g)]++[(a2,f)]) c)↔(hT s c/\kl [(a,b)] c):=fun c=>and_congr_right fun h=>by simp only[List.singleton_append,sC,FN,jd];rw[<-E c h,<-A c h,ex,d];simp[T.ap]
  obtain⟨K,hf,Y,G⟩:=BM _ W.1 s l g v L y mf mE Z rfl;cases hf with
  |none=>refine⟨K+1,none,?_,De Wd (KD _ G.1),fun B e=>by cases e⟩;simp only[lD,ex,d,kN,Y]
  |some s1=>
   obtain⟨v1,v2⟩:=G.2 s1 rfl;have Eo:∃F H,lD F s1 a2 f=some H/\Dd V s1 a2 f H:=by
    rcases v2 with rfl|v2
    ·exact BM _ W.2 _ a2 f v L y R S Z rfl
    ·exact NC _ Ω _ s1 a2 f G.1.1.1 G.1.1.2 v1 R S rfl rfl
   obtain⟨F,H,aC,X⟩:=Eo;refine⟨max K F+1,H,?_,De Wd (Ro G.1 X.1),fun B e=>?_⟩
   ·simp only[lD,ex,d,kN,FZ (Nat.le_max_left K F) Y];exact FZ (Nat.le_max_right K F) aC
   ·obtain⟨fc,N⟩:=X.2 B e;refine⟨fc,?_⟩;rcases v2 with rfl|v2
    ·exact N
    ·rcases N with rfl|N
     ·exact .inr v2
     ·exact .inr Ω
 ·have WK:∀l a2 g f,ij s a= .pair l a2->ij s b= .pair g f->eu:=fun l a2 g f J U=>HX ⟨l,a2,g,f,J,U⟩;have:∃o,kN (lD 0) s (ij s a) (ij s b)=some o:=by cases ex:ij s a<;>cases d:ij s b<;>simp only[kN]<;>first|exact⟨_,rfl⟩|exact(WK _ _ _ _ ex d).elim
  obtain⟨o,ar⟩:=this;exact⟨1,o,ar,key _ o ar fun l a2 g f J U=>(WK l a2 g f J U).elim⟩
def dp{α:Type}(k:Int):List (Int×α)->bd α
 |[]=>none
 |(i,v)::r=>if k=i then some v else dp k r
def fA{α:Type}(k:Int)(v:α):List (Int×α)->List (Int×α)
 |[]=>[(k,v)]
 |(i,w)::r=>if k=i then(i,v)::r else(i,w)::fA k v r
def cF{α:Type}(m:List (Int×α)):List Int:=m.map (·.1)
def oS{α:Type}(k:Int)(v:α)(j:Int):∀m:List (Int×α),dp j (fA k v m)=if j=k then some v else dp j m
 |[]=>by simp only[fA,dp]
 |(i,w)::r=>by
  simp only[fA];by_cases h:k=i
  ·subst h;by_cases U:j=k<;>simp[dp,U]
  ·by_cases U:j=i
   ·subst U;have:¬j=k:=fun e=>h e.symm;simp[dp,h,this]
   ·simp[dp,h,U,oS k v j r]
def J3{α:Type}{k:Int}:∀{m:List (Int×α)},(dp k m).isSome=true↔k∈cF m
 |[]=>by simp[dp,cF]
 |(i,w)::r=>by
  simp only[dp,cF,gY,gI];by_cases h:k=i
  ·simp[h]
  ·simp only[h,if_false,false_or];exact J3
def arC{α:Type}{k:Int}{m:List (Int×α)}:dp k m=none↔k∉cF m:=by rw[<-J3];cases dp k m<;>simp
def EJ{α:Type}{k:Int}{v:α}:∀{m:List (Int×α)},k∈cF m->cF (fA k v m)=cF m
 |[],h=>by simp[cF]at h
 |(i,w)::r,h=>by
  simp only[fA];by_cases e:k=i
  ·simp[e,cF]
  ·rw[if_neg e];have a:k∈cF r:=by simpa[cF,e]using h
   have:=EJ (v:=v) a;simp only[cF]at this⊢;simp[this]
def XI{α:Type}{k:Int}{v:α}:∀{m:List (Int×α)},k∉cF m->cF (fA k v m)=cF m++[k]
 |[],h=>by simp[cF,fA]
 |(i,w)::r,h=>by have e:¬k=i:=fun e=>h (by simp[cF,e]);have b:k∉cF r:=fun a=>h (by simp[cF]at a⊢;exact .inr a);have:=XI (v:=v) b;simp only[fA,if_neg e];simp only[cF]at this⊢;simp[this]
structure bJ where
 up:List (Int×Int)
 shape:List (Int×T)
 shaped:List (Int×Bool)
 color:List (Int×Int)
 size:List (Int×Int)
 full:List (Int×T)
def bJ.shd(c:bJ)(x:Int):Bool:=(dp x c.shaped).getD false
def bJ.shp(c:bJ)(x:Int):T:=(dp x c.shape).getD .nil
def bJ.col(c:bJ)(x:Int):Int:=(dp x c.color).getD 0
def bJ.sz(c:bJ)(x:Int):Int:=(dp x c.size).getD 0
def jS(m:List (Int×Int))(v:Int):Int:=(dp v m).getD 0
def yh:Nat->List (Int×Int)->Int->bd (Int×List (Int×Int))
 |0,_,_=>none
 |n+1,m,v=>if jS m v=v then some (v,m)else yh n (fA v (jS m (jS m v)) m) (jS (fA v (jS m (jS m v)) m) v)
def AG(v:Int)(m:List (Int×Int)):List (Int×Int):=if(dp v m).isSome then m else fA v v m
def rt(c:bJ)(v:Int):bd (Int×bJ):=(yh (v.toNat+1) (AG v c.up) v).map fun p=>(p.1,{c with up:=p.2})
def T.foldO{α:Type}(f:Int->α->bd α):T->α->bd α
 | .var n,a=>f n a
 | .pair x y,a=>(x.foldO f a).bind (y.foldO f)
 |_,a=>some a
def T.mapO{α:Type}(f:Int->α->bd (T×α)):T->α->bd (T×α)
 | .var n,a=>f n a
 | .pair x y,a=>(x.mapO f a).bind fun p=>(y.mapO f p.2).map fun q=>(.pair p.1 q.1,q.2)
 |t,a=>some (t,a)
def T.sizeO{α:Type}(f:Int->α->bd (Int×α)):T->α->bd (Int×α)
 | .var n,a=>(f n a).map fun p=>(if 5001<p.1 then 5001 else p.1,p.2)
 | .pair x y,a=>(x.sizeO f a).bind fun p=>if 5000<p.1 then some p else(y.sizeO f p.2).map fun q=>(if 5001<1+p.1+q.1 then 5001 else 1+p.1+q.1,q.2)
 |_,a=>some (1,a)
def B3(t:T)(c:bJ):bd bJ:=t.foldO (fun v c=>(rt c v).map (·.2)) c
structure vu where
 c:bJ
 seen:List (Int×Bool)
 found:Bool
def yf(rec:T->bJ->List (Int×Bool)->bd vu)(x:Int)(v:Int)(a:vu):bd vu:=
 (rt a.c v).bind fun p=>if a.found=true\/p.1=x then some ⟨p.2,a.seen,true⟩
  else if(dp p.1 a.seen).getD false=false/\p.2.shd p.1=true then rec (p.2.shp p.1) p.2 (fA p.1 true a.seen)
  else some ⟨p.2,a.seen,a.found⟩
def qP:Nat->Int->T->bJ->List (Int×Bool)->bd vu
 |0,_,_,_,_=>none
 |n+1,x,t,c,seen=>t.foldO (yf (qP n x) x) ⟨c,seen,false⟩
def bJ.know(c:bJ)(x:Int)(t:T):bJ:={c with shape:=fA x t c.shape,shaped:=fA x true c.shaped}
def wq(n:Nat)(x:Int)(t:T)(c:bJ):bd (Bool×bJ):=(qP n x t (c.know x t) []).map fun a=>(!a.found,a.c)
def bJ.join(c:bJ)(x y:Int):bJ:={c with up:=fA y x c.up}
def sX(rec:T->T->bJ->bd (Bool×bJ))(n:Nat)(x y:Int)(c:bJ):bd (Bool×bJ):=
 if c.shd y=false then
  (if c.shd x=false then some (true,c)else(qP n x (c.shp x) c []).map fun a=>(!a.found,a.c))
 else if c.shd x=false then wq n x (c.shp y) c
 else(qP n x (c.shp y) c []).bind fun a=>if a.found=true then some (false,a.c)else
  (qP n x (a.c.shp x) a.c []).bind fun b=>if b.found=true then some (false,b.c)else rec (b.c.shp x) (c.shp y) b.c
def hs:Nat->T->T->bJ->bd (Bool×bJ)
 |0,_,_,_=>none
 |n+1,.var i,.var j,c=>(rt c i).bind fun p=>(rt p.2 j).bind fun q=>if p.1=q.1 then some (true,q.2)else if q.1<p.1 then sX (hs n) n q.1 p.1 (q.2.join q.1 p.1)else sX (hs n) n p.1 q.1 (q.2.join p.1 q.1)
 |n+1,.var i,b,c=>(rt c i).bind fun p=>if p.2.shd p.1=false then wq n p.1 b p.2 else hs n (p.2.shp p.1) b p.2
 |n+1,a,.var j,c=>hs n (.var j) a c
 |n+1,.pair e a2,.pair d f,c=>(hs n e d c).bind fun p=>if p.1=true then hs n a2 f p.2 else some (false,p.2)
 |_+1,a,b,c=>some (decide (a=b),c)
structure kj (m:List (Int×Int)) (ρ:Int->Int):Prop where
 up:∀v u,dp v m=some u->(0<=u/\u<=v/\u∈cF m)/\ρ u=ρ v/\(ρ v=v↔u=v)
 no:∀v,v∉cF m->ρ v=v
def kj.get{m:List (Int×Int)}{ρ:Int->Int}(h:kj m ρ){v:Int}(a:v∈cF m):∃u,dp v m=some u/\jS m v=u:=by have:=J3.2 a;obtain⟨u,hu⟩:=fx.1 this;exact⟨u,hu,by simp[jS,hu]⟩
def kj.root{m:List (Int×Int)}{ρ:Int->Int}(h:kj m ρ):∀(n:Nat) (v:Int),v.toNat<=n->(ρ v<=v/\ρ (ρ v)=ρ v/\(v∈cF m->ρ v∈cF m/\0<=ρ v)):=by
 intro n;induction n using Nat.strongRecOn with
 |ind n f=>
 intro v i;by_cases a:v∈cF m
 ·obtain⟨u,J,_⟩:=h.get a;obtain⟨⟨c,a2,a3⟩,a4,a5⟩:=h.up v u J;by_cases e:u=v
  ·have:=a5.2 e;subst e;rw[this];exact⟨Ω,this,fun _=>⟨a3,c⟩⟩
  ·obtain⟨g,d,b⟩:=f (u.toNat) Ω u Ω;rw[<-a4];exact⟨Ω,d,fun _=>b a3⟩
 ·have:=h.no v a;rw[this];exact⟨Ω,this,fun h=>absurd h a⟩
def kj.le{m:List (Int×Int)}{ρ:Int->Int}(h:kj m ρ)(v:Int):ρ v<=v:=(h.root v.toNat v (dO _)).1
def kj.idem{m:List (Int×Int)}{ρ:Int->Int}(h:kj m ρ)(v:Int):ρ (ρ v)=ρ v:=(h.root v.toNat v (dO _)).2.1
def kj.mem{m:List (Int×Int)}{ρ:Int->Int}(h:kj m ρ){v:Int}(a:v∈cF m):ρ v∈cF m/\0<=ρ v:=(h.root v.toNat v (dO _)).2.2 a
def abo{ρ:Int->Int}:∀(n:Nat) (m:List (Int×Int)) (v:Int),kj m ρ->v∈cF m->v.toNat<n->∃a,yh n m v=some (ρ v,a)/\kj a ρ/\cF a=cF m
 |0,_,_,_,_,q=>Ω
 |n+1,m,v,h,g,q=>by
  obtain⟨u,J,U⟩:=h.get g;obtain⟨⟨r,a2,a3⟩,a4,a5⟩:=h.up v u J;simp only[yh,U];by_cases e:u=v
  ·rw[if_pos e];have:=a5.2 e;exact⟨m,by rw[this],h,rfl⟩
  ·rw[if_neg e];obtain⟨x,g1,g2⟩:=h.get a3;obtain⟨⟨l,s,f⟩,d,z⟩:=h.up u x g1;rw[g2];have b:=EJ (v:=x) g;have i:kj (fA v x m) ρ:=by
    refine⟨fun w y hw=>?_,fun w hw=>h.no w (by rw[b]at hw;exact hw)⟩;rw[oS]at hw;rw[b];by_cases ew:w=v
    ·subst ew;rw[if_pos rfl]at hw;cases hw;refine⟨⟨l,Ω,f⟩,by rw[d,a4],⟨fun p=>absurd (a5.1 p) e,fun t=>?_⟩⟩;have:u=w:=Ω
     exact absurd this e
    ·rw[if_neg ew]at hw;exact h.up w y hw
   have c:jS (fA v x m) v=x:=by simp[jS,oS]
   rw[c];obtain⟨a,o,k,j⟩:=abo n (fA v x m) x i (by rw[b];exact f) Ω;exact⟨a,by rw[o,d,a4],k,by rw[j,b]⟩
structure hr (ρ:Int->Int) (c cC:bJ):Prop where
 ru:kj cC.up ρ
 keys:cF cC.up=cF c.up
 eq:cC={c with up:=cC.up}
def hr.refl{ρ:Int->Int}{c:bJ}(h:kj c.up ρ):hr ρ c c:=⟨h,rfl,rfl⟩
def hr.trans{ρ:Int->Int}{a b c:bJ}(h:hr ρ a b)(k:hr ρ b c):hr ρ a c:=⟨k.ru,k.keys.trans h.keys,by rw[k.eq,h.eq]⟩
def hr.shd{ρ:Int->Int}{c a:bJ}(h:hr ρ c a)(x:Int):a.shd x=c.shd x:=by rw[h.eq];rfl
def hr.shp{ρ:Int->Int}{c a:bJ}(h:hr ρ c a)(x:Int):a.shp x=c.shp x:=by rw[h.eq];rfl
def vc{ρ:Int->Int}{c:bJ}{v:Int}(h:kj c.up ρ)(b:v∈cF c.up):∃a,rt c v=some (ρ v,a)/\hr ρ c a:=by
 have e:AG v c.up=c.up:=by simp[AG,J3.2 b]
 obtain⟨d,J,U,f⟩:=abo (v.toNat+1) c.up v h b Ω;exact⟨{c with up:=d},by simp[rt,e,J],⟨U,f,rfl⟩⟩
def aqC{ρ:Int->Int}{c:bJ}{v:Int}(h:kj c.up ρ)(f:0<=v)(b:v∉cF c.up):rt c v=some (v,{c with up:=fA v v c.up})/\kj (fA v v c.up) ρ/\cF (fA v v c.up)=cF c.up++[v]:=by
 have g:=arC.2 b;have a:=XI (v:=v) b;refine⟨?_,⟨fun w u hw=>?_,fun w hw=>h.no w fun hm=>hw (by rw[a];simp[hm])⟩,a⟩
 ·simp[rt,AG,g,yh,jS,oS]
 ·rw[oS]at hw;rw[a];by_cases e:w=v
  ·subst e;rw[if_pos rfl]at hw;cases hw;exact⟨⟨f,Ω,Ψ⟩,rfl,⟨fun _=>rfl,fun _=>h.no _ b⟩⟩
  ·rw[if_neg e]at hw;obtain⟨⟨d,a2,a3⟩,a4⟩:=h.up w u hw;exact⟨⟨d,a2,by simp[a3]⟩,a4⟩
def bJ.ph(c:bJ)(x:Int):bd T:=if c.shd x then some (c.shp x)else none
def hr.ph{ρ:Int->Int}{c a:bJ}(h:hr ρ c a):a.ph=c.ph:=by funext x;simp only[bJ.ph,h.shd,h.shp]
def kP(ph:Int->bd T)(ρ:Int->Int)(a:Int->T):Prop:=(∀v,a v=a (ρ v))/\∀x t,ρ x=x->ph x=some t->a x=t.ap a
def jU(ph:Int->bd T)(ρ:Int->Int)(z u:Int):Prop:=ρ z=z/\∃t w,ph z=some t/\t.occ w=true/\ρ w=u
inductive oh (E:Int->Int->Prop):Int->Int->Prop
 |refl (a:Int):oh E a a
 |step {a b c:Int}:E a b->oh E b c->oh E a c
def pH(V:List Int)(ph:Int->bd T):Prop:= ∀x t,ph x=some t->t.kind≠1/\(∀w,t.occ w=true->w∈V)/\x∈V
def J6(V:List Int)(ph:Int->bd T)(seen:List (Int×Bool)):Nat:=(V.filter fun v=>(ph v).isSome&& !((dp v seen).getD false)).length
def nX(seen:List (Int×Bool))(z:Int):Prop:=(dp z seen).getD false=true
structure adu (V:List Int) (ph:Int->bd T) (ρ:Int->Int) (x:Int) (occ:Int->Prop) (a br:vu):Prop where
 sm:hr ρ a.c br.c
 sub:∀z,nX a.seen z->nX br.seen z
 yes:br.found=true->a.found=true\/ ∃w,occ w/\oh (jU ph ρ) (ρ w) x
 kept:a.found=true->br.found=true
 no:br.found=false->(∀w,occ w->ρ w≠x/\((ph (ρ w)).isSome=true->nX br.seen (ρ w)))/\∀r,nX br.seen r->¬nX a.seen r->∀u,jU ph ρ r u->u≠x/\((ph u).isSome=true->nX br.seen u)
def Hi{α:Type}{p q:α->Bool}:∀{V:List α},(∀x∈V,q x=true->p x=true)->(V.filter q).length<=(V.filter p).length
 |[],_=>by simp
 |y::V,h=>by have:=Hi (p:=p) (q:=q) (V:=V) fun x a=>h x (by simp[a]);have b:=h y Ψ;simp only[List.filter_cons];cases e:q y<;>cases c:p y<;>simp_all<;>omega
def Hj{α:Type}{p q:α->Bool}{v:α}:∀{V:List α},(∀x∈V,q x=true->p x=true)->v∈V->p v=true->q v=false->(V.filter q).length<(V.filter p).length
 |[],_,h,_,_=>by simp at h
 |x::V,h,b,c,d=>by
  have hle:=Hi (p:=p) (q:=q) (V:=V) fun x a=>h x (q1 _ a);simp only[List.filter_cons];rcases gI.1 b with rfl|b
  ·simp[c,d];omega
  ·have:=Hj (fun x a=>h x (q1 _ a)) b c d;have a:=h x Ψ;cases e:q x<;>cases f:p x<;>simp_all<;>omega
def arM{V:List Int}{ph:Int->bd T}{s b:List (Int×Bool)}(h:∀z,nX s z->nX b z):J6 V ph b<=J6 V ph s:=
 Hi fun x _ a=>by
  simp only[cQ,sO]at a⊢;refine⟨a.1,?_⟩;cases e:(dp x s).getD false with
  |false=>rfl
  |true=>have:=h x e;unfold nX at this;rw[a.2]at this;cases this
def NF{s:List (Int×Bool)}{r z:Int}:nX (fA r true s) z↔z=r\/nX s z:=by unfold nX;rw[oS];by_cases h:z=r<;>simp[h]
def aqt{V:List Int}{ph:Int->bd T}{ρ:Int->Int}{x:Int}(gL:pH V ph)(k:Nat):∀(t:T) (a:vu),kj a.c.up ρ->cF a.c.up=V->a.c.ph=ph->(∀w,t.occ w=true->w∈V)->J6 V ph a.seen<=k->
  ∃N br,(∀n,N<=n->t.foldO (yf (qP n x) x) a=some br)/\adu V ph ρ x (fun w=>t.occ w=true) a br:=by
 induction k using Nat.strongRecOn with
 |ind k NC=>
 intro t;induction t with
 |var v=>
  intro a m s g y A;obtain⟨i,J,U⟩:=vc m (by rw[s];exact y v (by simp[T.occ]));have X:i.shd (ρ v)=(ph (ρ v)).isSome:=by rw[U.shd,<-g];simp only[bJ.ph];split<;>simp_all
  by_cases d:a.found=true\/ρ v=x
  ·refine⟨0,⟨i,a.seen,true⟩,fun n _=>by simp[T.foldO,yf,J,d],U,fun z c=>c,fun _=>?_,fun _=>rfl,fun h=>by cases h⟩;rcases d with d|d
   ·exact .inl d
   ·exact .inr ⟨v,by simp[T.occ],by rw[d];exact .refl _⟩
  ·by_cases o:(dp (ρ v) a.seen).getD false=false/\i.shd (ρ v)=true
   ·have G:ph (ρ v)=some (i.shp (ρ v)):=by rw[<-g];simp only[bJ.ph,U.shp];rw[if_pos (by rw[<-U.shd];exact o.2)]
    obtain⟨g1,g2,g3⟩:=gL _ _ G;have bO:J6 V ph (fA (ρ v) true a.seen)<k:=by
     refine Nat.lt_of_lt_of_le (Hj (v:=ρ v) (fun z _ c=>?_) g3 ?_ ?_) A
     ·simp only[cQ,sO]at c⊢;refine⟨c.1,?_⟩;rw[oS]at c;by_cases e:z=ρ v
      ·subst e;exact o.1
      ·rw[if_neg e]at c;exact c.2
     ·simp[G,o.1]
     ·simp[oS]
    obtain⟨N,br,H,b⟩:=NC _ bO (i.shp (ρ v)) ⟨i,fA (ρ v) true a.seen,false⟩ U.ru (by rw[U.keys];exact s) (by rw[U.ph];exact g) g2 (dO _);refine⟨N+1,br,fun n aA=>?_,U.trans b.sm,fun z c=>b.sub z (NF.2 (.inr c)),fun O=>?_,fun h=>absurd (.inl h) d,fun E=>?_⟩
    ·obtain⟨n',rfl⟩:∃n',n=n'+1:=⟨n-1,Ω⟩;simp only[T.foldO,yf,J,lH,if_neg d,if_pos o,qP];exact H n' Ω
    ·rcases b.yes O with h|⟨w,l,j⟩
     ·cases h
     ·exact .inr ⟨v,by simp[T.occ],.step ⟨by rw[kj.idem m],_,w,G,l,rfl⟩ j⟩
    ·obtain⟨l,j⟩:=b.no E;have Y:nX br.seen (ρ v):=b.sub _ (NF.2 (.inl rfl));refine⟨fun w hw=>?_,fun r P B u hu=>?_⟩
     ·simp[T.occ]at hw;subst hw;exact⟨fun e=>d (.inr e),fun _=>Y⟩
     ·by_cases Q:r=ρ v
      ·subst Q;obtain⟨_,t',w,R,z2,rfl⟩:=hu;rw[G]at R;cases R;exact l w z2
      ·exact j r P (fun h=>(NF.1 h).elim Q B) u hu
   ·have D6:a.found=false:=by cases e:a.found with
     |false=>rfl
     |true=>exact absurd (.inl e) d
    refine⟨0,⟨i,a.seen,a.found⟩,fun n _=>by simp only[T.foldO,yf,J,lH,if_neg d,if_neg o],U,fun z c=>c,fun h=>.inl h,fun h=>h,fun _=>⟨fun w hw=>?_,fun r J U=>absurd J U⟩⟩;simp[T.occ]at hw;subst hw;refine⟨fun e=>d (.inr e),fun bN=>?_⟩;unfold nX;cases e:(dp (ρ v) a.seen).getD false with
    |true=>rfl
    |false=>exact absurd ⟨e,by rw[X];exact bN⟩ o
 |pair p q L K=>
  intro a m s g y A;obtain⟨iG,F,H,b⟩:=L a m s g (fun w hw=>y w (by simp[T.occ,hw])) A;obtain⟨Z,a2,aC,f⟩:=K F b.sm.ru (by rw[b.sm.keys];exact s) (by rw[b.sm.ph];exact g) (fun w hw=>y w (by simp[T.occ,hw])) (kD (arM b.sub) A);refine⟨max iG Z,a2,fun n aA=>by simp only[T.foldO];rw[H n Ω];exact aC n Ω,b.sm.trans f.sm,fun z c=>f.sub z (b.sub z c),fun O=>?_,fun h=>f.kept (b.kept h),fun E=>?_⟩
  ·rcases f.yes O with h|⟨w,l,j⟩
   ·rcases b.yes h with h|⟨w,l,j⟩
    ·exact .inl h
    ·exact .inr ⟨w,by simp[T.occ,l],j⟩
   ·exact .inr ⟨w,by simp[T.occ,l],j⟩
  ·have M:F.found=false:=by cases e:F.found with
    |false=>rfl
    |true=>have:=f.kept e;rw[E]at this;cases this
   obtain⟨W,S⟩:=b.no M;obtain⟨s1,s2⟩:=f.no E;refine⟨fun w hw=>?_,fun r P B u hu=>?_⟩
   ·simp only[T.occ,oe]at hw;rcases hw with hw|hw
    ·exact⟨(W w hw).1,fun h=>f.sub _ ((W w hw).2 h)⟩
    ·exact s1 w hw
   ·by_cases h:nX F.seen r
    ·exact⟨(S r h B u hu).1,fun cM=>f.sub _ ((S r h B u hu).2 cM)⟩
    ·exact s2 r P h u hu
 |_=>intro a m s g y A;exact⟨0,a,fun n _=>rfl,hr.refl m,fun z c=>c,fun h=>.inl h,fun h=>h,fun _=>⟨fun w hw=>by simp[T.occ]at hw,fun r J U=>absurd J U⟩⟩
def Jt{ρ:Int->Int}{x:Int}{c:bJ}{t:T}(f:kj c.up ρ)(j:pH (cF c.up) c.ph)(s:∀w,t.occ w=true->w∈cF c.up):
  ∃N a,(∀n,N<=n->qP n x t c []=some a)/\hr ρ c a.c/\(a.found=true↔∃w,t.occ w=true/\oh (jU c.ph ρ) (ρ w) x):=by
 obtain⟨N,a,J,U⟩:=aqt (x:=x) j _ t ⟨c,[],false⟩ f rfl rfl s (dO _);refine⟨N+1,a,fun n B=>?_,U.sm,fun h=>?_,fun⟨w,hw,u⟩=>?_⟩
 ·obtain⟨n',rfl⟩:∃n',n=n'+1:=⟨n-1,Ω⟩;exact J n' Ω
 ·rcases U.yes h with h|h
  ·cases h
  ·exact h
 ·cases e:a.found with
  |true=>rfl
  |false=>
   obtain⟨d,m⟩:=U.no e;have key:∀z,oh (jU c.ph ρ) z x->z≠x->((c.ph z).isSome=true->nX a.seen z)->eu:=by
    have:∀z y,oh (jU c.ph ρ) z y->y=x->z≠x->((c.ph z).isSome=true->nX a.seen z)->eu:=by
     intro z y r;induction r with
     |refl z=>intro h k;exact absurd h k
     | @step z b A he _ o=>intro q v i;obtain⟨_,t',w',g,_,_⟩:=id he;have p:=i (by simp[g]);obtain⟨g1,g2⟩:=m z p (by simp[nX,dp]) b he;exact o q g1 g2
    exact fun z l=>this z x l rfl
   exact(key _ u (d w hw).1 (d w hw).2).elim
end
section
open Go
def adH{E:Int->Int->Prop}{x:Int}{r:Int->Nat}{M:Nat}(h:∀z u,z≠x->E z u->r u<r z)(c:∀u,E x u->r u<M)(d:∀u,E x u->¬oh E u x):∃a:Int->Nat,∀z u,E z u->a u<a z:=by
 classical
 refine⟨fun z=>if oh E z x then r z+M else r z,fun z u he=>?_⟩;show(if oh E u x then r u+M else r u)<(if oh E z x then r z+M else r z);by_cases b:z=x
 ·subst b;have J:=d u he;have U:=c u he;rw[if_neg J,if_pos (oh.refl z)];omega
 ·have J:=h z u b he;by_cases hu:oh E u x
  ·rw[if_pos hu,if_pos (oh.step he hu)];omega
  ·rw[if_neg hu];split<;>omega
def ov(ph:Int->bd T)(ρ:Int->Int):Nat->Int->T
 |0,v=>.var (ρ v)
 |n+1,v=>match ph (ρ v)with
  |none=>.var (ρ v)
  |some t=>t.ap (ov ph ρ n)
section
variable {ph:Int->bd T} {ρ:Int->Int} {r:Int->Nat}
def agj(a:∀v,ρ (ρ v)=ρ v):∀(n:Nat) (v:Int),ov ph ρ n v=ov ph ρ n (ρ v)
 |0,v=>by simp[ov,a]
 |n+1,v=>by simp[ov,a]
def UJ(a:∀v,ρ (ρ v)=ρ v)(b:∀z u,jU ph ρ z u->r u<r z):∀(n:Nat) (v:Int),r (ρ v)<n->ov ph ρ n v=ov ph ρ (n+1) v
 |0,_,h=>Ω
 |n+1,v,h=>by
  show(match ph (ρ v)with|none=>T.var (ρ v)|some t=>t.ap (ov ph ρ n))=(match ph (ρ v)with|none=>T.var (ρ v)|some t=>t.ap (ov ph ρ (n+1)));cases e:ph (ρ v)with
  |none=>rfl
  |some t=>refine vC fun w hw=>UJ a b n w ?_;have:=b (ρ v) (ρ w) ⟨a v,t,w,e,hw,rfl⟩;omega
def UI(a:∀v,ρ (ρ v)=ρ v)(b:∀z u,jU ph ρ z u->r u<r z){n:Nat}{v:Int}(h:r (ρ v)<n):∀k,ov ph ρ (n+k) v=ov ph ρ n v
 |0=>rfl
 |k+1=>by rw[<-UI a b h k];exact(UJ a b (n+k) v Ω).symm
def hV(ph:Int->bd T)(ρ:Int->Int)(r:Int->Nat)(v:Int):T:=ov ph ρ (r (ρ v)+1) v
def Be(a:∀v,ρ (ρ v)=ρ v)(v:Int):hV ph ρ r v=hV ph ρ r (ρ v):=by unfold hV;rw[agj a,a]
def DR{v:Int}(h:ph (ρ v)=none):hV ph ρ r v= .var (ρ v):=by simp[hV,ov,h]
def Bf(a:∀v,ρ (ρ v)=ρ v)(b:∀z u,jU ph ρ z u->r u<r z){v:Int}{t:T}(h:ph (ρ v)=some t):hV ph ρ r v=t.ap (hV ph ρ r):=by show ov ph ρ (r (ρ v)+1) v=_;simp only[ov,h];refine vC fun w hw=>?_;have J:=b (ρ v) (ρ w) ⟨a v,t,w,h,hw,rfl⟩;have:=UI a b (n:=r (ρ w)+1) (v:=w) Ω (r (ρ v)-(r (ρ w)+1));rw[show r (ρ w)+1+(r (ρ v)-(r (ρ w)+1))=r (ρ v)from by omega]at this;exact this
def ajx(a:∀v,ρ (ρ v)=ρ v)(c:∀z u,jU ph ρ z u->r u<r z):kP ph ρ (hV ph ρ r):=⟨Be a,fun x t b h=>Bf a c (by rw[b];exact h)⟩
def JW{V:List Int}(b:pH V ph){a:Int->T}(h:kP ph ρ a){z u:Int}(he:jU ph ρ z u):(a u).size<(a z).size:=by obtain⟨J,t,w,U,c,rfl⟩:=he;rw[h.2 z t J U,<-h.1 w];exact(Ch a c).2 (b z t U).1
def JX{V:List Int}(b:pH V ph){a:Int->T}(h:kP ph ρ a){z u:Int}(he:oh (jU ph ρ) z u):(a u).size<=(a z).size:=by
 induction he with
 |refl=>exact dO _
 |step J _ c=>have:=JW b h J;omega
end
def aec(r:Int->Nat)(t:T):∃M,∀w,t.occ w=true->r w<M:=by
 induction t with
 |var n=>exact⟨r n+1,fun w hw=>by simp[T.occ]at hw;subst hw;omega⟩
 |pair a b f e=>
  obtain⟨d,J⟩:=f;obtain⟨c,U⟩:=e;refine⟨d+c,fun w hw=>?_⟩;simp only[T.occ,oe]at hw;rcases hw with hw|hw
  ·have:=J w hw;omega
  ·have:=U w hw;omega
 |_=>exact⟨0,fun w hw=>by simp[T.occ]at hw⟩
def FE{ph:Int->bd T}{ρ:Int->Int}(b:∀v,ρ (ρ v)=ρ v){x:Int}{r:Int->Nat}(h:∀z u,z≠x->jU ph ρ z u->r u<r z)(g:∀u,jU ph ρ x u->¬oh (jU ph ρ) u x):∃f,kP ph ρ f:=by
 have a:∃M,∀u,jU ph ρ x u->r u<M:=by
  cases e:ph x with
  |none=>exact⟨0,fun u ⟨_,t,w,J,_⟩=>by rw[e]at J;cases J⟩
  |some t=>obtain⟨M,a⟩:=aec (fun w=>r (ρ w)) t;refine⟨M,fun u ⟨_,t',w,J,U,d⟩=>?_⟩;rw[e]at J;cases J;subst d;exact a w U
 obtain⟨M,a⟩:=a;obtain⟨i,c⟩:=adH h a g;exact⟨_,ajx b c⟩
structure mY (c:bJ) (ρ:Int->Int):Prop where
 ru:kj c.up ρ
 sh:pH (cF c.up) c.ph
 sat:∃aS,kP c.ph ρ aS
def mY.sm{c a:bJ}{ρ:Int->Int}(h:mY c ρ)(k:hr ρ c a):mY a ρ:=⟨k.ru,by rw[k.keys,k.ph];exact h.sh,by rw[k.ph];exact h.sat⟩
def jq(c:bJ)(ρ:Int->Int):Nat:=((cF c.up).filter fun v=>decide (ρ v=v)).length+((cF c.up).filter fun v=>decide (ρ v=v)&& !(c.ph v).isSome).length
def yC{c a:bJ}{ρ:Int->Int}(k:hr ρ c a):jq a ρ=jq c ρ:=by unfold jq;rw[k.keys,k.ph]
structure jV (c:bJ) (ρ:Int->Int) (p:(Int->T)->Prop) (o:Bool×bJ):Prop where
 keys:cF o.2.up=cF c.up
 rest:o.2.color=c.color/\o.2.size=c.size/\o.2.full=c.full
 yes:o.1=true->∃ρ',mY o.2 ρ'/\(∀aS,kP o.2.ph ρ' aS↔kP c.ph ρ aS/\p aS)/\((ρ'=ρ/\o.2.ph=c.ph)\/jq o.2 ρ'<jq c ρ)
 no:o.1=false->∀aS,kP c.ph ρ aS->¬p aS
def hr.rest{ρ:Int->Int}{c a:bJ}(h:hr ρ c a):a.color=c.color/\a.size=c.size/\a.full=c.full:=by rw[h.eq];exact⟨rfl,rfl,rfl⟩
def jV.sm{c a:bJ}{ρ:Int->Int}{p:(Int->T)->Prop}{o:Bool×bJ}(k:hr ρ c a)(h:jV a ρ p o):jV c ρ p o:=⟨h.keys.trans k.keys,by rw[h.rest.1,h.rest.2.1,h.rest.2.2];exact k.rest,fun e=>by rw[<-yC k,<-k.ph];exact h.yes e,by rw[<-k.ph];exact h.no⟩
def jV.congr{c:bJ}{ρ:Int->Int}{p q:(Int->T)->Prop}{o:Bool×bJ}(d:∀a,kP c.ph ρ a->(p a↔q a))(h:jV c ρ p o):jV c ρ q o:=⟨h.keys,h.rest,fun e=>by obtain⟨ρ',J,U,g⟩:=h.yes e;exact⟨ρ',J,fun a=>(U a).trans (and_congr_right fun b=>d a b),g⟩,fun e a b f=>h.no e a b ((d a b).2 f)⟩
def x8(c:bJ)(x:Int)(t:T)(z:Int):(c.know x t).ph z=if z=x then some t else c.ph z:=by
 simp only[bJ.ph,bJ.know,bJ.shd,bJ.shp,oS];by_cases h:z=x
 ·simp[h]
 ·simp only[if_neg h];exact ite_congr rfl (fun _=>rfl) fun _=>rfl
def X3{c:bJ}{ρ:Int->Int}(hi:mY c ρ){x:Int}(B:ρ x=x)(E:x∈cF c.up)(y:c.ph x=none){t:T}(G:t.kind≠1)(F:∀w,t.occ w=true->w∈cF c.up):
  ∃N o,(∀n,N<=n->wq n x t c=some o)/\jV c ρ (fun d=>d x=t.ap d) o:=by
 have i:pH (cF (c.know x t).up) (c.know x t).ph:=by
  intro z u b;rw[x8]at b;split at b
  ·rename_i e;cases b;subst e;exact⟨G,F,E⟩
  ·exact hi.sh z u b
 have s:∀d,kP (c.know x t).ph ρ d↔kP c.ph ρ d/\d x=t.ap d:=by
  intro d;constructor
  ·rintro⟨J,U⟩;refine⟨⟨J,fun z u b hu=>U z u b ?_⟩,U x t B (by rw[x8];simp)⟩;rw[x8];split
   ·rename_i e;subst e;rw[y]at hu;cases hu
   ·exact hu
  ·rintro⟨⟨J,U⟩,g⟩;refine⟨J,fun z u b hu=>?_⟩;rw[x8]at hu;split at hu
   ·rename_i e;subst e;cases hu;exact g
   ·exact U z u b hu
 obtain⟨N,a,J,U,g⟩:=Jt (x:=x) (c:=c.know x t) (t:=t) hi.ru i F;refine⟨N,(!a.found,a.c),fun n R=>by simp[wq,J n R],U.keys,U.rest,fun f=>?_,fun f d A he=>?_⟩
 ·simp only[sO]at f;have m:∀u,jU (c.know x t).ph ρ x u->¬oh (jU (c.know x t).ph ρ) u x:=by rintro u ⟨_,t',w,h,j,rfl⟩ Q;rw[x8,if_pos rfl]at h;cases h;have:=g.2 ⟨w,j,Q⟩;rw[f]at this;cases this
  obtain⟨L,K⟩:=hi.sat
  have l:=FE (ph:=(c.know x t).ph) (ρ:=ρ) hi.ru.idem (x:=x) (r:=fun z=>(L z).size) (fun z u b he=>by refine JW hi.sh K ?_;obtain⟨k,t',w,H,O⟩:=he;rw[x8,if_neg b]at H;exact⟨k,t',w,H,O⟩) m
  refine⟨ρ,⟨U.ru,?_,?_⟩,fun d=>?_,.inr ?_⟩
  ·simp only[U.keys,U.ph];exact i
  ·simp only[U.ph];exact l
  ·simp only[U.ph];exact s d
  ·simp only[yC U];unfold jq;have k:cF (c.know x t).up=cF c.up:=rfl;rw[k];have:=Hj (V:=cF c.up) (v:=x) (p:=fun v=>decide (ρ v=v)&& !(c.ph v).isSome) (q:=fun v=>decide (ρ v=v)&& !((c.know x t).ph v).isSome) (fun z _ b=>by
    rw[x8]at b;split at b
    ·simp at b
    ·exact b) E (by simp[B,y]) (by simp[x8])
   omega
 ·simp only[Bool.not_eq_false']at f;obtain⟨w,h,j⟩:=g.1 f;have M:=(s d).2 ⟨A,he⟩;have:=JX i M j;have P:=(Ch d h).2 G;rw[<-he]at P;rw[<-A.1 w]at this;omega
def jZ(ρ:Int->Int)(x y:Int)(v:Int):Int:=if ρ v=y then x else ρ v
section
variable {c:bJ} {ρ:Int->Int} {x y:Int}
def rv(b:ρ x=x)(c:ρ y=y)(a:x≠y){z:Int}:jZ ρ x y z=z↔ρ z=z/\z≠y:=by
 unfold jZ;split
 ·rename_i e;constructor
  ·intro h;subst h;rw[b]at e;exact absurd e a
  ·rintro⟨J,U⟩;rw[J]at e;exact absurd e U
 ·rename_i e;constructor
  ·intro h;exact⟨h,fun d=>e (by rw[d,c])⟩
  ·exact fun h=>h.1
def kj.join(h:kj c.up ρ)(d:ρ x=x)(f:ρ y=y)(m:x<y)(k:x∈cF c.up)(g:y∈cF c.up):kj (c.join x y).up (jZ ρ x y):=by
 have j:cF (c.join x y).up=cF c.up:=EJ g;refine⟨fun v u b=>?_,fun v b=>?_⟩
 ·rw[j];have a:dp v (fA y x c.up)=some u:=b;rw[oS]at a;by_cases e:v=y
  ·subst e;rw[if_pos rfl]at a;cases a;have i:=(h.mem k).2;rw[d]at i;refine⟨⟨i,Ω,k⟩,?_,⟨fun e=>?_,fun e=>Ω⟩⟩
   ·unfold jZ;rw[d,f,if_pos rfl,if_neg Ω]
   ·have:=((rv d f Ω).1 e).2;exact absurd rfl this
  ·rw[if_neg e]at a;obtain⟨l,a2,a3⟩:=h.up v u a;refine⟨l,by unfold jZ;rw[a2],?_⟩;rw[rv d f Ω,a3];exact⟨fun h=>h.1,fun h=>⟨h,e⟩⟩
 ·rw[j]at b;have:=h.no v b;unfold jZ;rw[this,if_neg fun e=>b (by rw[e];exact g)]
def aq5{ph:Int->bd T}(i:ρ x=x)(d:ρ y=y)(h:x≠y)(a:Int->T):(kP ph (jZ ρ x y) a/\∀t,ph y=some t->a x=t.ap a)↔(kP ph ρ a/\a x=a y):=by
 constructor
 ·rintro⟨⟨J,U⟩,c⟩;have g:a y=a x:=by have:=J y;simpa[jZ,d]using this
  refine⟨⟨fun v=>?_,fun z t f b=>?_⟩,g.symm⟩
  ·have:=J v;unfold jZ at this;split at this
   ·rename_i e;rw[e,this,g]
   ·exact this
  ·by_cases e:z=y
   ·subst e;rw[g];exact c t b
   ·exact U z t ((rv i d h).2 ⟨f,e⟩) b
 ·rintro⟨⟨J,U⟩,c⟩;refine⟨⟨fun v=>?_,fun z t f b=>U z t ((rv i d h).1 f).1 b⟩,fun t b=>by rw[c];exact U y t d b⟩;unfold jZ;split
  ·rename_i e;rw[J v,e,c]
  ·exact J v
def aqs{V:List Int}{ph:Int->bd T}(d:pH V ph)(i:ρ x=x)(j:ρ y=y)(c:x≠y){b:Int->T}(h:kP ph ρ b){z u:Int}(f:z≠x)(he:jU ph (jZ ρ x y) z u):(if u=x then 0 else(b u).size)<(if z=x then 0 else(b z).size):=by
 obtain⟨J,t,w,U,g,rfl⟩:=he;have k:=(rv i j c).1 J;rw[if_neg f];split
 ·exact T.size_pos _
 ·rename_i a;have:jZ ρ x y w=ρ w:=by
   unfold jZ at a⊢;split
   ·rename_i e;rw[if_pos e]at a;exact absurd rfl a
   ·rfl
  rw[this];exact JW d h ⟨k.1,t,w,U,g,rfl⟩
def adn(e:ρ x=x)(b:ρ y=y)(d:x≠y)(f:y∈cF c.up):jq (c.join x y) (jZ ρ x y)<jq c ρ:=by have i:cF (c.join x y).up=cF c.up:=EJ f;have g:(c.join x y).ph=c.ph:=rfl;unfold jq;rw[i,g];have J:=Hj (V:=cF c.up) (v:=y) (p:=fun v=>decide (ρ v=v)) (q:=fun v=>decide (jZ ρ x y v=v)) (fun z _ a=>by simp only[gy]at a⊢;exact((rv e b d).1 a).1) f (by simp[b]) (by simp only[iO];exact fun h=>((rv e b d).1 h).2 rfl);have U:=Hi (V:=cF c.up) (p:=fun v=>decide (ρ v=v)&& !(c.ph v).isSome) (q:=fun v=>decide (jZ ρ x y v=v)&& !(c.ph v).isSome) (fun z _ a=>by simp only[cQ,gy]at a⊢;exact⟨((rv e b d).1 a.1).1,a.2⟩);omega
end
def Cp{c:bJ}{x:Int}(h:c.shd x=false):c.ph x=none:=by simp[bJ.ph,h]
def Cq{c:bJ}{x:Int}(h:¬c.shd x=false):c.ph x=some (c.shp x):=by simp[bJ.ph];simpa using h
def UB{c:bJ}{ρ:Int->Int}(hi:mY c ρ){x y:Int}(g:ρ x=x)(B:ρ y=y)(iR:x<y)(EM:x∈cF c.up)(X:y∈cF c.up)
  (rec:∀(O:bJ) (Y:Int->Int),mY O Y->cF O.up=cF c.up->jq O Y<jq c ρ->∀a b:T,(∀w,a.occ w=true->w∈cF c.up)->(∀w,b.occ w=true->w∈cF c.up)->∃N o,(∀n,N<=n->hs n a b O=some o)/\jV O Y (fun d=>a.ap d=b.ap d) o):
  ∃N o,(∀n,N<=n->sX (hs n) n x y (c.join x y)=some o)/\jV c ρ (fun d=>d x=d y) o:=by
 have i:x≠y:=Ω
 have j:cF (c.join x y).up=cF c.up:=EJ X;have P:(c.join x y).ph=c.ph:=rfl;have F:=hi.ru.join g B iR EM X;have dk:=adn (c:=c) g B i X;have M:pH (cF (c.join x y).up) (c.join x y).ph:=by rw[j,P];exact hi.sh
 obtain⟨l6,wh⟩:=hi.sat
 have V:∀z u,z≠x->jU c.ph (jZ ρ x y) z u->(fun z=>if z=x then 0 else(l6 z).size) u<(fun z=>if z=x then 0 else(l6 z).size) z:=fun z u bC he=>aqs hi.sh g B i wh bC he;have G:=fun d=>aq5 (ph:=c.ph) g B i d;have WZ:∀{cC:bJ},hr (jZ ρ x y) (c.join x y) cC->(∃d,kP c.ph (jZ ρ x y) d)->c.ph y=none->jV c ρ (fun d=>d x=d y) (true,cC):=by intro cC k s E;refine⟨k.keys.trans j,k.rest,fun _=>⟨jZ ρ x y,⟨k.ru,by simp only[k.keys,k.ph];exact M,by simp only[k.ph];exact s⟩,fun d=>?_,.inr (by simp only[yC k];exact dk)⟩,fun e=>by cases e⟩;simp only[k.ph,P];rw[<-G d];exact⟨fun h=>⟨h,fun t K=>by rw[E]at K;cases K⟩,fun h=>h.1⟩
 by_cases J:(c.join x y).shd y=false
 ·have WM:c.ph y=none:=Cp J;by_cases U:(c.join x y).shd x=false
  ·have W:c.ph x=none:=Cp U;refine⟨0,(true,c.join x y),fun n _=>by simp only[sX,if_pos J,if_pos U],WZ (hr.refl F) ?_ WM⟩;exact FE F.idem (x:=x) V fun u ⟨_,t,w,q,_⟩=>by rw[W]at q;cases q
  ·have p:c.ph x=some ((c.join x y).shp x):=Cq U;obtain⟨N,a,L,f,S⟩:=Jt (x:=x) (c:=c.join x y) (t:=(c.join x y).shp x) F M (by rw[j];exact(hi.sh _ _ p).2.1);refine⟨N,(!a.found,a.c),fun n E=>by simp only[sX,if_pos J,if_neg U,L n E,pB],?_⟩;cases v:a.found with
   |false=>refine WZ f (FE F.idem (x:=x) V fun u ⟨_,t,w,l,r,H⟩ aI=>?_) WM;rw[p]at l;cases l;subst H;have:=S.2 ⟨w,r,aI⟩;rw[v]at this;cases this
   |true=>refine⟨f.keys.trans j,f.rest,(fun e=>by cases e),fun _ d s he=>?_⟩;obtain⟨w,l,r⟩:=S.1 v;have A:=((G d).2 ⟨s,he⟩).1;have Q:=JX hi.sh A r;have R:=(Ch d l).2 (hi.sh _ _ p).1;rw[<-A.2 x _ ((rv g B i).2 ⟨g,i⟩) p]at R;rw[<-A.1 w]at Q;omega
 ·have m:c.ph y=some ((c.join x y).shp y):=Cq J;by_cases U:(c.join x y).shd x=false
  ·have W:c.ph x=none:=Cp U;have nl:mY (c.join x y) (jZ ρ x y):=⟨F,M,FE F.idem (x:=x) V fun u ⟨_,t,w,q,_⟩=>by rw[P,W]at q;cases q⟩;obtain⟨N,o,L,f⟩:=X3 nl (x:=x) ((rv g B i).2 ⟨g,i⟩) (by rw[j];exact EM) W (t:=(c.join x y).shp y) (hi.sh _ _ m).1 (by rw[j];exact(hi.sh _ _ m).2.1);refine⟨N,o,fun n E=>by simp only[sX,if_neg J,if_pos U,L n E],f.keys.trans j,f.rest,fun v=>?_,fun v d s he=>?_⟩
   ·obtain⟨ρ',g1,g2,g3⟩:=f.yes v;refine⟨ρ',g1,fun d=>?_,.inr ?_⟩
    ·rw[g2 d,<-G d];refine and_congr_right fun _=>⟨fun h t K=>by rw[m]at K;cases K;exact h,fun h=>h _ m⟩
    ·rcases g3 with⟨rfl,g3⟩|g3
     ·have:jq o.2 (jZ ρ x y)=jq (c.join x y) (jZ ρ x y):=by unfold jq;rw[f.keys,g3]
      omega
     ·omega
   ·obtain⟨s1,s2⟩:=(G d).2 ⟨s,he⟩;exact f.no v d s1 (s2 _ m)
  ·have p:c.ph x=some ((c.join x y).shp x):=Cq U;obtain⟨Z,a,L,f,S⟩:=Jt (x:=x) (c:=c.join x y) (t:=(c.join x y).shp y) F M (by rw[j];exact(hi.sh _ _ m).2.1);cases v:a.found with
   |true=>refine⟨Z,(false,a.c),fun n E=>by simp only[sX,if_neg J,if_neg U,L n E,lH,v,if_true],f.keys.trans j,f.rest,(fun e=>by cases e),fun _ d s he=>?_⟩;obtain⟨w,l,r⟩:=S.1 v;obtain⟨A,qB⟩:=(G d).2 ⟨s,he⟩;have Q:=JX hi.sh A r;have R:=(Ch d l).2 (hi.sh _ _ m).1;rw[<-qB _ m]at R;rw[<-A.1 w]at Q;omega
   |false=>
    have W2:a.c.shp x=(c.join x y).shp x:=f.shp x;obtain⟨jW,b,f1,f2,f3⟩:=Jt (x:=x) (c:=a.c) (t:=(c.join x y).shp x) f.ru (by rw[f.keys,f.ph];exact M) (by rw[f.keys,j];exact(hi.sh _ _ p).2.1);have e7:=f.trans f2;cases bf:b.found with
    |true=>refine⟨max Z jW,(false,b.c),fun n E=>by simp only[sX,if_neg J,if_neg U,L n Ω,lH,v,W2,f1 n Ω,bf,if_true,hR,if_false],e7.keys.trans j,e7.rest,(fun e=>by cases e),fun _ d s he=>?_⟩;obtain⟨w,l,r⟩:=f3.1 bf;obtain⟨A,_⟩:=(G d).2 ⟨s,he⟩;rw[f.ph]at r;have Q:=JX hi.sh A r;have R:=(Ch d l).2 (hi.sh _ _ p).1;rw[<-A.2 x _ ((rv g B i).2 ⟨g,i⟩) p]at R;rw[<-A.1 w]at Q;omega
    |false=>
     have Br:mY b.c (jZ ρ x y):=by refine⟨e7.ru,by rw[e7.keys,e7.ph];exact M,?_⟩;rw[e7.ph];refine FE F.idem (x:=x) V fun u ⟨_,t,w,l,r,H⟩ aI=>?_;rw[P,p]at l;cases l;subst H;have:=f3.2 ⟨w,r,by rw[f.ph];exact aI⟩;rw[bf]at this;cases this
     obtain⟨AA,o,g1,g2⟩:=rec b.c (jZ ρ x y) Br (e7.keys.trans j) (by rw[yC e7];exact dk) ((c.join x y).shp x) ((c.join x y).shp y) (hi.sh _ _ p).2.1 (hi.sh _ _ m).2.1;refine⟨max (max Z jW) AA,o,fun n E=>?_,g2.keys.trans (e7.keys.trans j),?_,fun cM=>?_,fun cM d s he=>?_⟩
     ·simp only[sX,if_neg J,if_neg U,L n Ω,lH,v,W2,f1 n Ω,bf,hR,if_false,e7.shp];exact g1 n Ω
     ·rw[g2.rest.1,g2.rest.2.1,g2.rest.2.2];exact e7.rest
     ·obtain⟨ρ',l,r,H⟩:=g2.yes cM;refine⟨ρ',l,fun d=>?_,.inr ?_⟩
      ·rw[r d,e7.ph,P,<-G d];refine and_congr_right fun h=>?_;have:=h.2 x _ ((rv g B i).2 ⟨g,i⟩) p;rw[<-this];exact⟨fun h t K=>by rw[m]at K;cases K;exact h,fun h=>h _ m⟩
      ·have:jq b.c (jZ ρ x y)<jq c ρ:=by rw[yC e7];exact dk
       rcases H with⟨rfl,H⟩|H
       ·have:jq o.2 (jZ ρ x y)=jq b.c (jZ ρ x y):=by unfold jq;rw[g2.keys,H]
        omega
       ·omega
     ·obtain⟨s1,s2⟩:=(G d).2 ⟨s,he⟩;refine g2.no cM d (by rw[e7.ph];exact s1) ?_;have:=s1.2 x _ ((rv g B i).2 ⟨g,i⟩) p;rw[<-this];exact s2 _ m
def vJ:T->T->Nat
 | .var _,_=>1
 |_,.var _=>2
 |_,_=>0
def afo(K:Nat):∀(m:Nat) (c:bJ) (ρ:Int->Int) (a b:T) (k:Int->T),mY c ρ->kP c.ph ρ k->(∀w,a.occ w=true->w∈cF c.up)->(∀w,b.occ w=true->w∈cF c.up)->jq c ρ=K->((a.ap k).size+(b.ap k).size)*3+vJ a b=m->
  ∃N o,(∀n,N<=n->hs n a b c=some o)/\jV c ρ (fun d=>a.ap d=b.ap d) o:=by
 induction K using Nat.strongRecOn with
 |ind K alo=>
 have Xa:∀(f:bJ) (g:Int->Int),mY f g->jq f g<K->∀a b:T,(∀w,a.occ w=true->w∈cF f.up)->(∀w,b.occ w=true->w∈cF f.up)->∃N o,(∀n,N<=n->hs n a b f=some o)/\jV f g (fun d=>a.ap d=b.ap d) o:=by
  intro f g J U a b v r;obtain⟨d,iq⟩:=J.sat
  exact alo _ U _ f g a b d J iq v r rfl rfl
 intro m;induction m using Nat.strongRecOn with
 |ind m BM=>
 intro c ρ a b k hi R v r P hm;have akt:∀{a b:T},(∀n,hs (n+1) a b c=some (decide (a=b),c))->(∀d,a.ap d=a)->(∀d,b.ap d=b)->∃N o,(∀n,N<=n->hs n a b c=some o)/\jV c ρ (fun d=>a.ap d=b.ap d) o:=by
  intro a b J U F;refine⟨1,(decide (a=b),c),fun n B=>?_,rfl,⟨rfl,rfl,rfl⟩,fun h=>?_,fun h d _ he=>?_⟩
  ·obtain⟨n',rfl⟩:∃n',n=n'+1:=⟨n-1,Ω⟩;exact J n'
  ·simp only[gy]at h;subst h;exact⟨ρ,hi,fun d=>⟨fun h=>⟨h,rfl⟩,fun h=>h.1⟩,.inl ⟨rfl,rfl⟩⟩
  ·simp only[iO]at h;rw[U,F]at he;exact h he
 have Wb:∀{a b:T},(∀n,hs (n+1) a b c=some (decide (a=b),c))->(∀d,a.ap d≠b.ap d)->a≠b->∃N o,(∀n,N<=n->hs n a b c=some o)/\jV c ρ (fun d=>a.ap d=b.ap d) o:=by intro a b J U F;refine⟨1,(false,c),fun n B=>?_,rfl,⟨rfl,rfl,rfl⟩,(fun h=>by cases h),fun _ d _ he=>U d he⟩;obtain⟨n',rfl⟩:∃n',n=n'+1:=⟨n-1,Ω⟩;rw[J n',mv F]
 have xM:∀(i:Int) (b:T),b.kind≠1->(∀n,hs (n+1) (.var i) b c=(rt c i).bind fun p=>if p.2.shd p.1=false then wq n p.1 b p.2 else hs n (p.2.shp p.1) b p.2)->i∈cF c.up->(∀w,b.occ w=true->w∈cF c.up)->((k i).size+(b.ap k).size)*3<m->∃N o,(∀n,N<=n->hs n (.var i) b c=some o)/\jV c ρ (fun d=>d i=b.ap d) o:=by
  intro i b xk We ki r bO;obtain⟨f,y,s⟩:=vc hi.ru ki;have O:=hi.sm s;by_cases l:f.shd (ρ i)=false
  ·obtain⟨N,o,A,t⟩:=X3 O (x:=ρ i) (hi.ru.idem i) (by rw[s.keys];exact(hi.ru.mem ki).1) (Cp l) xk (by rw[s.keys];exact r);refine⟨N+1,o,fun n B=>?_,jV.sm s (jV.congr (fun d h=>?_) t)⟩
   ·obtain⟨n',rfl⟩:∃n',n=n'+1:=⟨n-1,Ω⟩;rw[We,y];simp only[lH,if_pos l];exact A n' Ω
   ·rw[<-h.1 i]
  ·have S:f.ph (ρ i)=some (f.shp (ρ i)):=Cq l;have mh:∀d,kP f.ph ρ d->d i=(f.shp (ρ i)).ap d:=fun d h=>by rw[h.1 i];exact h.2 _ _ (hi.ru.idem i) S
   have Ee:=(O.sh _ _ S).1;have aj5:vJ (f.shp (ρ i)) b=0:=by cases e:f.shp (ρ i)<;>cases b<;>simp_all[vJ,T.kind]
   have W7:kP f.ph ρ k:=by rw[s.ph];exact R
   obtain⟨N,o,A,t⟩:=BM (((f.shp (ρ i)).ap k).size*3+(b.ap k).size*3) (by rw[<-mh k W7];omega) f ρ (f.shp (ρ i)) b k O W7 (O.sh _ _ S).2.1 (by rw[s.keys];exact r) (by rw[yC s];exact P) (by rw[aj5];omega);refine⟨N+1,o,fun n B=>?_,jV.sm s (jV.congr (fun d h=>?_) t)⟩
   ·obtain⟨n',rfl⟩:∃n',n=n'+1:=⟨n-1,Ω⟩;rw[We,y];simp only[lH,if_neg l];exact A n' Ω
   ·rw[mh d h]
 have Ew:∀(i j:Int),i∈cF c.up->j∈cF c.up->∃N o,(∀n,N<=n->hs n (.var i) (.var j) c=some o)/\jV c ρ (fun d=>d i=d j) o:=by
  intro i j ki Q;obtain⟨f,y,s⟩:=vc hi.ru ki;obtain⟨H,A,bK⟩:=vc s.ru (by rw[s.keys];exact Q:j∈cF f.up);have z:=s.trans bK;have W:=hi.sm z;have fL:ρ i∈cF H.up:=by rw[z.keys];exact(hi.ru.mem ki).1
  have Wt:ρ j∈cF H.up:=by rw[z.keys];exact(hi.ru.mem Q).1
  have xG:∀(f:bJ) (g:Int->Int),mY f g->cF f.up=cF H.up->jq f g<jq H ρ->∀a b:T,(∀w,a.occ w=true->w∈cF H.up)->(∀w,b.occ w=true->w∈cF H.up)->∃N o,(∀n,N<=n->hs n a b f=some o)/\jV f g (fun d=>a.ap d=b.ap d) o:=fun dj ρ3 J U F a b v r=>Xa dj ρ3 J (by rw[yC z,P]at F;exact F) a b (by rw[U];exact v) (by rw[U];exact r);rcases Int.lt_trichotomy (ρ i) (ρ j)with h|h|h
  ·obtain⟨N,o,bh,X⟩:=UB W (hi.ru.idem i) (hi.ru.idem j) h fL Wt xG;refine⟨N+1,o,fun n B=>?_,jV.sm z (jV.congr (fun d h=>?_) X)⟩
   ·obtain⟨n',rfl⟩:∃n',n=n'+1:=⟨n-1,Ω⟩;simp only[hs,y,A,lH];rw[if_neg Ω,if_neg Ω];exact bh n' Ω
   ·rw[h.1 i,h.1 j]
  ·refine⟨1,(true,H),fun n B=>?_,z.keys,z.rest,fun _=>⟨ρ,W,fun d=>?_,.inl ⟨rfl,z.ph⟩⟩,fun e=>by cases e⟩
   ·obtain⟨n',rfl⟩:∃n',n=n'+1:=⟨n-1,Ω⟩;simp only[hs,y,A,lH,if_pos h]
   ·simp only[z.ph];exact⟨fun l=>⟨l,by rw[l.1 i,l.1 j,h]⟩,fun l=>l.1⟩
  ·obtain⟨N,o,bh,X⟩:=UB W (hi.ru.idem j) (hi.ru.idem i) h Wt fL xG;refine⟨N+1,o,fun n B=>?_,jV.sm z (jV.congr (fun d h=>?_) X)⟩
   ·obtain⟨n',rfl⟩:∃n',n=n'+1:=⟨n-1,Ω⟩;simp only[hs,y,A,lH];rw[if_neg Ω,if_pos h];exact bh n' Ω
   ·rw[h.1 i,h.1 j];exact⟨Eq.symm,Eq.symm⟩
 have BG:∀(a:T) (j:Int),a.kind≠1->(∀n,hs (n+1) a (.var j) c=hs n (.var j) a c)->(∀n,hs (n+1) (.var j) a c=(rt c j).bind fun p=>if p.2.shd p.1=false then wq n p.1 a p.2 else hs n (p.2.shp p.1) a p.2)->j∈cF c.up->(∀w,a.occ w=true->w∈cF c.up)->((k j).size+(a.ap k).size)*3<m->∃N o,(∀n,N<=n->hs n a (.var j) c=some o)/\jV c ρ (fun d=>a.ap d=d j) o:=by intro a j J U F Q v bO;obtain⟨N,o,y,E⟩:=xM j a J F Q v bO;refine⟨N+1,o,fun n B=>?_,jV.congr (fun d _=>⟨Eq.symm,Eq.symm⟩) E⟩;obtain⟨n',rfl⟩:∃n',n=n'+1:=⟨n-1,Ω⟩;rw[U];exact y n' Ω
 cases a with
 |var i=>
  have ki:i∈cF c.up:=v i (by simp[T.occ]);cases b with
  |var j=>exact Ew i j ki (r j (by simp[T.occ]))
  |_=>exact xM i _ (by simp[T.kind]) (fun n=>rfl) ki r (by simp only[T.ap,vJ]at hm⊢;omega)
 |pair Z a2=>
  cases b with
  |var j=>exact BG _ j (by simp[T.kind]) (fun n=>rfl) (fun n=>rfl) (r j (by simp[T.occ])) v (by simp only[T.ap,vJ]at hm⊢;omega)
  |pair Y L=>
   have uI:∀p q:T,vJ p q<=2:=fun p q=>by cases p<;>cases q<;>simp[vJ]
   have mf:∀w,Z.occ w=true->w∈cF c.up:=fun w hw=>v w (by simp[T.occ,hw]);have rf:∀w,a2.occ w=true->w∈cF c.up:=fun w hw=>v w (by simp[T.occ,hw]);have mE:∀w,Y.occ w=true->w∈cF c.up:=fun w hw=>r w (by simp[T.occ,hw]);have qx:∀w,L.occ w=true->w∈cF c.up:=fun w hw=>r w (by simp[T.occ,hw]);simp only[T.ap,T.size,vJ]at hm;have f1:=uI Z Y;have f2:=uI a2 L;obtain⟨iG,hf,y,E⟩:=BM _ (by rw[<-hm];omega) c ρ Z Y k hi R mf mE P rfl;obtain⟨am7,f⟩:=hf;cases am7 with
   |false=>refine⟨iG+1,(false,f),fun n B=>?_,E.keys,E.rest,(fun e=>by cases e),fun _ d l he=>E.no rfl d l (by simp only[T.ap,T.pair.injEq]at he;exact he.1)⟩;obtain⟨n',rfl⟩:∃n',n=n'+1:=⟨n-1,Ω⟩;simp only[hs,y n' Ω,lH,hR,if_false]
   |true=>
    obtain⟨g,a8,bB,u⟩:=E.yes rfl;simp only at a8 bB u;have G:cF f.up=cF c.up:=E.keys;have Eo:∃V M,(∀n,V<=n->hs n a2 L f=some M)/\jV f g (fun d=>a2.ap d=L.ap d) M:=by
     rcases u with⟨rfl,u⟩|u
     ·exact BM _ (by rw[<-hm];omega) f g a2 L k a8 (by rw[u];exact R) (by rw[G];exact rf) (by rw[G];exact qx) (by unfold jq;rw[G,u];exact P) rfl
     ·exact Xa f g a8 Ω a2 L (by rw[G];exact rf) (by rw[G];exact qx)
    obtain⟨V,M,A,t⟩:=Eo;refine⟨max iG V+1,M,fun n B=>?_,t.keys.trans G,?_,fun aG=>?_,fun aG d l he=>?_⟩
    ·obtain⟨n',rfl⟩:∃n',n=n'+1:=⟨n-1,Ω⟩;simp only[hs,y n' Ω,lH,if_true];exact A n' Ω
    ·rw[t.rest.1,t.rest.2.1,t.rest.2.2];exact E.rest
    ·obtain⟨ρ2,s1,s2,s3⟩:=t.yes aG;refine⟨ρ2,s1,fun d=>?_,?_⟩
     ·rw[s2 d,bB d];simp only[T.ap,T.pair.injEq,and_assoc]
     ·rcases u with⟨rfl,u⟩|u
      ·rcases s3 with⟨rfl,s3⟩|s3
       ·exact .inl ⟨rfl,s3.trans u⟩
       ·have:jq f g=jq c g:=by unfold jq;rw[G,u]
        exact .inr Ω
      ·rcases s3 with⟨rfl,s3⟩|s3
       ·have:jq M.2 ρ2=jq f ρ2:=by unfold jq;rw[t.keys,s3]
        exact .inr Ω
       ·exact .inr Ω
    ·simp only[T.ap,T.pair.injEq]at he;exact t.no aG d ((bB d).2 ⟨l,he.1⟩) he.2
  |_=>exact Wb (fun n=>rfl) (fun d=>by simp[T.ap]) Ψ
 |_=>
  cases b with
  |var j=>exact BG _ j (by simp[T.kind]) (fun n=>rfl) (fun n=>rfl) (r j (by simp[T.occ])) v (by simp only[T.ap,vJ]at hm⊢;omega)
  |_=>first|exact akt (fun n=>rfl) (fun d=>rfl) (fun d=>rfl)|exact Wb (fun n=>rfl) (fun d=>by simp[T.ap]) Ψ
end
section
open Go
def Ar(rec:Int->bJ->bd (Bool×bJ))(v:Int)(a:bJ×Bool):bd (bJ×Bool):=if a.2=true then(rt a.1 v).bind fun p=>(rec p.1 p.2).map fun q=>(q.2,q.1)else some a
def Ah(v:Int)(c:bJ):bd (Int×bJ):=(rt c v).map fun p=>(p.2.sz p.1,p.2)
def bJ.grey(c:bJ)(x:Int):bJ:={c with color:=fA x 1 c.color,size:=fA x 1 c.size}
def bJ.black(c:bJ)(x:Int):bJ:={c with color:=fA x 2 c.color}
def rO:Nat->Int->bJ->bd (Bool×bJ)
 |0,_,_=>none
 |n+1,x,c=>if c.col x=2 then some (true,c)else if c.col x=1 then some (false,c)else
   if(c.grey x).shd x=false then some (true,(c.grey x).black x)else
   (((c.grey x).shp x).foldO (Ar (rO n)) (c.grey x,true)).bind fun a=>if a.2=false then some (false,a.1)else
   (((a.1.shp x).sizeO Ah a.1).map fun p=>(true,{p.2 with size:=fA x p.1 p.2.size}.black x))
def C1(rec:Int->bJ->bd (T×bJ))(v:Int)(c:bJ):bd (T×bJ):=(rt c v).bind fun p=>rec p.1 p.2
def rN:Nat->Int->bJ->bd (T×bJ)
 |0,_,_=>none
 |n+1,x,c=>match dp x c.full with
  |some t=>some (t,c)
  |none=>if c.shd x=false then some (.var x,{c with full:=fA x (.var x) c.full})else
   ((c.shp x).mapO (C1 (rN n)) c).map fun p=>(p.1,{p.2 with full:=fA x p.1 p.2.full})
def tV(n:Nat):List Int->bJ->List Int->bd (bd (List Int)×bJ)
 |[],c,out=>some (some out,c)
 |v::bm,c,out=>(rt c v).bind fun p=>(rO n p.1 p.2).bind fun q=>if q.1=false then some (none,q.2)else
   if p.1=v/\q.2.shd p.1=false then tV n bm q.2 out else
   if 5000<q.2.sz p.1\/400<out.length+1 then some (none,q.2)else tV n bm q.2 (out++[v])
def Ai(n:Nat):List Int->bJ->bd (List Bd×bJ)
 |[],c=>some ([],c)
 |v::bm,c=>(rt c v).bind fun p=>(rN n p.1 p.2).bind fun q=>(Ai n bm q.2).map fun r=>(⟨v,q.1⟩::r.1,r.2)
def FL(n:Nat)(bm:List Int)(c:bJ):bd (bd (List Bd)):=(tV n bm c []).bind fun a=>match a.1 with
 |none=>some none
 |some out=>(Ai n out a.2).map fun r=>some r.1
def ra(n:Nat):List (T×T)->bJ->bd (Bool×bJ)
 |[],c=>some (true,c)
 |e::es,c=>(B3 e.1 c).bind fun b=>(B3 e.2 b).bind fun a=>(hs n e.1 e.2 a).bind fun p=>if p.1=true then ra n es p.2 else some (false,p.2)
def mY.rank{c:bJ}{ρ:Int->Int}(h:mY c ρ):∃r:Int->Nat,∀z u,jU c.ph ρ z u->r u<r z:=by
 obtain⟨b,a⟩:=h.sat
 exact⟨fun z=>(b z).size,fun z u he=>JW h.sh a he⟩
structure vs (V:List Int) (ph:Int->bd T) (ρ:Int->Int) (c:bJ):Prop where
 ru:kj c.up ρ
 keys:cF c.up=V
 ph:c.ph=ph
def vs.sm{V:List Int}{ph:Int->bd T}{ρ:Int->Int}{c a:bJ}(h:vs V ph ρ c)(k:hr ρ c a):vs V ph ρ a:=⟨k.ru,k.keys.trans h.keys,k.ph.trans h.ph⟩
def cut(n:Nat):Int:=if 5001<(n:Int)then 5001 else n
section
variable {V:List Int} {ph:Int->bd T} {ρ:Int->Int} {r:Int->Nat}
def aqV(f:Int->T):∀(t:T) (c:bJ),vs V ph ρ c->(∀w,t.occ w=true->w∈V/\c.sz (ρ w)=cut (f w).size)->∃i,t.sizeO Ah c=some (cut (t.ap f).size,i)/\hr ρ c i:=by
 intro t;induction t with
 |var v=>
  intro c h d;obtain⟨o,n⟩:=d v (by simp[T.occ]);obtain⟨e,J,U⟩:=vc h.ru (by rw[h.keys];exact o:v∈cF c.up);refine⟨e,?_,U⟩;have:e.sz (ρ v)=cut (f v).size:=by rw[<-n,U.eq];rfl
  simp only[T.sizeO,Ah,J,pB,this,T.ap,dU,jo,jd];unfold cut;split<;>omega
 |pair a b k j=>
  intro c h d;obtain⟨e,J,g⟩:=k c h fun w hw=>d w (by simp[T.occ,hw]);obtain⟨l,U,m⟩:=j e (h.sm g) fun w hw=>⟨(d w (by simp[T.occ,hw])).1,by rw[<-(d w (by simp[T.occ,hw])).2,g.eq];rfl⟩;have p:=T.size_pos (b.ap f);simp only[T.sizeO,J,lH,T.ap,T.size];by_cases aw:5000<cut (a.ap f).size
  ·rw[if_pos aw];refine⟨e,?_,g⟩;simp only[dU,jo,jd];unfold cut at aw⊢;split at aw<;>split<;>(try split)<;>omega
  ·rw[if_neg aw,U];refine⟨l,?_,g.trans m⟩;simp only[pB,dU,jo,jd];unfold cut at aw⊢;split at aw<;>(repeat' split)<;>omega
 |_=>intro c h d;exact⟨c,by simp[T.sizeO,T.ap,T.size,cut],hr.refl h.ru⟩
structure r1 (V:List Int) (ph:Int->bd T) (ρ:Int->Int) (r:Int->Nat) (d:Nat) (c:bJ):Prop where
 fin:vs V ph ρ c
 col:∀z,r z<d->c.col z=0\/(c.col z=2/\c.sz z=cut (hV ph ρ r z).size)
structure oq (ph:Int->bd T) (ρ:Int->Int) (r:Int->Nat) (d:Nat) (c cC:bJ):Prop where
 full:cC.full=c.full
 hi:∀z,d<=r z->cC.col z=c.col z/\cC.sz z=c.sz z
 lo:∀z,c.col z=2->cC.col z=2/\cC.sz z=c.sz z
def oq.refl{c:bJ}{d:Nat}:oq ph ρ r d c c:=⟨rfl,fun _ _=>⟨rfl,rfl⟩,fun _ h=>⟨h,rfl⟩⟩
def oq.trans{a b c:bJ}{d:Nat}(h:oq ph ρ r d a b)(k:oq ph ρ r d b c):oq ph ρ r d a c:=⟨k.full.trans h.full,fun z e=>⟨(k.hi z e).1.trans (h.hi z e).1,(k.hi z e).2.trans (h.hi z e).2⟩,fun z e=>⟨(k.lo z (h.lo z e).1).1,(k.lo z (h.lo z e).1).2.trans (h.lo z e).2⟩⟩
def oq.mono{a b:bJ}{d c:Nat}(f:d<=c)(h:oq ph ρ r d a b):oq ph ρ r c a b:=⟨h.full,fun z e=>h.hi z Ω,h.lo⟩
def oq.sm{c a:bJ}{d:Nat}(k:hr ρ c a):oq ph ρ r d c a:=by
 have b:∀z,a.col z=c.col z:=fun z=>by rw[k.eq];rfl
 have e:∀z,a.sz z=c.sz z:=fun z=>by rw[k.eq];rfl
 exact⟨k.rest.2.2,fun z _=>⟨b z,e z⟩,fun z h=>⟨by rw[b];exact h,e z⟩⟩
def r1.sm{c a:bJ}{d:Nat}(h:r1 V ph ρ r d c)(k:hr ρ c a):r1 V ph ρ r d a:=by
 have e:∀z,a.col z=c.col z:=fun z=>by rw[k.eq];rfl
 have f:∀z,a.sz z=c.sz z:=fun z=>by rw[k.eq];rfl
 exact⟨h.fin.sm k,fun z b=>by rw[e,f];exact h.col z b⟩
def atg(gL:pH V ph)(R:∀v,ρ (ρ v)=ρ v)(aI:∀z u,jU ph ρ z u->r u<r z)(d:Nat):∀(x:Int) (c:bJ),r x<d->ρ x=x->x∈V->r1 V ph ρ r d c->
  ∃N A,(∀n,N<=n->rO n x c=some (true,A))/\r1 V ph ρ r d A/\oq ph ρ r (r x+1) c A/\A.col x=2/\A.sz x=cut (hV ph ρ r x).size:=by
 induction d using Nat.strongRecOn with
 |ind d b0=>
 intro x c aL P kS hw;rcases hw.col x aL with bA|⟨U,aq⟩;rotate_left
 ·refine⟨1,c,fun n F=>?_,hw,oq.refl,U,aq⟩;obtain⟨n',rfl⟩:∃n',n=n'+1:=⟨n-1,Ω⟩;simp only[rO,if_pos U]
 have k:∀z,(c.grey x).col z=if z=x then 1 else c.col z:=fun z=>by simp only[bJ.grey,bJ.col,oS];split<;>rfl
 have H:∀z,(c.grey x).sz z=if z=x then 1 else c.sz z:=fun z=>by simp only[bJ.grey,bJ.sz,oS];split<;>rfl
 have m:vs V ph ρ (c.grey x):=⟨hw.fin.ru,hw.fin.keys,hw.fin.ph⟩;have X:r1 V ph ρ r (r x) (c.grey x):=⟨m,fun z g=>by
  have cv:z≠x:=fun e=>by subst e;omega
  rw[k,H,if_neg cv,if_neg cv];exact hw.col z Ω⟩
 have Eh:¬c.col x=2:=Ω
 have tq:¬c.col x=1:=Ω
 have p:∀(e:bJ) (z:Int),(e.black x).col z=(if z=x then 2 else e.col z):=fun e z=>by simp only[bJ.black,bJ.col,oS];split<;>rfl
 by_cases O:(c.grey x).shd x=false
 ·have l:ph x=none:=by rw[<-m.ph];exact Cp O
  have bf:hV ph ρ r x= .var x:=by rw[DR (by rw[P];exact l),P]
  have K:∀z,((c.grey x).black x).sz z=if z=x then 1 else c.sz z:=H
  refine⟨1,(c.grey x).black x,fun n F=>?_,⟨⟨m.ru,m.keys,m.ph⟩,fun z g=>?_⟩,⟨rfl,fun z g=>?_,fun z g=>?_⟩,?_,?_⟩
  ·obtain⟨n',rfl⟩:∃n',n=n'+1:=⟨n-1,Ω⟩;simp only[rO,if_neg Eh,if_neg tq,if_pos O]
  ·rw[p,K,k];by_cases e:z=x
   ·subst e;simp only[if_true,bf];exact .inr ⟨trivial,by simp[T.size,cut]⟩
   ·simp only[if_neg e];exact hw.col z g
  ·have e:z≠x:=fun e=>by subst e;omega
   rw[p,K,k];simp only[if_neg e];exact⟨trivial,trivial⟩
  ·have e:z≠x:=fun e=>by subst e;omega
   rw[p,K,k];simp only[if_neg e];exact⟨g,trivial⟩
  ·rw[p,if_pos rfl]
  ·rw[K,if_pos rfl,bf];simp[T.size,cut]
 ·have l:ph x=some ((c.grey x).shp x):=by rw[<-m.ph];exact Cq O
  obtain⟨g1,g2,g3⟩:=gL _ _ l;have Z:∀(t:T) (e:bJ),(∀w,t.occ w=true->((c.grey x).shp x).occ w=true)->r1 V ph ρ r (r x) e->∃N s,(∀n,N<=n->t.foldO (Ar (rO n)) (e,true)=some (s,true))/\r1 V ph ρ r (r x) s/\oq ph ρ r (r x) e s/\∀w,t.occ w=true->s.col (ρ w)=2/\s.sz (ρ w)=cut (hV ph ρ r w).size:=by
   intro t;induction t with
   |var v=>intro e o he;have aN:=g2 v (o v (by simp[T.occ]));have xH:r (ρ v)<r x:=aI x (ρ v) ⟨P,_,v,l,o v (by simp[T.occ]),rfl⟩;obtain⟨W,G,a7⟩:=vc he.fin.ru (by rw[he.fin.keys];exact aN:v∈cF e.up);obtain⟨N,i,E,j,y,cn,s2⟩:=b0 (r x) aL (ρ v) W xH (R v) (by rw[<-he.fin.keys];exact(he.fin.ru.mem (by rw[he.fin.keys];exact aN)).1) (he.sm a7);refine⟨N,i,fun n F=>by simp[T.foldO,Ar,G,E n F],j,(oq.sm a7).trans (y.mono Ω),fun w hw=>?_⟩;simp[T.occ]at hw;subst hw;exact⟨cn,by rw[s2,<-Be R]⟩
   |pair a b er et=>
    intro e o he;obtain⟨iG,W,G,q,S,s1⟩:=er e (fun w hw=>o w (by simp[T.occ,hw])) he;obtain⟨jW,i,E,j,y,s2⟩:=et W (fun w hw=>o w (by simp[T.occ,hw])) q;refine⟨max iG jW,i,fun n F=>by simp only[T.foldO];rw[G n Ω];exact E n Ω,j,S.trans y,fun w hw=>?_⟩;simp only[T.occ,oe]at hw;rcases hw with hw|hw
    ·obtain⟨l5,z2⟩:=s1 w hw;exact⟨(y.lo _ l5).1,by rw[(y.lo _ l5).2];exact z2⟩
    ·exact s2 w hw
   |_=>intro e _ he;exact⟨0,e,fun n _=>rfl,he,oq.refl,fun w hw=>by simp[T.occ]at hw⟩
  obtain⟨N,e,G,q,S,s1⟩:=Z ((c.grey x).shp x) (c.grey x) (fun w h=>h) X;have Y:e.shp x=(c.grey x).shp x:=by
   have J:e.ph x=some ((c.grey x).shp x):=by rw[q.fin.ph];exact l
   unfold bJ.ph at J;split at J
   ·exact e6 J
   ·cases J
  obtain⟨i,E,bK⟩:=aqV (V:=V) (ph:=ph) (ρ:=ρ) (hV ph ρ r) ((c.grey x).shp x) e q.fin (fun w hw=>⟨g2 w hw,(s1 w hw).2⟩);have nu:hV ph ρ r x=((c.grey x).shp x).ap (hV ph ρ r):=Bf R aI (by rw[P];exact l);have Q:=S.trans (oq.sm (ph:=ph) (r:=r) (d:=r x) bK);have j:=q.sm bK;let M:bJ:={i with size:=fA x (cut (hV ph ρ r x).size) i.size}.black x
  have L:∀z,M.col z=if z=x then 2 else i.col z:=fun z=>p _ z
  have s3:∀z,M.sz z=if z=x then cut (hV ph ρ r x).size else i.sz z:=fun z=>by show(dp z (fA x _ i.size)).getD 0=_;rw[oS];split<;>rfl
  refine⟨N+1,M,fun n F=>?_,⟨⟨j.fin.ru,j.fin.keys,j.fin.ph⟩,fun z g=>?_⟩,⟨Q.full,fun z g=>?_,fun z g=>?_⟩,by rw[L,if_pos rfl],by rw[s3,if_pos rfl]⟩
  ·obtain⟨n',rfl⟩:∃n',n=n'+1:=⟨n-1,Ω⟩;simp only[rO,if_neg Eh,if_neg tq,if_neg O,G n' Ω,lH,Bool.true_eq_false,if_false,Y,E,pB,nu,M]
  ·rw[L,s3];by_cases f:z=x
   ·subst f;simp only[if_true];exact .inr ⟨trivial,trivial⟩
   ·simp only[if_neg f];by_cases bO:r z<r x
    ·exact j.col z bO
    ·obtain⟨B,a2⟩:=Q.hi z Ω;rw[B,a2,k,H,if_neg f,if_neg f];exact hw.col z g
  ·have f:z≠x:=fun e=>by subst e;omega
   obtain⟨B,a2⟩:=Q.hi z Ω;rw[L,s3,if_neg f,if_neg f,B,a2,k,H,if_neg f,if_neg f];exact⟨rfl,rfl⟩
  ·have f:z≠x:=fun e=>by subst e;omega
   obtain⟨B,a2⟩:=Q.lo z (by rw[k,if_neg f];exact g);rw[L,s3,if_neg f,if_neg f,B,a2,H,if_neg f];exact⟨rfl,rfl⟩
structure sR (V:List Int) (ph:Int->bd T) (ρ:Int->Int) (r:Int->Nat) (c:bJ):Prop where
 fin:vs V ph ρ c
 full:∀x t,dp x c.full=some t->t=hV ph ρ r x
def sR.sm{c a:bJ}(h:sR V ph ρ r c)(k:hr ρ c a):sR V ph ρ r a:=⟨h.fin.sm k,by rw[k.rest.2.2];exact h.full⟩
def ate(Q:pH V ph)(s:∀v,ρ (ρ v)=ρ v)(K:∀z u,jU ph ρ z u->r u<r z)(d:Nat):∀(x:Int) (c:bJ),r x<d->ρ x=x->x∈V->sR V ph ρ r c->
  ∃N J,(∀n,N<=n->rN n x c=some (hV ph ρ r x,J))/\sR V ph ρ r J:=by
 induction d with
 |zero=>intro x c h;omega
 |succ d W=>
 intro x c aL o Z f;cases p:dp x c.full with
 |some t=>refine⟨1,c,fun n j=>?_,f⟩;obtain⟨n',rfl⟩:∃n',n=n'+1:=⟨n-1,Ω⟩;simp only[rN,p,f.full x t p]
 |none=>
  have L:∀(e:bJ),sR V ph ρ r e->sR V ph ρ r {e with full:=fA x (hV ph ρ r x) e.full}:=fun e he=>⟨⟨he.fin.ru,he.fin.keys,he.fin.ph⟩,fun z t U=>by
   have l:dp z (fA x (hV ph ρ r x) e.full)=some t:=U;rw[oS]at l;split at l
   ·rename_i e;subst e;cases l;rfl
   ·exact he.full z t l⟩
  by_cases m:c.shd x=false
  ·have i:ph x=none:=by rw[<-f.fin.ph];exact Cp m
   have bf:hV ph ρ r x= .var x:=by rw[DR (by rw[o];exact i),o]
   refine⟨1,_,fun n j=>?_,L c f⟩;obtain⟨n',rfl⟩:∃n',n=n'+1:=⟨n-1,Ω⟩;simp only[rN,p,if_pos m,bf]
  ·have i:ph x=some (c.shp x):=by rw[<-f.fin.ph];exact Cq m
   obtain⟨g1,g2,g3⟩:=Q _ _ i;have E:∀(t:T) (e:bJ),(∀w,t.occ w=true->(c.shp x).occ w=true)->sR V ph ρ r e->∃N H,(∀n,N<=n->t.mapO (C1 (rN n)) e=some (t.ap (hV ph ρ r),H))/\sR V ph ρ r H:=by
    intro t;induction t with
    |var v=>intro e g he;have G:=g2 v (g v (by simp[T.occ]));have Y:r (ρ v)<r x:=K x (ρ v) ⟨o,_,v,i,g v (by simp[T.occ]),rfl⟩;obtain⟨B,k,X⟩:=vc he.fin.ru (by rw[he.fin.keys];exact G:v∈cF e.up);obtain⟨N,F,A,y⟩:=W (ρ v) B Ω (s v) (by rw[<-he.fin.keys];exact(he.fin.ru.mem (by rw[he.fin.keys];exact G)).1) (he.sm X);exact⟨N,F,fun n j=>by simp only[T.mapO,C1,k,lH,A n j,T.ap];rw[<-Be s],y⟩
    |pair a b S R=>intro e g he;obtain⟨P,B,k,q⟩:=S e (fun w hw=>g w (by simp[T.occ,hw])) he;obtain⟨O,F,A,y⟩:=R B (fun w hw=>g w (by simp[T.occ,hw])) q;exact⟨max P O,F,fun n j=>by simp only[T.mapO,k n Ω,lH,A n Ω,pB,T.ap],y⟩
    |_=>intro e _ he;exact⟨0,e,fun n _=>rfl,he⟩
   obtain⟨N,e,k,q⟩:=E (c.shp x) c (fun w h=>h) f;have M:hV ph ρ r x=(c.shp x).ap (hV ph ρ r):=Bf s K (by rw[o];exact i);refine⟨N+1,_,fun n j=>?_,L e q⟩;obtain⟨n',rfl⟩:∃n',n=n'+1:=⟨n-1,Ω⟩;simp only[rN,p,if_neg m,k n' Ω,pB,M]
def o3(ph:Int->bd T)(ρ:Int->Int)(v:Int):Bool:= !(decide (ρ v=v)&&(ph v).isNone)
def aqY(Y:pH V ph)(s:∀v,ρ (ρ v)=ρ v)(aI:∀z u,jU ph ρ z u->r u<r z)(X:∀v∈V,ρ v∈V):∀(bm:List Int) (c:bJ) (out:List Int),(∀v∈bm,v∈V)->(∀d,r1 V ph ρ r d c)->out.length<=400->(∀v∈out,(hV ph ρ r v).size<=5000)->
  ∃N x o,(∀n,N<=n->tV n bm c out=some (o,x))/\vs V ph ρ x/\x.full=c.full/\(∀l,o=some l->l=out++bm.filter (o3 ph ρ)/\l.length<=400/\∀v∈l,(hV ph ρ r v).size<=5000)/\(o=none->¬((out++bm.filter (o3 ph ρ)).length<=400/\∀v∈out++bm.filter (o3 ph ρ),(hV ph ρ r v).size<=5000)):=by
 intro bm;induction bm with
 |nil=>intro c out _ hw J U;exact⟨0,c,some out,fun n _=>rfl,(hw 0).fin,rfl,fun l e=>by cases e;simp;exact⟨J,U⟩,fun e=>by cases e⟩
 |cons v bm P=>
  intro c out F hw J U;have K:=F v Ψ;obtain⟨O,a8,Q⟩:=vc (hw 0).fin.ru (by rw[(hw 0).fin.keys];exact K:v∈cF c.up);have W:∀d,r1 V ph ρ r d O:=fun d=>(hw d).sm Q;obtain⟨i,a,bB,j,M,aC,s2⟩:=atg Y s aI (r (ρ v)+1) (ρ v) O Ω (s v) (X v K) (W _);have L:∀d,r1 V ph ρ r d a:=fun d=>⟨j.fin,fun z B=>by
   by_cases Z:r z<r (ρ v)+1
   ·exact j.col z Z
   ·obtain⟨y,a2⟩:=M.hi z Ω;rw[y,a2];exact(W d).col z B⟩
  have G:a.full=c.full:=M.full.trans Q.rest.2.2;have S:(a.shd (ρ v)=false)=((ph (ρ v)).isNone=true):=by rw[<-j.fin.ph];unfold bJ.ph;cases a.shd (ρ v)<;>simp
  have m:∀n,i<=n->tV n (v::bm) c out=(if ρ v=v/\a.shd (ρ v)=false then tV n bm a out else if 5000<a.sz (ρ v)\/400<out.length+1 then some (none,a)else tV n bm a (out++[v])):=fun n g=>by simp only[tV,a8,lH,bB n g,Bool.true_eq_false,if_false]
  have R:hV ph ρ r (ρ v)=hV ph ρ r v:=(Be s v).symm;by_cases aw:ρ v=v/\a.shd (ρ v)=false
  ·have f:o3 ph ρ v=false:=by have E:=aw.2;rw[S]at E;rw[aw.1]at E;simp[o3,aw.1,E]
   obtain⟨p,t,o,A,f3,k,H,q⟩:=P a out (fun w hw=>F w (by simp[hw])) L J U;refine⟨max i p,t,o,fun n g=>by rw[m n Ω,if_pos aw];exact A n Ω,f3,k.trans G,?_,?_⟩
   ·simp only[List.filter_cons,f,hR,if_false];exact H
   ·simp only[List.filter_cons,f,hR,if_false];exact q
  ·have f:o3 ph ρ v=true:=by
    cases e:o3 ph ρ v with
    |true=>rfl
    |false=>simp only[o3,Bool.not_eq_false',cQ,gy]at e;exact absurd ⟨e.1,by rw[S,e.1];exact e.2⟩ aw
   by_cases b:5000<a.sz (ρ v)\/400<out.length+1
   ·refine⟨i,a,none,fun n g=>by rw[m n g,if_neg aw,if_pos b],j.fin,G,(fun l e=>by cases e),fun _=>?_⟩;simp only[List.filter_cons,f,if_true];rintro⟨y,a2⟩;rcases b with b|b
    ·rw[s2,R]at b;have:=a2 v Ψ;unfold cut at b;split at b<;>omega
    ·simp at y;omega
   ·have B:(hV ph ρ r v).size<=5000:=by have:¬5000<a.sz (ρ v):=fun h=>b (.inl h);rw[s2,R]at this;unfold cut at this;split at this<;>omega
    obtain⟨p,t,o,A,f3,k,H,q⟩:=P a (out++[v]) (fun w hw=>F w (by simp[hw])) L d6 (fun w hw=>by
     rcases kd.1 hw with hw|hw
     ·exact U w hw
     ·simp at hw;subst hw;exact B)
    refine⟨max i p,t,o,fun n g=>by rw[m n Ω,if_neg aw,if_neg b];exact A n Ω,f3,k.trans G,?_,?_⟩
    ·simp only[List.filter_cons,f,if_true];simpa using H
    ·simp only[List.filter_cons,f,if_true];simpa using q
def aqZ(h:pH V ph)(a:∀v,ρ (ρ v)=ρ v)(s:∀z u,jU ph ρ z u->r u<r z)(e:∀v∈V,ρ v∈V):∀(bm:List Int) (c:bJ),(∀v∈bm,v∈V)->sR V ph ρ r c->∃N l,∀n,N<=n->Ai n bm c=some (bm.map fun v=>⟨v,hV ph ρ r v⟩,l):=by
 intro bm;induction bm with
 |nil=>intro c _ _;exact⟨0,c,fun n _=>rfl⟩
 |cons v bm q=>intro c d hw;have b:=d v Ψ;obtain⟨o,t,x⟩:=vc hw.fin.ru (by rw[hw.fin.keys];exact b:v∈cF c.up);obtain⟨g,k,p,j⟩:=ate h a s (r (ρ v)+1) (ρ v) o Ω (a v) (e v b) (hw.sm x);obtain⟨f,i,m⟩:=q k (fun w hw=>d w (by simp[hw])) j;refine⟨max g f,i,fun n y=>?_⟩;simp only[Ai,t,lH,p n Ω,m n Ω,pB,gY];rw[<-Be a]
end
end
section
open Go
def bJ.new:bJ:=⟨[],[],[],[],[],[]⟩
def sE(l:List Int):List Int:=l.mergeSort fun x y=>decide (x<=y)
def CO(n:Nat)(E:List (T×T)):bd (bd (List Bd)):=(ra n E bJ.new).bind fun p=>if p.1=false then some none else FL n (sE (cF p.2.up)) p.2
def FO(l:List Int):(sE l).Perm l:=List.mergeSort_perm l _
def ard{l:List Int}(h:l.Nodup):(sE l).Pairwise (· < ·):=by have J:(sE l).Pairwise fun x y=>decide (x<=y)=true:=List.pairwise_mergeSort (fun a b c=>by simp;omega) (fun a b=>by simp;omega) l;have U:(sE l).Pairwise (· ≠ ·):=List.nodup_iff_pairwise_ne.1 ((FO l).nodup_iff.2 h);exact(J.and U).imp fun h=>by simp at h;omega
structure ads (c:bJ) (ρ:Int->Int) (cC:bJ) (Y9:Int->Prop):Prop where
 inv:mY cC ρ
 ph:cC.ph=c.ph
 nd:(cF cC.up).Nodup
 sub:∀v∈cF c.up,v∈cF cC.up
 occ:∀v,Y9 v->v∈cF cC.up
 rest:cC.color=c.color/\cC.size=c.size/\cC.full=c.full
 new:∀v∈cF cC.up,v∈cF c.up\/Y9 v
def Yu{ρ:Int->Int}(t:T):∀(c:bJ),mY c ρ->(cF c.up).Nodup->(∀v,t.occ v=true->0<=v)->∃n,B3 t c=some n/\ads c ρ n fun v=>t.occ v=true:=by
 unfold B3;induction t with
 |var v=>
  intro c hi i j;by_cases d:v∈cF c.up
  ·obtain⟨l,k,f⟩:=vc hi.ru d;refine⟨l,by simp[T.foldO,k],hi.sm f,f.ph,by rw[f.keys];exact i,fun w hw=>by rw[f.keys];exact hw,fun w hw=>?_,f.rest,fun w hw=>.inl (by rw[f.keys]at hw;exact hw)⟩;simp[T.occ]at hw;subst hw;rw[f.keys];exact d
  ·obtain⟨k,m,g⟩:=aqC hi.ru (j v (by simp[T.occ])) d;refine⟨{c with up:=fA v v c.up},by simp only[T.foldO,k,pB],⟨m,?_,hi.sat⟩,rfl,?_,fun w hw=>by rw[g];simp[hw],fun w hw=>?_,⟨rfl,rfl,rfl⟩,fun w hw=>?_⟩
   ·intro x u z;obtain⟨s,a2,a3⟩:=hi.sh x u z;refine⟨s,fun w hw=>?_,?_⟩
    ·show w∈cF (fA v v c.up);rw[g];simp[a2 w hw]
    ·show x∈cF (fA v v c.up);rw[g];simp[a3]
   ·rw[g];rw[rS];exact⟨i,Ψ,fun a y b o e=>by simp at o;subst o;subst e;exact d y⟩
   ·simp[T.occ]at hw;subst hw;rw[g];simp
   ·rw[g]at hw;simp at hw;rcases hw with hw|rfl;exact .inl hw;exact .inr (by simp[T.occ])
 |pair a b q p=>
  intro c hi i j;obtain⟨l,k,m1⟩:=q c hi i fun v d=>j v (by simp[T.occ,d]);obtain⟨r,m,m2⟩:=p l m1.inv m1.nd fun v d=>j v (by simp[T.occ,d]);refine⟨r,by simp only[T.foldO,k,lH,m],m2.inv,m2.ph.trans m1.ph,m2.nd,fun v d=>m2.sub v (m1.sub v d),fun v d=>?_,?_,fun v d=>?_⟩
  ·simp only[T.occ,oe]at d;rcases d with d|d
   ·exact m2.sub v (m1.occ v d)
   ·exact m2.occ v d
  ·rw[m2.rest.1,m2.rest.2.1,m2.rest.2.2];exact m1.rest
  ·rcases m2.new v d with h|h
   ·rcases m1.new v h with h|h
    ·exact .inl h
    ·exact .inr (by simp[T.occ,h])
   ·exact .inr (by simp[T.occ,h])
 |_=>intro c hi i j;exact⟨c,rfl,hi,rfl,i,fun v d=>d,fun v d=>by simp[T.occ]at d,⟨rfl,rfl,rfl⟩,fun v d=>.inl d⟩
def OQ(E:List (T×T)):Prop:= ∀e∈E,∀v,(e.1.occ v=true\/e.2.occ v=true)->0<=v
def DB:∀(E:List (T×T)) (c:bJ) (ρ:Int->Int),mY c ρ->(cF c.up).Nodup->OQ E->∃N o,(∀n,N<=n->ra n E c=some o)/\((o.2.color=c.color/\o.2.size=c.size/\o.2.full=c.full)/\∀v∈cF o.2.up,v∈cF c.up\/ ∃e∈E,e.1.occ v=true\/e.2.occ v=true)/\(o.1=true->∃ρ',mY o.2 ρ'/\(cF o.2.up).Nodup/\∀a,kP o.2.ph ρ' a↔kP c.ph ρ a/\kl E a)/\(o.1=false->∀a,kP c.ph ρ a->¬kl E a):=by
 intro E;induction E with
 |nil=>intro c ρ hi g _;exact⟨0,(true,c),fun n _=>rfl,⟨⟨rfl,rfl,rfl⟩,fun v b=>.inl b⟩,fun _=>⟨ρ,hi,g,fun a=>⟨fun h=>⟨h,FN a⟩,fun h=>h.1⟩⟩,fun e=>by cases e⟩
 |cons e E R=>
  intro c ρ hi g m;obtain⟨Q,B,m1⟩:=Yu e.1 c hi g fun v b=>m e Ψ v (.inl b);obtain⟨x,A,m2⟩:=Yu e.2 Q m1.inv m1.nd fun v b=>m e Ψ v (.inr b);obtain⟨K,F⟩:=m2.inv.sat
  obtain⟨t,i,z,d⟩:=afo _ _ x ρ e.1 e.2 K m2.inv F (fun w hw=>m2.sub w (m1.occ w hw)) (fun w hw=>m2.occ w hw) rfl rfl;have k:x.ph=c.ph:=m2.ph.trans m1.ph;have s:i.2.color=c.color/\i.2.size=c.size/\i.2.full=c.full:=by rw[d.rest.1,d.rest.2.1,d.rest.2.2,m2.rest.1,m2.rest.2.1,m2.rest.2.2];exact m1.rest
  have r:∀v∈cF i.2.up,v∈cF c.up\/e.1.occ v=true\/e.2.occ v=true:=fun v b=>by
   rw[d.keys]at b;rcases m2.new v b with h|h
   ·rcases m1.new v h with h|h
    ·exact .inl h
    ·exact .inr (.inl h)
   ·exact .inr (.inr h)
  obtain⟨f,u⟩:=i;cases f with
  |false=>refine⟨t,(false,u),fun n g=>?_,⟨s,fun v b=>(r v b).imp id fun h=>⟨e,Ψ,h⟩⟩,(fun e=>by cases e),fun _ a p he=>d.no rfl a (by rw[k];exact p) (sC.1 he).1⟩;simp only[ra,B,A,lH,z n g,hR,if_false]
  |true=>
   obtain⟨G,y,a2,_⟩:=d.yes rfl;simp only at y a2;obtain⟨L,M,P,j,O,H⟩:=R u G y (by have:=d.keys;simp only at this;rw[this];exact m2.nd) fun l he=>m l (by simp[he]);refine⟨max t L,M,fun n g=>?_,?_,fun q=>?_,fun q a p he=>?_⟩
   ·simp only[ra,B,A,lH,z n Ω,if_true];exact P n Ω
   ·refine⟨by rw[j.1.1,j.1.2.1,j.1.2.2];exact s,fun v b=>?_⟩;rcases j.2 v b with h|⟨l,J,U⟩
    ·exact(r v h).imp id fun h=>⟨e,Ψ,h⟩
    ·exact .inr ⟨l,by simp[J],U⟩
   ·obtain⟨ρ2,d1,d2,d3⟩:=O q;exact⟨ρ2,d1,d2,fun a=>by rw[d3 a,a2 a,k,sC,and_assoc]⟩
   ·exact H q a ((a2 a).2 ⟨by rw[k];exact p,(sC.1 he).1⟩) (sC.1 he).2
def Gx{ph:Int->bd T}{ρ:Int->Int}{v:Int}:o3 ph ρ v=false↔ρ v=v/\ph v=none:=by simp[o3]
def VZ{ph:Int->bd T}{ρ:Int->Int}{r:Int->Nat}(a:∀v,ρ (ρ v)=ρ v):∀(n:Nat) (v w:Int),(ov ph ρ n v).occ w=true->(∀z u,jU ph ρ z u->r u<r z)->r (ρ v)<n->ρ w=w/\ph w=none
 |0,v,w,_,_,h=>Ω
 |n+1,v,w,h,b,c=>by
  simp only[ov]at h;cases e:ph (ρ v)with
  |none=>rw[e]at h;simp[T.occ]at h;subst h;exact⟨a v,e⟩
  |some t=>rw[e]at h;obtain⟨u,J,U⟩:=Cg.1 h;have:=b (ρ v) (ρ u) ⟨a v,t,u,e,J,rfl⟩;exact VZ a n u w U b Ω
section
variable {V:List Int} {ph:Int->bd T} {ρ:Int->Int} {r:Int->Nat}
def vd(ph:Int->bd T)(ρ:Int->Int)(r:Int->Nat)(V:List Int):List Bd:=((sE V).filter (o3 ph ρ)).map fun v=>⟨v,hV ph ρ r v⟩
def Qj(a:V.Nodup):jB (vd ph ρ r V):=by unfold vd;rw[jB,List.pairwise_map];exact((ard a).filter _)
def abC(i:V.Nodup)(c:pH V ph)(f:∀v,v∉V->ρ v=v)(v:Int):dG (vd ph ρ r V) v=if o3 ph ρ v then some (hV ph ρ r v)else none:=by
 by_cases a:o3 ph ρ v=true
 ·rw[if_pos a];have g:v∈V:=by
   refine Classical.byContradiction fun h=>?_;have J:=f v h;have U:ph v=none:=by cases e:ph v with
    |none=>rfl
    |some t=>exact absurd (c v t e).2.2 h
   rw[Gx.2 ⟨J,U⟩]at a;cases a
  have:(⟨v,hV ph ρ r v⟩:Bd)∈vd ph ρ r V:=gZ.2 ⟨v,oW.2 ⟨(FO V).mem_iff.2 g,a⟩,rfl⟩;exact wX (Qj i) this
 ·rw[if_neg a];refine wY.2 fun b d e=>?_;obtain⟨u,J,rfl⟩:=gZ.1 d;simp only at e;subst e;exact a (oW.1 J).2
def aq1(i:V.Nodup)(d:pH V ph)(j:∀v,v∉V->ρ v=v)(f:∀v,ρ (ρ v)=ρ v)(hle:∀v,ρ v<=v)(g:∀z u,jU ph ρ z u->r u<r z):gD (vd ph ρ r V):=by
 refine⟨Qj i,fun b a w hw=>?_,fun b a w hw=>?_⟩
 ·obtain⟨u,J,rfl⟩:=gZ.1 a;rw[abC i d j];have:=VZ f _ u w hw g Ω;rw[Gx.2 this];rfl
 ·obtain⟨u,J,rfl⟩:=gZ.1 a;have c:=(oW.1 J).2;simp only at hw⊢;cases e:ph (ρ u)with
  |none=>
   rw[DR e]at hw;cases hw;have U:=hle u;have k:ρ u≠u:=fun h=>by rw[Gx.2 ⟨h,by rw[h]at e;exact e⟩]at c;cases c
   omega
  |some t=>rw[Bf f g e]at hw;have:=(d _ _ e).1;cases t<;>simp[T.ap,T.kind]at hw this
def ajw(a:∀v,ρ (ρ v)=ρ v)(c:∀z u,jU ph ρ z u->r u<r z)(b:Int->T):kP ph ρ b↔∀v,b v=(hV ph ρ r v).ap b:=by
 constructor
 ·intro h;have:∀(n:Nat) (v:Int),r (ρ v)<n->b v=(hV ph ρ r v).ap b:=by
   intro n;induction n with
   |zero=>intro v h;omega
   |succ n d=>
    intro v i;cases e:ph (ρ v)with
    |none=>rw[DR e];exact h.1 v
    |some t=>rw[Bf a c e,Dg,h.1 v,h.2 _ t (a v) e];refine vC fun w hw=>d w ?_;have:=c (ρ v) (ρ w) ⟨a v,t,w,e,hw,rfl⟩;omega
  exact fun v=>this _ v (Nat.lt_succ_self _)
 ·intro h;refine⟨fun v=>by rw[h v,h (ρ v),<-Be a],fun x t f g=>?_⟩;rw[h x,Bf a c (by rw[f];exact g),Dg];exact vC fun w _=>(h w).symm
def aq0(b:V.Nodup)(c:pH V ph)(f:∀v,v∉V->ρ v=v)(d:∀v,ρ (ρ v)=ρ v)(g:∀z u,jU ph ρ z u->r u<r z)(a:Int->T):hT (vd ph ρ r V) a↔kP ph ρ a:=by
 rw[ajw d g,aq7 (Qj b)];refine forall_congr' fun v=>?_;rw[cG,abC b c f];cases e:o3 ph ρ v with
 |true=>simp
 |false=>obtain⟨J,U⟩:=Gx.1 e;rw[DR (by rw[J];exact U),J];simp
end
def aq8(E:List (T×T))(Z:OQ E):∃n o,CO n E=some o/\jG [] E o/\∀c,ra n E bJ.new=some (true,c)->(cF c.up).Nodup/\(∀v∈cF c.up,∃e∈E,e.1.occ v=true\/e.2.occ v=true)/\c.size=[]:=by
 have hi:mY bJ.new id:=⟨⟨fun v u h=>by simp[bJ.new,dp]at h,fun v _=>rfl⟩,fun x t h=>by simp[bJ.new,bJ.ph,bJ.shd,dp]at h,⟨.var,fun v=>rfl,fun x t _ h=>by simp[bJ.new,bJ.ph,bJ.shd,dp]at h⟩⟩;have F:∀a,kP bJ.new.ph id a:=fun a=>⟨fun v=>rfl,fun x t _ h=>by simp[bJ.new,bJ.ph,bJ.shd,dp]at h⟩;obtain⟨i,R,q,m,X,S⟩:=DB E bJ.new id hi (by simp[bJ.new,cF]) Z;obtain⟨m,M⟩:=m;obtain⟨f,c⟩:=R;cases f with
 |false=>refine⟨i,none,by simp[CO,q i (dO _)],Gq fun a _ he=>S rfl a (F a) he,fun c h=>?_⟩;rw[q i (dO _)]at h;cases h
 |true=>
  obtain⟨ρ,g,a2,a3⟩:=X rfl;simp only at g a2 a3 m M;have O:∀n,i<=n->∀p,ra n E bJ.new=some (true,p)->(cF p.up).Nodup/\(∀v∈cF p.up,∃e∈E,e.1.occ v=true\/e.2.occ v=true)/\p.size=[]:=fun n aA p h=>by rw[q n aA]at h;cases h;exact⟨a2,fun v j=>(M v j).resolve_left (by simp[bJ.new,cF]),m.2.1⟩
  obtain⟨r,y⟩:=g.rank;have s:=g.ru.idem;have H:∀v∈cF c.up,ρ v∈cF c.up:=fun v j=>(g.ru.mem j).1;have W:vs (cF c.up) c.ph ρ c:=⟨g.ru,rfl,rfl⟩;have hw:∀d,r1 (cF c.up) c.ph ρ r d c:=fun d=>⟨W,fun z _=>.inl (by simp[bJ.col,m.1,bJ.new,dp])⟩;obtain⟨k,K,o,L,b8,V,P,RG⟩:=aqY g.sh s y H (sE (cF c.up)) c [] (fun v j=>(FO _).mem_iff.1 j) hw Ψ (fun v j=>by simp at j);have dF:=aq1 (r:=r) a2 g.sh g.ru.no s g.ru.le y;have G:∀a,hT (vd c.ph ρ r (cF c.up)) a↔hT [] a/\kl E a:=fun a=>by rw[aq0 a2 g.sh g.ru.no s y,a3 a];exact⟨fun h=>⟨fun b ag=>by simp at ag,h.2⟩,fun h=>⟨F a,h.2⟩⟩
  have N:iw (vd c.ph ρ r (cF c.up))↔(([]++(sE (cF c.up)).filter (o3 c.ph ρ)).length<=400/\∀v∈[]++(sE (cF c.up)).filter (o3 c.ph ρ),(hV c.ph ρ r v).size<=5000):=by unfold iw vd;simp only[List.length_map,ca,gZ,forall_exists_index,and_imp,forall_apply_eq_imp_iff₂]
  cases o with
  |none=>refine⟨max i k,none,by simp[CO,q (max i k) Ω,FL,L (max i k) Ω],?_,O _ Ω⟩;exact fun ak J U aq=>RG rfl (N.1 (Vf dF J (fun a Q=>(G a).2 (U a Q)) aq))
  |some l=>
   obtain⟨w,aC,Y⟩:=P l rfl;have B:sR (cF c.up) c.ph ρ r K:=⟨b8,fun x t h=>by rw[V,m.2.2]at h;simp[bJ.new,dp]at h⟩;simp only[ca]at w;obtain⟨A,dj,d1⟩:=aqZ g.sh s y H l K (fun v j=>by rw[w]at j;exact(FO _).mem_iff.1 (oW.1 j).1) B;refine⟨max (max i k) A,some (vd c.ph ρ r (cF c.up)),?_,⟨⟨dF,N.2 ?_⟩,G⟩,O _ Ω⟩
   ·simp only[CO,q (max (max i k) A) Ω,lH,Bool.true_eq_false,if_false,FL,L (max (max i k) A) Ω,d1 (max (max i k) A) Ω,pB];rw[w];rfl
   ·rw[ca,<-w];exact⟨aC,Y⟩
def iI(s:List Bd):List (T×T):=s.map fun b=>(.var b.v,b.t)
def aq6{s:List Bd}{a:Int->T}:kl (iI s) a↔hT s a:=by simp[kl,iI,hT,T.ap]
def adE{s:List Bd}{E:List (T×T)}{o:bd (List Bd)}:jG [] (iI s++E) o↔jG s E o:=by
 have h:∀a,(hT [] a/\kl (iI s++E) a)↔(hT s a/\kl E a):=fun a=>by rw[FM,aq6];exact⟨fun h=>h.2,fun h=>⟨fun b c=>by simp at c,h⟩⟩
 exact⟨De h,De fun a=>(h a).symm⟩
end
section
open Go
open Classical in
noncomputable def mgu(s:List Bd)(E:List (T×T)):bd (List Bd):=if h:∃o,jG s E o then h.choose else none
def tK{s:List Bd}{E:List (T×T)}{o:bd (List Bd)}(h:jG s E o):mgu s E=o:=by have a:∃o,jG s E o:=⟨o,h⟩;unfold mgu;rw[dif_pos a];exact adF a.choose_spec h
def rG(s:List Bd):Prop:= ∀b∈s,(0<=b.v/\b.v<=100000)/\b.t.ok=true
def Rz{e:Int->T}{t:T}(c:t.ok=true)(h:∀v,t.occ v=true->(e v).ok=true):(t.ap e).ok=true:=by
 induction t with
 |var n=>exact h n (by simp[T.occ])
 |pair a b g f=>simp only[T.ok,cQ]at c;simp only[T.ap,T.ok,cQ];exact⟨g c.1 fun v d=>h v (by simp[T.occ,d]),f c.2 fun v d=>h v (by simp[T.occ,d])⟩
 |_=>exact c
def yv{t:T}(c:t.ok=true){v:Int}(h:t.occ v=true):0<=v/\v<=100000:=by
 induction t with
 |var n=>simp[T.occ]at h;subst h;simpa[T.ok]using c
 |pair a b e d=>
  simp only[T.ok,cQ]at c;simp only[T.occ,oe]at h;rcases h with h|h
  ·exact e c.1 h
  ·exact d c.2 h
 |_=>simp[T.occ]at h
def FG{s:List Bd}(b:rG s){t:T}(a:t.ok=true):(t.ap (cG s)).ok=true:=Rz a fun v c=>by
 unfold cG;cases e:dG s v with
 |none=>have:=yv a c;simpa[T.ok]using this
 |some x=>exact(b _ (kQ e)).2
def Dj{s:List Bd}(a:rG s){v:Int}{t:T}(g:0<=v/\v<=100000)(e:t.ok=true){d:List Bd}(h:o2 s v t=some d):rG d:=by
 unfold o2 at h;split at h
 ·cases h;intro b f;rcases rC.1 f with rfl|⟨c,aw,rfl⟩
  ·exact⟨g,FG a e⟩
  ·refine⟨(a c aw).1,Rz (a c aw).2 fun w hw=>?_⟩;unfold one;split
   ·exact FG a e
   ·have:=yv (a c aw).2 hw;simpa[T.ok]using this
 ·cases h
def acY{s:List Bd}(b:rG s){t:T}(a:t.ok=true):(ij s t).ok=true:=by
 cases t with
 |var n=>have:=FG b a;simpa[ij,T.ap]using this
 |_=>exact a
def QO:∀(n:Nat) (s:List Bd) (a b:T) (g:List Bd),rG s->a.ok=true->b.ok=true->lD n s a b=some (some g)->rG g
 |0,_,_,_,_,_,_,_,h=>by simp[lD]at h
 |n+1,s,a,b,g,c,m,q,h=>by
  have d:=acY c m;have e:=acY c q;simp only[lD]at h;generalize ij s a=x at h d;generalize ij s b=y at h e;have f:∀{i:Int},(T.var i).ok=true->0<=i/\i<=100000:=fun h=>yv h (by simp[T.occ]);cases x with
  |var i=>
   cases y with
   |var j=>
    simp only[kN,dU]at h;split at h
    ·exact Dj c (f e) d h
    ·split at h
     ·cases h;exact c
     ·exact Dj c (f d) e h
   |_=>simp only[kN,dU]at h;exact Dj c (f d) e h
  |pair l a2=>
   cases y with
   |var j=>simp only[kN,dU]at h;exact Dj c (f e) d h
   |pair k o=>
    simp only[T.ok,cQ]at d e;simp only[kN]at h;split at h
    ·cases h
    ·cases h
    ·rename_i s1 p;exact QO n s1 a2 o g (QO n s l k s1 c d.1 e.1 p) d.2 e.2 h
   |_=>simp[kN]at h
  |_=>
   cases y with
   |var j=>simp only[kN,dU]at h;exact Dj c (f e) d h
   |_=>
    simp only[kN,dU]at h;split at h
    ·cases h;exact c
    ·cases h
def oT:T->List Int
 | .var n=>[n]
 | .pair a b=>oT a++oT b
 |_=>[]
def zM{t:T}{v:Int}(h:t.occ v=true):v∈oT t:=by
 induction t with
 |var n=>simp[T.occ]at h;subst h;simp[oT]
 |pair a b d c=>simp only[T.occ,oe]at h;simp only[oT,kd];exact h.imp d c
 |_=>simp[T.occ]at h
def J5{s:List Bd}(d:gD s)(e:iw s)(a b:T):∃n o,lD n s a b=some o/\jG s [(a,b)] o:=by obtain⟨n,o,J,U⟩:=acj (s.flatMap (fun b=>b.v::oT b.t)++oT a++oT b) _ _ s a b d e (fun c aw=>⟨by simp only[kd,List.mem_flatMap];exact .inl (.inl ⟨c,aw,Ψ⟩),fun w hw=>by simp only[kd,List.mem_flatMap];exact .inl (.inl ⟨c,aw,by simp[zM hw]⟩)⟩) (fun w hw=>by simp[zM hw]) (fun w hw=>by simp[zM hw]) rfl rfl;exact⟨n,o,J,U.1⟩
def Rp{s:List Bd}{e:T×T}{E:List (T×T)}{s1:List Bd}(h:jG s [e] (some s1)){o:bd (List Bd)}(U:jG s1 E o):jG s (e::E) o:=Ro (E:=[e]) h U
def IL{s:List Bd}(b:gD s)(c:iw s)(E:List (T×T)):jG s E (mgu s E):=by
 induction E generalizing s with
 |nil=>rw[tK (KE b c)];exact KE b c
 |cons e E d=>
  obtain⟨n,o,_,U⟩:=J5 b c e.1 e.2;cases o with
  |none=>have a:jG s (e::E) none:=KD E U;rw[tK a];exact a
  |some s1=>have a:=Rp U (d U.1.1 U.1.2);rw[tK a];exact a
def Oz{s:List Bd}(a:gD s)(b:iw s):mgu s []=some s:=tK (KE a b)
def Oy{s:List Bd}(b:gD s)(c:iw s)(e:T×T)(E:List (T×T)):mgu s (e::E)=match mgu s [e]with|some s1=>mgu s1 E|none=>none:=by
 have J:=IL b c [e];cases h:mgu s [e]with
 |none=>rw[h]at J;have a:jG s (e::E) none:=KD E J;exact tK a
 |some s1=>rw[h]at J;exact tK (Rp J (IL J.1.1 J.1.2 E))
def B4{s:List Bd}(b:gD s)(c:iw s){E:List (T×T)}{a:List Bd}(h:mgu s E=some a):gD a/\iw a:=by have J:=IL b c E;rw[h]at J;exact J.1
def amH{s:List Bd}(c:gD s)(d:iw s)(ar:rG s){E:List (T×T)}(a:∀e∈E,e.1.ok=true/\e.2.ok=true){f:List Bd}(h:mgu s E=some f):rG f:=by
 induction E generalizing s with
 |nil=>rw[Oz c d]at h;cases h;exact ar
 |cons e E j=>
  rw[Oy c d]at h;split at h
  ·rename_i s1 J;obtain⟨n,o,U,b⟩:=J5 c d e.1 e.2;have g:=tK b;rw[J]at g;subst g;exact j b.1.1 b.1.2 (QO n s e.1 e.2 s1 ar (a e Ψ).1 (a e Ψ).2 U) (fun i he=>a i (by simp[he])) h
  ·cases h
def XH{l:List Int}(j:l.Nodup)(h:∀v∈l,0<=v/\v<=100000):l.length<=100001:=by
 have J:(l.map Int.toNat).Nodup:=by rw[List.nodup_iff_pairwise_ne,List.pairwise_map];exact atx (fun{a b} d f c e=>c (by have:=h a d;have:=h b f;omega)) j
 have:=Rc J (l₂:=List.range 100001) (fun x g=>by obtain⟨v,i,rfl⟩:=gZ.1 g;have:=h v i;simp;omega)
 simpa using this
end
end Go.Pv
