/- The most general unifier within the limits. -/
import Derived.Deep.LoopGhost
import Derived.Test.YtahlgcidhnjlbaaGreatX1
set_option linter.all false
set_option maxHeartbeats 4000000
set_option maxRecDepth 4000
open Array renaming getElem?_toList->vt
open Bool renaming and_eq_true->cP,false_eq_true->hQ,not_eq_true'->sS,or_eq_true->og
open Decidable renaming not_not->ayc
open Go renaming Program->cH,TypeId->gU
open Go.IntKind renaming bits->pt,i64->vu,signed->ug,u64->ig,wrap->uh
open Go.IntWalk renaming i64_in->pw
open Go.Op renaming bytesLess->ir
open Go.Region renaming wanted->qh
open Go.Result renaming andThen_ok->gC
open Go.Sem renaming run_bind->gx,run_pure->hA
open Go.Value renaming cells->pz
open List renaming all_eq_true->j4,cons_append->b5,drop_eq_getElem_cons->lG,getElem?_append_left->rY,getElem?_eq_getElem->cl,getElem?_eq_none->q4,getElem?_eq_some_iff->fI,length_append->qi,length_cons->mT,map_cons->gV,map_nil->rZ,mem_append->kc,mem_cons->gI,mem_cons_of_mem->q5,mem_filter->oV,mem_map->hb,nil_append->cb,nodup_append->r1,pairwise_cons->oh,pairwise_iff_getElem->q6
open List.Nodup renaming length_le_of_subset->Ra
open List.Pairwise renaming imp_of_mem->atz,nil->ayl
open List.Perm renaming eq_of_pairwise->Rb
open List.cons renaming injEq->rX
open Nat renaming le_refl->dP,le_trans->kC
open Option renaming bind_some->k4,getD_none->mW,getD_some->mr,isSome_iff_exists->fx,isSome_none->lH,map_eq_some_iff->hr,map_some->pC
open Option.some renaming inj->e8,injEq->dU
open Prod.mk renaming injEq->jn
open _root_ renaming False->er,Option->bd,UInt8->cU,and_true->jc,beq_iff_eq->ey,congrArg->fy,decide_eq_false->mX,decide_eq_false_iff_not->iM,decide_eq_true_eq->gy,eq_true->h1
namespace Go.Pv
section
open Go Go.RowKit
def am8(A:dE)(s a:cS)(rm:bd aB):Prop:=(∀k,(ae k a.b).isSome->(ae k s.b).isSome\/rm=some k)/\(∀k,(ae k a.e).isSome->(ae k s.e).isSome\/rm=some k)/\(∀k,(ae k s.b).isSome->(ae k a.b).isSome)/\(∀k,(ae k s.e).isSome->(ae k a.e).isSome)/\
 (∀k,rm=some k->(∃j,k= .obj j)/\A.F k/\A.b k=none/\A.e k=none/\((ae k a.b).isSome\/(ae k a.e).isSome))
def adu(P:cH)(n:Nat)(args:List af)(A:dE)(d:bd Nat)(x:lI):Prop:=
 ∃s a r rm,(∀k cs,ae k s.b=some cs->A.b k=some cs/\aH (aM s) cs)/\(∀k o,ae k s.e=some o->A.e k=some o/\dV (aM s) o)/\hW s/\hW a/\am8 A s a rm/\aH (aM s) args/\
  bG P n args s (fun b t'=>b=r/\t'=a)/\x=⟨d,r,a.b,a.e,rm⟩
def adv(P:cH)(n0 n:Nat)(args:List af)(A:dE)(d:bd Nat)(x:lI):Prop:=
 ∃cV r,d=some cV/\(A.F (.loc (n0+cV))/\A.b (.loc (n0+cV))=none/\A.e (.loc (n0+cV))=none)/\aH (fun _=>er) args/\
  uo P n (n0+cV) args ⟨[],[]⟩ (fun a t'=>a=r/\t'=⟨[],[]⟩)/\x=⟨d,r,[],[],some (.loc (n0+cV))⟩
def zI:af->Bool
 | .ptr (.loc _) _=>true
 | .eptr _=>true
 |_=>false
def gP.isB:gP->Bool
 | .loadB _ _ _=>true
 | .mgetB _ _ _ _ _=>true
 |_=>false
def gP.ptrOf(t:Nat->af):gP->af
 | .load _ _ x=>dY t x
 | .loadB _ _ x=>dY t x
 |_=>.junk
def e2(P:cH)(q:Bool)(n0:Nat):eU->dE->lI->Prop
 | .s (.v d i),A,x=> ∃c p,q1 A.t A.b A.e i=some (c,p)/\c/\(i.isLoad=true->i.isB=true\/q=true\/zI (i.ptrOf A.t)=true)/\x=⟨some d,p,[],[],none⟩
 | .s (.box d none v),A,x=>(A.F (.loc (n0+d))/\A.b (.loc (n0+d))=none/\A.e (.loc (n0+d))=none)/\eT (dY A.t v)=true/\x=⟨some d,.ptr (.loc (n0+d)) 0,[(.loc (n0+d),cells (dY A.t v))],[],some (.loc (n0+d))⟩
 | .s (.alloc d none z),A,x=>(A.F (.loc (n0+d))/\A.b (.loc (n0+d))=none/\A.e (.loc (n0+d))=none)/\x=⟨some d,.ptr (.loc (n0+d)) 0,[(.loc (n0+d),cells z)],[],some (.loc (n0+d))⟩
 | .s (.store sz u v),A,x=> ∃k off cs,dY A.t u= .ptr k off/\A.b k=some cs/\(gY cs=true/\eT (dY A.t v)=true/\(cells (dY A.t v)).length=sz/\off+sz<=cs.length)/\x=⟨none,.junk,[(k,nE cs off (cells (dY A.t v)))],[],none⟩
 | .s (.bsl d sz el xs),A,x=>(A.F (.loc (n0+d))/\A.b (.loc (n0+d))=none/\A.e (.loc (n0+d))=none)/\ux sz (xs.map (dY A.t))/\x=⟨some d,.slice sz (.own (.loc (n0+d))) (xs.map (dY A.t)),[],[(.loc (n0+d),⟨xs.length,el,sz,none⟩)],some (.loc (n0+d))⟩
 | .s (.app d sz el u v),A,x=> ∃tag xs a ys,dY A.t u= .slice sz tag xs/\dY A.t v= .slice sz a ys/\
   ((∃k o,tag= .own k/\A.e k=some o/\(o.xs=none/\o.n=xs.length/\o.el=el/\o.sz=sz/\xs.length+ys.length<=lim)/\x=⟨some d,.slice sz (.own k) (xs++ys),[],[(k,⟨xs.length+ys.length,el,sz,none⟩)],none⟩)\/
    (tag= .nil/\ys.length<=lim/\(A.F (.loc (n0+d))/\A.b (.loc (n0+d))=none/\A.e (.loc (n0+d))=none)/\x=⟨some d,.slice sz (.own (.loc (n0+d))) ys,[],[(.loc (n0+d),⟨ys.length,el,sz,none⟩)],some (.loc (n0+d))⟩))
 | .s (.appm d _ sz el u v),A,x=> ∃k n xs a ys,dY A.t u= .row sz k n/\dY A.t v= .slice sz a ys/\A.e k=some ⟨n,el,sz,some xs⟩/\xs.length+ys.length<=lim/\x=⟨some d,.row sz k (xs.length+ys.length),[],[(k,⟨xs.length+ys.length,el,sz,some (xs++ys)⟩)],none⟩
 | .s (.storeE sz u v),A,x=> ∃k n i f el b xs q,dY A.t u= .rptr b k n i f/\A.e k=some ⟨n,el,b,some xs⟩/\xs[i]? =some q/\(eT q=true/\eT (dY A.t v)=true/\(cells (dY A.t v)).length=sz/\f+sz<=(cells q).length/\0<sz)/\x=⟨none,.junk,[],[(k,⟨n,el,b,some (xs.set i (od q f (cells (dY A.t v))))⟩)],none⟩
 | .s (.mkmap d (some m)),A,x=>(A.F (.obj m)/\A.b (.obj m)=none/\A.e (.obj m)=none)/\x=⟨some d,.gmap (.obj m),[(.obj m,[.hdm 0 []])],[],some (.obj m)⟩
 | .s (.mput e u k v),A,x=> ∃m cs cs',dY A.t u= .gmap m/\A.b m=some cs/\qR e (dY A.t k) (dY A.t v) cs=some cs'/\x=⟨none,.junk,[(m,cs')],[],none⟩
 | .call d f xs,A,x=> ∃n dI,dY A.t f= .func n dI/\((adu P n (cf (xs.map (dY A.t)++dI)) A d x/\(q=true->x.bw=[]/\x.ew=[]))\/adv P n0 n (cf (xs.map (dY A.t)++dI)) A d x)
 |_,_,_=>er
inductive Da where
 |v|l|n|s|w|a|c|m|r|k
 deriving DecidableEq
def eU.mode:eU->Da
 | .s (.v _ (.loadB _ _ _))=>.m
 | .s (.v _ (.mgetB _ _ _ _ _))=>.m
 | .s (.v _ i)=>if i.isLoad then .l else .v
 | .s (.storeE _ _ _)=>.r
 | .s (.box _ _ _)=>.n
 | .s (.alloc _ _ _)=>.n
 | .s (.store _ _ _)=>.w
 | .s (.bsl _ _ _ _)=>.s
 | .s (.app _ _ _ _ _)=>.a
 | .s (.bslm _ _ _ _ _)=>.w
 | .s (.mks _ _ _ _ _ _)=>.w
 | .s (.appm _ _ _ _ _ _)=>.r
 | .s (.mkmap _ _)=>.k
 | .s (.mput _ _ _ _)=>.w
 | .s (.range _ _ _)=>.w
 | .call _ _ _=>.c
 | .next _ _=>.w
structure KI (q:Bool) (n0:Nat) (m:Da) (dst:bd Nat) (A:dE) (x:lI):Prop where
 d:x.d=dst
 b:∀k,(ae k x.bw).isSome->(m= .n/\∃d,dst=some d/\k= .loc (n0+d)/\A.b k=none/\A.e k=none)\/m= .w\/(m= .c/\(∃j,k= .obj j)/\q=false)\/(m= .k/\(∃j,k= .obj j)/\A.b k=none/\A.e k=none)
 e:∀k,(ae k x.ew).isSome->(m= .s/\∃d,dst=some d/\k= .loc (n0+d)/\A.b k=none/\A.e k=none)\/(m= .a/\(A.e k≠none\/ ∃d,dst=some d/\k= .loc (n0+d)/\A.b k=none/\A.e k=none))\/(m= .c/\(∃j,k= .obj j)/\q=false)\/(m= .r/\∃o,A.e k=some o/\o.xs≠none)
 r:∀k,x.rm=some k->(∃d,dst=some d/\k= .loc (n0+d))\/((m= .c\/m= .k)/\(∃j,k= .obj j)/\((ae k x.bw).isSome\/(ae k x.ew).isSome))
 ex:m= .a->∀k o,(ae k x.ew).isSome->A.e k=some o->o.xs=none
 xn:m= .a\/m= .s->∀k o,ae k x.ew=some o->o.xs=none
def u9{α:Type}{k bt:aB}{x:α}(h:(ae k [(bt,x)]).isSome):k=bt:=by
 simp only[ae]at h;split at h
 ·rename_i e;exact e.symm
 ·cases h
def Oj{k bt:aB}{n el sz:Nat}{o:dW}(h:ae k [(bt,(⟨n,el,sz,none⟩:dW))]=some o):o.xs=none:=by
 simp only[ae]at h;split at h
 ·cases h;rfl
 ·cases h
def aco{P:cH}{q:Bool}{n0:Nat}{i:eU}{A:dE}{x:lI}(h:e2 P q n0 i A x):KI q n0 i.mode i.dst A x:=by
 cases i with
 |s i=>
  cases i with
  |v d i=>simp only[e2]at h;obtain⟨c,p,_,_,_,rfl⟩:=h;exact⟨rfl,fun k ab=>by simp[ae]at ab,fun k ab=>by simp[ae]at ab,fun k ab=>by simp at ab,fun _ k o ab=>by simp[ae]at ab,fun _ k o ab=>by simp[ae]at ab⟩
  |box d key v=>
   cases key with
   |some m=>simp only[e2]at h
   |none=>simp only[e2]at h;obtain⟨⟨_,U,a⟩,_,rfl⟩:=h;exact⟨rfl,fun k ab=>by obtain rfl:=u9 ab;exact .inl ⟨rfl,d,rfl,rfl,U,a⟩,fun k ab=>by simp[ae]at ab,fun k ab=>by simp at ab;exact .inl ⟨d,rfl,ab.symm⟩,fun _ k o ab=>by simp[ae]at ab,fun _ k o ab=>by simp[ae]at ab⟩
  |alloc d key z=>
   cases key with
   |some m=>simp only[e2]at h
   |none=>simp only[e2]at h;obtain⟨⟨_,U,a⟩,rfl⟩:=h;exact⟨rfl,fun k ab=>by obtain rfl:=u9 ab;exact .inl ⟨rfl,d,rfl,rfl,U,a⟩,fun k ab=>by simp[ae]at ab,fun k ab=>by simp at ab;exact .inl ⟨d,rfl,ab.symm⟩,fun _ k o ab=>by simp[ae]at ab,fun _ k o ab=>by simp[ae]at ab⟩
  |store sz u v=>simp only[e2]at h;obtain⟨k,off,cs,_,_,_,rfl⟩:=h;exact⟨rfl,fun k ab=>.inr (.inl rfl),fun k ab=>by simp[ae]at ab,fun k ab=>by simp at ab,fun _ k o ab=>by simp[ae]at ab,fun _ k o ab=>by simp[ae]at ab⟩
  |bsl d sz el xs=>simp only[e2]at h;obtain⟨⟨_,U,a⟩,_,rfl⟩:=h;exact⟨rfl,fun k ab=>by simp[ae]at ab,fun k ab=>by obtain rfl:=u9 ab;exact .inl ⟨rfl,d,rfl,rfl,U,a⟩,fun k ab=>by simp at ab;exact .inl ⟨d,rfl,ab.symm⟩,fun e=>by simp[eU.mode]at e,fun _ k o ab=>Oj ab⟩
  |app d sz el u v=>
   simp only[e2]at h;obtain⟨tag,xs,j,ys,_,_,h⟩:=h;rcases h with⟨k,o,_,J,⟨l,_⟩,rfl⟩|⟨_,_,⟨_,U,a⟩,rfl⟩
   ·exact⟨rfl,fun k ab=>by simp[ae]at ab,fun k ab=>by obtain rfl:=u9 ab;exact .inr (.inl ⟨rfl,.inl (by rw[J];simp)⟩),fun k ab=>by simp at ab,fun _ bt o' ab ar=>by obtain rfl:=u9 ab;rw[J]at ar;cases ar;exact l,fun _ k o ab=>Oj ab⟩
   ·exact⟨rfl,fun k ab=>by simp[ae]at ab,fun k ab=>by obtain rfl:=u9 ab;exact .inr (.inl ⟨rfl,.inr ⟨d,rfl,rfl,U,a⟩⟩),fun k ab=>by simp at ab;exact .inl ⟨d,rfl,ab.symm⟩,fun _ bt o' ab ar=>(by obtain rfl:=u9 ab;rw[a]at ar;cases ar),fun _ k o ab=>Oj ab⟩
  |bslm d key sz el xs=>simp only[e2]at h
  |mks d key sz el z x=>simp only[e2]at h
  |appm d key sz el u v=>simp only[e2]at h;obtain⟨k,n,xs,j,ys,_,_,J,_,rfl⟩:=h;exact⟨rfl,fun k ab=>by simp[ae]at ab,fun k ab=>by obtain rfl:=u9 ab;exact .inr (.inr (.inr ⟨rfl,_,J,Ψ⟩)),fun k ab=>by simp at ab,fun e=>by simp[eU.mode]at e,fun e=>by simp[eU.mode]at e⟩
  |storeE sz u v=>simp only[e2]at h;obtain⟨k,n,i,f,el,t,xs,q,_,J,_,_,rfl⟩:=h;exact⟨rfl,fun k ab=>by simp[ae]at ab,fun k ab=>by obtain rfl:=u9 ab;exact .inr (.inr (.inr ⟨rfl,_,J,Ψ⟩)),fun k ab=>by simp at ab,fun e=>by simp[eU.mode]at e,fun e=>by simp[eU.mode]at e⟩
  |mkmap d key=>
   cases key with
   |none=>simp only[e2]at h
   |some m=>simp only[e2]at h;obtain⟨⟨_,U,a⟩,rfl⟩:=h;exact⟨rfl,fun k ab=>by obtain rfl:=u9 ab;exact .inr (.inr (.inr ⟨rfl,⟨m,rfl⟩,U,a⟩)),fun k ab=>by simp[ae]at ab,fun k ab=>by simp at ab;subst ab;exact .inr ⟨.inr rfl,⟨m,rfl⟩,.inl (by simp[ae])⟩,fun e=>by simp[eU.mode]at e,fun e=>by simp[eU.mode]at e⟩
  |mput w x k v=>simp only[e2]at h;obtain⟨m,cs,cs',_,_,_,rfl⟩:=h;exact⟨rfl,fun k ab=>.inr (.inl rfl),fun k ab=>by simp[ae]at ab,fun k ab=>by simp at ab,fun e=>by simp[eU.mode]at e,fun e=>by simp[eU.mode]at e⟩
  |range d key x=>simp only[e2]at h
 |next d x=>simp only[e2]at h
 |call d f xs=>
  simp only[e2]at h;obtain⟨n,dI,_,h⟩:=h;rcases h with⟨⟨s,y,r,rm,_,_,_,ar,g,_,_,rfl⟩,b⟩|⟨cV,r,rfl,_,_,_,rfl⟩;rotate_left
  ·exact⟨rfl,fun k ab=>by simp[ae]at ab,fun k ab=>by simp[ae]at ab,fun k ab=>by simp at ab;exact .inl ⟨cV,rfl,ab.symm⟩,fun _ k o ab=>by simp[ae]at ab,fun _ k o ab=>by simp[ae]at ab⟩
  refine⟨rfl,fun k ab=>.inr (.inr (.inl ⟨rfl,?_,?_⟩)),fun k ab=>.inr (.inr (.inl ⟨rfl,?_,?_⟩)),fun k ab=>.inr ⟨.inl rfl,(g.2.2.2.2 k ab).1,(g.2.2.2.2 k ab).2.2.2.2⟩,fun e=>by simp[eU.mode]at e,fun e=>by simp[eU.mode]at e⟩
  ·cases k with
   |loc m=>rw[ar.1 m]at ab;cases ab
   |obj m=>exact⟨m,rfl⟩
  ·cases q with
   |false=>rfl
   |true=>rw[(b rfl).1]at ab;simp[ae]at ab
  ·cases k with
   |loc m=>rw[ar.2 m]at ab;cases ab
   |obj m=>exact⟨m,rfl⟩
  ·cases q with
   |false=>rfl
   |true=>rw[(b rfl).2]at ab;simp[ae]at ab
def Rf{P:cH}{q:Bool}{n0:Nat}{i:eU}{A b:dE}{x:lI}(h:e2 P q n0 i A x)(a:r8 i.looks A.t b.t)
  (av:i.mode= .l->∀k,(q=true\/ ∃m,k= .loc m)->A.b k≠none->b.b k=A.b k) (WE:i.mode= .m->∀k,A.b k≠none->b.b k=A.b k)
  (lp:i.mode= .l->q=true->∀k o,A.e k=some o->o.xs≠none->b.e k=some o)
  (G:∀d,i.dst=some d->(i.mode= .n\/i.mode= .s\/i.mode= .a\/i.mode= .c)->(A.F (.loc (n0+d))/\A.b (.loc (n0+d))=none/\A.e (.loc (n0+d))=none)->(b.F (.loc (n0+d))/\b.b (.loc (n0+d))=none/\b.e (.loc (n0+d))=none))
  (bS:i.mode= .a->∀k o,A.e k=some o->b.e k=some o) (hw:i.mode= .w->∀k,b.b k=A.b k) (X:i.mode= .k->∀m,(A.F (.obj m)/\A.b (.obj m)=none/\A.e (.obj m)=none)->(b.F (.obj m)/\b.b (.obj m)=none/\b.e (.obj m)=none)) (Er:i.mode= .r->∀k o,A.e k=some o->o.xs≠none->b.e k=some o)
  (ax:i.mode= .c->∀m,b.b (.obj m)=A.b (.obj m)/\b.e (.obj m)=A.e (.obj m)/\(A.F (.obj m)->b.F (.obj m))):e2 P q n0 i b x:=by
 cases i with
 |s i=>
  cases i with
  |v d i=>
   simp only[e2]at h⊢;obtain⟨c,p,J,U,l,B⟩:=h;by_cases K:∃agg sz y,i= .loadB agg sz y
   ·obtain⟨agg,sz,y,rfl⟩:=K;simp only[eU.looks,eY.looks,gP.looks]at a;have H:=ho a;refine⟨c,p,?_,U,fun _=>.inl rfl,B⟩;rw[<-J];simp only[q1,<-H];have hm:=WE (by simp[eU.mode]);simp only[q1]at J;cases w:dY A.t y<;>simp only[tK];rename_i key off;rw[w]at J;simp only[tK]at J;cases t:A.b key with
    |none=>simp[t]at J
    |some cs=>have:b.b key=A.b key:=hm key (by rw[t];simp);rw[this,t]
   by_cases M:∃L zero ok y z,i= .mgetB L zero ok y z
   ·obtain⟨L,zero,ok,y,z,rfl⟩:=M;simp only[eU.looks,eY.looks,gP.looks]at a;obtain⟨t1,t2⟩:=k6 a;refine⟨c,p,?_,U,fun _=>.inl rfl,B⟩;simp only[q1]at J⊢;rw[<-ho t1,<-ho t2];exact YH (WE (by simp[eU.mode])) J
   replace l:i.isLoad=true->q=true\/zI (i.ptrOf A.t)=true:=fun g=>(l g).resolve_left (fun t=>by cases i<;>simp[gP.isB]at t;exact K ⟨_,_,_,rfl⟩;exact M ⟨_,_,_,_,_,rfl⟩);have Z:i.isLoad=true->(eU.s (.v d i)).mode= .l:=by intro g;cases i<;>simp only[gP.isLoad]at g<;>first|(cases g;done)|(simp[eU.mode,gP.isLoad];done)|exact absurd ⟨_,_,_,rfl⟩ K|exact absurd ⟨_,_,_,_,_,rfl⟩ M
   by_cases g:i.isLoad=true
   ·have V:∀(w:zI (i.ptrOf A.t)=false),∀k,A.b k≠none->b.b k=A.b k:=fun w k ab=>av (Z g) k (.inl ((l g).resolve_right (by rw[w];simp))) ab;cases i<;>simp only[gP.isLoad]at g<;>try(cases g;done)
    case mget L zero ok y z=>simp only[eU.looks,eY.looks,gP.looks]at a;obtain⟨t1,t2⟩:=k6 a;refine⟨c,p,?_,U,fun _=>.inr (l rfl),B⟩;simp only[q1]at J⊢;rw[<-ho t1,<-ho t2];exact YH (V rfl) J
    case ment y=>simp only[eU.looks,eY.looks,gP.looks]at a;refine⟨c,p,?_,U,fun _=>.inr (l rfl),B⟩;simp only[q1]at J⊢;rw[<-ho a];exact amC (V rfl) J
    case mlen y=>simp only[eU.looks,eY.looks,gP.looks]at a;refine⟨c,p,?_,U,fun _=>.inr (l rfl),B⟩;simp only[q1]at J⊢;rw[<-ho a];exact am0 (V rfl) J
    case loadB agg sz y=>exact absurd ⟨_,_,_,rfl⟩ K
    case mgetB=>exact absurd ⟨_,_,_,_,_,rfl⟩ M
    rename_i agg sz y;simp only[eU.looks,eY.looks,gP.looks]at a;have H:=ho a;refine⟨c,p,?_,U,fun _=>.inr (by have:=l rfl;simpa only[gP.ptrOf,<-H]using this),B⟩;rw[<-J];simp only[q1,<-H];have hm:=av (by simp[eU.mode,gP.isLoad]);simp only[q1]at J;have E:=l rfl;simp only[gP.ptrOf]at E;cases w:dY A.t y<;>simp only[tK]
    ·rename_i key off;rw[w]at J E;simp only[tK]at J;cases t:A.b key with
     |none=>simp[t]at J
     |some cs=>have:b.b key=A.b key:=hm key (by rcases E with h|h;exact .inl h;cases key;exact .inr ⟨_,rfl⟩;simp[zI]at h) (by rw[t];simp);rw[this,t]
    ·rename_i ed key n i f;rw[w]at J E;simp only[tK]at J;have Y:q=true:=E.resolve_right (by simp[zI]);unfold Ak at J;split at J
     ·rename_i n' el j3 xs he;rw[he,lp (by simp[eU.mode,gP.isLoad]) Y key _ he Ψ]
     ·cases J
   ·have g:i.isLoad=false:=by simpa using g
    refine⟨c,p,?_,U,(fun e=>by rw[g]at e;cases e),B⟩;rw[<-J];exact(arS (by simpa only[eU.looks,eY.looks]using a) g).symm
  |box d key v=>
   cases key with
   |some m=>simp only[e2]at h
   |none=>simp only[e2,eU.looks,eY.looks]at h a⊢;obtain⟨J,U,l⟩:=h;rw[<-ho a];exact⟨G d rfl (.inl rfl) J,U,l⟩
  |alloc d key z=>
   cases key with
   |some m=>simp only[e2]at h
   |none=>simp only[e2]at h⊢;exact⟨G d rfl (.inl rfl) h.1,h.2⟩
  |store sz u v=>simp only[e2,eU.looks,eY.looks]at h a⊢;obtain⟨J,U⟩:=k6 a;rw[<-ho J,<-ho U];obtain⟨k,off,cs,g1,g2,g3,g4⟩:=h;exact⟨k,off,cs,g1,by rw[hw rfl];exact g2,g3,g4⟩
  |bsl d sz el xs=>simp only[e2,eU.looks,eY.looks]at h a⊢;rw[<-IF a];exact⟨G d rfl (.inr (.inl rfl)) h.1,h.2⟩
  |app d sz el u v=>
   simp only[e2,eU.looks,eY.looks]at h a⊢;obtain⟨J,U⟩:=k6 a;rw[<-ho J,<-ho U];obtain⟨tag,xs,N,ys,g1,g2,h⟩:=h;refine⟨tag,xs,N,ys,g1,g2,?_⟩;rcases h with⟨k,o,W,aC,R⟩|⟨W,aC,R,b4⟩
   ·exact .inl ⟨k,o,W,bS rfl k o aC,R⟩
   ·exact .inr ⟨W,aC,G d rfl (.inr (.inr (.inl rfl))) R,b4⟩
  |bslm d key sz el xs=>simp only[e2]at h
  |mks d key sz el z x=>simp only[e2]at h
  |appm d key sz el u v=>simp only[e2,eU.looks,eY.looks]at h a⊢;obtain⟨J,U⟩:=k6 a;rw[<-ho J,<-ho U];obtain⟨k,n,xs,N,ys,g1,g2,g3,g4,g5⟩:=h;exact⟨k,n,xs,N,ys,g1,g2,Er rfl k _ g3 Ψ,g4,g5⟩
  |storeE sz u v=>simp only[e2,eU.looks,eY.looks]at h a⊢;obtain⟨J,U⟩:=k6 a;rw[<-ho J,<-ho U];obtain⟨k,n,i,f,el,ed,xs,q,g1,g2,g3⟩:=h;exact⟨k,n,i,f,el,ed,xs,q,g1,Er rfl k _ g2 Ψ,g3⟩
  |mkmap d key=>
   cases key with
   |none=>simp only[e2]at h
   |some m=>simp only[e2]at h⊢;exact⟨X rfl m h.1,h.2⟩
  |mput L u k v=>simp only[e2,eU.looks,eY.looks]at h a⊢;obtain⟨t1,t3⟩:=k6 a;obtain⟨t1,t2⟩:=k6 t1;obtain⟨m,cs,cs',g1,g2,g3,g4⟩:=h;rw[<-ho t1,<-ho t2,<-ho t3];exact⟨m,cs,cs',g1,by rw[hw rfl];exact g2,g3,g4⟩
  |range d key x=>simp only[e2]at h
 |next d x=>simp only[e2]at h
 |call d f xs=>
  simp only[e2,eU.looks]at h a⊢;obtain⟨J,U⟩:=k6 a;rw[<-ho J,<-IF U];obtain⟨n,dI,g1,h⟩:=h;rcases h with⟨⟨s,ak,r,rm,S,Q,O,h4,F,qp⟩,g3⟩|⟨cV,r,rfl,S,Q⟩;rotate_left
  ·exact⟨n,dI,g1,.inr ⟨cV,r,rfl,G cV rfl (.inr (.inr (.inr rfl))) S,Q⟩⟩
  refine⟨n,dI,g1,.inl ⟨⟨s,ak,r,rm,fun k cs ab=>?_,fun k o ab=>?_,O,h4,⟨F.1,F.2.1,F.2.2.1,F.2.2.2.1,fun k ab=>?_⟩,qp⟩,g3⟩⟩
  ·cases k with
   |loc m=>rw[O.1 m]at ab;cases ab
   |obj m=>rw[(ax rfl m).1];exact S _ _ ab
  ·cases k with
   |loc m=>rw[O.2 m]at ab;cases ab
   |obj m=>rw[(ax rfl m).2.1];exact Q _ _ ab
  ·obtain⟨⟨j,rfl⟩,d2,d3,d4,d5⟩:=F.2.2.2.2 k ab;exact⟨⟨j,rfl⟩,(ax rfl j).2.2 d2,by rw[(ax rfl j).1];exact d3,by rw[(ax rfl j).2.1];exact d4,d5⟩
def mm(d:bd Nat):lI:=⟨d,.tuple [],[],[],none⟩
def lJ(P:cH)(q:Bool)(n0:Nat)(g:du)(A:dE)(x:lI):Prop:=
 match g.g with
 |none=>e2 P q n0 g.i A x
 |some (s,w)=>match A.t s with
  | .bool b=>(b=w/\e2 P q n0 g.i A x)\/(b= !w/\x=mm g.i.dst)
  | .tuple []=>x=mm g.i.dst
  |_=>er
def fV:Da->Da->Bool
 | .v,_=>true
 |_,.v=>true
 | .l,.l| .l,.n| .l,.s| .l,.a| .l,.c=>true
 | .n,.n| .n,.s| .n,.a| .n,.c=>true
 | .s,.l| .s,.n| .s,.s| .s,.c=>true
 | .a,.l| .a,.n| .a,.s=>true
 | .c,.l| .c,.n| .c,.s=>true
 | .l,.m| .m,.l| .m,.m| .m,.n| .m,.s| .m,.a| .s,.m| .a,.m=>true
 | .l,.k| .m,.k| .n,.k| .s,.k=>true
 | .m,.r| .r,.m| .r,.n| .r,.s| .n,.r| .s,.r| .r,.w| .w,.r=>true
 |_,_=>false
def Bj(g h:du):Bool:=(match g.i.dst with|some d=> !(h.looks.contains d)&&h.i.dst !=some d|none=>true)&&(match h.i.dst with|some d=> !(g.looks.contains d)|none=>true)&&fV g.i.mode h.i.mode
def acp(q:Bool)(n0:Nat)(m:Da)(d:bd Nat)(A:dE):KI q n0 m d A (mm d):=⟨rfl,fun k ab=>by simp[mm,ae]at ab,fun k ab=>by simp[mm,ae]at ab,fun k ab=>by simp[mm]at ab,fun _ k o ab=>by simp[mm,ae]at ab,fun _ k o ab=>by simp[mm,ae]at ab⟩
def QI{P:cH}{q:Bool}{n0:Nat}{g:du}{A:dE}{x:lI}(h:lJ P q n0 g A x):KI q n0 g.i.mode g.i.dst A x:=by
 unfold lJ at h;split at h
 ·exact aco h
 ·split at h
  ·rcases h with⟨_,h⟩|⟨_,rfl⟩
   ·exact aco h
   ·exact acp _ _ _ _ _
  ·subst h;exact acp _ _ _ _ _
  ·exact h.elim
def uC{A:dE}{x:lI}{k:aB}(h:ae k x.bw=none):(A.do x).b k=A.b k:=by simp[dE.do,jt,h]
def uD{A:dE}{x:lI}{k:aB}(h:ae k x.ew=none):(A.do x).e k=A.e k:=by simp[dE.do,jt,h]
def LJ{A:dE}{x:lI}{k:aB}(h:(A.do x).b k=none):A.b k=none:=by
 simp only[dE.do,jt]at h;split at h
 ·cases h
 ·exact h
def LK{A:dE}{x:lI}{k:aB}(h:(A.do x).e k=none):A.e k=none:=by
 simp only[dE.do,jt]at h;split at h
 ·cases h
 ·exact h
def mM{α:Type}{o:bd α}(h:¬o.isSome):o=none:=by cases o<;>simp at h⊢
def Rh{P:cH}{q:Bool}{n0:Nat}{g:du}{A a:dE}{x:lI}(h:lJ P q n0 g A x)(b:r8 g.looks A.t a.t)(hm:e2 P q n0 g.i A x->e2 P q n0 g.i a x):lJ P q n0 g a x:=by
 unfold lJ at h⊢;cases be:g.g with
 |none=>simp only[be]at h⊢;exact hm h
 |some c=>
  obtain⟨s,w⟩:=c;have:A.t s=a.t s:=b s (by simp[du.looks,be]);simp only[be,this]at h⊢;split at h
  ·rcases h with⟨J,U⟩|h
   ·exact .inl ⟨J,hm U⟩
   ·exact .inr h
  ·exact h
  ·exact h
def swap{P:cH}{q:Bool}{n0:Nat}{g h:du}(R:Bj g h=true){A:dE}{x y:lI}(O:lJ P q n0 g A x)(W:lJ P q n0 h (A.do x) y):
  lJ P q n0 h A y/\lJ P q n0 g (A.do y) x/\x.apart y:=by
 simp only[Bj,cP]at R;obtain⟨⟨G,N⟩,hm⟩:=R;have c8:=QI O;have v:∀d l,g.i.dst=some d->h.i.dst=some l->d≠l:=by intro d l a b e;simp only[a,cP,bne_iff_ne]at G;exact G.2 (by rw[b,e])
 have V:r8 h.looks (A.do x).t A.t:=by intro i hi;simp only[dE.do];rw[if_neg];intro e;rw[c8.d]at e;simp only[e,cP,sS,List.contains_eq_mem,iM]at G;exact G.1 hi
 have E:∀k,(ae k x.bw).isSome->_:=c8.b;have hle:∀k,(ae k x.ew).isSome->_:=c8.e;have Q:lJ P q n0 h A y:=by
  refine Rh W V fun H=>Rf H (fun i hi=>V i (by simp[du.looks,hi])) (fun e k ab z=>?_) (fun e k z=>?_) (fun e K k o ar w=>?_) (fun d F U f=>?_) (fun e k o ar=>?_) (fun e k=>?_) (fun e m f=>⟨f.1.1,LJ f.2.1,LK f.2.2⟩) (fun e k o ar w=>?_) (fun e m=>?_)
  ·rw[uC (mM fun c=>?_)];rcases E k c with⟨a,_⟩|a|⟨a,⟨j,b⟩,r⟩|⟨a,_⟩;rotate_left 3
   ·rw[e,a]at hm;simp[fV]at hm
   ·rw[e,a]at hm;simp[fV]at hm
   ·rw[e,a]at hm;simp[fV]at hm
   ·rcases ab with ab|⟨m,ab⟩
    ·rw[ab]at r;cases r
    ·rw[ab]at b;cases b
  ·rw[uC (mM fun c=>?_)];rcases E k c with⟨a,_⟩|a|⟨a,_⟩|⟨a,_⟩<;>(rw[e,a]at hm;simp[fV]at hm)
  ·rw[e]at hm;cases u:ae k x.ew with
   |none=>rw[uD u]at ar;exact ar
   |some o'=>
    exfalso;have L:(A.do x).e k=some o':=by simp[dE.do,jt,u]
    rw[L]at ar;cases ar;rcases hle k (by simp[u])with⟨a,_⟩|⟨a,_⟩|⟨a,_,r⟩|⟨a,_⟩
    ·exact w (c8.xn (.inr a) k _ u)
    ·exact w (c8.xn (.inl a) k _ u)
    ·rw[K]at r;cases r
    ·rw[a]at hm;simp[fV]at hm
  ·exact⟨f.1.1,LJ f.2.1,LK f.2.2⟩
  ·rw[uD (mM fun c=>?_)]at ar
   ·exact ar
   ·rw[e]at hm;rcases hle k c with⟨a,_⟩|⟨a,_⟩|⟨a,_⟩|⟨a,_⟩<;>(rw[a]at hm;simp[fV]at hm)
  ·rw[uC (mM fun c=>?_)];rw[e]at hm;rcases E k c with⟨a,_⟩|a|⟨a,_⟩|⟨a,_⟩<;>(rw[a]at hm;simp[fV]at hm)
  ·rw[e]at hm;cases u:ae k x.ew with
   |none=>rw[uD u]at ar;exact ar
   |some o'=>
    exfalso;have L:(A.do x).e k=some o':=by simp[dE.do,jt,u]
    rw[L]at ar;cases ar;rcases hle k (by simp[u])with⟨a,_⟩|⟨a,_⟩|⟨a,_⟩|⟨a,_⟩
    ·exact w (c8.xn (.inr a) k _ u)
    ·rw[a]at hm;simp[fV]at hm
    ·rw[a]at hm;simp[fV]at hm
    ·rw[a]at hm;simp[fV]at hm
  ·rw[e]at hm;refine⟨?_,?_,fun J=>J.1⟩
   ·rw[uC (mM fun c=>?_)];rcases E _ c with⟨a,d,_,b,_⟩|a|⟨a,_⟩|⟨a,_⟩;rotate_left 3
    ·rw[a]at hm;simp[fV]at hm
    ·cases b
    ·rw[a]at hm;simp[fV]at hm
    ·rw[a]at hm;simp[fV]at hm
   ·rw[uD (mM fun c=>?_)];rcases hle _ c with⟨a,d,_,b,_⟩|⟨a,_⟩|⟨a,_⟩|⟨a,_⟩
    ·cases b
    ·rw[a]at hm;simp[fV]at hm
    ·rw[a]at hm;simp[fV]at hm
    ·rw[a]at hm;simp[fV]at hm
 have ty:=QI Q;have S:r8 g.looks A.t (A.do y).t:=by intro i hi;simp only[dE.do];rw[if_neg];intro e;rw[ty.d]at e;simp only[e,sS,List.contains_eq_mem,iM]at N;exact N hi
 refine⟨Q,?_,?_⟩
 ·refine Rh O S fun H=>Rf H (fun i hi=>S i (by simp[du.looks,hi])) (fun e k ab z=>?_) (fun e k z=>?_) (fun e K k o ar w=>?_) (fun d F U f=>?_) (fun e k o ar=>?_) (fun e k=>?_) (fun e m f=>?_) (fun e k o ar w=>?_) (fun e m=>?_)
  ·refine uC (mM fun c=>?_);rcases ty.b k c with⟨a,d,_,_,b,_⟩|a|⟨a,⟨j,b⟩,r⟩|⟨_,_,b,_⟩;rotate_left 3
   ·exact z b
   ·exact z b
   ·rw[e,a]at hm;simp[fV]at hm
   ·rcases ab with ab|⟨m,ab⟩
    ·rw[ab]at r;cases r
    ·rw[ab]at b;cases b
  ·refine uC (mM fun c=>?_);rcases ty.b k c with⟨a,d,_,_,b,_⟩|a|⟨a,_⟩|⟨_,_,b,_⟩;rotate_left 3
   ·exact z b
   ·exact z b
   ·rw[e,a]at hm;simp[fV]at hm
   ·rw[e,a]at hm;simp[fV]at hm
  ·rw[uD (mM fun c=>?_)]
   ·exact ar
   ·rcases ty.e k c with⟨a,d,_,_,_,b⟩|⟨a,b⟩|⟨a,_,r⟩|⟨a,_⟩
    ·rw[b]at ar;cases ar
    ·exact w (ty.ex a k o c ar)
    ·rw[K]at r;cases r
    ·rw[e,a]at hm;simp[fV]at hm
  ·refine⟨⟨f.1,fun B=>?_⟩,?_,?_⟩
   ·rcases ty.r _ B with⟨l,a,b⟩|⟨_,⟨j,b⟩,_⟩
    ·simp only[aB.loc.injEq]at b;exact v d l F a Ω
    ·cases b
   ·rw[uC (mM fun c=>?_)]
    ·exact f.2.1
    ·rcases ty.b _ c with⟨a,l,b,r,_⟩|a|⟨a,⟨j,b⟩,_⟩|⟨a,⟨j,b⟩,_⟩;rotate_left 3
     ·cases b
     ·simp only[aB.loc.injEq]at r;exact v d l F b Ω
     ·rcases U with b|b|b|b<;>(rw[a,b]at hm;simp[fV]at hm)
     ·cases b
   ·rw[uD (mM fun c=>?_)]
    ·exact f.2.2
    ·rcases ty.e _ c with⟨a,l,b,r,_⟩|⟨a,b⟩|⟨a,⟨j,b⟩,_⟩|⟨a,o,b,_⟩
     ·simp only[aB.loc.injEq]at r;exact v d l F b Ω
     ·rcases b with b|⟨l,b,r,_⟩
      ·exact b f.2.2
      ·simp only[aB.loc.injEq]at r;exact v d l F b Ω
     ·cases b
     ·rw[f.2.2]at b;cases b
  ·rw[uD (mM fun c=>?_)]
   ·exact ar
   ·rw[e]at hm;rcases ty.e k c with⟨a,d,_,_,_,b⟩|⟨a,_⟩|⟨a,_⟩|⟨a,_⟩
    ·rw[b]at ar;cases ar
    ·rw[a]at hm;simp[fV]at hm
    ·rw[a]at hm;simp[fV]at hm
    ·rw[a]at hm;simp[fV]at hm
  ·refine uC (mM fun c=>?_);rw[e]at hm;rcases ty.b k c with⟨a,_⟩|a|⟨a,_⟩|⟨a,_⟩<;>(rw[a]at hm;simp[fV]at hm)
  ·rw[e]at hm;refine⟨⟨f.1,fun B=>?_⟩,?_,?_⟩
   ·rcases ty.r _ B with⟨l,a,b⟩|⟨a|a,_⟩
    ·cases b
    ·rw[a]at hm;simp[fV]at hm
    ·rw[a]at hm;simp[fV]at hm
   ·rw[uC (mM fun c=>?_)]
    ·exact f.2.1
    ·rcases ty.b _ c with⟨a,_⟩|a|⟨a,_⟩|⟨a,_⟩<;>(rw[a]at hm;simp[fV]at hm)
   ·rw[uD (mM fun c=>?_)]
    ·exact f.2.2
    ·rcases ty.e _ c with⟨a,_⟩|⟨a,_⟩|⟨a,_⟩|⟨a,o,b,_⟩
     ·rw[a]at hm;simp[fV]at hm
     ·rw[a]at hm;simp[fV]at hm
     ·rw[a]at hm;simp[fV]at hm
     ·rw[f.2.2]at b;cases b
  ·rw[uD (mM fun c=>?_)]
   ·exact ar
   ·rw[e]at hm;rcases ty.e k c with⟨a,d,_,_,_,b⟩|⟨a,_⟩|⟨a,_⟩|⟨a,_⟩
    ·rw[b]at ar;cases ar
    ·rw[a]at hm;simp[fV]at hm
    ·rw[a]at hm;simp[fV]at hm
    ·rw[a]at hm;simp[fV]at hm
  ·rw[e]at hm;refine⟨?_,?_,fun J=>⟨J,fun B=>?_⟩⟩;rotate_left 2
   ·rcases ty.r _ B with⟨l,_,b⟩|⟨b|b,_⟩
    ·cases b
    ·rw[b]at hm;simp[fV]at hm
    ·rw[b]at hm;simp[fV]at hm
   ·refine uC (mM fun c=>?_);rcases ty.b _ c with⟨a,d,_,b,_⟩|a|⟨a,_⟩|⟨a,_⟩;rotate_left 3
    ·rw[a]at hm;simp[fV]at hm
    ·cases b
    ·rw[a]at hm;simp[fV]at hm
    ·rw[a]at hm;simp[fV]at hm
   ·refine uD (mM fun c=>?_);rcases ty.e _ c with⟨a,d,_,b,_⟩|⟨a,_⟩|⟨a,_⟩|⟨a,_⟩
    ·cases b
    ·rw[a]at hm;simp[fV]at hm
    ·rw[a]at hm;simp[fV]at hm
    ·rw[a]at hm;simp[fV]at hm
 ·refine⟨fun i hi e=>?_,fun k ab=>mM fun c=>?_,fun k ab=>mM fun c=>?_⟩
  ·rw[c8.d]at hi;rw[ty.d]at e;exact v i i hi e rfl
  ·rcases E k ab with⟨p,d,a2,a3,_⟩|p|⟨p,⟨j,a2⟩,_⟩|⟨p,_⟩<;>rcases ty.b k c with⟨n,l,s,t,_⟩|n|⟨n,⟨dg,s⟩,_⟩|⟨n,⟨dg,s⟩,_⟩;all_goals first|(rw[p,n]at hm;simp[fV]at hm;done)|skip
   ·rw[a3]at t;simp only[aB.loc.injEq]at t;exact v d l a2 s Ω
   ·rw[a3]at s;cases s
   ·rw[a3]at s;cases s
   ·rw[a2]at t;cases t
  ·rcases hle k ab with⟨p,d,a2,a3,_,a4⟩|⟨p,a2⟩|⟨p,⟨j,a2⟩,_⟩|⟨p,Y,a2,_⟩<;>rcases ty.e k c with⟨n,l,s,t,_,M⟩|⟨n,s⟩|⟨n,⟨dg,s⟩,_⟩|⟨n,X,s,_⟩
   ·rw[a3]at t;simp only[aB.loc.injEq]at t;exact v d l a2 s Ω
   ·rw[p,n]at hm;simp[fV]at hm
   ·rw[a3]at s;cases s
   ·rw[a4]at s;cases s
   ·rcases a2 with a2|⟨d,a2,a3,_⟩
    ·exact a2 M
    ·rw[a3]at t;simp only[aB.loc.injEq]at t;exact v d l a2 s Ω
   ·rw[p,n]at hm;simp[fV]at hm
   ·rw[p,n]at hm;simp[fV]at hm
   ·rw[p,n]at hm;simp[fV]at hm
   ·rw[a2]at t;cases t
   ·rw[p,n]at hm;simp[fV]at hm
   ·rw[p,n]at hm;simp[fV]at hm
   ·rw[p,n]at hm;simp[fV]at hm
   ·rw[M]at a2;cases a2
   ·rw[p,n]at hm;simp[fV]at hm
   ·rw[p,n]at hm;simp[fV]at hm
   ·rw[p,n]at hm;simp[fV]at hm
def yM(C:fp)(A:dE)(a:Act)(w:World):Prop:= ∃st ν,mu st A/\(∀k,A.F k->fresh st.n st.o k)/\c9 C st a w ν
def Og{st:bp}{A:dE}(h:mu st A)(d:Nat)(p:af):mu {st with t:=put d p st.t} (A.do ⟨some d,p,[],[],none⟩):=by
 refine⟨fun i=>?_,fun k=>?_,fun k=>?_⟩
 ·simp only[dE.do,qy,dU,h.t]
 ·simpa[dE.do,jt,ae]using h.b k
 ·simpa[dE.do,jt,ae]using h.e k
def Yn{st:bp}{A:dE}(h:mu st A)(d:Nat)(p:af)(o':List aB)(rm:bd aB):mu {st with t:=put d p st.t,o:=o'} (A.do ⟨some d,p,[],[],rm⟩):=by have:=Og h d p;exact⟨this.t,this.b,this.e⟩
def ade{α:Type}{β:Type}:∀l:List (aB×α),cK ([]:List (aB×β)) l=l
 |[]=>rfl
 |(k,x)::r=>by simp[cK,ae,ade r]
def B6{st:bp}{A:dE}(h:mu st A)(d:Nat)(p:af)(κ:aB)(cs:List af)(n':Nat)(o':List aB)(rm:bd aB):mu ⟨put d p st.t,cI κ cs st.b,st.e,n',o'⟩ (A.do ⟨some d,p,[(κ,cs)],[],rm⟩):=by
 refine⟨fun i=>?_,fun k=>?_,fun k=>?_⟩
 ·simp only[dE.do,qy,dU,h.t]
 ·simp only[dE.do,jt,ae,jj,h.b];by_cases e:κ=k<;>simp[e]
 ·simpa[dE.do,jt,ae]using h.e k
def Iz{st:bp}{A:dE}(h:mu st A)(κ:aB)(cs:List af)(p:af):mu {st with b:=cI κ cs st.b} (A.do ⟨none,p,[(κ,cs)],[],none⟩):=by
 refine⟨fun i=>?_,fun k=>?_,fun k=>?_⟩
 ·simpa[dE.do]using h.t i
 ·simp only[dE.do,jt,ae,jj,h.b];by_cases e:κ=k<;>simp[e]
 ·simpa[dE.do,jt,ae]using h.e k
def x1{st:bp}{A:dE}(h:mu st A)(d:Nat)(p:af)(κ:aB)(o:dW)(n':Nat)(o':List aB)(rm:bd aB):mu ⟨put d p st.t,st.b,cI κ o st.e,n',o'⟩ (A.do ⟨some d,p,[],[(κ,o)],rm⟩):=by
 refine⟨fun i=>?_,fun k=>?_,fun k=>?_⟩
 ·simp only[dE.do,qy,dU,h.t]
 ·simpa[dE.do,jt,ae]using h.b k
 ·simp only[dE.do,jt,ae,jj,h.e];by_cases e:κ=k<;>simp[e]
def Ym{st:bp}{A:dE}(h:mu st A)(κ:aB)(o:dW)(p:af):mu {st with e:=cI κ o st.e} (A.do ⟨none,p,[],[(κ,o)],none⟩):=by
 refine⟨fun i=>?_,fun k=>?_,fun k=>?_⟩
 ·simpa[dE.do]using h.t i
 ·simpa[dE.do,jt,ae]using h.b k
 ·simp only[dE.do,jt,ae,jj];by_cases e:κ=k<;>simp[e,h.e]
def Oz{α:Type}{k:aB}:∀{l:List (aB×α)},k∈l.map (·.1)->(ae k l).isSome
 |[],h=>by simp at h
 |(i,x)::r,h=>by
  simp only[ae];split
  ·rfl
  ·rename_i e;simp only[gV,gI]at h;rcases h with h|h
   ·exact absurd h.symm e
   ·exact Oz h
def xk{n:Nat}{o:List aB}{κ:aB}:∀j,fresh n (κ::o) j->fresh n o j/\j≠κ:=by intro j a;simp only[fresh,gI,not_or]at a⊢;exact⟨⟨a.1,a.2.2⟩,a.2.1⟩
def aiz{n:Nat}{o:List aB}{κ j:aB}(h:fresh n o j)(a:some κ≠some j):fresh n (κ::o) j:=by simp only[fresh,gI,not_or]at h⊢;exact⟨h.1,fun e=>a (by rw[e]),h.2⟩
def Rg{P:cH}{aT:List (Nat×ev)}(M:hX P aT=true){C:fp}{q:Bool}{n0:Nat}{i:eU}{o:Oper}(ar:wK C.N aT i o=true){A:dE}{x:lI}(j:e2 P q n0 i A x){a:Act}{w:World}(B:yM C A a w)
  {K:Act->World->Prop} {Q:Exit->Act->World->Prop} (G:∀br w',yM C (A.do x) br w'->K br w'):o.wp P a w K Q:=by
 obtain⟨st,ν,g,E,B⟩:=B;have zf:∀(t:List (Nat×af)) (b:List (aB×List af)) (e:List (aB×dW)) (d:bd Nat) (p:af) (bw:List (aB×List af)) (ew:List (aB×dW)),∀k,(A.do ⟨d,p,bw,ew,none⟩).F k->fresh st.n st.o k:=fun t b e d p bw ew k ab=>E k ab.1;have S:∀(d:bd Nat) (p:af) (bw:List (aB×List af)) (ew:List (aB×dW)) (κ:aB),∀k,(A.do ⟨d,p,bw,ew,some κ⟩).F k->fresh st.n (κ::st.o) k:=fun d p bw ew κ k ab=>aiz (E k ab.1) ab.2;cases i with
 |s i=>
  have H:FF C.N aT i o=true:=by simpa only[wK]using ar
  cases i with
  |v d i=>simp only[e2]at j;obtain⟨c,p,J,U,_,rfl⟩:=j;rw[<-acv g]at J;refine kv (κ:= .loc 0) (n':=0) (o₁:=[]) M B H (fun h=>by simp[eY.makes]at h) (fun h=>by simp[eY.makes]at h) (st':={st with t:=put d p st.t}) (by simp only[fl,J]) U fun br w' bn l=>G _ _ ⟨_,bn,Og g d p,fun k ab=>E k ab.1,l⟩
  |box d key v=>
   cases key with
   |some m=>simp only[e2]at j
   |none=>simp only[e2]at j;obtain⟨⟨J,_⟩,U,rfl⟩:=j;rw[<-jG g]at U;refine kv (κ:= .loc (n0+d)) (n':=st.n) (o₁:= .loc (n0+d)::st.o) M B H (fun _=>E _ J) (fun _=>xk) (st':=⟨put d (.ptr (.loc (n0+d)) 0) st.t,cI (.loc (n0+d)) (cells (cE st.t v)) st.b,st.e,st.n,.loc (n0+d)::st.o⟩) (by simp only[fl]) U fun br w' bn l=>G _ _ ⟨_,bn,?_,S _ _ _ _ _,l⟩;rw[jG g];exact B6 g d _ _ _ _ _ _
  |alloc d key z=>
   cases key with
   |some m=>simp only[e2]at j
   |none=>simp only[e2]at j;obtain⟨⟨J,_⟩,rfl⟩:=j;refine kv (κ:= .loc (n0+d)) (n':=st.n) (o₁:= .loc (n0+d)::st.o) M B H (fun _=>E _ J) (fun _=>xk) (st':=⟨put d (.ptr (.loc (n0+d)) 0) st.t,cI (.loc (n0+d)) (cells z) st.b,st.e,st.n,.loc (n0+d)::st.o⟩) (by simp only[fl]) trivial fun br w' bn l=>G _ _ ⟨_,bn,B6 g d _ _ _ _ _ _,S _ _ _ _ _,l⟩
  |store sz u v=>simp only[e2]at j;obtain⟨k,off,cs,J,U,F,rfl⟩:=j;rw[<-jG g]at J F;rw[<-g.b]at U;refine kv (κ:= .loc 0) (n':=0) (o₁:=[]) M B H (fun h=>by simp[eY.makes]at h) (fun h=>by simp[eY.makes]at h) (st':={st with b:=cI k (nE cs off (cells (cE st.t v))) st.b}) (by simp only[fl,J,U]) F fun br w' bn l=>G _ _ ⟨{st with b:=cI k (nE cs off (cells (cE st.t v))) st.b},bn,by rw[jG g];exact Iz g k _ _,fun k ab=>E k ab.1,l⟩
  |bsl d sz el xs=>simp only[e2]at j;obtain⟨⟨J,_⟩,U,rfl⟩:=j;rw[<-vT g]at U;refine kv (κ:= .loc (n0+d)) (n':=st.n) (o₁:= .loc (n0+d)::st.o) M B H (fun _=>E _ J) (fun _=>xk) (st':=⟨put d (.slice sz (.own (.loc (n0+d))) (xs.map (cE st.t))) st.t,st.b,cI (.loc (n0+d)) ⟨xs.length,el,sz,none⟩ st.e,st.n,.loc (n0+d)::st.o⟩) (by simp only[fl]) U fun br w' bn l=>G _ _ ⟨_,bn,?_,S _ _ _ _ _,l⟩;rw[vT g];exact x1 g d _ _ _ _ _ _
  |app d sz el u v=>
   simp only[e2]at j;obtain⟨tag,xs,l0,ys,J,U,j⟩:=j;rw[<-jG g]at J U;rcases j with⟨k,ow,rfl,F,O,rfl⟩|⟨rfl,F,⟨O,_⟩,rfl⟩
   ·rw[<-g.e]at F;refine kv (κ:= .loc 0) (n':=0) (o₁:=[]) M B H (fun h=>by simp[eY.makes,J]at h) (fun h=>by simp[eY.makes,J]at h) (st':=⟨put d (.slice sz (.own k) (xs++ys)) st.t,st.b,cI k ⟨xs.length+ys.length,el,sz,none⟩ st.e,st.n,st.o⟩) (by simp only[fl,J,U,F,and_self,if_true]) O.2 fun br w' bn l=>G _ _ ⟨_,bn,x1 g d _ _ _ _ _ _,fun k ab=>E k ab.1,l⟩
   ·refine kv (κ:= .loc (n0+d)) (n':=st.n) (o₁:= .loc (n0+d)::st.o) M B H (fun _=>E _ O) (fun _=>xk) (st':=⟨put d (.slice sz (.own (.loc (n0+d))) ys) st.t,st.b,cI (.loc (n0+d)) ⟨ys.length,el,sz,none⟩ st.e,st.n,.loc (n0+d)::st.o⟩) (by simp only[fl,J,U,and_self,if_true]) F fun br w' bn l=>G _ _ ⟨_,bn,x1 g d _ _ _ _ _ _,S _ _ _ _ _,l⟩
  |bslm d key sz el xs=>simp only[e2]at j
  |mks d key sz el z x=>simp only[e2]at j
  |appm d key sz el u v=>simp only[e2]at j;obtain⟨k,n,xs,l0,ys,J,U,F,O,rfl⟩:=j;rw[<-jG g]at J U;rw[<-g.e]at F;refine kv (κ:= .loc 0) (n':=0) (o₁:=[]) M B H (fun h=>by simp[eY.makes,J]at h) (fun h=>by simp[eY.makes,J]at h) (st':=⟨put d (.row sz k (xs.length+ys.length)) st.t,st.b,cI k ⟨xs.length+ys.length,el,sz,some (xs++ys)⟩ st.e,st.n,st.o⟩) (by simp only[fl,uy,J,U,F,and_self,if_true]) O fun br w' bn l=>G _ _ ⟨_,bn,x1 g d _ _ _ _ _ _,fun k ab=>E k ab.1,l⟩
  |storeE sz u v=>simp only[e2]at j;obtain⟨k,n,i,f,el,ed,xs,q,J,U,F,O,rfl⟩:=j;rw[<-jG g]at J O;rw[<-g.e]at U;refine kv (κ:= .loc 0) (n':=0) (o₁:=[]) M B H (fun h=>by simp[eY.makes]at h) (fun h=>by simp[eY.makes]at h) (st':={st with e:=cI k ⟨n,el,ed,some (xs.set i (od q f (cells (cE st.t v))))⟩ st.e}) (by simp only[fl,sL,J,U,F,and_self,if_true]) O fun br w' bn l=>G _ _ ⟨{st with e:=cI k ⟨n,el,ed,some (xs.set i (od q f (cells (cE st.t v))))⟩ st.e},bn,by rw[jG g];exact Ym g k _ _,fun k ab=>E k ab.1,l⟩
  |mkmap d key=>
   cases key with
   |none=>simp only[e2]at j
   |some m=>simp only[e2]at j;obtain⟨⟨J,_⟩,rfl⟩:=j;exact kv (κ:= .obj m) (n':=st.n) (o₁:= .obj m::st.o) M B H (fun _=>E _ J) (fun _=>xk) (st':=⟨put d (.gmap (.obj m)) st.t,cI (.obj m) [.hdm 0 []] st.b,st.e,st.n,.obj m::st.o⟩) (by simp only[fl]) trivial fun br w' bn l=>G _ _ ⟨_,bn,B6 g d _ _ _ _ _ _,S _ _ _ _ _,l⟩
  |mput cA u k v=>simp only[e2]at j;obtain⟨m,cs,cs',J,U,F,rfl⟩:=j;rw[<-jG g]at J;rw[<-jG g,<-jG g]at F;rw[<-g.b]at U;exact kv (κ:= .loc 0) (n':=0) (o₁:=[]) M B H (fun h=>by simp[eY.makes]at h) (fun h=>by simp[eY.makes]at h) (st':={st with b:=cI m cs' st.b}) (by simp only[fl,J,U,F]) trivial fun br w' bn l=>G _ _ ⟨{st with b:=cI m cs' st.b},bn,Iz g m _ _,fun k ab=>E k ab.1,l⟩
  |range d key x=>simp only[e2]at j
 |next d x=>simp only[e2]at j
 |call d f xs=>
  simp only[e2]at j;obtain⟨n,dI,J,j⟩:=j;rw[<-jG g]at J;rcases j with⟨⟨s,ak,r,rm,X,V,Z,h4,nf,qp,Dq,rfl⟩,_⟩|⟨cV,r,rfl,X,V,Z,rfl⟩;rotate_left
  ·rw[<-vT g]at V Z;simp only[wK]at ar;split at ar
   ·rename_i pR args CW oF;simp only[cP,ey]at ar;obtain⟨⟨⟨ao,aC⟩,bh⟩,b4⟩:=ar;have W:=e5 B bh;rw[J]at W;refine TX B oF ao aC W (Fx B b4) (K:=fun st'=>st'={st with t:=put cV r st.t,o:= .loc (n0+cV)::st.o}) ⟨⟨[],[]⟩,_,some (n0+cV),st.n,fun _=>.loc (n0+cV)::st.o,fun k cs ab=>by simp[ae]at ab,fun k cs ab=>by simp[ae]at ab,⟨fun _=>rfl,fun _=>rfl⟩,ji (fun _ h=>h.elim) _ V,Z,fun m hm=>?_,fun k ec ak bK ab=>?_,?_⟩ ?_
    ·cases hm;exact E _ X.1
    ·obtain⟨_,rfl⟩:=bK;have:=xk k ab;exact⟨by simpa[cJ]using this.1,fun m hm=>by cases hm;exact this.2⟩
    ·rintro ec qa ⟨rfl,rfl⟩;refine⟨⟨fun m hm=>by simp[ae]at hm,fun m hm=>by simp[ae]at hm⟩,?_⟩;simp[after,ade,e7]
    ·rintro st' br w' bn rfl l;exact G _ _ ⟨_,bn,Yn g cV r _ _,S _ _ _ _ _,l⟩
   ·cases ar
  rw[<-vT g]at qp Dq;simp only[wK]at ar;split at ar
  ·rename_i pR args CW oF;simp only[cP,ey]at ar;obtain⟨⟨⟨ao,aC⟩,bh⟩,b4⟩:=ar;have W:=e5 B bh;rw[J]at W;obtain⟨a8,bN,cn,eC,Y⟩:=nf;refine TW B oF ao aC W (Fx B b4) (K:=fun st'=>st'=after st s ak d r) (.inl ⟨s,_,fun k cs ab=>⟨by rw[g.b];exact(X k cs ab).1,.inl (by simp[ab]),(X k cs ab).2⟩,fun k o' ab=>⟨by rw[g.e];exact(V k o' ab).1,.inr (by simp[ab]),(V k o' ab).2⟩,Z,qp,Dq,?_⟩) ?_
   ·rintro ec qa ⟨rfl,rfl⟩;refine⟨⟨fun m hm=>?_,fun m hm=>?_⟩,rfl⟩
    ·rcases a8 _ hm with h|h
     ·exact .inl h
     ·exact .inr (E _ (Y _ h).2.1).2
    ·rcases bN _ hm with h|h
     ·exact .inl h
     ·exact .inr (E _ (Y _ h).2.1).2
   ·rintro st' br w' bn rfl l;refine G _ _ ⟨_,bn,⟨fun i=>?_,fun k=>?_,fun k=>?_⟩,fun k ab=>?_,l⟩
    ·simp only[after,dE.do];cases d with
     |none=>simpa[e7]using g.t i
     |some d=>simp only[e7,qy,dU,g.t]
    ·simp only[after,dE.do,jt,n4,tL];by_cases L:(ae k s.b).isSome
     ·have:=cn k L;obtain⟨y,R⟩:=fx.1 this;simp[L,R]
     ·cases aA:ae k ak.b with
      |none=>simp only[L,g.b];cases A.b k<;>simp
      |some y=>
       rcases a8 k (by simp[aA])with h|h
       ·exact absurd h L
       ·have:=Y k h;simp[L,g.b,this]
    ·simp only[after,dE.do,jt,n4,tL];by_cases L:(ae k s.e).isSome
     ·have:=eC k L;obtain⟨y,R⟩:=fx.1 this;simp[L,R]
     ·cases aA:ae k ak.e with
      |none=>simp only[L,g.e];cases A.e k<;>simp
      |some y=>
       rcases bN k (by simp[aA])with h|h
       ·exact absurd h L
       ·have:=Y k h;simp[L,g.e,this]
    ·have MT:=E k ab.1;have nU:=B.lookNone MT;simp only[after];refine⟨MT.1,fun N=>?_⟩;rcases kc.1 N with N|N
     ·exact MT.2 N
     ·rcases kc.1 N with N|N
      ·rcases a8 k (Oz N)with h|h
       ·obtain⟨y,R⟩:=fx.1 h;have:=(X k y R).1;rw[<-g.b,nU.1]at this;cases this
       ·exact ab.2 h
      ·rcases bN k (Oz N)with h|h
       ·obtain⟨y,R⟩:=fx.1 h;have:=(V k y R).1;rw[<-g.e,nU.2]at this;cases this
       ·exact ab.2 h
  ·cases ar
def adw{P:cH}{aT:List (Nat×ev)}(B:hX P aT=true){C:fp}{q:Bool}{n0:Nat}{ops:Array Oper}{g:du}{o:Oper}{j:Nat}(N:ops[j]? =some o)(ar:DR C.N aT ops.toList g o=true){A:dE}{x:lI}(c:lJ P q n0 g A x){a:Act}{w:World}(v:yM C A a w)
  {K:Act->World->Prop} {Q:Exit->Act->World->Prop} (r:∀br w',yM C (A.do x) br w'->K br w'):wpOp P ops Q j K a w:=by
 unfold wpOp;rw[N];simp only;simp only[DR,cP]at ar;obtain⟨m,y⟩:=ar;unfold lJ at c;cases l:g.g with
 |none=>
  cases e:o.guard with
  |some x=>simp[e,l]at m
  |none=>
   have hw:qh o (yielded ops a.tmps)=true:=by simp[qh,e]
   rw[if_pos hw];simp only[l]at c;exact .inl (Rg B y c v r)
 |some R=>
  obtain⟨s,want⟩:=R;cases e:o.guard with
  |none=>simp[e,l]at m
  |some t=>
   obtain⟨L,b0⟩:=t;simp only[e,l,cP,ey,gy]at m;obtain⟨⟨⟨⟨rfl,U⟩,M⟩,O⟩,J⟩:=m;obtain⟨st,ν,f,H,z⟩:=id v;obtain⟨G,F⟩:=adk z U M;simp only[l]at c;have E:∀(h:x=mm g.i.dst),K (a.put o.dst undef) w:=by
    rintro rfl;rw[O];refine r _ _ ⟨_,ν,?_,fun k ab=>?_,z.put J (p:= .tuple []) (by simp[aV,c7,undef])⟩
    ·refine⟨fun i=>?_,fun k=>?_,fun k=>?_⟩
     ·simp only[dE.do,mm];cases g.i.dst with
      |none=>simpa[e7]using f.t i
      |some d=>simp only[e7,qy,dU,f.t]
     ·simpa[dE.do,jt,ae,mm]using f.b k
     ·simpa[dE.do,jt,ae,mm]using f.e k
    ·exact H k ab.1
   split at c
   ·rename_i b u;have n:=G b (by rw[f.t];exact u);rcases c with⟨rfl,c⟩|⟨rfl,c⟩
    ·have hw:qh o (yielded ops a.tmps)=true:=by simp[qh,e,n]
     rw[if_pos hw];exact .inl (Rg B y c v r)
    ·have hw:¬(qh o (yielded ops a.tmps)=true):=by simp[qh,e,n]
     rw[if_neg hw];exact E c
   ·rename_i u;have n:=F (by rw[f.t];exact u);have hw:¬(qh o (yielded ops a.tmps)=true):=by simp[qh,e,n]
    rw[if_neg hw];exact E c
   ·exact c.elim
def xd(P:cH)(q:Bool)(n0:Nat)(K:dE->Prop):List (Nat×du)->dE->Prop
 |[],A=>K A
 |(_,g)::r,A=> ∃x,lJ P q n0 g A x/\xd P q n0 K r (A.do x)
def RP{P:cH}{q:Bool}{n0:Nat}{K:dE->Prop}{i:Nat}{g:du}:∀(b a:List (Nat×du)) (A:dE),(∀x∈b,Bj x.2 g=true)->xd P q n0 K (b++(i,g)::a) A->∃x,lJ P q n0 g A x/\xd P q n0 K (b++a) (A.do x)
 |[],a,A,_,h=>h
 |(j,f)::b,a,A,ax,h=>by simp only[b5,xd]at h;obtain⟨y,e,h⟩:=h;obtain⟨x,d,h⟩:=RP b a (A.do y) (fun z c=>ax z (q5 _ c)) h;obtain⟨s1,s2,s3⟩:=swap (ax _ (List.mem_cons_self ..)) e d;refine⟨x,s1,y,s2,?_⟩;rw[<-dE.do_comm A s3];exact h
def rem(a:Array Bool):Nat->List du->List (Nat×du)
 |_,[]=>[]
 |k,g::r=>if a.getD k false then rem a (k+1) r else(k,g)::rem a (k+1) r
def abc{l a:Array Bool}:∀(gs:List du) (k:Nat),(∀j,k<=j->l.getD j false=a.getD j false)->rem l k gs=rem a k gs
 |[],_,_=>rfl
 |g::r,k,h=>by simp only[rem,h k (dP _),abc r (k+1) fun j b=>h j Ω]
def Ht{l:Array Bool}{i j:Nat}(h:i<l.size):(l.setIfInBounds i true).getD j false=if i=j then true else l.getD j false:=by
 simp only[Array.getD_eq_getD_getElem?];by_cases e:i=j
 ·subst e;simp[h]
 ·simp[e]
def PU{l:Array Bool}{i:Nat}(hi:i<l.size)(q:l.getD i false=false):∀(gs:List du) (k:Nat),k<=i->i<k+gs.length->∃b c g,gs[i-k]? =some g/\rem l k gs=b++(i,g)::c/\rem (l.setIfInBounds i true) k gs=b++c/\
  ∀x∈b,gs[x.1-k]? =some x.2/\k<=x.1/\x.1<i/\l.getD x.1 false=false
 |[],k,J,U=>by simp at U;omega
 |g::r,k,J,U=>by
  by_cases e:k=i
  ·subst e;refine⟨[],rem l (k+1) r,g,Ψ,by simp[rem,q],?_,fun x a=>by simp at a⟩;simp only[rem,Ht hi,if_true,cb];exact abc r (k+1) fun j s=>by rw[Ht hi,if_neg Ω]
  ·obtain⟨b,c,h,o,p,m,n⟩:=PU hi q r (k+1) Ω (by simp at U;omega);have d:i-k=(i-(k+1))+1:=Ω
   have f:(l.setIfInBounds i true).getD k false=l.getD k false:=by rw[Ht hi,if_neg Ω]
   by_cases ab:l.getD k false=true
   ·refine⟨b,c,h,by rw[d];simpa using o,by simp only[rem,ab,if_true,p],by simp only[rem,f,ab,if_true,m],fun x a=>?_⟩;obtain⟨f1,f2,f3,f4⟩:=n x a;refine⟨?_,Ω,f3,f4⟩;have:x.1-k=(x.1-(k+1))+1:=Ω
    rw[this];simpa using f1
   ·have ab:l.getD k false=false:=by simpa using ab
    refine⟨(k,g)::b,c,h,by rw[d];simpa using o,by simp[rem,ab,p],by simp[rem,f,ab,m],fun x a=>?_⟩;rcases gI.1 a with rfl|a
    ·exact⟨Ψ,dP _,by simp;omega,ab⟩
    ·obtain⟨f1,f2,f3,f4⟩:=n x a;refine⟨?_,Ω,f3,f4⟩;have:x.1-k=(x.1-(k+1))+1:=Ω
     rw[this];simpa using f1
def wE(acc:List Nat):List Edge->Nat
 |[]=>0
 |e::r=>if Region.binds .any e then(2 ^ e.on)|||(acc.getD e.on 0)|||wE acc r else wE acc r
def tN(acc:List Nat):List Oper->List Nat
 |[]=>acc
 |o::os=>tN (acc++[wE acc o.after.toList]) os
def FA(m:Nat)(h:du):Nat->List du->Bool
 |_,[]=>true
 |i,g::r=>(m.testBit i||Bj g h)&&FA m h (i+1) r
def Fj:List du->List du->List Nat->Bool
 |_,[],_=>true
 |pre,h::r,m::ms=>FA m h 0 pre&&Fj (pre++[h]) r ms
 |_,_,[]=>false
def Dz:Nat->List Oper->Bool
 |_,[]=>true
 |k,o::os=>o.after.toList.all (fun e=> !Region.binds .any e||decide (e.on<k))&&Dz (k+1) os
def Di(gs:List du)(ops:List Oper):Bool:=Dz 0 ops&&Fj [] gs (tN [] ops)
def Oq{acc:List Nat}{j:Nat}:∀{es:List Edge},(wE acc es).testBit j=true->∃e∈es,Region.binds .any e=true/\(j=e.on\/(acc.getD e.on 0).testBit j=true)
 |[],h=>by simp[wE]at h
 |e::r,h=>by
  simp only[wE]at h;split at h
  ·rename_i b;simp only[Nat.testBit_or,og]at h;rcases h with(h|h)|h
   ·refine⟨e,Ψ,b,.inl ?_⟩;rw[Nat.testBit_two_pow]at h;have c:e.on=j:=by simpa using h
    exact c.symm
   ·exact⟨e,Ψ,b,.inr h⟩
   ·obtain⟨a,J,U⟩:=Oq h;exact⟨a,by simp[J],U⟩
  ·obtain⟨a,J,U⟩:=Oq h;exact⟨a,by simp[J],U⟩
def Ot:∀(os:List Oper) (acc:List Nat) (k:Nat),k<acc.length->(tN acc os)[k]? =acc[k]?
 |[],acc,k,_=>rfl
 |o::os,acc,k,h=>by simp only[tN];rw[Ot os _ k d6,rY h]
def Yx:∀(os:List Oper) (acc:List Nat) (k:Nat) (o:Oper),os[k]? =some o->∃a,(tN acc os)[acc.length+k]? =some (wE a o.after.toList)/\a.length=acc.length+k/\∀i,i<a.length->a[i]? =(tN acc os)[i]?
 |[],acc,k,o,h=>by simp at h
 |o'::os,acc,0,o,h=>by
  simp only[List.getElem?_cons_zero,dU]at h;subst h;refine⟨acc,?_,Ψ,fun i hi=>?_⟩
  ·simp only[tN,Nat.add_zero];rw[Ot os _ _ Ψ];simp
  ·simp only[tN];rw[Ot os _ i d6,rY hi]
 |o'::os,acc,k+1,o,h=>by simp only[List.getElem?_cons_succ]at h;obtain⟨a,J,U,b⟩:=Yx os (acc++[wE acc o'.after.toList]) k o h;refine⟨a,?_,by rw[U];simp;omega,fun i hi=>by rw[b i hi];rfl⟩;simp only[tN];rw[show acc.length+(k+1)=(acc++[wE acc o'.after.toList]).length+k from by simp;omega];exact J
def Rc(ops:Array Oper)(a:Array Bool):Prop:= ∀k o,ops[k]? =some o->a.getD k false=true->∀e∈o.after.toList,Region.binds .any e=true->a.getD e.on false=true
def amy{ops:Array Oper}{b:Array Bool}(r:Rc ops b):∀(k:Nat) (o:Oper),ops[k]? =some o->(∀e∈o.after.toList,Region.binds .any e=true->b.getD e.on false=true)->∀j,((tN [] ops.toList).getD k 0).testBit j=true->b.getD j false=true:=by
 intro k;induction k using Nat.strongRecOn with
 |_ k p=>
  intro o ar f j g;obtain⟨c,J,U,q⟩:=Yx ops.toList [] k o (by simpa using ar);simp only[List.length_nil,Nat.zero_add]at J U;rw[List.getD_eq_getElem?_getD,J]at g;obtain⟨e,he,h,a⟩:=Oq g;rcases a with rfl|a
  ·exact f e he h
  ·by_cases n:e.on<c.length
   ·have hm:c.getD e.on 0=(tN [] ops.toList).getD e.on 0:=by rw[List.getD_eq_getElem?_getD,q _ n,List.getD_eq_getElem?_getD]
    have ab:k<ops.size:=(Array.getElem?_eq_some_iff.1 ar).1;have d:ops[e.on]? =some ops[e.on]:=Array.getElem?_eq_getElem Ω;rw[hm]at a;exact p e.on Ω _ d (fun l i m=>r e.on _ d (f e he h) l i m) j a
   ·rw[List.getD_eq_getElem?_getD,q4 Ω]at a;simp at a
def abt{m:Nat}{h:du}:∀{gs:List du} {i0:Nat},FA m h i0 gs=true->∀i g,gs[i]? =some g->m.testBit (i0+i)=true\/Bj g h=true
 |[],i0,_,i,g,be=>by simp at be
 |b::r,i0,a,0,g,be=>by simp only[FA,cP,og]at a;simp only[List.getElem?_cons_zero,dU]at be;subst be;simpa using a.1
 |b::r,i0,a,i+1,g,be=>by simp only[FA,cP]at a;have:=abt a.2 i g (by simpa using be);rwa[show i0+1+i=i0+(i+1)from by omega]at this
def ZS:∀{gs pre:List du} {ms:List Nat},Fj pre gs ms=true->∀j h,gs[j]? =some h->∀i g,i<pre.length+j->(pre++gs)[i]? =some g->(ms.getD j 0).testBit i=true\/Bj g h=true
 |[],pre,ms,_,j,h,a,_,_,_,_=>by simp at a
 |c::r,pre,[],b,j,h,a,_,_,_,_=>by simp[Fj]at b
 |c::r,pre,m::ms,b,j,h,a,i,g,hi,be=>by
  simp only[Fj,cP]at b;cases j with
  |zero=>simp only[List.getElem?_cons_zero,dU]at a;subst a;rw[rY Ω]at be;simpa using abt b.1 i g be
  |succ j=>have:=ZS b.2 j h (by simpa using a) i g d6 (by simpa using be);simpa using this
def Uu:∀{os:List Oper} {k:Nat},Dz k os=true->∀i o,os[i]? =some o->∀e∈o.after.toList,Region.binds .any e=true->e.on<k+i
 |[],k,_,i,o,ar,_,_,_=>by simp at ar
 |o'::os,k,h,0,o,ar,e,he,a=>by simp only[Dz,cP,j4]at h;simp only[List.getElem?_cons_zero,dU]at ar;subst ar;have:=h.1 e he;simpa[a]using this
 |o'::os,k,h,i+1,o,ar,e,he,a=>by simp only[Dz,cP]at h;have:=Uu h.2 i o (by simpa using ar) e he a;omega
def V4{N:Nat}{aT:List (Nat×ev)}{ops:List Oper}:∀{gs:List du} {os:List Oper},la N aT ops gs os=true->∀(i:Nat) (g:du),gs[i]? =some g->∃o,os[i]? =some o/\DR N aT ops g o=true
 |[],[],_,i,g,h=>by simp at h
 |[],_::_,h,_,_,_=>by simp[la]at h
 |_::_,[],h,_,_,_=>by simp[la]at h
 |a::gs,o::os,h,0,g,be=>by simp only[la,cP]at h;simp only[List.getElem?_cons_zero,dU]at be;subst be;exact⟨o,Ψ,h.1⟩
 |a::gs,o::os,h,i+1,g,be=>by simp only[la,cP]at h;obtain⟨o',J,U⟩:=V4 h.2 i g (by simpa using be);exact⟨o',by simpa using J,U⟩
def Mw{N:Nat}{aT:List (Nat×ev)}{ops:List Oper}:∀{gs:List du} {os:List Oper},la N aT ops gs os=true->gs.length=os.length
 |[],[],_=>rfl
 |[],_::_,h=>by simp[la]at h
 |_::_,[],h=>by simp[la]at h
 |g::gs,o::os,h=>by simp only[la,cP]at h;simp[Mw h.2]
def abd{l:Array Bool}:∀(gs:List du) (k:Nat),rem l k gs=[]\/ ∃i g,i<gs.length/\gs[i]? =some g/\l.getD (k+i) false=false/\∀j,j<i->l.getD (k+j) false=true
 |[],_=>.inl rfl
 |g::r,k=>by
  by_cases h:l.getD k false=true
  ·rcases abd (l:=l) r (k+1)with J|⟨i,a,J,U,b,d⟩
   ·left;simp only[rem,h,if_true,J]
   ·refine .inr ⟨i+1,a,by simp;omega,by simpa using U,by rw[show k+(i+1)=k+1+i from by omega];exact b,fun j c=>?_⟩;cases j with
    |zero=>simpa using h
    |succ j=>rw[show k+(j+1)=k+1+j from by omega];exact d j Ω
  ·exact .inr ⟨0,g,Ψ,Ψ,by simpa using h,fun j c=>Ω⟩
def adX{P:cH}{aT:List (Nat×ev)}(aL:hX P aT=true){C:fp}{q:Bool}{n0:Nat}{ops:Array Oper}{gs:List du}(H:la C.N aT ops.toList gs ops.toList=true)(S:Di gs ops.toList=true){K:dE->Prop}{Q:Exit->Act->World->Prop}
  (V:∀A a w,K A->yM C A a w->Q .normal a w):∀(fuel:Nat) (b:Array Bool) (A:dE) (a:Act) (w:World),b.size=ops.size->Rc ops b->(rem b 0 gs).length<=fuel->xd P q n0 K (rem b 0 gs) A->yM C A a w->wpAny P .any ops Q fuel b a w:=by
 simp only[Di,cP]at S;obtain⟨MG,t⟩:=S;have hlen:gs.length=ops.size:=by simpa using Mw H
 have R:∀(b:Array Bool) (A:dE) (a:Act) (w:World),b.size=ops.size->xd P q n0 K (rem b 0 gs) A->yM C A a w->Region.ready .any ops b=[]->Q .normal a w:=by
  intro b A a w m d j p;rcases abd (l:=b) gs 0 with h|⟨i,g,J,U,c,Z⟩
  ·rw[h]at d;exact V A a w d j
  ·exfalso;have hi:i<ops.size:=Ω
   have L:i∈Region.ready .any ops b:=by
    unfold Region.ready;simp only[oV,List.mem_range,cP,sS];refine⟨hi,?_,?_⟩
    ·rw[Nat.zero_add]at c;simp only[Array.getD_eq_getD_getElem?]at c⊢;rw[Array.getElem?_eq_getElem Ω]at c⊢;simpa using c
    ·rw[Array.getElem?_eq_getElem hi];simp only[pC,mr];rw[<-Array.all_toList,j4];intro e he;by_cases f:Region.binds .any e=true
     ·have bO:=Uu MG i ops[i] (by simp[hi]) e he f;have:=Z e.on Ω;rw[Nat.zero_add]at this;simp[this]
     ·simp[f]
   rw[p]at L;simp at L
 intro fuel;induction fuel with
 |zero=>
  intro b A a w m v z d j;have HQ:rem b 0 gs=[]:=List.eq_nil_of_length_eq_zero Ω;have p:Region.ready .any ops b=[]:=by
   rw[List.eq_nil_iff_forall_not_mem];intro i hi;unfold Region.ready at hi;simp only[oV,List.mem_range,cP,sS]at hi;obtain⟨J,U,_⟩:=hi;have B:b.getD i false=false:=by simp only[Array.getD_eq_getD_getElem?]at U⊢;rw[Array.getElem?_eq_getElem Ω]at U⊢;simpa using U
   obtain⟨G,F,g,_,n,_⟩:=PU Ω B gs 0 Ω Ω;rw[HQ]at n;simp at n
  exact⟨p,R b A a w m d j p⟩
 |succ fuel X=>
  intro b A a w m v z d j;refine⟨R b A a w m d j,fun i hi=>?_⟩;unfold Region.ready at hi;simp only[oV,List.mem_range,cP,sS]at hi;obtain⟨J,U,c⟩:=hi;have B:b.getD i false=false:=by simp only[Array.getD_eq_getD_getElem?]at U⊢;rw[Array.getElem?_eq_getElem Ω]at U⊢;simpa using U
  have ar:ops[i]? =some ops[i]:=Array.getElem?_eq_getElem J;have O:∀e∈ops[i].after.toList,Region.binds .any e=true->b.getD e.on false=true:=by rw[ar]at c;simp only[pC,mr]at c;rw[<-Array.all_toList,j4]at c;intro e he f;simpa[f]using c e he
  obtain⟨G,F,g,s,n,M,N⟩:=PU Ω B gs 0 Ω Ω;simp only[Nat.sub_zero]at s N;rw[n]at d;obtain⟨x,Y,u⟩:=RP G F A (fun y aI=>by
   obtain⟨f1,f2,f3,f4⟩:=N y aI;rcases ZS t i g s y.1 y.2 (by simpa using f3) (by simpa using f1)with h|h
   ·have:=amy v i ops[i] ar O y.1 h;rw[f4]at this;cases this
   ·exact h) d
  obtain⟨o',g1,g2⟩:=V4 H i g s;have:o'=ops[i]:=by rw[vt,ar]at g1;exact(e8 g1).symm
  subst this;refine adw aL ar g2 Y j fun br w' W=>?_;refine X (b.setIfInBounds i true) (A.do x) br w' (by simpa using m) ?_ ?_ (by rw[M];exact u) W
  ·intro k o ab r e he f;rw[Ht Ω]at r⊢;split
   ·rfl
   ·by_cases E:i=k
    ·subst E;rw[ar]at ab;cases ab;exact O e he f
    ·rw[if_neg E]at r;exact v k o ab r e he f
  ·rw[M];rw[n]at z;simp at z⊢;omega
def qx(n0 d:Nat)(st:bp):Prop:= .loc (n0+d)∉st.o/\ae (.loc (n0+d)) st.b=none/\ae (.loc (n0+d)) st.e=none
def gP.loadO(q:Bool)(t:List (Nat×af)):gP->Prop
 | .load _ _ x=>q=true\/zI (cE t x)=true
 | .loadB _ _ _=>True
 | .mgetB _ _ _ _ _=>True
 | .mget _ _ _ _ _=>q=true
 | .ment _=>q=true
 | .mlen _=>q=true
 |_=>True
def nh(q:Bool)(nw:List Nat)(n0:Nat)(st:bp):eY->Prop
 | .v _ i=>i.loadO q st.t
 | .box d none _=>qx n0 d st
 | .alloc d none _=>qx n0 d st
 | .box _ (some _) _=>er
 | .alloc _ (some _) _=>er
 | .store _ x _=>match cE st.t x with| .ptr _ _=>True|_=>er
 | .bslm _ _ _ _ _=>er
 | .mks _ _ _ _ _ _=>er
 | .appm _ _ _ _ x _=>match cE st.t x with| .row _ _ _=>True|_=>er
 | .storeE _ _ _=>True
 | .mkmap _ none=>er
 | .mkmap _ (some m)=>m∈nw/\ae (.obj m) st.b=none/\ae (.obj m) st.e=none
 | .mput _ _ _ _=>True
 | .range _ _ _=>er
 | .bsl d _ _ _=>qx n0 d st
 | .app d _ _ x _=>match cE st.t x with
  | .slice _ .nil _=>qx n0 d st
  | .slice _ (.own k) _=>(ae k st.e).bind (·.xs)=none
  |_=>True
def qq(n0:Nat):eY->aB
 | .mkmap _ (some m)=>.obj m
 | .v d _| .box d _ _| .alloc d _ _| .bsl d _ _ _| .app d _ _ _ _| .bslm d _ _ _ _| .appm d _ _ _ _ _| .mkmap d _| .range d _ _| .mks d _ _ _ _ _=>.loc (n0+d)
 | .store _ _ _| .mput _ _ _ _| .storeE _ _ _=>.loc n0
def al3(nw:List Nat)(st:bp)(s a:cS)(rm:bd aB):Prop:=(∀k,(ae k a.b).isSome->(ae k s.b).isSome\/rm=some k)/\(∀k,(ae k a.e).isSome->(ae k s.e).isSome\/rm=some k)/\(∀k,(ae k s.b).isSome->(ae k a.b).isSome)/\(∀k,(ae k s.e).isSome->(ae k a.e).isSome)/\
 (∀k,rm=some k->(∃j,j∈nw/\k= .obj j)/\ae k st.b=none/\ae k st.e=none/\((ae k a.b).isSome\/(ae k a.e).isSome))
def hH(P:cH)(q:Bool)(nw:List Nat)(n:Nat)(args:List af)(st:bp)(d:bd Nat)(K:bp->Prop):Prop:=
 (∃cV r,d=some cV/\qx st.n cV st/\aH (fun _=>er) args/\uo P n (st.n+cV) args ⟨[],[]⟩ (fun b t'=>b=r/\t'=⟨[],[]⟩)/\K {st with t:=put cV r st.t,o:= .loc (st.n+cV)::st.o})\/
 ∃s a r rm,hz (aM s) s.b st.b/\qd (aM s) s.e st.e/\hW s/\hW a/\al3 nw st s a rm/\aH (aM s) args/\bG P n args s (fun b t'=>b=r/\t'=a)/\(q=true->a.b=[]/\a.e=[])/\K {after st s a d r with o:=st.o}
def k9(P:cH)(q:Bool)(nw:List Nat)(n0:Nat)(st:bp)(K:bp->Prop):eU->Prop
 | .s i=>match fl (qq n0 i) st.n (qq n0 i::st.o) st i with
  |some (c,st')=>nh q nw n0 st i/\c/\K st'
  |none=>er
 | .call d f xs=>match cE st.t f with
  | .func n dI=>hH P q nw n (cf (xs.map (cE st.t)++dI)) st d K
  |_=>er
 | .next _ _=>er
def iP(P:cH)(q:Bool)(nw:List Nat)(n0:Nat):List du->bp->(bp->Prop)->Prop
 |[],st,K=>K st
 |⟨none,i⟩::r,st,K=>k9 P q nw n0 st (fun st'=>iP P q nw n0 r st' K) i
 |⟨some (s,want),i⟩::r,st,K=>match get s st.t with
  | .bool b=>(b=want->k9 P q nw n0 {st with t:=put s (.bool want) st.t} (fun st'=>iP P q nw n0 r st' K) i)/\(b= !want->iP P q nw n0 r {st with t:=e7 i.dst (.tuple []) (put s (.bool !want) st.t)} K)
  | .tuple []=>iP P q nw n0 r {st with t:=e7 i.dst (.tuple []) st.t} K
  |_=>er
structure um (nw:List Nat) (n0 N:Nat) (qS:List aB) (st:bp) (A:dE):Prop where
 like:mu st A
 n:st.n=n0
 F:∀k,fresh n0 st.o k->(∀j∈nw,k≠ .obj j)->A.F k
 o:∀k∈st.o,k∈qS\/(∃d,d<N/\k= .loc (n0+d))\/ ∃j∈nw,k= .obj j
def Db(nw:List Nat)(A:dE):Prop:= ∀j∈nw,A.b (.obj j)=none->A.e (.obj j)=none->A.F (.obj j)
def Db.do{P:cH}{q:Bool}{n0:Nat}{nw:List Nat}{A:dE}(h:Db nw A){g:du}{x:lI}(k:lJ P q n0 g A x):Db nw (A.do x):=by
 intro j i c he;refine⟨h j i (LJ c) (LK he),fun f=>?_⟩;rcases(QI k).r _ f with⟨d,_,e⟩|⟨_,_,a⟩
 ·cases e
 ·rcases a with a|a
  ·obtain⟨y,b⟩:=fx.1 a;simp[dE.do,jt,b]at c
  ·obtain⟨y,b⟩:=fx.1 a;simp[dE.do,jt,b]at he
def UI{P:cH}{q:Bool}{nw:List Nat}{n0 N:Nat}{qS:List aB}{i:eU}(E:∀d,i.dst=some d->d<N){st:bp}{A:dE}(h:um nw n0 N qS st A)(ni:Db nw A){K:bp->Prop}(he:k9 P q nw n0 st K i):∃x st',e2 P q n0 i A x/\K st'/\um nw n0 N qS st' (A.do x):=by
 have a:=h.like;have O:∀d,qx n0 d st->(A.F (.loc (n0+d))/\A.b (.loc (n0+d))=none/\A.e (.loc (n0+d))=none):=fun d t=>⟨h.F _ ⟨Ψ,t.1⟩ (fun _ _ e=>by cases e),by rw[<-a.b];exact t.2.1,by rw[<-a.e];exact t.2.2⟩;have G:∀(d:bd Nat) (p:af) (bw:List (aB×List af)) (ew:List (aB×dW)) (κ:aB),∀k,fresh n0 (κ::st.o) k->(∀j∈nw,k≠ .obj j)->(A.do ⟨d,p,bw,ew,some κ⟩).F k:=fun d p bw ew κ k ab w=>⟨h.F k (xk k ab).1 w,fun e=>(xk k ab).2 (e8 e).symm⟩;have F:∀(d:bd Nat) (p:af) (bw:List (aB×List af)) (ew:List (aB×dW)),∀k,fresh n0 st.o k->(∀j∈nw,k≠ .obj j)->(A.do ⟨d,p,bw,ew,none⟩).F k:=fun d p bw ew k ab w=>⟨h.F k ab w,Ψ⟩;have Q:∀d,d<N->∀k∈aB.loc (n0+d)::st.o,k∈qS\/(∃d,d<N/\k= .loc (n0+d))\/ ∃j∈nw,k= .obj j:=fun d E k ab=>by
  rcases gI.1 ab with rfl|ab
  ·exact .inr (.inl ⟨d,E,rfl⟩)
  ·exact h.o k ab
 cases i with
 |s i=>
  cases i with
  |v d i=>
   simp only[k9,fl]at he;cases g:hY st i with
   |none=>simp[g]at he
   |some LG=>
    obtain⟨c,p⟩:=LG;simp only[g]at he;obtain⟨J,U,b⟩:=he;refine⟨⟨some d,p,[],[],none⟩,_,⟨c,p,by rw[<-acv a];exact g,U,fun pa=>?_,rfl⟩,b,Og a d p,h.n,F _ _ _ _,h.o⟩;cases i<;>simp only[gP.isLoad]at pa<;>try(cases pa;done)
    case mget=>exact .inr (.inl J)
    case ment=>exact .inr (.inl J)
    case mlen=>exact .inr (.inl J)
    case loadB=>exact .inl rfl
    case mgetB=>exact .inl rfl
    simp only[nh,gP.loadO,jG a]at J;exact .inr (by simpa only[gP.ptrOf]using J)
  |box d key v=>
   cases key with
   |some m=>simp only[k9,fl,nh,false_and]at he
   |none=>simp only[k9,fl,nh,qq]at he;obtain⟨J,U,b⟩:=he;rw[jG a]at U;refine⟨_,_,⟨O d J,U,rfl⟩,b,?_,h.n,G _ _ _ _ _,Q d (E d rfl)⟩;rw[jG a];exact B6 a d _ _ _ _ _ _
  |alloc d key z=>
   cases key with
   |some m=>simp only[k9,fl,nh,false_and]at he
   |none=>simp only[k9,fl,nh,qq]at he;obtain⟨J,U,b⟩:=he;exact⟨_,_,⟨O d J,rfl⟩,b,B6 a d _ _ _ _ _ _,h.n,G _ _ _ _ _,Q d (E d rfl)⟩
  |store sz u v=>
   simp only[k9,fl]at he;cases hu:cE st.t u with
   |ptr k off=>
    cases B:ae k st.b with
    |none=>simp[hu,B]at he
    |some cs=>simp only[hu,B]at he;obtain⟨J,U,b⟩:=he;rw[jG a]at U hu;refine⟨⟨none,.junk,[(k,nE cs off (cells (dY A.t v)))],[],none⟩,_,⟨k,off,cs,hu,by rw[<-a.b];exact B,U,rfl⟩,b,?_,h.n,F _ _ _ _,h.o⟩;rw[jG a];exact Iz a k _ _
   |_=>
    exfalso;simp only[hu]at he;split at he
    ·have:=he.1;simp[nh,hu]at this
    ·exact he
  |bsl d sz el xs=>simp only[k9,fl,nh,qq]at he;obtain⟨J,U,b⟩:=he;rw[vT a]at U;refine⟨_,_,⟨O d J,U,rfl⟩,b,?_,h.n,G _ _ _ _ _,Q d (E d rfl)⟩;rw[vT a];exact x1 a d _ _ _ _ _ _
  |app d sz el u v=>
   simp only[k9,fl]at he;cases hu:cE st.t u with
   |slice H tag xs=>
    cases g:cE st.t v with
    |slice Y X ys=>
     simp only[hu,g]at he;by_cases R:H=sz/\Y=sz
     ·obtain⟨rfl,rfl⟩:=R;rw[jG a]at hu g;cases tag with
      |no=>simp at he
      |tr k j=>simp at he
      |lo k=>simp at he
      |nil=>simp only[and_self,if_true,nh,jG a,hu,qq]at he;obtain⟨J,U,b⟩:=he;exact⟨_,_,⟨.nil,xs,X,ys,hu,g,.inr ⟨rfl,U,O d J,rfl⟩⟩,b,x1 a d _ _ _ _ _ _,h.n,G _ _ _ _ _,Q d (E d rfl)⟩
      |own k=>
       cases ab:ae k st.e with
       |none=>simp[ab]at he
       |some o=>simp only[and_self,if_true,ab]at he;obtain⟨J,U,b⟩:=he;exact⟨_,_,⟨.own k,xs,X,ys,hu,g,.inl ⟨k,o,rfl,by rw[<-a.e];exact ab,⟨by simpa[nh,jG a,hu,ab]using J,U⟩,rfl⟩⟩,b,x1 a d _ _ _ _ _ _,h.n,F _ _ _ _,h.o⟩
     ·simp[R]at he
    |_=>simp[hu,g]at he
   |_=>simp[hu]at he
  |bslm d key sz el xs=>simp only[k9,fl,nh,false_and]at he
  |mks d key sz el z x=>simp only[k9,fl,nh,false_and]at he;split at he<;>simp at he
  |appm d key sz el u v=>
   simp only[k9,fl]at he;cases hu:cE st.t u with
   |row H k n=>
    cases g:cE st.t v with
    |slice Y X ys=>
     simp only[hu,g,uy]at he;by_cases R:H=sz/\Y=sz
     ·obtain⟨rfl,rfl⟩:=R;rw[jG a]at hu g;simp only[and_self,if_true]at he;cases ab:ae k st.e with
      |none=>simp[ab]at he
      |some o=>
       obtain⟨n',gJ,M,Ph⟩:=o;cases Ph with
       |none=>simp[ab]at he
       |some xs=>
        simp only[ab]at he;by_cases L:n'=n/\gJ=el/\M=Y
        ·obtain⟨rfl,rfl,rfl⟩:=L;simp only[and_self,if_true]at he;obtain⟨J,U,b⟩:=he;exact⟨_,_,⟨k,n',xs,X,ys,hu,g,by rw[<-a.e];exact ab,U,rfl⟩,b,x1 a d _ _ _ _ _ _,h.n,F _ _ _ _,h.o⟩
        ·simp[L]at he
     ·simp[R]at he
    |_=>simp[hu,g,uy]at he
   |slice H tag xs=>
    exfalso;simp only[hu]at he;split at he
    ·have:=he.1;simp[nh,hu]at this
    ·exact he
   |_=>simp[hu,uy]at he
  |storeE sz u v=>
   simp only[k9,fl]at he;cases hu:cE st.t u with
   |rptr H k n i f=>
    cases ab:ae k st.e with
    |none=>simp[hu,sL,ab]at he
    |some o=>
     obtain⟨n',el,M,Ph⟩:=o;cases Ph with
     |none=>simp[hu,sL,ab]at he
     |some xs=>
      simp only[hu,sL,ab]at he;by_cases L:n'=n/\M=H
      ·obtain⟨rfl,rfl⟩:=L;simp only[and_self,if_true]at he;cases bK:xs[i]? with
       |none=>simp[bK]at he
       |some q=>simp only[bK]at he;obtain⟨J,U,b⟩:=he;rw[jG a]at U hu;refine⟨⟨none,.junk,[],[(k,⟨n',el,M,some (xs.set i (od q f (cells (dY A.t v))))⟩)],none⟩,_,⟨k,n',i,f,el,M,xs,q,hu,by rw[<-a.e];exact ab,bK,U,rfl⟩,b,?_,h.n,F _ _ _ _,h.o⟩;rw[jG a];exact Ym a k _ _
      ·simp[L]at he
   |_=>simp[hu,sL]at he
  |mkmap d key=>
   cases key with
   |none=>simp only[k9,fl,nh,false_and]at he
   |some m=>
    simp only[k9,fl,nh,qq]at he;obtain⟨⟨bA,J,U⟩,_,b⟩:=he;rw[a.b]at J;rw[a.e]at U;refine⟨_,_,⟨⟨ni m bA J U,J,U⟩,rfl⟩,b,B6 a d _ _ _ _ _ _,h.n,G _ _ _ _ _,fun k ab=>?_⟩;rcases gI.1 ab with rfl|ab
    ·exact .inr (.inr ⟨m,bA,rfl⟩)
    ·exact h.o k ab
  |mput cA u k v=>
   simp only[k9,fl,nh]at he;cases hu:cE st.t u with
   |gmap m=>
    cases B:ae m st.b with
    |none=>simp[hu,B]at he
    |some cs=>
     cases hm:qR cA (cE st.t k) (cE st.t v) cs with
     |none=>simp[hu,B,hm]at he
     |some cs'=>simp only[hu,B,hm]at he;rw[jG a]at hu;rw[jG a,jG a]at hm;exact⟨⟨none,.junk,[(m,cs')],[],none⟩,_,⟨m,cs,cs',hu,by rw[<-a.b];exact B,hm,rfl⟩,he.2.2,Iz a m _ _,h.n,F _ _ _ _,h.o⟩
   |_=>simp[hu]at he
  |range d key x=>simp only[k9,nh,false_and]at he;split at he<;>exact he.elim
 |next d x=>simp only[k9]at he
 |call d f xs=>
  simp only[k9]at he;cases t:cE st.t f with
  |func n dI=>
   simp only[t]at he;rw[jG a]at t;rcases he with⟨cV,r,rfl,bQ,S,di,h4⟩|⟨s,V,r,rm,bQ,S,di,h4,nf,qp,Dq,aeq,aer⟩
   ·rw[vT a]at S di;have W:=h.n;subst W;refine⟨⟨some cV,r,[],[],some (.loc (st.n+cV))⟩,_,⟨n,dI,t,.inr ⟨cV,r,rfl,O cV bQ,S,di,rfl⟩⟩,h4,Yn a cV r _ _,rfl,G _ _ _ _ _,Q cV (E cV rfl)⟩
   rw[vT a]at qp Dq;obtain⟨a8,bN,cn,eC,Z⟩:=nf;refine⟨⟨d,r,V.b,V.e,rm⟩,_,⟨n,dI,t,.inl ⟨⟨s,V,r,rm,fun k cs ab=>⟨by rw[<-a.b];exact(bQ k cs ab).1,(bQ k cs ab).2.2⟩,fun k o ab=>⟨by rw[<-a.e];exact(S k o ab).1,(S k o ab).2.2⟩,di,h4,⟨a8,bN,cn,eC,fun k ab=>?_⟩,qp,Dq,rfl⟩,aeq⟩⟩,aer,⟨fun i=>?_,fun k=>?_,fun k=>?_⟩,h.n,fun k ab w=>⟨h.F k ab w,fun sj=>?_⟩,h.o⟩
   ·obtain⟨⟨j,w,rfl⟩,aC,bh,b4⟩:=Z k ab;rw[a.b]at aC;rw[a.e]at bh;exact⟨⟨j,rfl⟩,ni j w aC bh,aC,bh,b4⟩
   ·simp only[after,dE.do];cases d with
    |none=>simpa[e7]using a.t i
    |some d=>simp only[e7,qy,dU,a.t]
   ·simp only[after,dE.do,jt,n4,tL];by_cases l:(ae k s.b).isSome
    ·have:=cn k l;obtain⟨y,aI⟩:=fx.1 this;simp[l,aI]
    ·cases W:ae k V.b with
     |none=>simp only[l,a.b];cases A.b k<;>simp
     |some y=>
      rcases a8 k (by simp[W])with h|h
      ·exact absurd h l
      ·have:=Z k h;simp[l,this]
   ·simp only[after,dE.do,jt,n4,tL];by_cases l:(ae k s.e).isSome
    ·have:=eC k l;obtain⟨y,aI⟩:=fx.1 this;simp[l,aI]
    ·cases W:ae k V.e with
     |none=>simp only[l,a.e];cases A.e k<;>simp
     |some y=>
      rcases bN k (by simp[W])with h|h
      ·exact absurd h l
      ·have:=Z k h;simp[l,this]
   ·obtain⟨⟨j,kl,rfl⟩,_⟩:=Z k sj;exact w j kl rfl
  |_=>simp[t]at he
def A3(N:Nat):List du->Bool
 |[]=>true
 |g::r=>j6 N g.i.dst&&A3 N r
def AE:Nat->List du->List (Nat×du)
 |_,[]=>[]
 |k,g::r=>(k,g)::AE (k+1) r
def Ru{nw:List Nat}{n0 N:Nat}{a:List aB}{st:bp}{A:dE}(h:um nw n0 N a st A){s:Nat}{p:af}(b:get s st.t=p):um nw n0 N a {st with t:=put s p st.t} A:=by
 refine⟨⟨fun i=>?_,h.like.b,h.like.e⟩,h.n,h.F,h.o⟩;simp only[qy];split
 ·rename_i e;subst e;rw[<-b];exact h.like.t _
 ·exact h.like.t i
def Rv{nw:List Nat}{n0 N:Nat}{a:List aB}{st:bp}{A:dE}(h:um nw n0 N a st A)(d:bd Nat):um nw n0 N a {st with t:=e7 d (.tuple []) st.t} (A.do (mm d)):=by
 refine⟨⟨fun i=>?_,fun k=>?_,fun k=>?_⟩,h.n,fun k ab b=>⟨h.F k ab b,by simp[mm]⟩,h.o⟩
 ·simp only[dE.do,mm];cases d with
  |none=>simpa[e7]using h.like.t i
  |some d=>simp only[e7,qy,dU,h.like.t]
 ·simpa[dE.do,jt,ae,mm]using h.like.b k
 ·simpa[dE.do,jt,ae,mm]using h.like.e k
def DD{P:cH}{q:Bool}{nw:List Nat}{n0 N:Nat}{l:List aB}{K:bp->Prop}:∀(gs:List du) (k:Nat),A3 N gs=true->∀(st:bp) (A:dE),um nw n0 N l st A->Db nw A->iP P q nw n0 gs st K->xd P q n0 (fun n=> ∃st',K st'/\um nw n0 N l st' n) (AE k gs) A
 |[],k,_,st,A,h,_,he=>⟨st,he,h⟩
 |⟨m,i⟩::r,k,f,st,A,h,a,he=>by
  simp only[A3,cP]at f;have j:∀d,i.dst=some d->d<N:=fun d e=>by have:=f.1;rw[e]at this;simpa[j6]using this
  simp only[AE,xd];cases m with
  |none=>simp only[iP]at he;obtain⟨x,st',J,U,g⟩:=UI j h a he;have be:lJ P q n0 ⟨none,i⟩ A x:=J;exact⟨x,be,DD r (k+1) f.2 st' _ g (a.do be) U⟩
  |some p=>
   obtain⟨s,want⟩:=p;simp only[iP]at he;split at he
   ·rename_i b c;by_cases e:b=want
    ·subst e;obtain⟨x,st',J,U,g⟩:=UI j (Ru h c) a (he.1 rfl);have be:lJ P q n0 ⟨some (s,b),i⟩ A x:=by unfold lJ;simp only[<-h.like.t,c];exact .inl ⟨trivial,J⟩
     exact⟨x,be,DD r (k+1) f.2 st' _ g (a.do be) U⟩
    ·have o:b= !want:=by cases b<;>cases want<;>simp at e⊢
     subst o;have be:lJ P q n0 ⟨some (s,want),i⟩ A (mm i.dst):=by unfold lJ;simp only[<-h.like.t,c];exact .inr ⟨trivial,trivial⟩
     exact⟨mm i.dst,be,DD r (k+1) f.2 _ _ (Rv (Ru h c) i.dst) (a.do be) (he.2 rfl)⟩
   ·rename_i c;have be:lJ P q n0 ⟨some (s,want),i⟩ A (mm i.dst):=by unfold lJ;simp only[<-h.like.t,c]
    exact⟨mm i.dst,be,DD r (k+1) f.2 _ _ (Rv h i.dst) (a.do be) he⟩
   ·exact he.elim
def PT:∀(gs:List du) (l:Array Bool) (k:Nat),(∀j,l.getD j false=false)->rem l k gs=AE k gs
 |[],_,_,_=>rfl
 |g::r,l,k,h=>by simp only[rem,h k,AE,PT r l (k+1) h];simp
def vz(n:Nat)(o:List aB)(K:bp->Prop)(st:bp):Prop:=K {st with n:=n,o:=o}
def Good.like{pr:Nat->Prop}{w:World}{ν:bc}{b b0:List (aB×List af)}{e d:List (aB×dW)}(h:Good pr w ν b e)(a:∀k,ae k b0=ae k b)(he:∀k,ae k d=ae k e):Good pr w ν b0 d:=
 ⟨h.alt,fun k cs ab=>h.box k cs (by rw[<-a];exact ab),fun k bt bl J U=>h.inj k bt bl (by rw[<-a];exact J) (by rw[<-a];exact U),fun g o be=>h.own g o (by rw[<-he];exact be),
  fun g f n n' v v' bl J U=>h.oinj g f n n' v v' bl (by rw[<-he];exact J) (by rw[<-he];exact U),fun g k n v bl J U=>h.obx g k n v bl (by rw[<-he];exact J) (by rw[<-a];exact U),h.one,
  fun bl i=>h.otr bl (i.imp (fun⟨k,c,a2⟩=>⟨k,by rw[<-a];exact c,a2⟩) (fun⟨g,n,v,c,a2⟩=>⟨g,n,v,by rw[<-he];exact c,a2⟩))⟩
def UK{P:cH}(hm:P.follows .mixedOrders=true){aT:List (Nat×ev)}(H:hX P aT=true){C:fp}{q:Bool}{nw:List Nat}{id:Nat}{ops:Array Oper}{gs:List du}(t:la C.N aT ops.toList gs ops.toList=true)(L:Di gs ops.toList=true)(B:A3 C.N gs=true)
  {K:bp->Prop} {Q:Exit->Act->World->Prop} (z:∀st' br w' bn,K st'->c9 C st' br w' bn->Q .normal br w') {st:bp} {a:Act} {w:World} {ν:bc} (p:∀j∈nw,.obj j∉st.o) (he:iP P q nw st.n gs st (vz (st.n+C.N) (nw.map aB.obj++st.o) K)) (J:c9 C st a w ν):(Code.region id ops true).wp P Q a w:=by
 refine wp_region_any hm ?_;have E:c9 C st a {w with drawn:=w.drawn+1} ν:=J.drawn _;let A:dE:=⟨fun i=>get i st.t,fun k=>ae k st.b,fun k=>ae k st.e,fresh st.n st.o⟩
 have s:um nw st.n C.N st.o st A:=⟨⟨fun _=>rfl,fun _=>rfl,fun _=>rfl⟩,rfl,fun k ab _=>ab,fun k ab=>.inl ab⟩;have x:=DD gs 0 B st A s (fun j l _ _=>⟨trivial,p j l⟩) he;have n:∀j,(Array.replicate ops.size false).getD j false=false:=fun j=>by simp[Array.getD_eq_getD_getElem?,Array.getElem?_replicate];split<;>rfl
 refine adX H t L (q:=q) (n0:=st.n) (K:=fun u=> ∃st',vz (st.n+C.N) (nw.map aB.obj++st.o) K st'/\um nw st.n C.N st.o st' u) ?_ ops.size _ A a _ Ψ ?_ ?_ (by rw[PT gs _ 0 n];exact x) ⟨st,ν,s.like,fun k ab=>ab,E⟩
 ·rintro u br w' ⟨st',ab,f⟩ ⟨G,bn,m,M,b⟩;refine z _ br w' bn ab ⟨b.good.like (fun k=>by rw[m.b,<-f.like.b]) (fun k=>by rw[m.e,<-f.like.e]),b.fr,b.defers,b.size,fun i=>?_,fun k c=>?_⟩
  ·have:=b.slot i;rw[m.t,<-f.like.t]at this;exact this
  ·refine b.new k (M k (f.F k ?_ fun j l e=>c.2 (by subst e;exact List.mem_append_left _ (List.mem_map_of_mem l))));simp only at c;refine⟨(Ml (Nat.le_add_right st.n C.N) (fun _ h=>h) c).1,fun y=>?_⟩;rcases f.o k y with h|⟨d,N,rfl⟩|⟨j,l,rfl⟩;rotate_left 2
   ·exact c.2 (List.mem_append_left _ (List.mem_map_of_mem l))
   ·exact c.2 (List.mem_append_right _ h)
   ·have:=c.1;simp at this;omega
 ·intro k o ab v;rw[n]at v;cases v
 ·rw[PT gs _ 0 n];have:∀(gs:List du) k,(AE k gs).length=gs.length:=by
   intro gs;induction gs with
   |nil=>intro k;rfl
   |cons g r F=>intro k;simp[AE,F]
  rw[this];have:=Mw t;simp at this;omega
def eN:List af->Prop
 |[]=>True
 |p::a=>(match p with| .slice _ _ xs=>xs.length<=lim| .str s=>s.length<=lim|_=>True)/\eN a
def eV:af->Prop
 | .slice _ _ xs=>xs.length<=lim
 | .str s=>s.length<=lim
 | .agg cs=>eN cs
 |_=>True
def eM:List af->Prop
 |[]=>True
 |p::r=>eV p/\eM r
def PY{w:World}{ν:bc}:∀{cs:List af} {us:List Value},cY w ν cs us->eN cs
 |[],_,_=>trivial
 |c::cs,us,h=>by
  simp only[cY]at h;obtain⟨u,e,_,J,U⟩:=h;refine⟨?_,PY U⟩;cases c<;>simp only<;>have b:=J.1<;>simp only[aV]at b
  ·exact b.2
  ·obtain⟨⟨a,cap,_,_,d,_⟩,_⟩:=b;exact d.2
def PV{w:World}{ν:bc}{cs:List af}{us:List Value}(h:k2 w ν cs us):gY cs=true->eN cs:=fun a=>by rw[pj a]at h;exact PY h
def abo{w:World}{ν:bc}{p:af}{v:Value}(h:aV w ν p v):eV p:=by
 cases p<;>simp only[eV]<;>simp only[aV]at h
 ·exact h.2
 ·obtain⟨⟨a,cap,_,_,b,_⟩,_⟩:=h;exact b.2
 ·obtain⟨us,_,U⟩:=h;exact PY U
def PZ{w:World}{ν:bc}:∀{cs:List af} {us:List Value},c7 w ν cs us->eM cs
 |[],_,_=>trivial
 |c::cs,us,h=>by simp only[c7]at h;obtain⟨u,a,_,J,U⟩:=h;exact⟨abo J,PZ U⟩
inductive C where
 |skip
 |region (gs:List du)
 |drawn (q:Bool) (N:Nat) (gs:List du)
 |drawnW (nw:List Nat) (N:Nat) (gs:List du)
 |seq (a b:C)
 |cond (x:dQ) (t e:C)
 |block (id:Nat) (c:C)
 |loop (c:C)
 |exit (id:Nat)
 |ret
 |pub (s:Nat) (c:C)
 |pubB (s:Nat) (c:C)
 |fg (qL:Bool) (s:Nat) (c:C)
 |fz (agg:Bool) (s:Nat) (c:C)
 |no
def Fm(st:bp):af->bd (af×List (aB×dW))
 | .row sz k n=>match ae k st.e with
  |some ⟨n',el,a,some xs⟩=>if n'=n/\a=sz then some (.slice sz (.own k) xs,cI k ⟨n,el,sz,none⟩ st.e)else none
  |_=>none
 |_=>none
def yg(st:bp)(s:Nat):bd bp:=
 match Fm st (get s st.t)with
 |some (p,e)=>some {st with t:=put s p st.t,e:=e}
 |none=>none
def yf(st:bp)(s:Nat):bd bp:=
 match get (s%1000) st.t with
 | .ptr k off=>match ae k st.b with
  |some cs=>match cs[off+s/1000]? with
   |some p=>match Fm st p with
    |some (a,e)=>if gY cs then some {st with b:=cI k (cs.set (off+s/1000) a) st.b,e:=e}else none
    |none=>none
   |none=>none
  |none=>none
 |_=>none
def Jz{C:fp}{st:bp}{a:Act}{w:World}{ν:bc}(h:c9 C st a w ν){s:Nat}{p:af}(b:aV w ν p (a.tmps.getD s undef)):c9 C {st with t:=put s p st.t} a w ν:=by
 refine⟨h.good,h.fr,h.defers,h.size,fun i=>?_,h.new⟩;have:=h.slot i;simp only[qy];split
 ·rename_i e;subst e;exact b
 ·exact this
def ZY{C:fp}{st:bp}{a:Act}{w:World}{ν:bc}(h:c9 C st a w ν){p f:af}{e:List (aB×dW)}{v:Value}(l:aV w ν p v)(he:Fm st p=some (f,e)):
  ∃bn,c9 C {st with e:=e} a w bn/\aV w bn f v/\mv w ν w bn:=by
 unfold Fm at he;split at he
 ·rename_i sz k n;split at he
  ·rename_i n' el z xs ab;split at he
   ·rename_i ax;obtain⟨rfl,rfl⟩:=ax;cases he;simp only[aV]at l;obtain⟨_,r,n0,u,J,U,s⟩:=l;obtain⟨v0,y,d,B,A,m⟩:=h.good.own k _ ab;rw[J]at d;simp only[dU,jn]at d;obtain⟨rfl,rfl⟩:=d;have x:v=u:=s rfl;subst x;obtain⟨i,_,_⟩:=m xs rfl;simp only at i;obtain⟨g1,g2⟩:=h.publish ab rfl J (by rw[i];exact r);refine⟨_,g1,g2,⟨fun b o q=>⟨.inl q,rfl⟩,fun j b _ t=>t,fun g n u _ c=>⟨n,u,?_,.inl ⟨rfl,rfl⟩⟩,fun _ _ _=>rfl,fun _ _ _ _ h=>h⟩⟩;simp only[bc.withRowOf];split
    ·rename_i e;subst e;rw[J]at c;exact c
    ·exact c
   ·cases he
  ·cases he
 ·cases he
def Bg(a:Bool):af->af
 | .slice sz tag xs=>.slice sz (if a then tag else .no) (cf xs)
 |p=>b7 p
def aiq{w:World}{ν:bc}{a:Bool}{p:af}{v:Value}(h:aV w ν p v):aV w ν (Bg a p) v:=by
 have J:=ym p v h;cases p with
 |slice sz tag xs=>
  simp only[Bg];cases a with
  |false=>simpa only[hQ,if_false,b7]using J
  |true=>
   simp only[if_true];simp only[aV,b7]at h J⊢;refine⟨J.1,fun e=>h.2.1 e,fun g e=>?_,fun k j e=>?_,fun k e=>?_⟩
   ·obtain⟨n,u,c,d,b⟩:=h.2.2.1 g e;exact⟨n,u,c,by rw[nG];exact d,by rw[nG];exact b⟩
   ·exact DQ _ _ (h.2.2.2.1 k j e)
   ·exact DQ _ _ (h.2.2.2.2 k e)
 |_=>exact J
def apA{C:fp}{st st':bp}{a:Act}{w:World}{ν:bc}(h:c9 C st a w ν){s:Nat}(he:yg st s=some st'):∃bn,c9 C st' a w bn:=by
 unfold yg at he;split at he
 ·rename_i p e b;cases he;obtain⟨bn,J,U,_⟩:=ZY h (h.slot s) b;exact⟨_,Jz J U⟩
 ·cases he
def abj{w:World}{ν:bc}:∀{cs:List af} {us:List Value} {i:Nat} {p q:af} {v:Value},cY w ν cs us->cs[i]? =some p->us[i]? =some v->aV w ν q v->cY w ν (cs.set i q) us
 |[],_,_,_,_,_,_,h,_,_=>by simp at h
 |c::cs,us,0,p,q,v,h,_,a,b=>by simp only[cY]at h;obtain⟨u,e,rfl,J,U⟩:=h;simp only[List.getElem?_cons_zero,dU]at a;subst a;simp only[List.set_cons_zero,cY];exact⟨_,_,rfl,⟨b,J.2⟩,U⟩
 |c::cs,us,i+1,p,q,v,h,d,a,b=>by simp only[cY]at h;obtain⟨u,e,rfl,J,U⟩:=h;simp only[List.set_cons_succ,cY];exact⟨_,_,rfl,J,abj U (by simpa using d) (by simpa using a) b⟩
def apz{C:fp}{st st':bp}{a:Act}{w:World}{ν:bc}(h:c9 C st a w ν){s:Nat}(he:yf st s=some st'):∃bn,c9 C st' a w bn:=by
 unfold yf at he;split at he
 ·rename_i k m ab;generalize m+s/1000=off at he;split at he
  ·rename_i cs d;split at he
   ·rename_i p i;split at he
    ·rename_i E e K;split at he
     ·rename_i q;cases he;obtain⟨bl,us,el,g1,g2,g3,g4,g5⟩:=h.good.box k cs d;rw[pj q]at g5;have t:off<us.toList.length:=by rw[qU g5];exact(fI.1 i).1
      obtain⟨v,z⟩:∃v,us.toList[off]? =some v:=⟨_,cl t⟩;have L:aV w ν p v:=by have:=CJ off g5;rw[lG (fI.1 i).1,lG t]at this;simp only[cY]at this;obtain⟨u,G,y,A,_⟩:=this;rw[(fI.1 i).2]at A;rw[(fI.1 z).2]at y;cases y;exact A.1
      obtain⟨bn,J,U,x⟩:=ZY h L K;have o:cY w bn (cs.set off E) us.toList:=abj (abi x g5) i z U;have B:=wP o;refine⟨bn,⟨J.good.alt,fun j F c=>?_,fun j dg b c f=>J.good.inj j dg b ?_ ?_,J.good.own,J.good.oinj,fun g j n v b be c=>J.good.obx g j n v b be ?_,J.good.one,fun bl H=>J.good.otr bl (H.imp (fun⟨bt,l,a2⟩=>⟨bt,by rw[jj]at l;split at l;(rename_i e;subst e;simp[d]);exact l,a2⟩) id)⟩,J.fr,J.defers,J.size,J.slot,J.new⟩
      ·simp only at c;rw[jj]at c;split at c
       ·rename_i e;subst e;cases c;obtain⟨r,G,M,f1,f2,f3,f4,f5⟩:=J.good.box k cs d;have:r=bl:=by have:=x.bx k bl trivial g1;rw[this]at f1;cases f1;rfl
        subst this;rw[pg q]at g4 f4;rw[g4]at f4;injection f4 with f4;injection f4 with f4 f6 f7;refine⟨r,us,el,f1,f2,f3,by rw[pg B];exact g4,by rw[pj B];exact o⟩
       ·exact J.good.box j F c
      ·simp only at c;rw[jj]at c;split at c
       ·rename_i e;subst e;simp[d]
       ·exact c
      ·simp only at f;rw[jj]at f;split at f
       ·rename_i e;subst e;simp[d]
       ·exact f
      ·simp only at c;rw[jj]at c;split at c
       ·rename_i e;subst e;simp[d]
       ·exact c
     ·cases he
    ·cases he
   ·cases he
  ·cases he
 ·cases he
def uA{α:Type}(k:aB)(l:List (aB×α)):List (aB×α):=match l with
 |[]=>[]
 |(i,x)::r=>if i=k then uA k r else(i,x)::uA k r
def Oh{α:Type}(k j:aB):∀l:List (aB×α),ae j (uA k l)=if j=k then none else ae j l
 |[]=>by simp[uA,ae]
 |(i,x)::r=>by
  simp only[uA];by_cases h:i=k
  ·subst h;rw[if_pos rfl,Oh i j r];by_cases U:j=i
   ·simp[U]
   ·have:¬i=j:=fun e=>U e.symm;simp[ae,U,this]
  ·rw[if_neg h];simp only[ae];by_cases U:i=j
   ·subst U;simp[h]
   ·simp only[U,if_false];exact Oh k j r
def Mn(agg:Bool):List af->bd af
 |[p]=>if agg then some (.agg [p])else some p
 |cs=>if agg then some (.agg cs)else none
def xl(st:bp)(agg:Bool)(s:Nat):bd bp:=
 match get s st.t with
 | .ptr k 0=>match ae k st.b with
  |some cs=>if gY cs then match Mn agg cs with
    |some x=>some {st with t:=put s (.eptr x) st.t,b:=uA k st.b}
    |none=>none
   else none
  |none=>none
 |_=>none
def apk{u:Value}(h:u.oneCell'=true):u.cells.toList=[u]:=by cases u<;>first|rfl|(simp[Value.oneCell']at h)
def Yc{w:World}{A:Nat->Nat->Prop}{b:Nat}{us:Array Value}{el:gU}(d:w.heap[b]? =some (.cells us el))(c:∀o,o<us.size->A b o):∀(bm:List Value) (off:Nat),us.toList.drop off=bm->kX w A b off bm
 |[],_,_=>trivial
 |v::bm,off,h=>by
  have a:off<us.toList.length:=by
   rcases Nat.lt_or_ge off us.toList.length with J|J
   ·exact J
   ·rw[List.drop_eq_nil_of_le J]at h;cases h
  have U:=lG a;rw[h]at U;injection U with U f;refine⟨⟨c off (by simpa using a),?_⟩,Yc d c bm (off+1) f.symm⟩;have e:off<us.size:=by simpa using a
  simp only[World.cell?,d,lH,hQ,if_false];rw[U];simp[e]
def aiD{C:fp}{st st':bp}{a:Act}{w:World}{ν:bc}(h:c9 C st a w ν){agg:Bool}{s:Nat}(he:xl st agg s=some st'):∃bn,c9 C st' a w bn:=by
 unfold xl at he;split at he
 ·rename_i k ab;split at he
  ·rename_i cs z;split at he
   ·rename_i H;split at he
    ·rename_i x l;cases he;obtain⟨bl,us,el,g1,g2,g3,g4,g5⟩:=h.good.box k cs z;rw[pj H]at g5;rw[pg H]at g4;have Z:bl<w.heap.size:=by
      rcases Nat.lt_or_ge bl w.heap.size with J|J
      ·exact J
      ·rw[Array.getElem?_eq_none J]at g4;cases g4
     let bn:bc:={ν with A:=fun b o=>ν.A b o\/(b=bl/\o<us.size)}
     have ar:mv w ν w bn:=⟨fun b o c=>⟨.inl c,rfl⟩,fun j b _ d=>d,fun g n u _ Q=>⟨n,u,Q,.inl ⟨rfl,rfl⟩⟩,fun _ _ _=>rfl,fun _ _ _ _ h=>h⟩;have L:∀j f,ae j (uA k st.b)=some f->j≠k/\ae j st.b=some f:=fun j f d=>by
      rw[Oh]at d;split at d
      ·cases d
      ·rename_i e;exact⟨e,d⟩
     have t:∀j,(ae j (uA k st.b)).isSome->(ae j st.b).isSome:=fun j d=>by obtain⟨f,R⟩:=fx.1 d;simp[(L j f R).2]
     have O:∀(g:aB) (n:Nat) (v:Value),(ae g st.e).isSome->ν.ow g=some (n,v)->v.ownBlock=some bl->er:=fun g n v J U aq=>h.good.obx g k n v bl J (by simp[z]) U aq g1;have P:aV w bn (.eptr x) (a.tmps.getD s undef):=by
      have F:=h.slot s;rw[ab]at F;simp only[aV]at F⊢;obtain⟨b0,N,B⟩:=F;rw[g1]at N;cases N;have E:kX w bn.A bl 0 us.toList:=Yc g4 (fun o ar=>.inr ⟨rfl,ar⟩) _ 0 rfl;have g6:cY w bn cs us.toList:=abi ar g5;unfold Mn at l;split at l
      ·rename_i p;simp only[cY]at g6;obtain⟨u,M,m,r,y⟩:=g6;subst y;split at l
       ·cases l;exact⟨bl,0,.agg us,B,by simp only[aV];exact⟨us,rfl,by rw[m];simp only[cY];exact⟨u,[],rfl,r,rfl⟩⟩,by simpa[pz]using E⟩
       ·cases l;refine⟨bl,0,u,B,r.1,?_⟩;rw[apk r.2,<-m];exact E
      ·split at l
       ·cases l;exact⟨bl,0,.agg us,B,by simp only[aV];exact⟨us,rfl,g6⟩,by simpa[pz]using E⟩
       ·cases l
     refine⟨bn,Jz (ν:=bn) (st:={st with b:=uA k st.b}) ⟨⟨fun b o c=>?_,fun j f d=>?_,fun j dg b J U=>h.good.inj j dg b (t j J) (t dg U),fun g o be=>?_,h.good.oinj,fun g j n v b J U=>h.good.obx g j n v b J (t j U),h.good.one,fun b aL=>h.good.otr b (aL.imp (fun⟨j,Y,a2⟩=>⟨j,t j Y,a2⟩) id)⟩,⟨h.fr.os,h.fr.tape,h.fr.output,h.fr.size,h.fr.block,fun b o c=>⟨.inl (h.fr.keep b o c).1,(h.fr.keep b o c).2⟩,fun b o c=>?_,h.fr.obj,h.fr.obn,h.fr.row,h.fr.obr,h.fr.trd,h.fr.trb,h.fr.trn,h.fr.sh⟩,h.defers,h.size,fun i=>Aj ar (h.slot i),h.new⟩ P⟩
     ·rcases c with c|⟨rfl,_⟩
      ·exact h.good.alt b o c
      ·exact Z
     ·obtain⟨X,K⟩:=L j f d;obtain⟨S,M,W,f1,f2,f3,f4,f5⟩:=h.good.box j f K;refine⟨S,M,W,f1,f2,fun o c=>?_,f4,rM ar f5⟩;rcases c with c|⟨rfl,_⟩
      ·exact f3 o c
      ·exact X (h.good.inj j k _ (by simp[K]) (by simp[z]) f1 g1)
     ·obtain⟨v0,V,m,r,y,b4⟩:=h.good.own g o be;have G:∀b,v0.ownBlock=some b->∀j,bn.A b j->ν.A b j:=fun b q j c=>by
       rcases c with c|⟨rfl,_⟩
       ·exact c
       ·exact(O g _ v0 (by simp[be]) m q).elim
      exact⟨v0,V,m,r,fun b q=>⟨(y b q).1,fun j c=>(y b q).2 j (G b q j c)⟩,tZ ar G b4⟩
     ·rcases c with c|⟨rfl,_⟩
      ·exact h.fr.fresh b o c
      ·exact .inr g2
    ·cases he
   ·cases he
  ·cases he
 ·cases he
def tY(st:bp)(x:dQ)(b:Bool):bp:=match x with
 | .t i=>{st with t:=put i (.bool b) st.t}
 | .c _=>st
def de(P:cH)(ob:List aB):C->(Exit->bp->Prop)->bp->Prop
 | .skip,Q,st=>Q .normal st
 | .region gs,Q,st=>iY P gs st (Q .normal)
 | .drawn q N gs,Q,st=>iP P q [] st.n gs st (vz (st.n+N) st.o (Q .normal))
 | .drawnW nw N gs,Q,st=>(∀j∈nw,.obj j∉st.o)/\iP P false nw st.n gs st (vz (st.n+N) (nw.map aB.obj++st.o) (Q .normal))
 | .seq a b,Q,st=>de P ob a (fun e st'=>match e with| .normal=>de P ob b Q st'|e=>Q e st') st
 | .cond x t e,Q,st=>match cE st.t x with
  | .bool b=>(b=true->de P ob t Q (tY st x true))/\(b=false->de P ob e Q (tY st x false))
  |_=>er
 | .block id c,Q,st=>de P ob c (fun e st'=>match e with| .exit j=>if j=id then Q .normal st' else Q (.exit j) st'|e=>Q e st') st
 | .loop c,Q,st=> ∃(d:Nat->bp->Prop) (m:Nat) (f:bp),gn ob st f/\d m f/\
   ∀k s,d k s->(∀i,eV (get i s.t))->(∀j cs,ae j s.b=some cs->gY cs=true->eN cs)->de P ob c (fun e h=>match e with| .normal=> ∃bt g,bt<k/\gn ob h g/\d bt g|e=>Q e h) s
 | .exit id,Q,st=>Q (.exit id) st
 | .ret,Q,st=>Q .ret st
 | .pub s c,Q,st=>match yg st s with
  |some st'=>de P ob c Q st'
  |none=>er
 | .pubB s c,Q,st=>match yf st s with
  |some st'=>de P ob c Q st'
  |none=>er
 | .fg l s c,Q,st=>de P ob c Q {st with t:=put s (Bg l (get s st.t)) st.t}
 | .fz n s c,Q,st=>match xl st n s with
  |some st'=>de P ob c Q st'
  |none=>er
 | .no,_,_=>er
def hT(N:Nat)(aT:List (Nat×ev)):C->Code->Bool
 | .skip,.skip=>true
 | .region gs,.region _ ops false=>la N aT ops.toList gs ops.toList
 | .drawn _ N' gs,.region _ ops true=>N'==N&&la N aT ops.toList gs ops.toList&&Di gs ops.toList&&A3 N gs
 | .drawnW _ N' gs,.region _ ops true=>N'==N&&la N aT ops.toList gs ops.toList&&Di gs ops.toList&&A3 N gs
 | .seq a b,.seq x y=>hT N aT a x&&hT N aT b y
 | .cond x t e,.cond o t' g=>eS x o&&hT N aT t t'&&hT N aT e g
 | .block id c,.block f d=>id==f&&hT N aT c d
 | .loop c,.loop d=>hT N aT c d
 | .exit id,.exit f=>id==f
 | .ret,.ret=>true
 | .pub _ c,d=>hT N aT c d
 | .pubB _ c,d=>hT N aT c d
 | .fg _ _ c,d=>hT N aT c d
 | .fz _ _ c,d=>hT N aT c d
 | .no,_=>true
 |_,_=>false
def V5{N:Nat}{aT:List (Nat×ev)}{ops:List Oper}:∀{gs:List du} {os:List Oper},la N aT ops gs os=true->gs.length=os.length
 |[],[],_=>rfl
 |[],_::_,h=>by simp[la]at h
 |_::_,[],h=>by simp[la]at h
 |g::gs,o::os,h=>by simp only[la,cP]at h;simp[V5 h.2]
def Kv(P:cH)(C:fp)(c:Code)(Q:Exit->bp->Prop)(st:bp):Prop:= ∀a w ν,c9 C st a w ν->c.wp P (fun e br w'=> ∃st' bn,Q e st'/\c9 C st' br w' bn) a w
def qv{P:cH}(hm:P.follows .mixedOrders=true){aT:List (Nat×ev)}(f:hX P aT=true){X:fp}:∀(c:C) (code:Code) (Q:Exit->bp->Prop) (st:bp),hT X.N aT c code=true->de P X.ob c Q st->Kv P X code Q st
 | .skip,code,Q,st,ar,he=>by
  cases code<;>simp only[hT]at ar<;>try cases ar
  intro a w ν d;exact wp_skip ⟨st,ν,he,d⟩
 | .region gs,code,Q,st,ar,he=>by
  cases code<;>try(simp[hT]at ar;done)
  rename_i id ops draw;cases draw<;>simp only[hT]at ar
  ·intro a w ν d;refine wp_region ?_;have V:gs.length=ops.size:=by simpa using V5 ar
   rw[List.range_eq_range',<-V];exact UL f (K:=Q .normal) (fun st' br w' bn J U=>⟨st',bn,J,U⟩) gs ops.toList 0 Ψ ar st a w ν he d
  ·cases ar
 | .drawn q N gs,code,Q,st,ar,he=>by
  cases code<;>try(simp[hT]at ar;done)
  rename_i id ops draw;cases draw<;>simp only[hT]at ar
  ·cases ar
  ·simp only[cP,ey]at ar;obtain⟨⟨⟨rfl,J⟩,U⟩,v⟩:=ar;intro a w ν d;exact UK hm f J U v (nw:=[]) (K:=Q .normal) (fun st' br w' bn J U=>⟨st',bn,J,U⟩) Ψ he d
 | .drawnW nw N gs,code,Q,st,ar,he=>by
  cases code<;>try(simp[hT]at ar;done)
  rename_i id ops draw;cases draw<;>simp only[hT]at ar
  ·cases ar
  ·simp only[cP,ey]at ar;obtain⟨⟨⟨rfl,J⟩,U⟩,v⟩:=ar;intro a w ν d;exact UK hm f J U v (nw:=nw) (K:=Q .normal) (fun st' br w' bn J U=>⟨st',bn,J,U⟩) he.1 he.2 d
 | .seq x y,code,Q,st,ar,he=>by
  cases code<;>try(simp[hT]at ar;done)
  rename_i L M;simp only[hT,cP]at ar;intro a w ν d;refine wp_seq ?_;have J:=qv hm f x L _ st ar.1 he a w ν d;refine wp_mono J fun e br w' l=>?_;obtain⟨st',bn,g,h⟩:=l;cases e with
  |normal=>exact qv hm f y M Q st' ar.2 g br w' bn h
  |_=>exact⟨st',bn,g,h⟩
 | .cond x t e,code,Q,st,ar,he=>by
  cases code<;>try(simp[hT]at ar;done)
  rename_i o A ce;simp only[hT,cP]at ar;intro a w ν d;simp only[de]at he;have B:=e5 d ar.1.1;split at he
  ·rename_i b E;rw[E]at B;simp only[aV]at B;have F:c9 X (tY st x b) a w ν:=by
    unfold tY;split
    ·exact PS d (by simpa[cE]using E)
    ·exact d
   refine wp_cond B ?_;cases b
   ·exact qv hm f e ce Q _ ar.2 (he.2 rfl) a w ν F
   ·exact qv hm f t A Q _ ar.1.2 (he.1 rfl) a w ν F
  ·exact he.elim
 | .block id c,code,Q,st,ar,he=>by
  cases code<;>try(simp[hT]at ar;done)
  rename_i Z u;simp only[hT,cP,ey]at ar;obtain⟨rfl,ar⟩:=ar;intro a w ν d;refine wp_block ?_;refine wp_mono (qv hm f c u _ st ar he a w ν d) fun e br w' l=>?_;obtain⟨st',bn,g,h⟩:=l;cases e with
  |exit j=>
   simp only[Exit.inBlock]at g⊢;by_cases p:j=id
   ·rw[if_pos p]at g⊢;exact⟨st',bn,g,h⟩
   ·rw[if_neg p]at g⊢;exact⟨st',bn,g,h⟩
  |_=>exact⟨st',bn,g,h⟩
 | .loop c,code,Q,st,ar,he=>by
  cases code<;>try(simp[hT]at ar;done)
  rename_i u;simp only[hT]at ar;intro a w ν d;simp only[de]at he;obtain⟨R,m,G,hw,hi,O⟩:=he;refine wp_loop_ghost (fun k a w=> ∃s ν,R k s/\c9 X s a w ν) m ⟨G,_,hi,d.weaker hw⟩ ?_;intro k a w z;obtain⟨s,ν,n,r⟩:=z;have J:=O k s n (fun i=>abo (r.slot i)) (fun j cs p=>by obtain⟨bl,us,el,_,_,_,_,g5⟩:=r.good.box j cs p;exact PV g5);refine wp_mono (qv hm f c u _ s ar J a w ν r) fun e br w' l=>?_;obtain⟨st',bn,g,h⟩:=l;cases e with
  |normal=>obtain⟨bt,H,W,Y,S⟩:=g;exact⟨bt,W,H,_,S,h.weaker Y⟩
  |_=>exact⟨st',bn,g,h⟩
 | .exit id,code,Q,st,ar,he=>by
  cases code<;>try(simp[hT]at ar;done)
  rename_i Z;simp only[hT,ey]at ar;subst ar;intro a w ν d;exact wp_exit ⟨st,ν,he,d⟩
 | .ret,code,Q,st,ar,he=>by
  cases code<;>try(simp[hT]at ar;done)
  intro a w ν d;exact wp_ret ⟨st,ν,he,d⟩
 | .pub s c,code,Q,st,ar,he=>by
  simp only[hT]at ar;simp only[de]at he;split at he
  ·rename_i st' n;intro a w ν d;obtain⟨bn,J⟩:=apA d n;exact qv hm f c code Q st' ar he a w bn J
  ·exact he.elim
 | .pubB s c,code,Q,st,ar,he=>by
  simp only[hT]at ar;simp only[de]at he;split at he
  ·rename_i st' n;intro a w ν d;obtain⟨bn,J⟩:=apz d n;exact qv hm f c code Q st' ar he a w bn J
  ·exact he.elim
 | .fg qL s c,code,Q,st,ar,he=>by simp only[hT]at ar;simp only[de]at he;intro a w ν d;exact qv hm f c code Q _ ar he a w ν (Jz d (aiq (d.slot s)))
 | .fz hn s c,code,Q,st,ar,he=>by
  simp only[hT]at ar;simp only[de]at he;intro a w ν d;split at he
  ·rename_i st' dy;obtain⟨bn,J⟩:=aiD d dy;exact qv hm f c code Q st' ar he a w bn J
  ·exact he.elim
 | .no,code,Q,st,ar,he=>by simp only[de]at he
inductive bW where
 |tmp (i:Nat)
 |cell (i:Nat) (agg:Bool) (sz:Nat)
def bf(st:bp):bW->bd (Prop×af)
 | .tmp i=>some (True,get i st.t)
 | .cell i agg sz=>n3 st.b st.e agg sz (get i st.t)
def ba(st:bp):List bW->bd (Prop×List af)
 |[]=>some (True,[])
 |r::a=>match bf st r,ba st a with
  |some (c,p),some (b,d)=>some (c/\b,p::d)
  |_,_=>none
def p9(aT:List (Nat×ev)):List bW->List ResultVar->Bool
 |[],[]=>true
 | .tmp i::a,.tmp j::os=>i==j&&p9 aT a os
 | .cell i agg sz::a,.cell j t::os=>i==j&&(match eG aT t with|some f=>f.size==sz&&f.kind.isAgg==agg|none=>false)&&p9 aT a os
 |_,_=>false
def a6:List af->af
 |[p]=>p
 |a=>.tuple a
def JO(tmps:Array Value):ResultVar->Sem Value
 | .tmp t=>pure (tmps.getD t undef)
 | .cell x t=>do loadVar t (<-asAddr (tmps.getD x undef))
def abq(fn:Func)(tmps:Array Value):results fn tmps=(do let bm<-fn.results.mapM (JO tmps);pure (if h:bm.size=1 then bm[0]else .tuple bm)):=by unfold results;congr 2
def JI{P:cH}{aT:List (Nat×ev)}(y:hX P aT=true){X:fp}{st:bp}{a:Act}{w:World}{ν:bc}(g:c9 X st a w ν):
  ∀(h:List bW) (os:List ResultVar) (c:Prop) (m:List af),p9 aT h os=true->ba st h=some (c,m)->c->
  ∃bm,(os.mapM (JO a.tmps)).run P w= .ok bm w/\c7 w ν m bm
 |[],[],c,m,_,he,_=>by simp only[ba]at he;cases he;exact⟨[],Ψ,by simp[c7]⟩
 |[],_::_,_,_,ar,_,_=>by simp[p9]at ar
 | .tmp _::_,[],_,_,ar,_,_=>by simp[p9]at ar
 | .cell _ _ _::_,[],_,_,ar,_,_=>by simp[p9]at ar
 |r::h,o::os,c,m,ar,he,ax=>by
  simp only[ba]at he;split at he
  ·rename_i L p z A J U;cases he;cases r with
   |tmp i=>
    cases o with
    |cell _ _=>simp[p9]at ar
    |tmp j=>simp only[p9,cP,ey]at ar;obtain⟨rfl,ar⟩:=ar;simp only[bf]at J;cases J;obtain⟨bm,g1,g2⟩:=JI y g h os z A ar U ax.2;refine⟨a.tmps.getD i undef::bm,?_,by simp only[c7];exact⟨_,_,rfl,g.slot i,g2⟩⟩;simp only[List.mapM_cons,gx,JO,hA,gC,g1]
   |cell i agg sz=>
    cases o with
    |tmp _=>simp[p9]at ar
    |cell j t=>
     simp only[p9,cP,ey]at ar;obtain⟨⟨rfl,s⟩,ar⟩:=ar;split at s
     ·rename_i f E;simp only[cP,ey]at s;obtain⟨rfl,rfl⟩:=s;simp only[bf]at J;obtain⟨bm,g1,g2⟩:=JI y g h os z A ar U ax.2;obtain⟨v,f1,f2⟩:=IA y g.good E (g.slot i) J ax.1;have F:∃l,a.tmps.getD i undef= .pointer (some l):=by
       have d:=g.slot i;unfold n3 at J;split at J
       ·rename_i K k n H G ab;rw[ab]at d;simp only[aV]at d;obtain⟨⟨b,o,e⟩,_⟩:=d;exact⟨_,e⟩
       ·rename_i k off ab;rw[ab]at d;simp only[aV]at d;obtain⟨b,_,e⟩:=d;exact⟨_,e⟩
       ·rename_i q ab;rw[ab]at d;simp only[aV]at d;obtain⟨b,off,u,e,_⟩:=d;exact⟨_,e⟩
       ·cases J
      obtain⟨l,B⟩:=F;rw[B]at f1;simp only[Instr.loadAt,Instr.sureAddr,gx,hA,gC]at f1;refine⟨v::bm,?_,by simp only[c7];exact⟨_,_,rfl,f2,g2⟩⟩;have x:(asAddr (.pointer (some l)):Sem Addr).run P w= .ok l w:=rfl;simp only[List.mapM_cons,gx,JO,hA,gC,g1,B,x,f1]
     ·cases s
  ·cases he
def Ah{w:World}{ν:bc}:∀{a:List af} {bm:List Value},c7 w ν a bm->bm.length=a.length
 |[],bm,h=>by simp only[c7]at h;subst h;rfl
 |p::a,bm,h=>by simp only[c7]at h;obtain⟨u,b,rfl,_,U⟩:=h;simp[Ah U]
def jb:Nat->List af->List (Nat×af)
 |_,[]=>[]
 |i,p::a=>(i,p)::jb (i+1) a
def Hu:∀(a:List af) (i j:Nat),get j (jb i a)=if i<=j/\j<i+a.length then a.getD (j-i) .junk else .junk
 |[],i,j=>by simp[jb,get]
 |p::a,i,j=>by
  simp only[jb,get];by_cases h:i=j
  ·subst h;simp
  ·rw[if_neg h,Hu a (i+1) j];by_cases U:i<=j/\j<i+(p::a).length
   ·rw[if_pos U,if_pos (by simp at U⊢;omega)];have:j-i=(j-(i+1))+1:=Ω
    rw[this];simp
   ·rw[if_neg U,if_neg (by simp at U⊢;omega)]
def lV{α:Type}(a:cS):List (aB×α)->Prop
 |[]=>True
 |(k,_)::r=>aM a k/\lV a r
def xX{α:Type}{a:cS}:∀{l:List (aB×α)},lV a l->∀k,(ae k l).isSome->aM a k
 |[],_,k,h=>by simp[ae]at h
 |(i,x)::r,ab,k,h=>by
  simp only[lV]at ab;simp only[ae]at h;split at h
  ·rename_i e;subst e;exact ab.1
  ·exact xX ab.2 k h
def c5(d:List bW)(s:cS)(Q:af->cS->Prop)(e:Exit)(st:bp):Prop:=
 (e= .ret\/e= .normal)/\match ba st d with
  |some (c,b)=>c/\∃a,lV a s.b/\lV a s.e/\hz (aM a) a.b st.b/\qd (aM a) a.e st.e/\hW a/\az (aM a) (b7 (a6 b))/\Q (b7 (a6 b)) a
  |none=>er
def bG.ofW{P:cH}{aT:List (Nat×ev)}(aL:hX P aT=true){f:FuncId}{fn:Func}(aG:P.funcs[f]? =some fn){code:Code}(ag:fn.body=some code)(wh:(fn.name== "runtime.NumGoroutine")=false){ea:List bW}(iJ:p9 aT ea fn.results.toList=true)
  {args:List af} (av:args.length<=fn.ntmps) {s:cS} (kT:hW s) {Q:af->cS->Prop} (he:∀X:fp,X.N=fn.ntmps->X.ob=cJ s->(∀b o,X.ν0.A b o->b<X.w0.heap.size)->eM args->(∀j cs,ae j s.b=some cs->gY cs=true->eN cs)->Kv P X code (c5 ea s Q) ⟨jb 0 args,s.b,s.e,0,cJ s⟩):bG P f args s Q:=by
 intro w ν bm be ad aJ;refine .inl ⟨⟨fn,aG,by simp[ag],wh⟩,?_⟩;have p0:=Ah aJ;have lr:bm.size=args.length:=by simpa using p0
 let X:fp:=⟨w,ν,fC ν s,fn.ntmps,cJ s⟩
 have nU:∀k,fresh 0 (cJ s) k->ν.bx k=none/\ν.ow k=none/\∀j b,¬ν.tr k j b:=by
  intro k ab;cases k with
  |loc m=>exact⟨(ad _).1 (kT.1 m),(ad _).2.1 (kT.2 m),(ad _).2.2⟩
  |obj m=>
   simp only[fresh,true_and]at ab;refine⟨?_,?_,(ad _).2.2⟩
   ·refine(ad _).1 ?_;cases h:ae (.obj m) s.b with
    |none=>rfl
    |some x=>exact absurd (rJ (.inl (by simp[h]))) ab
   ·refine(ad _).2.1 ?_;cases h:ae (.obj m) s.e with
    |none=>rfl
    |some x=>exact absurd (rJ (.inr (by simp[h]))) ab
 have ja:∀m,(ν.bx (.obj m)≠none\/ν.ow (.obj m)≠none)-> .obj m∈cJ s:=by
  intro m hm;refine Classical.byContradiction fun ax=>?_;obtain⟨J,U,_⟩:=nU (.obj m) ⟨trivial,ax⟩;rcases hm with hm|hm
  ·exact hm J
  ·exact hm U
 have pY:c9 X ⟨jb 0 args,s.b,s.e,0,cJ s⟩ {tmps:=bm++Array.replicate (fn.ntmps-bm.size) undef,defers:=[]} w ν:=by
  refine⟨⟨be.alt,fun k cs ab=>?_,be.inj,fun g o fv=>?_,be.oinj,be.obx,be.one,be.otr⟩,⟨rfl,rfl,rfl,dP _,fun _ _ _=>rfl,fun b o h=>⟨h,rfl⟩,fun b o h=>.inl h,fun n b h=>h,fun n b h=>ja n (.inl (by rw[h];simp)),fun m n u h=>⟨n,u,h,.inl ⟨rfl,rfl⟩⟩,fun m n u h=>ja m (.inr (by rw[h];simp)),fun k j _ _ b h=>absurd h ((ad k).2.2 j b),fun k j b h=>absurd h ((ad k).2.2 j b),fun k j b h=>absurd h ((ad k).2.2 j b),fun _ _ _=>rfl⟩,rfl,?_,fun i=>?_,nU⟩
  ·obtain⟨bl,us,el,g1,g2,g3⟩:=be.box k cs ab;exact⟨bl,us,el,g1,.inl g2,g3⟩
  ·obtain⟨v,us,g1,g2,g3,g4⟩:=be.own g o fv;exact⟨v,us,g1,g2,fun bl gg=>⟨.inl (g3 bl gg).1,(g3 bl gg).2⟩,g4⟩
  ·show(bm++Array.replicate (fn.ntmps-bm.size) undef).size=fn.ntmps;simp;omega
  ·rw[Hu];by_cases hi:i<args.length
   ·rw[if_pos Ω];have ss:args[i]? =some args[i]:=cl hi;obtain⟨v,ao,aC⟩:=Fy i aJ ss;have aN:(bm++Array.replicate (fn.ntmps-bm.size) undef).getD i undef=v:=by
     have o5:bm[i]? =some v:=by simpa using ao
     rw[Array.getD_eq_getD_getElem?,Array.getElem?_append_left Ω,o5];rfl
    show aV w ν _ ((bm++Array.replicate (fn.ntmps-bm.size) undef).getD i undef);rw[aN];simpa[List.getD,ss]using aC
   ·rw[if_neg Ω];simp[aV]
 have Nz:=he X rfl rfl be.alt (PZ aJ) (fun j cs ah=>by obtain⟨bl,us,el,_,_,_,_,g5⟩:=be.box j cs ah;exact PV g5) _ w ν pY;refine calls_of_wp aG ag (wp_mono Nz fun e br w' cL=>?_);obtain⟨st',bn,⟨rl,bK⟩,dd⟩:=cL;cases qE:ba st' ea with
 |none=>simp[qE]at bK
 |some x=>
  obtain⟨cC,bT⟩:=x;simp only[qE]at bK;obtain⟨h5,ak,kb,ke,a7,bB,bX,dq,dK⟩:=bK;obtain⟨oP,g1,g2⟩:=JI aL dd ea fn.results.toList cC bT iJ qE h5;have Nj:=Ah g2;have ee:br.defers=[]/\∃v,(results fn br.tmps).run P w'= .ok v w'/\(fun(e:Ending) w'=> ∃v r ak bn,e= .returned v/\Q r ak/\aV w' bn r v/\Good (fun bl=>fC ν s bl\/w.heap.size<=bl) w' bn ak.b ak.e/\pQ bn ak/\hW ak/\pD ⟨w,ν,fC ν s,0,cJ s⟩ w' bn) (.returned v) w':=by
   refine⟨dd.defers,?_⟩;have jK:(results fn br.tmps).run P w'= .ok (if h:oP.toArray.size=1 then oP.toArray[0]else .tuple oP.toArray) w':=by rw[abq];simp only[gx,Array.mapM_eq_mapM_toList,Sem.run_map,g1,gC,hA]
   refine⟨_,jK,_,b7 (a6 bT),ak,bn.cut (aM ak),rfl,dK,?_,dd.good.cut a7 bB (fun bl h _=>h),?_,bX,?_⟩
   ·have nW:aV w' bn (a6 bT) (if h:oP.toArray.size=1 then oP.toArray[0]else .tuple oP.toArray):=by
     match bT,oP,g2,Nj with
     |[p],[v],g2,_=>simp only[c7]at g2;obtain⟨u,b2,ao,aC,_⟩:=g2;cases ao;simpa[a6]using aC
     |[],[],g2,_=>simp[a6,aV,c7]
     |p::dD::bT,v::v2::oP,g2,_=>rw[dif_neg Ψ];simp only[a6,aV];exact⟨_,rfl,by simpa using g2⟩
     |[_],[],_,h=>simp at h
     |[],_::_,_,h=>simp at h
     |[_],_::_::_,_,h=>simp at h
     |_::_::_,[],_,h=>simp at h
     |_::_::_,[_],_,h=>simp at h
    exact vi (oi.cut _ w' bn) _ _ dq (ym _ _ nW)
   ·intro k;refine⟨?_,?_,?_⟩;rotate_left 2
    ·rintro j b ⟨ai,ag⟩;obtain⟨t1,t2⟩:=dd.fr.trn k j b ag;rcases ai with ai|ai<;>obtain⟨x,jh⟩:=fx.1 ai
     ·obtain⟨bl,b2,el,ao,_⟩:=dd.good.box k x (a7 k x jh).1;rw[t1]at ao;cases ao
     ·obtain⟨v',b2,ao,_⟩:=dd.good.own k x (bB k x jh).1;rw[t2]at ao;cases ao
    ·intro ab;by_cases ai:aM ak k
     ·rw[bc.cut_bx ai];rcases ai with ai|ai
      ·rw[ab]at ai;cases ai
      ·obtain⟨x,jh⟩:=fx.1 ai;obtain⟨v',b2,ao,_⟩:=dd.good.own k x (bB k x jh).1;rcases dd.good.one k with J|J
       ·exact J
       ·rw[J]at ao;cases ao
     ·exact(bc.cut_no ai).1
    ·intro ab;by_cases ai:aM ak k
     ·rw[bc.cut_ow ai];rcases ai with ai|ai
      ·obtain⟨x,jh⟩:=fx.1 ai;obtain⟨bl,b2,el,ao,_⟩:=dd.good.box k x (a7 k x jh).1;rcases dd.good.one k with J|J
       ·rw[J]at ao;cases ao
       ·exact J
      ·rw[ab]at ai;cases ai
     ·exact(bc.cut_no ai).2.1
   ·refine⟨dd.fr.os,dd.fr.tape,dd.fr.output,dd.fr.size,dd.fr.block,dd.fr.keep,dd.fr.fresh,fun n b h=>?_,fun n b h=>ja n (.inl (by rw[h];simp)),fun m n u h=>?_,fun m n u h=>ja m (.inr (by rw[h];simp)),fun k j bt dg b J U=>dd.fr.trd k j bt dg b J.2 U.2,fun k j b ag=>dd.fr.trb k j b ag.2,fun k j b ag=>(by rw[bc.cut_bx ag.1,bc.cut_ow ag.1];exact dd.fr.trn k j b ag.2),dd.fr.sh⟩
    ·have ai:aM ak (.obj n):=by
      cases av:ae (.obj n) s.b with
      |none=>rw[(ad _).1 av]at h;cases h
      |some x=>exact xX kb _ (by simp[av])
     rw[bc.cut_bx ai];exact dd.fr.obj n b h
    ·have ai:aM ak (.obj m):=by
      cases av:ae (.obj m) s.e with
      |none=>rw[(ad _).2.1 av]at h;cases h
      |some x=>exact xX ke _ (by simp[av])
     rw[bc.cut_ow ai];exact dd.fr.row m n u h
  rcases rl with rfl|rfl<;>exact ee
def bG.of{P:cH}(hm:P.follows .mixedOrders=true){aT:List (Nat×ev)}(aL:hX P aT=true){f:FuncId}{fn:Func}(aG:P.funcs[f]? =some fn){code:Code}(ag:fn.body=some code)(wh:(fn.name== "runtime.NumGoroutine")=false){c:C}(ax:hT fn.ntmps aT c code=true){ea:List bW}(iJ:p9 aT ea fn.results.toList=true)
  {args:List af} (av:args.length<=fn.ntmps) {s:cS} (kT:hW s) {Q:af->cS->Prop} (he:eM args->(∀j cs,ae j s.b=some cs->gY cs=true->eN cs)->de P (cJ s) c (c5 ea s Q) ⟨jb 0 args,s.b,s.e,0,cJ s⟩):bG P f args s Q:=
 bG.ofW aL aG ag wh iJ av kT fun X ni rr _ J U=>qv hm aL c code _ _ (by rw[ni];exact ax) (by rw[rr];exact he J U)
def b3(aT:List (Nat×ev))(c:C)(ea:List bW)(OJ:Nat)(fn:Func):Bool:=
 match fn.body with
 |some code=>hT fn.ntmps aT c code&&p9 aT ea fn.results.toList&& !(fn.name== "runtime.NumGoroutine")&&decide (OJ<=fn.ntmps)
 |none=>false
def bG.mk{P:cH}(hm:P.follows .mixedOrders=true){aT:List (Nat×ev)}(k:hX P aT=true){f:FuncId}{fn:Func}(l:P.funcs[f]? =some fn){c:C}{b:List bW}{n:Nat}(a:b3 aT c b n fn=true)
  {args:List af} (e:args.length<=n) {s:cS} (d:hW s) {Q:af->cS->Prop} (he:eM args->(∀j cs,ae j s.b=some cs->gY cs=true->eN cs)->de P (cJ s) c (c5 b s Q) ⟨jb 0 args,s.b,s.e,0,cJ s⟩):bG P f args s Q:=by
 unfold b3 at a;split at a
 ·rename_i code h;simp only[cP,sS,gy]at a;obtain⟨⟨⟨J,U⟩,g⟩,i⟩:=a;exact bG.of hm k l h g J U (kC e i) d he
 ·cases a
def sE:hW ⟨[],[]⟩:=⟨fun _=>rfl,fun _=>rfl⟩
def bZ(a:List bW)(r:af)(e:Exit)(st:bp):Prop:=
 (e= .ret\/e= .normal)/\match ba st a with
  |some (c,b)=>c/\b7 (a6 b)=r
  |none=>er
def Rj{a:List bW}{r:af}(f:az (fun _=>er) r):bZ a r=c5 a ⟨[],[]⟩ (fun d b=>d=r/\b=⟨[],[]⟩):=by
 funext e st;unfold bZ c5;apply propext;refine and_congr_right fun _=>?_;cases ba st a with
 |none=>exact Iff.rfl
 |some x=>
  obtain⟨c,g⟩:=x;refine and_congr_right fun _=>?_;constructor
  ·intro h;refine⟨⟨[],[]⟩,trivial,trivial,fun k cs ab=>by simp[ae]at ab,fun k cs ab=>by simp[ae]at ab,sE,?_,h,rfl⟩;rw[h];exact tJ (fun k ab=>ab.elim) r f
  ·rintro⟨b,_,_,_,_,_,_,h,_⟩;exact h
def bU.mk{P:cH}(hm:P.follows .mixedOrders=true){aT:List (Nat×ev)}(e:hX P aT=true){f:FuncId}{fn:Func}(h:P.funcs[f]? =some fn){c:C}{a:List bW}{n:Nat}(b:b3 aT c a n fn=true)
  {args:List af} (d:args.length<=n) {r:af} (g:az (fun _=>er) r) (he:eM args->de P [] c (bZ a r) ⟨jb 0 args,[],[],0,[]⟩):bU P f args r:=by
 refine bG.mk hm e h b d sE fun J _=>?_;rw[<-Rj g];exact he J
def C5{α:Type}{β:Type}:∀l:List (aB×α),cK ([]:List (aB×β)) l=l
 |[]=>rfl
 |(k,x)::r=>by simp[cK,ae,C5 r]
def CallDo.val{P:cH}{n:Nat}{args:List af}{st:bp}{d:bd Nat}{K:bp->Prop}{r:af}(ab:aH (fun _=>er) args)(b:bU P n args r)(h:K {st with t:=e7 d r st.t}):CallDo P n args st d K:=by
 refine .inl ⟨⟨[],[]⟩,_,fun k cs ab=>by simp[ae]at ab,fun k cs ab=>by simp[ae]at ab,sE,ji (fun _ h=>h.elim) _ ab,b,?_⟩;rintro a c ⟨rfl,rfl⟩;refine⟨⟨fun m h=>by simp[ae]at h,fun m h=>by simp[ae]at h⟩,?_⟩;have:after st ⟨[],[]⟩ ⟨[],[]⟩ d a={st with t:=e7 d a st.t}:=by simp[after,C5,cJ]
 rw[this];exact h
@[reducible,simp] def gT(n:Int):dQ:= .c (.int .i64 n)
@[reducible,simp] def I(a b:Nat):du:=⟨none,.s (.v a (.mov (.t b)))⟩
@[reducible,simp] def cd(a:Nat)(i:gP):du:=⟨none,.s (.v a i)⟩
@[reducible,simp] def dt(i:eY):du:=⟨none,.s i⟩
@[reducible,simp] def dS(a f:Nat)(l:List dQ):du:=⟨none,.call (some a) (.c (.func f [])) l⟩
@[reducible,simp] def cg(j:Nat)(w:Bool)(a b:Nat):du:=⟨some (j,w),.s (.v a (.mov (.t b)))⟩
@[reducible,simp] def yE(j:Nat)(w:Bool)(a:Nat)(i:gP):du:=⟨some (j,w),.s (.v a i)⟩
@[reducible,simp] def ys(j:Nat)(w:Bool)(i:eY):du:=⟨some (j,w),.s i⟩
@[reducible,simp] def ck(d s a b:Nat):du:=cd d (.iaddr s (.t a) (.t b))
@[reducible,simp] def ay(d s a:Nat):du:=cd d (.load false s (.t a))
@[reducible,simp] def bg(d s a:Nat):du:=cd d (.load true s (.t a))
@[reducible,simp] def aF(d o s a:Nat):du:=cd d (.faddr o false s (.t a))
@[reducible,simp] def hq(d o s a:Nat):du:=cd d (.faddr o true s (.t a))
@[reducible,simp] def bu(d:Nat)(o:BinOp)(a b:Nat):du:=cd d (.bin o false (.t a) (.t b))
@[reducible,simp] def aU(d:Nat)(o:BinOp)(a:Nat)(n:Int):du:=cd d (.bin o false (.t a) (gT n))
@[reducible,simp] def cw(d a:Nat):du:=cd d (.len (.t a))
@[reducible,simp] def cM(d a:Nat):du:=cd d (.notB (.t a))
@[reducible,simp] def cX(d i a:Nat):du:=cd d (.ext i (.t a))
@[reducible,simp] def dr(d a b:Nat):du:=cd d (.pick (.t a) (.c (.bool true)) (.t b))
@[reducible,simp] def ei(d a b:Nat):du:=cd d (.pick (.t a) (.t b) (.c (.bool false)))
@[reducible,simp] def bz(d:Nat)(b:Bool):du:=cd d (.mov (.c (.bool b)))
@[reducible,simp] def bP(d:Nat)(n:Int):du:=cd d (.mov (gT n))
@[reducible,simp] def bV(s a b:Nat):du:=dt (.store s (.t a) (.t b))
@[reducible,simp] def aw(j:Nat)(w:Bool)(x:du):du:=⟨some (j,w),x.i⟩
@[reducible,simp] def aa(l:List du)(c:C):C:= .seq (.region l) c
@[reducible,simp] def aW(n:Nat)(a b:C):C:= .cond (.t n) a b
@[reducible,simp] def hG(d a:Nat)(l:List dQ):du:=⟨none,.call (some d) (.t a) l⟩
@[reducible,simp] def cT(d f a:Nat):du:=dS d f [.t a]
@[reducible,simp] def b8(d f a b:Nat):du:=dS d f [.t a,.t b]
@[reducible,simp] def ez:List af:=[.int .i64 0,.int .i64 0,.str [],.slice 4 .nil []]
@[reducible,simp] def ks:List af:=[.int .i64 0,.int .i64 0,.int .i64 0,.str [],.slice 4 .nil []]
@[reducible,simp] def im:List af:=[.int .i64 0,.slice 5 .nil [],.slice 1 .nil [],.slice 2 .nil [],.slice 2 .nil []]
@[reducible,simp] def cW(a b:Nat):du:=dt (.box a none (.t b))
@[reducible,simp] def dG(a:Nat)(l:List af):du:=dt (.alloc a none (.agg l))
@[reducible,simp] def fo(a n:Nat):du:=cd a (.mov (.c (.slice n .nil [])))
@[reducible,simp] def h0(a b c d e:Nat):du:=dt (.app a b c (.t d) (.t e))
@[reducible,simp] def e1(a b c:Nat)(l:List dQ):du:=dt (.bsl a b c l)
@[reducible,simp] def gv(a b:Nat):du:=cd a (.nck (.t b))
@[reducible,simp] def kA(d s a:Nat)(n:Int):du:=cd d (.iaddr s (.t a) (gT n))
@[reducible,simp] def jy(d:Nat)(l:List af)(m:List (Nat×Nat×dQ)):du:=cd d (.build l m)
@[reducible,simp] def gw(a b c:Nat)(x:C):C:= .block 0 (.loop (aa [bu a .lss b c] (.seq (aW a .skip (.exit 0)) x)))
@[reducible,simp,match_pattern] def aj(n:Int):af:= .int .i64 n
@[reducible,simp,match_pattern] def cZ(l:List af):af:= .slice 1 .no l
@[reducible,simp,match_pattern] def b6(l:List af):af:= .slice 2 .no l
@[reducible,simp,match_pattern] def dx(l:List af):af:= .slice 4 .no l
@[reducible,simp,match_pattern] def bL(l:List af):af:= .slice 5 .no l
def QD:List cU:=[0,1,2,2,3,3,3,3,4,4,4,4,4,4,4,4,5,5,5,5,5,5,5,5,5,5,5,5,5,5,5,5,6,6,6,6,6,6,6,6,6,6,6,6,6,6,6,6,6,6,6,6,6,6,6,6,6,6,6,6,6,6,6,6,7,7,7,7,7,7,7,7,7,7,7,7,7,7,7,7,7,7,7,7,7,7,7,7,7,7,7,7,7,7,7,7,7,7,7,7,7,7,7,7,7,7,7,7,7,7,7,7,7,7,7,7,7,7,7,7,7,7,7,7,7,7,7,7,8,8,8,8,8,8,8,8,8,8,8,8,8,8,8,8,8,8,8,8,8,8,8,8,8,8,8,8,8,8,8,8,8,8,8,8,8,8,8,8,8,8,8,8,8,8,8,8,8,8,8,8,8,8,8,8,8,8,8,8,8,8,8,8,8,8,8,8,8,8,8,8,8,8,8,8,8,8,8,8,8,8,8,8,8,8,8,8,8,8,8,8,8,8,8,8,8,8,8,8,8,8,8,8,8,8,8,8,8,8,8,8,8,8,8,8,8,8,8,8,8,8,8,8,8,8,8,8]
end
section
open Go Go.RowKit
def eW{α:Type}{l:List α}{i:Nat}(h:i<l.length):∃b,l[i]? =some b/\∀h,(l[i]'h)=b:=⟨l[i],cl h,fun _=>rfl⟩
def P9(st:bp)(i:eY):Prop:=match nD st i with|some (c,_)=>c|none=>er
def Qa(st:bp)(i:eY):bp:=match nD st i with|some (_,s)=>s|none=>st
def Gj(P:cH)(r:List du)(K:bp->Prop)(st:bp):Prop:=iY P r st K
def AK(P:cH)(ob:List aB)(c:C)(Q:Exit->bp->Prop)(st:bp):Prop:=de P ob c Q st
def rh(P:cH)(v:af)(s:Nat)(w:Bool)(i:eU)(r:List du)(st:bp)(K:bp->Prop):Prop:=
 match v with
 | .bool b=>(b=w->iY P (⟨none,i⟩::r) {st with t:=put s (.bool w) st.t} K)/\(b= !w->iY P r {st with t:=e7 i.dst (.tuple []) (put s (.bool !w) st.t)} K)
 | .tuple []=>iY P r {st with t:=e7 i.dst (.tuple []) st.t} K
 |_=>er
def vS(P:cH)(ob:List aB)(v:af)(x:dQ)(t e:C)(Q:Exit->bp->Prop)(st:bp):Prop:=
 match v with
 | .bool b=>(b=true->de P ob t Q (tY st x true))/\(b=false->de P ob e Q (tY st x false))
 |_=>er
def L0(P:cH)(v:af)(d:bd Nat)(xs:List af)(r:List du)(st:bp)(K:bp->Prop):Prop:=
 match v with
 | .func n dI=>CallDo P n (cf (xs++dI)) st d (Gj P r K)
 |_=>er
section
variable {P:cH} {ob:List aB} {st:bp} {K:bp->Prop} {r:List du} {Q:Exit->bp->Prop} {a b c t e:C}
def agh:iY P [] st K=K st:=rfl
def agi{i:eY}:iY P (⟨none,.s i⟩::r) st K=(P9 st i/\iY P r (Qa st i) K):=by
 simp only[iY,vR,P9,Qa];cases nD st i with
 |none=>simp
 |some x=>rfl
def agd{d:bd Nat}{f:dQ}{xs:List dQ}:iY P (⟨none,.call d f xs⟩::r) st K=L0 P (cE st.t f) d (xs.map (cE st.t)) r st K:=by simp only[iY,vR,L0];rfl
def agf{d:Nat}{x:dQ}:iY P (⟨none,.next d x⟩::r) st K=uH st d (cE st.t x) (Gj P r K):=by simp only[iY,vR];rfl
def yL(P:cH)(ob:List aB)(c:C)(Q:Exit->bp->Prop):bd bp->Prop
 |some st=>de P ob c Q st
 |none=>er
def adD:yL P ob c Q (some st)=de P ob c Q st:=rfl
def afR{s:Nat}:de P ob (.pub s c) Q st=yL P ob c Q (yg st s):=by simp only[de];cases yg st s<;>rfl
def afN{a:Bool}{s:Nat}:de P ob (.fg a s c) Q st=de P ob c Q {st with t:=put s (Bg a (get s st.t)) st.t}:=rfl
def afO{a:Bool}{s:Nat}{d:C}:de P ob (.seq (.fg a s c) d) Q st=de P ob (.seq c d) Q {st with t:=put s (Bg a (get s st.t)) st.t}:=rfl
def afP{a:Bool}{s:Nat}:de P ob (.fz a s c) Q st=yL P ob c Q (xl st a s):=by simp only[de];cases xl st a s<;>rfl
def afQ{a:Bool}{s:Nat}{d:C}:de P ob (.seq (.fz a s c) d) Q st=yL P ob (.seq c d) Q (xl st a s):=by simp only[de];cases xl st a s<;>rfl
def afS{s:Nat}:de P ob (.pubB s c) Q st=yL P ob c Q (yf st s):=by simp only[de];cases yf st s<;>rfl
def agc{n:Nat}{dI:List af}{d:bd Nat}{xs:List af}:L0 P (.func n dI) d xs r st K=CallDo P n (cf (xs++dI)) st d (Gj P r K):=rfl
def age{s:Nat}{w:Bool}{i:eU}:iY P (⟨some (s,w),i⟩::r) st K=rh P (get s st.t) s w i r st K:=by simp only[iY,rh];try rfl
def agn{s:Nat}{i:eU}:rh P (.bool true) s true i r st K=iY P (⟨none,i⟩::r) {st with t:=put s (.bool true) st.t} K:=by simp[rh]
def agj{s:Nat}{i:eU}:rh P (.bool false) s false i r st K=iY P (⟨none,i⟩::r) {st with t:=put s (.bool false) st.t} K:=by simp[rh]
def agm{s:Nat}{i:eU}:rh P (.bool true) s false i r st K=iY P r {st with t:=e7 i.dst (.tuple []) (put s (.bool true) st.t)} K:=by simp[rh]
def agk{s:Nat}{i:eU}:rh P (.bool false) s true i r st K=iY P r {st with t:=e7 i.dst (.tuple []) (put s (.bool false) st.t)} K:=by simp[rh]
def agl{s:Nat}{w:Bool}{i:eU}:rh P (.tuple []) s w i r st K=iY P r {st with t:=e7 i.dst (.tuple []) st.t} K:=by simp[rh]
def cz{x:Bool}{s:Nat}{w:Bool}{i:eU}(J:x=w->iY P (⟨none,i⟩::r) {st with t:=put s (.bool w) st.t} K)(U:x= !w->iY P r {st with t:=e7 i.dst (.tuple []) (put s (.bool !w) st.t)} K):rh P (.bool x) s w i r st K:=⟨J,U⟩
def afC:de P ob (.seq (.seq a b) c) Q st=de P ob (.seq a (.seq b c)) Q st:=by simp only[de];congr 1;funext e st';cases e<;>rfl
def afX:de P ob (.seq .skip c) Q st=de P ob c Q st:=rfl
def afV:de P ob (.seq .ret c) Q st=Q .ret st:=rfl
def afL{n:Nat}:de P ob (.seq (.exit n) c) Q st=Q (.exit n) st:=rfl
def afY:de P ob .skip Q st=Q .normal st:=rfl
def afW:de P ob .ret Q st=Q .ret st:=rfl
def afM{n:Nat}:de P ob (.exit n) Q st=Q (.exit n) st:=rfl
def afT{gs:List du}:de P ob (.seq (.region gs) c) Q st=iY P gs st (AK P ob c Q):=rfl
def afU{gs:List du}:de P ob (.region gs) Q st=iY P gs st (Q .normal):=rfl
def afF{x:dQ}:de P ob (.seq (.cond x t e) c) Q st=vS P ob (cE st.t x) x (.seq t c) (.seq e c) Q st:=by simp only[de,vS];try rfl
def afG{x:dQ}:de P ob (.cond x t e) Q st=vS P ob (cE st.t x) x t e Q st:=by simp only[de,vS];try rfl
def af0{x:dQ}:vS P ob (.bool true) x t e Q st=de P ob t Q (tY st x true):=by simp[vS]
def afZ{x:dQ}:vS P ob (.bool false) x t e Q st=de P ob e Q (tY st x false):=by simp[vS]
def ct{v:Bool}{x:dQ}(J:v=true->de P ob t Q (tY st x true))(U:v=false->de P ob e Q (tY st x false)):vS P ob (.bool v) x t e Q st:=⟨J,U⟩
def AF(P:cH)(ob:List aB)(id:Nat)(c:C)(Q:Exit->bp->Prop)(e:Exit)(st:bp):Prop:=
 match e with
 | .normal=>de P ob c Q st
 | .exit j=>if j=id then de P ob c Q st else Q (.exit j) st
 |e=>Q e st
def afD{id:Nat}:de P ob (.seq (.block id a) c) Q st=de P ob a (AF P ob id c Q) st:=by
 simp only[de];congr 1;funext e st';cases e with
 |exit j=>rfl
 |_=>rfl
def afE{id:Nat}:de P ob (.block id a) Q st=de P ob a (AF P ob id .skip Q) st:=by
 simp only[de];congr 1;funext e st';cases e with
 |exit j=>simp only[AF];by_cases b:j=id<;>simp[b,de]
 |_=>rfl
def ads{id:Nat}:AF P ob id c Q .normal st=AK P ob c Q st:=rfl
def adr{id j:Nat}:AF P ob id c Q (.exit j) st=if j=id then AK P ob c Q st else Q (.exit j) st:=rfl
def adt{id:Nat}:AF P ob id c Q .ret st=Q .ret st:=rfl
def bY(ob:List aB)(b:Nat->bp->Prop)(k:Nat)(Q:Exit->bp->Prop)(e:Exit)(st:bp):Prop:=
 match e with
 | .normal=> ∃bt a,bt<k/\gn ob st a/\b bt a
 |e=>Q e st
def Ge{b:Nat->bp->Prop}{k:Nat}:bY ob b k Q .normal st= ∃bt a,bt<k/\gn ob st a/\b bt a:=rfl
def ady{a:Nat->bp->Prop}{k n:Nat}:bY ob a k Q (.exit n) st=Q (.exit n) st:=rfl
def adz{a:Nat->bp->Prop}{k:Nat}:bY ob a k Q .ret st=Q .ret st:=rfl
def qu(b:Nat->bp->Prop)(m:Nat)(c:bp)(hw:gn ob st c)(l:b m c)(h:∀k s,b k s->(∀i,eV (get i s.t))->(∀j cs,ae j s.b=some cs->gY cs=true->eN cs)->de P ob a (bY ob b k Q) s):de P ob (.loop a) Q st:=by
 simp only[de];refine⟨b,m,c,hw,l,fun k s J U n=>?_⟩;have:=h k s J U n;have g:(bY ob b k Q)=(fun e d=>match e with| .normal=> ∃bt f,bt<k/\gn ob d f/\b bt f|e=>Q e d):=by funext e d;cases e<;>rfl
 rw[g]at this;exact this
end
/-Regions cR draw j9 order. -/
def P7(n0:Nat)(st:bp)(i:eY):Prop:=match fl (qq n0 i) st.n (qq n0 i::st.o) st i with|some (c,_)=>c|none=>er
def P8(n0:Nat)(st:bp)(i:eY):bp:=match fl (qq n0 i) st.n (qq n0 i::st.o) st i with|some (_,s)=>s|none=>st
def Kx(P:cH)(q:Bool)(nw:List Nat)(n0:Nat)(r:List du)(K:bp->Prop)(st:bp):Prop:=iP P q nw n0 r st K
def rf(P:cH)(q:Bool)(nw:List Nat)(n0:Nat)(v:af)(s:Nat)(w:Bool)(i:eU)(r:List du)(st:bp)(K:bp->Prop):Prop:=
 match v with
 | .bool b=>(b=w->iP P q nw n0 (⟨none,i⟩::r) {st with t:=put s (.bool w) st.t} K)/\(b= !w->iP P q nw n0 r {st with t:=e7 i.dst (.tuple []) (put s (.bool !w) st.t)} K)
 | .tuple []=>iP P q nw n0 r {st with t:=e7 i.dst (.tuple []) st.t} K
 |_=>er
def LZ(P:cH)(q:Bool)(nw:List Nat)(n0:Nat)(v:af)(d:bd Nat)(xs:List af)(r:List du)(st:bp)(K:bp->Prop):Prop:=
 match v with
 | .func n dI=>hH P q nw n (cf (xs++dI)) st d (Kx P q nw n0 r K)
 |_=>er
section
variable {P:cH} {ob:List aB} {st:bp} {K:bp->Prop} {r:List du} {Q:Exit->bp->Prop} {c:C} {q:Bool} {nw:List Nat} {n0 N:Nat}
def af4:iP P q nw n0 [] st K=K st:=rfl
def af5{i:eY}:iP P q nw n0 (⟨none,.s i⟩::r) st K=(nh q nw n0 st i/\P7 n0 st i/\iP P q nw n0 r (P8 n0 st i) K):=by
 simp only[iP,k9,P7,P8];cases fl (qq n0 i) st.n (qq n0 i::st.o) st i with
 |none=>simp
 |some x=>rfl
def af2{d:bd Nat}{f:dQ}{xs:List dQ}:iP P q nw n0 (⟨none,.call d f xs⟩::r) st K=LZ P q nw n0 (cE st.t f) d (xs.map (cE st.t)) r st K:=by simp only[iP,k9,LZ];rfl
def af1{n:Nat}{dI:List af}{d:bd Nat}{xs:List af}:LZ P q nw n0 (.func n dI) d xs r st K=hH P q nw n (cf (xs++dI)) st d (Kx P q nw n0 r K):=rfl
def af3{s:Nat}{w:Bool}{i:eU}:iP P q nw n0 (⟨some (s,w),i⟩::r) st K=rf P q nw n0 (get s st.t) s w i r st K:=by simp only[iP,rf];try rfl
def aga{s:Nat}{i:eU}:rf P q nw n0 (.bool true) s true i r st K=iP P q nw n0 (⟨none,i⟩::r) {st with t:=put s (.bool true) st.t} K:=by simp[rf]
def af6{s:Nat}{i:eU}:rf P q nw n0 (.bool false) s false i r st K=iP P q nw n0 (⟨none,i⟩::r) {st with t:=put s (.bool false) st.t} K:=by simp[rf]
def af9{s:Nat}{i:eU}:rf P q nw n0 (.bool true) s false i r st K=iP P q nw n0 r {st with t:=e7 i.dst (.tuple []) (put s (.bool true) st.t)} K:=by simp[rf]
def af7{s:Nat}{i:eU}:rf P q nw n0 (.bool false) s true i r st K=iP P q nw n0 r {st with t:=e7 i.dst (.tuple []) (put s (.bool false) st.t)} K:=by simp[rf]
def af8{s:Nat}{w:Bool}{i:eU}:rf P q nw n0 (.tuple []) s w i r st K=iP P q nw n0 r {st with t:=e7 i.dst (.tuple []) st.t} K:=by simp[rf]
def cy{x:Bool}{s:Nat}{w:Bool}{i:eU}(J:x=w->iP P q nw n0 (⟨none,i⟩::r) {st with t:=put s (.bool w) st.t} K)(U:x= !w->iP P q nw n0 r {st with t:=e7 i.dst (.tuple []) (put s (.bool !w) st.t)} K):rf P q nw n0 (.bool x) s w i r st K:=⟨J,U⟩
def afH{gs:List du}:de P ob (.seq (.drawn q N gs) c) Q st=iP P q [] st.n gs st (vz (st.n+N) st.o (AK P ob c Q)):=rfl
def afI{gs:List du}:de P ob (.drawn q N gs) Q st=iP P q [] st.n gs st (vz (st.n+N) st.o (Q .normal)):=rfl
def afJ{gs:List du}:de P ob (.seq (.drawnW nw N gs) c) Q st=((∀j∈nw,.obj j∉st.o)/\iP P false nw st.n gs st (vz (st.n+N) (nw.map aB.obj++st.o) (AK P ob c Q))):=rfl
def afK{gs:List du}:de P ob (.drawnW nw N gs) Q st=((∀j∈nw,.obj j∉st.o)/\iP P false nw st.n gs st (vz (st.n+N) (nw.map aB.obj++st.o) (Q .normal))):=rfl
def hH.val{n:Nat}{args:List af}{d:bd Nat}{r:af}(ab:aH (fun _=>er) args)(a:bU P n args r)(h:K {st with t:=e7 d r st.t}):hH P q nw n args st d K:=by
 refine .inr ⟨⟨[],[]⟩,⟨[],[]⟩,r,none,fun k cs ab=>by simp[ae]at ab,fun k cs ab=>by simp[ae]at ab,sE,sE,⟨fun k h=>.inl h,fun k h=>.inl h,fun k h=>h,fun k h=>h,fun k h=>by cases h⟩,ji (fun _ h=>h.elim) _ ab,a,fun _=>⟨rfl,rfl⟩,?_⟩;have:({after st ⟨[],[]⟩ ⟨[],[]⟩ d r with o:=st.o}:bp)={st with t:=e7 d r st.t}:=by simp[after,C5]
 rw[this];exact h
def aP{n:Nat}{args:List af}{d:bd Nat}{r:af}(a:bU P n args r)(h:K {st with t:=e7 d r st.t})(ab:aH (fun _=>er) args:=by simp):hH P q nw n args st d K:=hH.val ab a h
end
section
variable {k:IntKind} {n:Int} {b:Bool} {s:List cU} {sz:Nat} {tag:jE} {xs:List af} {key:aB} {off f:Nat} {x:af}
@[simp]def axw:eT (.int k n)=true:=rfl
@[simp]def axj:eT (.bool b)=true:=rfl
@[simp]def axF:eT (.str s)=true:=rfl
@[simp]def axE:eT (.slice sz tag xs)=true:=rfl
@[simp]def axf:eT (.agg xs)=true:=rfl
@[simp]def axC:eT (.ptr key off)=true:=rfl
@[simp]def axs:eT (.eptr x)=true:=rfl
@[simp]def axv{t:Nat}:eT (.iface t x)=true:=rfl
@[simp]def aub{t:Nat}:cells (.iface t x)=[.iface t x]:=rfl
@[simp]def axl{a:bd Addr}{n c:Nat}:eT (.cst (.slice a n c))=true:=rfl
@[simp]def axm{s}:eT (.cst (.string s))=true:=rfl
@[simp]def axB:eT .nilp=true:=rfl
@[simp]def axt:eT (.func f xs)=true:=rfl
@[simp]def axu:eT (.gmap key)=true:=rfl
@[simp]def axD{n:Nat}:eT (.row sz key n)=true:=rfl
@[simp]def auk{n:Nat}:cells (.row sz key n)=[.row sz key n]:=rfl
@[simp]def auc:cells (.int k n)=[.int k n]:=rfl
@[simp]def at1:cells (.bool b)=[.bool b]:=rfl
@[simp]def aum:cells (.str s)=[.str s]:=rfl
@[simp]def aul:cells (.slice sz tag xs)=[.slice sz tag xs]:=rfl
@[simp]def atX:cells (.agg xs)=xs:=rfl
@[simp]def auj:cells (.ptr key off)=[.ptr key off]:=rfl
@[simp]def at8:cells (.eptr x)=[.eptr x]:=rfl
@[simp]def aui:cells .nilp=[.nilp]:=rfl
@[simp]def at9:cells (.func f xs)=[.func f xs]:=rfl
@[simp]def aua:cells (.gmap key)=[.gmap key]:=rfl
end
section
variable {b:List (aB×List af)} {e:List (aB×dW)} {agg:Bool} {sz off:Nat} {k:aB} {p:af} {cs xs bm:List af} {gk:IntKind} {n i:Int} {m j:Nat} {tag:jE} {s:List cU} {RL:Bool} {lo hi:bd af}
@[simp]def awj{a:Nat}{f:Nat}:n3 b e agg sz (.rptr a k m j f)=Ak agg sz a m j f (ae k e):=rfl
@[simp]def awi:n3 b e agg sz (.ptr k off)=(match ae k b with
  |some cs=>if agg then some (gY cs=true/\off+sz<=cs.length,.agg ((cs.drop off).take sz))else(cs[off]?).map fun p=>(gY cs=true,p)
  |none=>none):=rfl
@[simp]def awh:n3 b e agg sz (.eptr p)=if agg then some (qM sz p,p)else some (eT p=true/\cells p=[p],p):=rfl
@[simp]def auV:DP agg sz (.eptr p)=if agg then some (qM sz p,p)else some (eT p=true/\cells p=[p],p):=rfl
@[simp]def auN{o:Nat}:s7 off agg sz (.ptr k o)=some (True,.ptr k (o+off)):=rfl
@[simp]def auO{a f:Nat}:s7 off agg sz (.rptr a k m j f)=some (True,.rptr a k m j (f+off)):=rfl
@[simp]def auI:s7 off agg sz (.eptr (.agg cs))=if agg then some (off+sz<=cs.length,.eptr (.agg ((cs.drop off).take sz)))else(cs[off]?).map fun p=>(eT p=true/\cells p=[p],.eptr p):=rfl
@[simp]def auQ:vV off agg sz (.agg cs)=if agg then some (off+sz<=cs.length,.agg ((cs.drop off).take sz))else(cs[off]?).map fun p=>(True,p):=rfl
@[simp]def avo{a:Nat}:BS sz (.slice a tag xs) (.int gk i)=if a=sz then some (0<=i/\i<xs.length,.eptr (xs.getD i.toNat .junk))else none:=rfl
@[simp]def avn{a:Nat}:BS sz (.row a k m) (.int gk i)=if a=sz then some (0<=i/\i<m,.rptr a k m i.toNat 0)else none:=rfl
@[simp]def awg{a:Nat}:B5 (.slice a tag xs)=some (True,.int .i64 xs.length):=rfl
@[simp]def awf{a:Nat}:B5 (.row a k m)=some (True,.int .i64 m):=rfl
@[simp]def awe{a:bd Addr}{n c:Nat}:B5 (.cst (.slice a n c))=some (True,.int .i64 n):=rfl
@[simp]def axd{s}:FK (.cst (.string s))=some (True,.int .i64 s.size):=rfl
@[simp]def axe:FK (.str s)=some (True,.int .i64 s.length):=rfl
@[simp]def auH:Ba j (.tuple bm)=(bm[j]?).map fun p=>(True,p):=rfl
@[simp]def awL:Cj (.ptr k off)=some (True,.ptr k off):=rfl
@[simp]def awJ:Cj (.eptr p)=some (True,.eptr p):=rfl
@[simp]def awK:Cj (.func j cs)=some (True,.func j cs):=rfl
@[simp]def awP:IW (.bool RL)=some (True,.bool (!RL)):=rfl
@[simp]def axc:JW (.str s) (.int gk i)=some (0<=i/\i<s.length,.int .u8 (s.getD i.toNat 0).toNat):=rfl
@[simp]def axI:J1 (.str s) lo hi=(match sF 0 lo,sF s.length hi with
  |some l,some h=>some (0<=l/\l<=h/\h<=s.length,.str ((s.take h.toNat).drop l.toNat))
  |_,_=>none):=rfl
@[simp]def awn{a:Nat}:IC sz (.slice a tag xs) lo hi=(if a=sz then match sF 0 lo,sF xs.length hi with
  |some l,some h=>some (0<=l/\l<=h/\h<=xs.length,.slice sz .no ((xs.take h.toNat).drop l.toNat))
  |_,_=>none else none):=rfl
def YI{f:aB->bd (List af)}{a:kf}{z q:af}{ok:Bool}:pe f a z ok (.gmap k) q=(match f k with
  |some (.hdm _ _::kvs)=>if xZ a q=false then none else match x4 a q kvs with
   |some (some v)=>some (True,if ok then .tuple [v,.bool true]else v)
   |some none=>some (True,if ok then .tuple [z,.bool false]else z)
   |none=>none
  |_=>none):=rfl
def YF{f:aB->bd (List af)}:qP f (.ptr k 0)=(match f k with
  |some [.hdi _ seen last,.gmap mk]=>match f mk with
   |some (.hdm clock borns::kvs)=>match seen.getLast? with
    |some n=>(n5 n borns kvs).map fun p=>(clock=last,p)
    |none=>none
   |_=>none
  |_=>none):=rfl
@[simp]def aw8{b f n' el a:Nat}:Ak agg sz b m j f (some ⟨n',el,a,some xs⟩)=(if n'=m/\a=b then
   (match xs[j]? with
    |some p=>if agg then some (eT p=true/\f+sz<=(cells p).length,.agg (((cells p).drop f).take sz))else((cells p)[f]?).map fun q=>(eT p=true,q)
    |none=>none)else none):=rfl
end
attribute [simp] afC afT afD afF afX afV afL afY afW afM afU afE afG AK ads adr adt ady adz agh agi agd agc age
 agn agj agm agk agl af0 afZ P9 Qa nD hY jb cE get put kt rC oL oM cI sF Dl Ia J2 nE vN Ja IQ GV IM
 ae e7 eY.dst eU.dst tY Gj ux cf b7 az aH
 afH afI afJ afK af4 af5 af2 af1 af3 aga af6 af9 af7 af8 P7 P8 fl qq nh qx gP.loadO vz Kx zI gY uy agf afR afS afN afO afP afQ xl Mn uA Bg adD yg Fm yf sL od jr IG Gu sb
def aO{P:cH}{n:Nat}{args:List af}{st:bp}{d:bd Nat}{K:bp->Prop}{r:af}(a:bU P n args r)(h:K {st with t:=e7 d r st.t})(ab:aH (fun _=>er) args:=by simp):CallDo P n args st d K:=CallDo.val ab a h
def al{a b:Prop}(d:b)(c:a:=by first|omega|(unfold tF;omega)|(unfold lim;omega)):a/\b:=⟨c,d⟩
def c3{p:Prop}(h:er:=by first|contradiction|omega):p:=h.elim
def cp{p:Prop}(h:p:=by(try simp[*]);(repeat' first|with_reducible refine al ?_|with_reducible refine aO (by assumption) ?_|with_reducible refine aP (by assumption) ?_|simp[*]);(all_goals first|done|(simp[bZ,ba,bf,a6, *];done))):p:=h
end
section
open Go Go.RowKit
structure eA (s:cS):Prop where
 obj:hW s
 kb:∀k cs,ae k s.b=some cs->aH (aM s) cs
 ke:∀k o,ae k s.e=some o->dV (aM s) o
structure Same (s ak:cS):Prop where
 b:∀k,(ae k s.b).isSome=(ae k ak.b).isSome
 e:∀k,(ae k s.e).isSome=(ae k ak.e).isSome
def Same.refl(s:cS):Same s s:=⟨fun _=>rfl,fun _=>rfl⟩
def Same.inObs{s a:cS}(h:Same s a)(k:aB):aM s k↔aM a k:=by unfold aM;rw[h.b,h.e]
def u7{α:Type}{k:aB}{x:α}:∀{l:List (aB×α)},(k,x)∈l->(ae k l).isSome
 |(i,y)::r,h=>by
  simp only[ae];split
  ·rfl
  ·rename_i a;rcases gI.1 h with h|h
   ·cases h;exact absurd rfl a
   ·exact u7 h
def NJ{s:cS}{k:aB}(h:k∈cJ s):aM s k:=by
 unfold cJ at h;rcases kc.1 h with h|h
 ·obtain⟨⟨bt,x⟩,J,rfl⟩:=hb.1 h;exact .inl (u7 J)
 ·obtain⟨⟨bt,x⟩,J,rfl⟩:=hb.1 h;exact .inr (u7 J)
def kI{s:cS}(h:hW s)(m:Nat):aB.loc m∉cJ s:=fun hm=>by
 rcases NJ hm with J|J
 ·rw[h.1 m]at J;cases J
 ·rw[h.2 m]at J;cases J
def jx{α β:Type}(s:List (aB×β)):∀(a b:List (aB×α)),cK s (a++b)=cK s a++cK s b
 |[],b=>rfl
 |(k,x)::r,b=>by
  simp only[b5,cK];cases ae k s with
  |none=>simp[jx s r b]
  |some _=>exact jx s r b
def Q3{α β:Type}(s:List (aB×β)):∀(l:List (aB×α)),(∀k x,(k,x)∈l->(ae k s).isSome)->cK s l=[]
 |[],_=>rfl
 |(k,x)::r,h=>by
  have J:=h k x Ψ;simp only[cK];cases a:ae k s with
  |none=>rw[a]at J;cases J
  |some _=>exact Q3 s r fun k x b=>h k x (by simp[b])
def hF{α:Type}(s:List (aB×α)):cK s s=[]:=Q3 s s fun k x h=>u7 h
def kM{α:Type}{k:aB}{x:α}:∀{l:List (aB×α)},ae k l=none->cI k x l=l++[(k,x)]
 |[],_=>rfl
 |(i,y)::r,h=>by
  simp only[ae]at h;split at h
  ·cases h
  ·rename_i a;simp[cI,a,kM h]
def c6{α:Type}(k:aB):∀(a b:List (aB×α)),ae k (a++b)=match ae k a with|some x=>some x|none=>ae k b
 |[],b=>rfl
 |(i,y)::r,b=>by
  simp only[b5,ae];split
  ·rfl
  ·exact c6 k r b
def CallDo.ob{P:cH}{n:Nat}{args:List af}{st:bp}{d:bd Nat}{K:bp->Prop}{s:cS}{Q:af->cS->Prop}(f:bG P n args s Q)(b:eA s)(e:∀k cs,ae k s.b=some cs->ae k st.b=some cs)(he:∀k o,ae k s.e=some o->ae k st.e=some o)
  (ab:aH (aM s) args) (h:∀r a,Q r a->Same s a/\K ⟨e7 d r st.t,cK s.b st.b++a.b,cK s.e st.e++a.e,st.n,st.o++cJ a⟩):CallDo P n args st d K:=by
 refine .inl ⟨s,Q,fun k cs ax=>⟨e k cs ax,.inl (by simp[ax]),b.kb k cs ax⟩,fun k o ar=>⟨he k o ar,.inr (by simp[ar]),b.ke k o ar⟩,b.obj,ab,f,fun r a c=>?_⟩;obtain⟨J,U⟩:=h r a c;exact⟨⟨fun m hm=>.inl (by rw[J.b];exact hm),fun m hm=>.inl (by rw[J.e];exact hm)⟩,U⟩
def c5.ob{j:List bW}{s a:cS}{Q:af->cS->Prop}{e:Exit}{st:bp}{c:Prop}{f:List af}(n:e= .ret\/e= .normal)(p:ba st j=some (c,f))(ax:c)(g:eA a)(i:Same s a)(v:∀k cs,ae k a.b=some cs->ae k st.b=some cs)(q:∀k o,ae k a.e=some o->ae k st.e=some o)
  (ab:az (aM a) (b7 (a6 f))) (t:Q (b7 (a6 f)) a):c5 j s Q e st:=by
 refine⟨n,?_⟩;rw[p];have m:∀{α:Type} (l:List (aB×α)),(∀k x,(k,x)∈l->aM a k)->lV a l:=by
  intro α l;induction l with
  |nil=>intro _;trivial
  |cons x r u=>obtain⟨k,x⟩:=x;intro h;exact⟨h k x Ψ,u fun k x b=>h k x (by simp[b])⟩
 exact⟨ax,a,m _ fun k x b=>.inl (by rw[<-i.b];exact u7 b),m _ fun k x b=>.inr (by rw[<-i.e];exact u7 b),fun k cs d=>⟨v k cs d,.inl (by simp[d]),g.kb k cs d⟩,fun k o ar=>⟨q k o ar,.inr (by simp[ar]),g.ke k o ar⟩,g.obj,ab,t⟩
def bG.mono{P:cH}{f:FuncId}{args:List af}{s:cS}{Q b:af->cS->Prop}(h:bG P f args s Q)(g:∀r a,Q r a->b r a):bG P f args s b:=by
 intro w ν bm J U i;have hm:∀(e:Ending) (w':World),(∃v r a bn,e= .returned v/\Q r a/\aV w' bn r v/\Good (fun bl=>fC ν s bl\/w.heap.size<=bl) w' bn a.b a.e/\pQ bn a/\hW a/\pD ⟨w,ν,fC ν s,0,cJ s⟩ w' bn)->(∃v r a bn,e= .returned v/\b r a/\aV w' bn r v/\Good (fun bl=>fC ν s bl\/w.heap.size<=bl) w' bn a.b a.e/\pQ bn a/\hW a/\pD ⟨w,ν,fC ν s,0,cJ s⟩ w' bn):=by rintro e w' ⟨v,r,a,bn,d,a2,a3⟩;exact⟨v,r,a,bn,d,g _ _ a2,a3⟩
 rcases h w ν bm J U i with⟨c,ax⟩|⟨v,w',ax,j⟩
 ·exact .inl ⟨c,ax.mono hm⟩
 ·exact .inr ⟨v,w',ax,hm _ _ j⟩
def E3{s:cS}{k:aB}(h:aM s k):¬fresh 0 (cJ s) k:=fun a=>a.2 (rJ h)
def gn.ob{s:cS}(b:eA s){st:bp}{t':List (Nat×af)}(c:∀x∈t',get x.1 st.t=x.2/\az (aM s) x.2)(d:∀k cs,ae k s.b=some cs->ae k st.b=some cs)(he:∀k o,ae k s.e=some o->ae k st.e=some o):
  gn (cJ s) st ⟨t',s.b,s.e,0,cJ s⟩:=
 ⟨fun x a=>⟨(c x a).1,tJ (fun k ab=>E3 ab) _ (c x a).2⟩,fun k cs ax=>⟨d k cs ax,E3 (.inl (by simp[ax])),ji (fun k ab=>E3 ab) _ (b.kb k cs ax)⟩,
  fun k o ar=>⟨he k o ar,E3 (.inr (by simp[ar])),fun xs a=>ji (fun k ab=>E3 ab) _ (b.ke k o ar xs a)⟩,fun m hm=>hm⟩
def dc(st:bp)(a:List bW)(R:af->Prop):Prop:=match ba st a with
 |some (c,b)=>c/\R (b7 (a6 b))
 |none=>er
def c5.at{b:List bW}{s:cS}{Q:af->cS->Prop}{e:Exit}{st:bp}(a:cS)(d:e= .ret\/e= .normal)(i:eA a)(f:Same s a)(j:∀k cs,ae k a.b=some cs->ae k st.b=some cs)(g:∀k o,ae k a.e=some o->ae k st.e=some o)
  (h:dc st b fun r=>az (aM a) r/\Q r a):c5 b s Q e st:=by
 unfold dc at h;split at h
 ·rename_i c m l;exact c5.ob d l h.1 i f j g h.2.1 h.2.2
 ·exact h.elim
def hH.ob{P:cH}{nw:List Nat}{n:Nat}{args:List af}{st:bp}{d:bd Nat}{K:bp->Prop}{s a:cS}{r:af}(j:bG P n args s fun g t'=>g=r/\t'=a)(c:eA s)(f:eA a)(b:Same s a)(i:∀k cs,ae k s.b=some cs->ae k st.b=some cs)(he:∀k o,ae k s.e=some o->ae k st.e=some o)
  (ab:aH (aM s) args) (h:K ⟨e7 d r st.t,cK s.b st.b++a.b,cK s.e st.e++a.e,st.n,st.o⟩):hH P false nw n args st d K:=
 .inr ⟨s,a,r,none,fun k cs ax=>⟨i k cs ax,.inl (by simp[ax]),c.kb k cs ax⟩,fun k o ar=>⟨he k o ar,.inr (by simp[ar]),c.ke k o ar⟩,c.obj,f.obj,⟨fun k ab=>.inl (by rw[b.b];exact ab),fun k ab=>.inl (by rw[b.e];exact ab),fun k ab=>by rw[<-b.b];exact ab,fun k ab=>by rw[<-b.e];exact ab,fun k ab=>by cases ab⟩,ab,j,(fun e=>by cases e),h⟩
def eA.of{s:cS}(ar:hW s)(a:∀x∈s.b,aH (aM s) x.2)(he:∀x∈s.e,∀xs,x.2.xs=some xs->aH (aM s) xs):eA s:=⟨ar,fun k cs ab=>a (k,cs) (u6 ab),fun k o ab xs b=>he (k,o) (u6 ab) xs b⟩
@[simp]def awS(b:List (aB×List af))(e:List (aB×dW)):cJ ⟨b,e⟩=b.map (·.1)++e.map (·.1):=rfl
def CY{α:Type}{k:aB}{p:α}:∀{a r:List (aB×α)},ae k a=none->cI k p (a++r)=a++cI k p r
 |[],_,_=>rfl
 |(i,y)::a,r,h=>by
  simp only[ae]at h;split at h
  ·cases h
  ·rename_i b;simp[cI,b,CY h]
def amg{α:Type}{s b:List (aB×α)}(h:∀p∈s,ae p.1 b=some p.2):∀k x,ae k s=some x->ae k b=some x:=fun k x a=>h (k,x) (u6 a)
def eo{S:aB->Prop}{b0 b:List (aB×List af)}(h:∀p∈b0,ae p.1 b=some p.2/\S p.1/\aH S p.2):hz S b0 b:=fun k x a=>h (k,x) (u6 a)
def ep{S:aB->Prop}{b0 b:List (aB×dW)}(h:∀p∈b0,ae p.1 b=some p.2/\S p.1/\dV S p.2):qd S b0 b:=fun k x a=>h (k,x) (u6 a)
def aX{α:Type}{s b:List (aB×α)}(h:∀k x,ae k s=some x->ae k b=some x:=by first|(refine amg ?_;simp;done)|(intro k x a;first|exact a|(simp[a,hF];done)|(simp[c6,hF,a];done)|(cases k<;>simp_all[c6];done))):∀k x,ae k s=some x->ae k b=some x:=h
def ca{ob:List aB}{st st':bp}(J:∀x∈st'.t,get x.1 st.t=x.2/\az (fun k=> ¬fresh st'.n st'.o k) x.2:=by simp[fresh,aH,az,cc,aM,ae])(U:∀p∈st'.b,ae p.1 st.b=some p.2/\(¬fresh st'.n st'.o p.1)/\aH (fun k=> ¬fresh st'.n st'.o k) p.2:=by simp[fresh,aH,az,cc,aM,ae])(a:∀p∈st'.e,ae p.1 st.e=some p.2/\(¬fresh st'.n st'.o p.1)/\dV (fun k=> ¬fresh st'.n st'.o k) p.2:=by simp[fresh,aH,az,dV,aM,ae])(b:∀m∈ob,m∈st'.o:=by simp):gn ob st st':=⟨J,eo U,ep a,b⟩
def bY.next{ob:List aB}{b:Nat->bp->Prop}{k:Nat}{Q:Exit->bp->Prop}{st:bp}(bt:Nat){a:bp}(ab:bt<k)(hi:b bt a)(hw:gn ob st a):bY ob b k Q .normal st:=⟨bt,a,ab,hw,hi⟩
def flat:List (Int×af)->List af
 |[]=>[]
 |(k,v)::r=>.int .i64 k::v::flat r
def kZ(l:List (Int×af)):List af:= .hdm l.length (List.range l.length)::flat l
def yS(k:Int):List (Int×af)->bd af
 |[]=>none
 |(i,v)::r=>if k=i then some v else yS k r
def qn(k:Int)(v:af):List (Int×af)->bd (List (Int×af))
 |[]=>none
 |(i,w)::r=>if k=i then some ((k,v)::r)else match qn k v r with|some a=>some ((i,w)::a)|none=>none
def Gt(k:Int)(v:af)(l:List (Int×af)):List (Int×af):=match qn k v l with|some a=>a|none=>l++[(k,v)]
@[simp]def awx:[af.hdm 0 []]=kZ []:=rfl
def Vp:∀a b,flat (a++b)=flat a++flat b
 |[],_=>rfl
 |(k,v)::r,b=>by simp[flat,Vp r b]
def YG(k:Int):∀l,x4 .i (.int .i64 k) (flat l)=some (yS k l)
 |[]=>rfl
 |(i,v)::r=>by
  simp only[flat,x4,u0,yS];by_cases h:k=i
  ·simp[h]
  ·have:(k==i)=false:=by simp[h]
   simp[h,YG k r,this]
def RC{k:Int}{v:af}:∀{l a},qn k v l=some a->a.length=l.length
 |[],_,h=>by simp[qn]at h
 |(i,w)::r,a,h=>by
  simp only[qn]at h;split at h
  ·cases h;rfl
  ·split at h
   ·rename_i c b;cases h;simp[RC b]
   ·cases h
def Y4(k:Int)(v:af):∀l,wG .i (.int .i64 k) v (flat l)=some ((qn k v l).map flat)
 |[]=>rfl
 |(i,w)::r=>by
  simp only[flat,wG,u0,qn];by_cases h:k=i
  ·subst h;simp[flat]
  ·simp only[and_self,if_true,h,if_false,ey,Y4 k v r];have:(k==i)=false:=by simp[h]
   rw[this];cases qn k v r<;>simp[flat]
@[simp]def Y3(k:Int)(v:af)(l:List (Int×af)):qR .i (.int .i64 k) v (kZ l)=some (kZ (Gt k v l)):=by
 simp only[kZ,qR,XN,Bool.true_eq_false,reduceCtorEq,if_false,Y4,Gt];cases h:qn k v l with
 |some a=>simp[RC h]
 |none=>simp[Vp,flat,List.range_succ]
@[simp]def amH(f:aB->bd (List af))(m:aB)(l:List (Int×af))(z:af)(ok:Bool)(k:Int)(hm:f m=some (kZ l)):pe f .i z ok (.gmap m) (.int .i64 k)=(match yS k l with
  |some v=>some (True,if ok then .tuple [v,.bool true]else v)
  |none=>some (True,if ok then .tuple [z,.bool false]else z)):=by
 simp only[YI,hm,kZ,XN,Bool.true_eq_false,reduceCtorEq,if_false,YG];cases yS k l<;>rfl
def cc(n:Nat)(seen:List Nat)(m:aB):List af:=[.hdi n seen n,.gmap m]
@[simp]def aw7(m:aB)(l:List (Int×af)):Ae m (kZ l)=some (cc l.length [] m):=rfl
@[simp]def aw3(l:List (Int×af)):gY (kZ l)=false:=rfl
def Ou(b:Nat):∀(n:Nat) (l:List (Int×af)),n5 b (List.range' n l.length) (flat l)=(if n<=b then(l[b-n]?).map fun x=>.tuple [.int .i64 x.1,x.2]else none)
 |n,[]=>by simp[n5,flat]
 |n,(k,v)::r=>by
  simp only[mT,List.range'_succ,flat,n5];by_cases h:n=b
  ·subst h;simp
  ·rw[if_neg h,Ou b (n+1) r];by_cases U:n<=b
   ·rw[if_pos U,if_pos Ω];have:b-n=(b-(n+1))+1:=Ω
    rw[this];simp
   ·rw[if_neg U,if_neg Ω]
@[simp]def YE(f:aB->bd (List af))(gk mk:aB)(n:Nat)(seen:List Nat)(b:Nat)(l:List (Int×af))(hi:f gk=some (cc n (seen++[b]) mk))(hm:f mk=some (kZ l))(a:n=l.length):qP f (.ptr gk 0)=(l[b]?).map fun x=>(True,.tuple [.int .i64 x.1,x.2]):=by subst a;simp only[YF,hi,hm,cc,kZ,List.getLast?_append,List.getLast?_singleton,Option.some_or,List.range_eq_range',Ou,Nat.zero_le,if_true,Nat.sub_zero,Option.map_map];cases l[b]?<;>simp
def UJ{st:bp}{d:Nat}{K:bp->Prop}{gk mk:aB}{n:Nat}{seen:List Nat}{l:List (Int×af)}(hi:ae gk st.b=some (cc n seen mk))(hm:ae mk st.b=some (kZ l))(i:n=l.length)
  (J:(∀b,b<n->b∈seen)->K {st with t:=put d (.tuple [.bool false]) st.t}) (U:∀b k v,l[b]? =some (k,v)->b∉seen->K {st with t:=put d (.tuple [.bool true,.int .i64 k,v]) st.t,b:=cI gk (cc n (seen++[b]) mk) st.b}):
  uH st d (.ptr gk 0) K:=by
 subst i;simp only[uH,hi,cc,hm,kZ,OK,and_self,true_and];refine⟨fun h=>J fun b c=>h b (by simpa using c),fun b k v a c=>?_⟩;rw[List.range_eq_range',Ou]at a;simp only[Nat.zero_le,if_true,Nat.sub_zero,hr,af.tuple.injEq,rX,jc]at a;obtain⟨⟨bt,v'⟩,g,f,e⟩:=a;simp only at f e;subst f e;exact U b bt v' g c
def apw{n:Nat}{seen:List Nat}(d:seen.Nodup)(c:∀b∈seen,b<n)(a:∀b,b<n->b∈seen):seen.Perm (List.range n):=(List.perm_ext_iff_of_nodup d List.nodup_range).2 fun b=>⟨fun h=>by simpa using c b h,fun h=>a b (by simpa using h)⟩
def JT{n:Nat}{seen:List Nat}(d:seen.Nodup)(a:∀b∈seen,b<n):seen.length<=n:=by have:=Ra d (l₂:=List.range n) (fun b c=>by simpa using a b c);simpa using this
def Qf{n b:Nat}{seen:List Nat}(d:seen.Nodup)(a:∀b∈seen,b<n)(c:b<n)(e:b∉seen):seen.length<n:=by have J:(b::seen).Nodup:=List.nodup_cons.2 ⟨e,d⟩;have:=JT J (n:=n) (by simp;exact⟨c,a⟩);simp at this;omega
def aa4{α:Type}:∀(l pre:List α),(List.range' pre.length l.length).filterMap (fun b=>(pre++l)[b]?)=l
 |[],_=>rfl
 |x::r,pre=>by have a:=aa4 r (pre++[x]);simp only[qi,List.length_singleton,List.append_assoc,List.singleton_append]at a;simp[List.range'_succ,a]
def Qe{α:Type}{l:List α}{seen:List Nat}(d:seen.Nodup)(c:∀b∈seen,b<l.length)(a:∀b,b<l.length->b∈seen):(seen.filterMap fun b=>l[b]?).Perm l:=by have J:=(apw d c a).filterMap fun b=>l[b]?;have U:=aa4 l [];simp only[List.length_nil,cb,<-List.range_eq_range']at U;rwa[U]at J
def OT{b:Nat}{seen:List Nat}(d:seen.Nodup)(f:b∉seen):(seen++[b]).Nodup:=by rw[r1];exact⟨d,Ψ,by simp;intro a c e;subst e;exact f c⟩
def c9.start{w:World}{ν:bc}{s:cS}{args:List af}{bm:Array Value}(e:hW s)(be:Good (fC ν s) w ν s.b s.e)(a:pQ ν s)(p:c7 w ν args bm.toList):
  c9 ⟨w,ν,fC ν s,bm.size,cJ s⟩ ⟨jb 0 args,s.b,s.e,0,cJ s⟩ {tmps:=bm,defers:=[]} w ν:=by
 have q:=Ah p;have A:bm.size=args.length:=by simpa using q
 have d:∀k,fresh 0 (cJ s) k->ν.bx k=none/\ν.ow k=none/\∀j b,¬ν.tr k j b:=by
  intro k ab;cases k with
  |loc m=>exact⟨(a _).1 (e.1 m),(a _).2.1 (e.2 m),(a _).2.2⟩
  |obj m=>
   simp only[fresh,true_and]at ab;refine⟨?_,?_,(a _).2.2⟩
   ·refine(a _).1 ?_;cases h:ae (.obj m) s.b with
    |none=>rfl
    |some x=>exact absurd (rJ (.inl (by simp[h]))) ab
   ·refine(a _).2.1 ?_;cases h:ae (.obj m) s.e with
    |none=>rfl
    |some x=>exact absurd (rJ (.inr (by simp[h]))) ab
 have f:∀m,(ν.bx (.obj m)≠none\/ν.ow (.obj m)≠none)-> .obj m∈cJ s:=by
  intro m hm;refine Classical.byContradiction fun ax=>?_;obtain⟨J,U,_⟩:=d (.obj m) ⟨trivial,ax⟩;rcases hm with hm|hm
  ·exact hm J
  ·exact hm U
 refine⟨⟨be.alt,fun k cs ab=>?_,be.inj,fun g o t=>?_,be.oinj,be.obx,be.one,be.otr⟩,⟨rfl,rfl,rfl,dP _,fun _ _ _=>rfl,fun b o h=>⟨h,rfl⟩,fun b o h=>.inl h,fun n b h=>h,fun n b h=>f n (.inl (by rw[h];simp)),fun m n u h=>⟨n,u,h,.inl ⟨rfl,rfl⟩⟩,fun m n u h=>f m (.inr (by rw[h];simp)),fun k j _ _ b h=>absurd h ((a k).2.2 j b),fun k j b h=>absurd h ((a k).2.2 j b),fun k j b h=>absurd h ((a k).2.2 j b),fun _ _ _=>rfl⟩,rfl,rfl,fun i=>?_,d⟩
 ·obtain⟨bl,us,el,g1,g2,g3⟩:=be.box k cs ab;exact⟨bl,us,el,g1,.inl g2,g3⟩
 ·obtain⟨v,us,g1,g2,g3,g4⟩:=be.own g o t;exact⟨v,us,g1,g2,fun bl l=>⟨.inl (g3 bl l).1,(g3 bl l).2⟩,g4⟩
 ·rw[Hu];by_cases hi:i<args.length
  ·rw[if_pos Ω];have c:args[i]? =some args[i]:=cl hi;obtain⟨v,y,z⟩:=Fy i p c;have r:bm[i]? =some v:=by simpa using y
   show aV w ν _ (bm.getD i undef);rw[Array.getD_eq_getD_getElem?,r];simpa[List.getD,c]using z
  ·rw[if_neg Ω];simp[aV]
def bG.sem{P:cH}{f:FuncId}{args:List af}{s:cS}{Q:af->cS->Prop}(H:hW s)
  (h:∀(w:World) (ν:bc) (bm:Array Value),bm.size=args.length->c9 ⟨w,ν,fC ν s,bm.size,cJ s⟩ ⟨jb 0 args,s.b,s.e,0,cJ s⟩ {tmps:=bm,defers:=[]} w ν->
   yF P f bm w fun e w'=> ∃v st' br bn r a,e= .returned v/\c9 ⟨w,ν,fC ν s,bm.size,cJ s⟩ st' br w' bn/\aV w' bn r v/\lV a s.b/\lV a s.e/\hz (aM a) a.b st'.b/\qd (aM a) a.e st'.e/\hW a/\az (aM a) r/\Q r a):bG P f args s Q:=by
 intro w ν bm be t z;have G:bm.size=args.length:=by simpa using Ah z
 have E:=c9.start H be t z;have hm:∀(e:Ending) (w':World),(∃v st' br bn r a,e= .returned v/\c9 ⟨w,ν,fC ν s,bm.size,cJ s⟩ st' br w' bn/\aV w' bn r v/\lV a s.b/\lV a s.e/\hz (aM a) a.b st'.b/\qd (aM a) a.e st'.e/\hW a/\az (aM a) r/\Q r a)->
   ∃v r a bn,e= .returned v/\Q r a/\aV w' bn r v/\Good (fun bl=>fC ν s bl\/w.heap.size<=bl) w' bn a.b a.e/\pQ bn a/\hW a/\pD ⟨w,ν,fC ν s,0,cJ s⟩ w' bn:=by
  rintro e w' ⟨v,st',br,bn,r,a,rfl,d,F,kb,ke,y,p,M,K,L⟩;refine⟨v,r,a,bn.cut (aM a),rfl,L,vi (oi.cut _ w' bn) _ _ K F,d.good.cut y p (fun bl h _=>h),?_,M,?_⟩
  ·intro k;refine⟨?_,?_,?_⟩;rotate_left 2
   ·rintro j b ⟨c,i⟩;obtain⟨t1,t2⟩:=d.fr.trn k j b i;rcases c with c|c<;>obtain⟨x,l⟩:=fx.1 c
    ·obtain⟨bl,q,el,g,_⟩:=d.good.box k x (y k x l).1;rw[t1]at g;cases g
    ·obtain⟨v',q,g,_⟩:=d.good.own k x (p k x l).1;rw[t2]at g;cases g
   ·intro ab;by_cases c:aM a k
    ·rw[bc.cut_bx c];rcases c with c|c
     ·rw[ab]at c;cases c
     ·obtain⟨x,l⟩:=fx.1 c;obtain⟨v',q,g,_⟩:=d.good.own k x (p k x l).1;rcases d.good.one k with J|J
      ·exact J
      ·rw[J]at g;cases g
    ·exact(bc.cut_no c).1
   ·intro ab;by_cases c:aM a k
    ·rw[bc.cut_ow c];rcases c with c|c
     ·obtain⟨x,l⟩:=fx.1 c;obtain⟨bl,q,el,g,_⟩:=d.good.box k x (y k x l).1;rcases d.good.one k with J|J
      ·rw[J]at g;cases g
      ·exact J
     ·rw[ab]at c;cases c
    ·exact(bc.cut_no c).2.1
  ·refine⟨d.fr.os,d.fr.tape,d.fr.output,d.fr.size,d.fr.block,d.fr.keep,d.fr.fresh,fun n b h=>?_,d.fr.obn,fun m n u h=>?_,d.fr.obr,fun k j bt dg b J U=>d.fr.trd k j bt dg b J.2 U.2,fun k j b i=>d.fr.trb k j b i.2,fun k j b i=>(by rw[bc.cut_bx i.1,bc.cut_ow i.1];exact d.fr.trn k j b i.2),d.fr.sh⟩
   ·have c:aM a (.obj n):=by
     cases o:ae (.obj n) s.b with
     |none=>rw[(t _).1 o]at h;cases h
     |some x=>exact xX kb _ (by simp[o])
    rw[bc.cut_bx c];exact d.fr.obj n b h
   ·have c:aM a (.obj m):=by
     cases o:ae (.obj m) s.e with
     |none=>rw[(t _).2.1 o]at h;cases h
     |some x=>exact xX ke _ (by simp[o])
    rw[bc.cut_ow c];exact d.fr.row m n u h
 rcases h w ν bm G E with⟨B,ax⟩|⟨v,w',ax,A⟩
 ·exact .inl ⟨B,ax.mono hm⟩
 ·exact .inr ⟨v,w',ax,hm _ _ A⟩
def c9.grown{C:fp}{st:bp}{a:Act}{w w':World}{ν:bc}(h:c9 C st a w ν)(be:w.grownBy w' none):c9 C st a w' ν:=by
 have d:mv w ν w' ν:=⟨fun b o c=>⟨c,GR be (h.good.alt b o c)⟩,fun _ _ _ h=>h,fun _ n u _ h=>⟨n,u,h,.inl ⟨rfl,rfl⟩⟩,fun b o c=>yr (be.block b (h.good.alt b o c) Ψ),fun _ _ _ _ h=>h⟩;refine h.over d rfl ⟨fun b o c=>Nat.lt_of_lt_of_le (h.good.alt b o c) be.size,fun k cs ab=>?_,h.good.inj,fun g o i=>?_,h.good.oinj,h.good.obx,h.good.one,h.good.otr⟩
  ⟨be.os.trans h.fr.os,be.tape.trans h.fr.tape,be.output.trans h.fr.output,kC h.fr.size be.size,fun k ab hm=>?_,fun b o c=>?_,h.fr.fresh,h.fr.obj,h.fr.obn,h.fr.row,h.fr.obr,h.fr.trd,fun k j b e=>⟨(h.fr.trb k j b e).1,Nat.lt_of_lt_of_le (h.fr.trb k j b e).2 be.size⟩,h.fr.trn,fun b o c=>(d.sh b o (h.fr.keep b o c).1).trans (h.fr.sh b o c)⟩ h.new
 ·obtain⟨bl,us,el,g1,g2,g3,g4,g5⟩:=h.good.box k cs ab;exact⟨bl,us,el,g1,g2,g3,by rw[be.block bl (Array.getElem?_eq_some_iff.1 g4).1 Ψ];exact g4,rM d g5⟩
 ·obtain⟨v,us,g1,g2,g3,g4⟩:=h.good.own g o i;exact⟨v,us,g1,g2.kept be (by cases v.ownBlock<;>simp),g3,tZ d (fun _ _ _ h=>h) g4⟩
 ·rw[be.block k (Nat.lt_of_lt_of_le ab h.fr.size) Ψ];exact h.fr.block k ab hm
 ·obtain⟨f,l⟩:=h.fr.keep b o c;exact⟨f,(d.A b o f).2.trans l⟩
def CallDo.new{P:cH}{n:Nat}{args:List af}{st:bp}{d:bd Nat}{K:bp->Prop}{s:cS}{Q:af->cS->Prop}(g:bG P n args s Q)(c:eA s)(f:∀k cs,ae k s.b=some cs->ae k st.b=some cs)(he:∀k o,ae k s.e=some o->ae k st.e=some o)
  (ab:aH (aM s) args) (h:∀r a,Q r a->(∀m,aM a (.obj m)->aM s (.obj m)/\Same s a\/ .obj m∉st.o)/\K ⟨e7 d r st.t,cK s.b st.b++a.b,cK s.e st.e++a.e,st.n,st.o++cJ a⟩):CallDo P n args st d K:=by
 refine .inl ⟨s,Q,fun k cs ax=>⟨f k cs ax,.inl (by simp[ax]),c.kb k cs ax⟩,fun k o ar=>⟨he k o ar,.inr (by simp[ar]),c.ke k o ar⟩,c.obj,ab,g,fun r a e=>?_⟩;obtain⟨J,U⟩:=h r a e;refine⟨⟨fun m hm=>?_,fun m hm=>?_⟩,U⟩
 ·rcases J m (.inl hm)with⟨_,b⟩|b
  ·exact .inl (by rw[b.b];exact hm)
  ·exact .inr b
 ·rcases J m (.inr hm)with⟨_,b⟩|b
  ·exact .inl (by rw[b.e];exact hm)
  ·exact .inr b
def c5.new{g:List bW}{s:cS}{Q:af->cS->Prop}{e:Exit}{st:bp}(a:cS)(i:e= .ret\/e= .normal)(d:eA a)(f:lV a s.b/\lV a s.e)(l:∀k cs,ae k a.b=some cs->ae k st.b=some cs)(j:∀k o,ae k a.e=some o->ae k st.e=some o)
  (h:dc st g fun r=>az (aM a) r/\Q r a):c5 g s Q e st:=by
 unfold dc at h;split at h
 ·rename_i c n m;refine⟨i,?_⟩;rw[m];exact⟨h.1,a,f.1,f.2,fun k cs b=>⟨l k cs b,.inl (by simp[b]),d.kb k cs b⟩,fun k o ar=>⟨j k o ar,.inr (by simp[ar]),d.ke k o ar⟩,d.obj,h.2.1,h.2.2⟩
 ·exact h.elim
@[simp]def auC{P:cH}{ob:List aB}{c d:C}{Q:Exit->bp->Prop}{st:bp}{s:Nat}:de P ob (.seq (.pub s c) d) Q st=yL P ob (.seq c d) Q (yg st s):=by simp only[de];cases yg st s<;>rfl
@[simp]def auB{P:cH}{ob:List aB}{c d:C}{Q:Exit->bp->Prop}{st:bp}{s:Nat}:de P ob (.seq (.pubB s c) d) Q st=yL P ob (.seq c d) Q (yf st s):=by simp only[de];cases yf st s<;>rfl
end
section
open Go Go.RowKit
def wy(t:List (Nat×af))(a:List Nat):List (Nat×af):=a.map fun k=>(k,get k t)
@[simp]def avD(t:List (Nat×af)):wy t []=[]:=rfl
@[simp]def avC(t:List (Nat×af))(k:Nat)(a:List Nat):wy t (k::a)=(k,get k t)::wy t a:=rfl
def qQ(st:bp)(a:List Nat)(cs:List (Nat×af)):bp:=⟨wy st.t a++cs,st.b,st.e,st.n,st.o⟩
def amX(t:List (Nat×af))(b:List (aB×List af))(e:List (aB×dW))(n:Nat)(o:List aB)(a:List Nat)(cs:List (Nat×af)):qQ ⟨t,b,e,n,o⟩ a cs=⟨wy t a++cs,b,e,n,o⟩:=rfl
def AG{α:Type}(S:Nat->α->bp)(n:Nat)(b:Nat->α->Prop)(k:Nat)(st:bp):Prop:= ∃i a,i<=n/\k=n-i/\b i a/\st=S i a
section
variable {P:cH} {ob:List aB} {st:bp} {Q:Exit->bp->Prop} {c:C} {α:Type}
def fT(S:Nat->α->bp)(n:Nat)(b:Nat->α->Prop)(a0:α)(hw:gn ob st (S 0 a0))(l:b 0 a0)(f:∀a,b n a->(∀i,eV (get i (S n a).t))->de P ob c (bY ob (AG S n b) 0 Q) (S n a))
  (g:∀i a,i<n->b i a->(∀j,eV (get j (S i a).t))->de P ob c (bY ob (AG S n b) (n-i) Q) (S i a)):de P ob (.loop c) Q st:=by
 refine qu (AG S n b) n _ hw ⟨0,a0,Ω,Ω,l,rfl⟩ ?_;rintro k s ⟨i,a,hi,rfl,d,rfl⟩ e _;rcases Nat.lt_or_ge i n with h|h
 ·exact g i a h d e
 ·obtain rfl:i=n:=Ω
  rw[Nat.sub_self];exact f a d e
def bY.rng{S:Nat->α->bp}{n:Nat}{a:Nat->α->Prop}{i:Nat}(br:α)(hi:i<n)(b:a (i+1) br)(hw:gn ob st (S (i+1) br)):bY ob (AG S n a) (n-i) Q .normal st:=⟨n-(i+1),_,Ω,hw,i+1,br,Ω,rfl,b,rfl⟩
def C9{α:Type}(S:α->bp)(μ:α->Nat)(b:α->Prop)(k:Nat)(st:bp):Prop:= ∃a,k=μ a/\b a/\st=S a
def o7(S:α->bp)(μ:α->Nat)(b:α->Prop)(a0:α)(hw:gn ob st (S a0))(e:b a0)
  (d:∀a,b a->(∀j,eV (get j (S a).t))->de P ob c (bY ob (C9 S μ b) (μ a) Q) (S a)):de P ob (.loop c) Q st:=by
 refine qu (C9 S μ b) (μ a0) _ hw ⟨a0,rfl,e,rfl⟩ ?_;rintro k s ⟨a,rfl,f,rfl⟩ g _;exact d a f g
def bY.whl{S:α->bp}{μ:α->Nat}{a:α->Prop}{k:Nat}(br:α)(hm:μ br<k)(b:a br)(hw:gn ob st (S br)):bY ob (C9 S μ a) k Q .normal st:=⟨μ br,_,hm,hw,br,rfl,b,rfl⟩
end
def iU{p:Prop}(h:p:=by(try simp[*]);(repeat' first|with_reducible refine al ?_|with_reducible refine aO (by assumption) ?_|with_reducible refine aP (by assumption) ?_|simp[*]);(all_goals first|exact bY.rng () (by assumption) (by first|assumption|trivial) ca|exact bY.rng _ (by assumption) (by assumption) ca)):p:=h
end
section
open Go Go.RowKit
def nC(s:cS)(n:Nat)(k:aB):Prop:=aM s k\/ ∃m,m<n/\k= .loc m
@[simp]def Y6(s:cS)(n m:Nat)(hm:m<n):nC s n (.loc m):= .inr ⟨m,hm,rfl⟩
def Ck{s:cS}{n:Nat}{l:List af}(h:aH (aM s) l):aH (nC s n) l:=ji (fun _ h=>.inl h) l h
def zT{s b:cS}(c:Same s b){n:Nat}{k:aB}(h:nC b n k):¬fresh n (cJ s) k:=by
 rcases h with h|⟨m,hm,rfl⟩
 ·exact fun a=>a.2 (rJ ((c.inObs k).2 h))
 ·intro a;have:=a.1;simp at this;omega
def gn.obL{s a:cS}(e:eA a)(b:Same s a){st:bp}{t':List (Nat×af)}{L:List (aB×List af)}{n:Nat}(f:∀x∈t',get x.1 st.t=x.2/\az (nC a n) x.2)(g:∀x∈L,ae x.1 st.b=some x.2/\nC a n x.1/\aH (nC a n) x.2)
  (i:∀k cs,ae k a.b=some cs->ae k st.b=some cs) (he:∀k o,ae k a.e=some o->ae k st.e=some o):gn (cJ s) st ⟨t',L++a.b,a.e,n,cJ s⟩:=by
 refine⟨fun x c=>⟨(f x c).1,tJ (fun k ab=>zT b ab) _ (f x c).2⟩,fun k cs ab=>?_,fun k o ar=>?_,fun m hm=>hm⟩
 ·simp only at ab;rw[c6]at ab;cases d:ae k L with
  |some x=>rw[d]at ab;simp only[dU]at ab;subst ab;obtain⟨J,U,h⟩:=g _ (u6 d);exact⟨J,zT b U,ji (fun k ab=>zT b ab) _ h⟩
  |none=>rw[d]at ab;exact⟨i k cs ab,zT b (.inl (.inl (by simp[ab]))),ji (fun k ab=>zT b (.inl ab)) _ (e.kb k cs ab)⟩
 ·exact⟨he k o ar,zT b (.inl (.inr (by simp at ar;simp[ar]))),fun xs c=>ji (fun k ab=>zT b (.inl ab)) _ (e.ke k o ar xs c)⟩
def ia{α:Type}(l:List α)(i j:Nat):List α:=match l[i]?,l[j]? with
 |some x,some y=>(l.set i y).set j x
 |_,_=>l
section
variable {α:Type}
@[simp]def amq(l:List α)(i j:Nat):(ia l i j).length=l.length:=by unfold ia;split<;>simp
def B9(l:List α)(i j k:Nat)(hi:i<l.length)(a:j<l.length):(ia l i j)[k]? =if k=i then l[j]? else if k=j then l[i]? else l[k]?:=by
 unfold ia;rw[cl hi,cl a];simp only[List.getElem?_set,List.length_set];by_cases J:j=k
 ·subst J;by_cases U:j=i
  ·subst U;simp[hi]
  ·simp[U,a]
 ·by_cases U:i=k
  ·subst U;simp[J,hi]
  ·simp[J,U,Ne.symm J,Ne.symm U]
def Yr(l:List α)(i j:Nat):(ia l i j).Perm l:=by
 unfold ia;split
 ·rename_i x y b c;obtain⟨hi,rfl⟩:=fI.1 b;obtain⟨a,rfl⟩:=fI.1 c;exact List.set_set_perm hi a
 ·exact .refl _
inductive hl (a b:Nat):List α->List α->Prop
 |refl (l:List α):hl a b l l
 |step {l m:List α} {i j:Nat}:hl a b l m->a<=i->i<b->a<=j->j<b->i<m.length->j<m.length->hl a b l (ia m i j)
def hl.length{a b:Nat}{l m:List α}(h:hl a b l m):m.length=l.length:=by
 induction h with
 |refl=>rfl
 |step _ _ _ _ _ _ _ c=>rw[amq,c]
def hl.perm{a b:Nat}{l m:List α}(h:hl a b l m):m.Perm l:=by
 induction h with
 |refl=>exact .refl _
 |step _ _ _ _ _ _ _ c=>exact(Yr _ _ _).trans c
def hl.out{a b:Nat}{l m:List α}(h:hl a b l m)(k:Nat)(ab:k<a\/b<=k):m[k]? =l[k]?:=by
 induction h with
 |refl=>rfl
 |step _ J U f g d c e=>rw[B9 _ _ _ _ d c,if_neg Ω,if_neg Ω];exact e
def hl.all{a b:Nat}{l m:List α}(h:hl a b l m)(p:α->Prop)(j:∀k x,a<=k->k<b->l[k]? =some x->p x):∀k x,a<=k->k<b->m[k]? =some x->p x:=by
 induction h with
 |refl=>exact j
 |step _ J U n o i g d=>
  intro k x f e c;rw[B9 _ _ _ _ i g]at c;split at c
  ·exact d _ _ n o c
  ·split at c
   ·exact d _ _ J U c
   ·exact d _ _ f e c
def hl.trans{a b:Nat}{l m r:List α}(h:hl a b l m)(d:hl a b m r):hl a b l r:=by
 induction d with
 |refl=>exact h
 |step _ J U g i e c f=>exact .step f J U g i e c
def hl.mono{a b br b0:Nat}{l m:List α}(h:hl a b l m)(f:br<=a)(i:b<=b0):hl br b0 l m:=by
 induction h with
 |refl=>exact .refl _
 |step _ J U g j d c e=>exact .step e Ω Ω Ω Ω d c
def fY(lt:α->α->Bool)(a b:Nat)(l:List α):Prop:= ∀i j x y,a<=i->i<j->j<b->l[i]? =some x->l[j]? =some y->lt y x=false
structure r4 (lt:α->α->Bool):Prop where
 asym:∀x y,lt x y=true->lt y x=false
 ntr:∀x y z,lt y x=false->lt z y=false->lt z x=false
def fY.pairwise{lt:α->α->Bool}{l:List α}(h:fY lt 0 l.length l):l.Pairwise fun x y=>lt y x=false:=by rw[q6];intro i j hi a b;exact h i j _ _ Ω b a (cl hi) (cl a)
def iV(a m b k:Nat):Nat:=if k<a then k else if k<a+(b-m)then k+(m-a)else if k<b then k-(b-m)else k
def uc(a b c k:Nat):Nat:=if a<=k/\k<a+c then b+(k-a)else if b<=k/\k<b+c then a+(k-b)else k
end
def HB(i j:Nat)(h:i+j<=1099511627776):vu.wrap (Int.fdiv (ig.wrap ((i:Int)+j)) (2 ^ (min 1 ig.bits)))=((i+j)/2:Nat):=by
 have hw:ig.wrap ((i:Int)+j)=i+j:=by simp[uh,pt,ug];omega
 have a:ig.bits=64:=rfl;rw[hw,a,show(2:Int) ^ (min 1 64)=2 from by decide,Int.fdiv_eq_ediv_of_nonneg _ Ω,pw]
 ·omega
 ·omega
end
section
open Go
inductive Tm where
 |mk (kind n:Int) (name:List cU) (args:List Tm)
def Tm.kind:Tm->Int| .mk k _ _ _=>k
def Tm.num:Tm->Int| .mk _ n _ _=>n
def Tm.name:Tm->List cU| .mk _ _ s _=>s
def Tm.args:Tm->List Tm| .mk _ _ _ a=>a
mutual
def enc:Tm->af
 | .mk k n s a=>.agg [.int .i64 k,.int .i64 n,.str s,.slice 4 .no (ma a)]
def ma:List Tm->List af
 |[]=>[]
 |x::xs=>enc x::ma xs
end
def A8:∀l,ma l=l.map enc
 |[]=>rfl
 |x::xs=>by simp[ma,A8 xs]
def uG(t:Tm):enc t= .agg [.int .i64 t.kind,.int .i64 t.num,.str t.name,.slice 4 .no (t.args.map enc)]:=by cases t;simp[enc,A8,Tm.kind,Tm.num,Tm.name,Tm.args]
mutual
def X7(S:aB->Prop):∀t:Tm,az S (enc t)
 | .mk k n s a=>by simp[enc,az,aH,N2 S a]
def N2(S:aB->Prop):∀l:List Tm,aH S (ma l)
 |[]=>by simp[ma,aH]
 |x::xs=>by simp[ma,aH,X7 S x,N2 S xs]
end
mutual
def abW:∀t:Tm,b7 (enc t)=enc t
 | .mk k n s a=>by simp[enc,b7,cf,Qq a]
def Qq:∀l:List Tm,cf (ma l)=ma l
 |[]=>by simp[ma,cf]
 |x::xs=>by simp[ma,cf,abW x,Qq xs]
end
@[simp]def av2(S:aB->Prop)(t:Tm):az S (enc t)=True:=h1 (X7 S t)
@[simp]def avN(S:aB->Prop)(l:List Tm):aH S (l.map enc)=True:=by rw[<-A8];exact h1 (N2 S l)
def abV(l:List Tm):cf (l.map enc)=l.map enc:=by rw[<-A8];exact Qq l
attribute [simp] abW abV
@[simp]def axr(t:Tm):eT (enc t)=true:=by rw[uG];rfl
@[simp]def at7(t:Tm):cells (enc t)=[.int .i64 t.kind,.int .i64 t.num,.str t.name,.slice 4 .no (t.args.map enc)]:=by rw[uG];rfl
@[simp]def atL(t:Tm):af.agg [.int .i64 t.kind,.int .i64 t.num,.str t.name,.slice 4 .no (t.args.map enc)]=enc t:=(uG t).symm
@[simp]def avw(t:Tm):qM 4 (enc t):=by rw[uG];exact⟨_,rfl,rfl⟩
inductive T where
 |nil
 |var (n:Int)
 |sym (s:List cU)
 |num (n:Int)
 |pair (a b:T)
 deriving DecidableEq,Inhabited
def T.tm:T->Tm
 | .nil=>.mk 0 0 [] []
 | .var n=>.mk 1 n [] []
 | .sym s=>.mk 2 0 s []
 | .num n=>.mk 3 n [] []
 | .pair a b=>.mk 4 0 [] [a.tm,b.tm]
def T.e:T->af
 | .nil=>.agg [.int .i64 0,.int .i64 0,.str [],.slice 4 .no []]
 | .var n=>.agg [.int .i64 1,.int .i64 n,.str [],.slice 4 .no []]
 | .sym s=>.agg [.int .i64 2,.int .i64 0,.str s,.slice 4 .no []]
 | .num n=>.agg [.int .i64 3,.int .i64 n,.str [],.slice 4 .no []]
 | .pair a b=>.agg [.int .i64 4,.int .i64 0,.str [],.slice 4 .no [a.e,b.e]]
def mA:∀t:T,enc t.tm=t.e
 | .nil| .var _| .sym _| .num _=>rfl
 | .pair a b=>by simp[T.tm,enc,ma,T.e,mA a,mA b]
def T.kind:T->Int
 | .nil=>0| .var _=>1| .sym _=>2| .num _=>3| .pair _ _=>4
def T.int:T->Int
 | .var n=>n| .num n=>n|_=>0
def T.name:T->List cU
 | .sym s=>s|_=>[]
def T.args:T->List T
 | .pair a b=>[a,b]|_=>[]
def T.e_eq(t:T):t.e= .agg [.int .i64 t.kind,.int .i64 t.int,.str t.name,.slice 4 .no (t.args.map T.e)]:=by cases t<;>rfl
@[simp]def atK(t:T):af.agg [.int .i64 t.kind,.int .i64 t.int,.str t.name,.slice 4 .no (t.args.map T.e)]=t.e:=(T.e_eq t).symm
@[simp]def atM:af.agg [.int .i64 0,.int .i64 0,.str [],.slice 4 .no []]=T.nil.e:=rfl
@[simp]def atQ(n:Int):af.agg [.int .i64 1,.int .i64 n,.str [],.slice 4 .no []]=(T.var n).e:=rfl
@[simp]def atP(s:List cU):af.agg [.int .i64 2,.int .i64 0,.str s,.slice 4 .no []]=(T.sym s).e:=rfl
@[simp]def atN(n:Int):af.agg [.int .i64 3,.int .i64 n,.str [],.slice 4 .no []]=(T.num n).e:=rfl
@[simp]def atO(a b:T):af.agg [.int .i64 4,.int .i64 0,.str [],.slice 4 .no [a.e,b.e]]=(T.pair a b).e:=rfl
@[simp]def al8:(T.nil).kind=0:=rfl
@[simp]def alz:(T.nil).int=0:=rfl
@[simp]def am2:(T.nil).name=[]:=rfl
@[simp]def ad1:(T.nil).args=[]:=rfl
@[simp]def amd(n:Int):(T.var n).kind=1:=rfl
@[simp]def alD(n:Int):(T.var n).int=n:=rfl
@[simp]def am7(n:Int):(T.var n).name=[]:=rfl
@[simp]def ad5(n:Int):(T.var n).args=[]:=rfl
@[simp]def amc(s:List cU):(T.sym s).kind=2:=rfl
@[simp]def alC(s:List cU):(T.sym s).int=0:=rfl
@[simp]def am6(s:List cU):(T.sym s).name=s:=rfl
@[simp]def ad4(s:List cU):(T.sym s).args=[]:=rfl
@[simp]def al9(n:Int):(T.num n).kind=3:=rfl
@[simp]def alA(n:Int):(T.num n).int=n:=rfl
@[simp]def am3(n:Int):(T.num n).name=[]:=rfl
@[simp]def ad2(n:Int):(T.num n).args=[]:=rfl
@[simp]def ama(a b:T):(T.pair a b).kind=4:=rfl
@[simp]def alB(a b:T):(T.pair a b).int=0:=rfl
@[simp]def am4(a b:T):(T.pair a b).name=[]:=rfl
@[simp]def ad3(a b:T):(T.pair a b).args=[a,b]:=rfl
@[simp]def av1(S:aB->Prop)(t:T):az S t.e=True:=by rw[<-mA];simp
@[simp]def axS(t:T):b7 t.e=t.e:=by rw[<-mA];simp
def XY(S:aB->Prop):∀l:List T,aH S (l.map T.e)
 |[]=>by simp[aH]
 |x::xs=>by simp[aH,XY S xs]
@[simp]def XX(S:aB->Prop)(l:List T):aH S (l.map T.e)=True:=h1 (XY S l)
@[simp]def aru:∀l:List T,cf (l.map T.e)=l.map T.e
 |[]=>rfl
 |x::xs=>by simp[cf,aru xs]
@[simp]def axq(t:T):eT t.e=true:=by rw[T.e_eq];rfl
@[simp]def at6(t:T):cells t.e=[.int .i64 t.kind,.int .i64 t.int,.str t.name,.slice 4 .no (t.args.map T.e)]:=by rw[T.e_eq];rfl
@[simp]def avv(t:T):qM 4 t.e:=by rw[T.e_eq];exact⟨_,rfl,rfl⟩
def T.size:T->Nat
 | .pair a b=>1+a.size+b.size
 |_=>1
def T.size_pos(t:T):1<=t.size:=by cases t<;>simp[T.size]<;>omega
def low(b:cU):Bool:=decide (97<=b.toNat/\b.toNat<=122)
def nX(b:cU):Bool:=low b||decide (48<=b.toNat/\b.toNat<=57)||b.toNat==45
def kq(s:List cU):Bool:=decide (1<=s.length/\s.length<=12)&&low (s.getD 0 0)&&(s.drop 1).all nX
def T.ok:T->Bool
 | .nil=>true
 | .var n=>decide (0<=n/\n<=100000)
 | .sym s=>kq s
 | .num n=>decide (-1000000000<=n/\n<=1000000000)
 | .pair a b=>a.ok&&b.ok
def mj(k n:Int)(s:List cU):Bool:=if k=0 then n==0&&s==[]else if k=1 then decide (0<=n/\n<=100000)&&s==[]else if k=2 then n==0&&kq s else if k=3 then decide (-1000000000<=n/\n<=1000000000)&&s==[]else false
def gr:Tm->Int->Int
 | .mk k n s [a,b],room=>if room<1\/k≠4\/n≠0\/s≠[]then-1 else if gr a (room-1)<0 then-1 else if gr b (room-1-gr a (room-1))<0 then-1 else 1+gr a (room-1)+gr b (room-1-gr a (room-1))
 | .mk k n s args,room=>if room<1\/k=4\/args≠[]\/mj k n s=false then-1 else 1
def OQ(k n:Int)(s:List cU)(args:List Tm)(room:Int):gr (.mk k n s args) room=if room<1 then-1 else if k≠4 then(if args≠[]then-1 else if mj k n s then 1 else-1)else if n≠0\/s≠[]then-1 else match args with
  |[a,b]=>if gr a (room-1)<0 then-1 else if gr b (room-1-gr a (room-1))<0 then-1 else 1+gr a (room-1)+gr b (room-1-gr a (room-1))
  |_=> -1:=by
 match args with
 |[]=>simp only[gr];by_cases J:room<1<;>by_cases U:k=4<;>by_cases d:mj k n s=true<;>simp[J,U,d]
 |[a]=>simp[gr]
 |[a,b]=>simp only[gr];by_cases J:room<1<;>by_cases U:k=4<;>simp[J,U]
 |a::b::c::r=>simp[gr]
def IU:∀(t:T) (room:Int),gr t.tm room=if t.ok=true/\(t.size:Int)<=room then(t.size:Int)else-1
 | .nil,room=>by simp[T.tm,gr,T.ok,T.size,mj];split<;>rename_i h<;>simp_all<;>omega
 | .var n,room=>by simp[T.tm,gr,T.ok,T.size,mj];split<;>split<;>simp_all<;>omega
 | .sym s,room=>by simp[T.tm,gr,T.ok,T.size,mj];by_cases J:room<1<;>by_cases U:kq s=true<;>simp[J,U]<;>omega
 | .num n,room=>by simp[T.tm,gr,T.ok,T.size,mj];split<;>split<;>simp_all<;>omega
 | .pair a b,room=>by
  have f:=a.size_pos;have g:=b.size_pos;simp only[T.tm,gr,IU a,IU b,T.ok,T.size,cP];by_cases J:room<1
  ·simp[J];omega
  ·by_cases U:a.ok=true/\(a.size:Int)<=room-1
   ·rw[if_pos U];by_cases c:b.ok=true/\(b.size:Int)<=room-1-a.size
    ·rw[if_pos c];simp[J,U.1,c.1];split<;>omega
    ·rw[if_neg c];simp[J,U.1];intro e;have:=c;simp[e]at this;omega
   ·rw[if_neg U];simp[J];intro d;have:=U;simp[d]at this;omega
def E2:∀(t:Tm) (room:Int),gr t room= -1\/1<=gr t room
 | .mk k n s [a,b],room=>by
  simp only[gr];split
  ·exact .inl rfl
  ·split
   ·exact .inl rfl
   ·split
    ·exact .inl rfl
    ·right;omega
 | .mk k n s [],room=>by simp only[gr];split<;>simp
 | .mk k n s [a],room=>by simp[gr]
 | .mk k n s (a::b::c::r),room=>by simp[gr]
def OS:∀(t:Tm) (room:Int),0<gr t room->∃x:T,x.tm=t
 | .mk k n s [a,b],room,h=>by
  simp only[gr]at h;split at h
  ·omega
  ·rename_i J;simp only[not_or,Int.not_lt,ne_eq,ayc]at J;obtain⟨J,rfl,rfl,rfl⟩:=J;split at h
   ·omega
   ·split at h
    ·omega
    ·obtain⟨x,rfl⟩:=OS a (room-1) (by rcases E2 a (room-1)with h|h<;>omega);obtain⟨y,rfl⟩:=OS b (room-1-gr x.tm (room-1)) (by rcases E2 b (room-1-gr x.tm (room-1))with h|h<;>omega);exact⟨.pair x y,rfl⟩
 | .mk k n s [],room,h=>by
  simp only[gr]at h;split at h
  ·omega
  ·rename_i J;simp only[not_or,ne_eq,not_true_eq_false,not_false_eq_true,true_and,Bool.not_eq_false]at J;obtain⟨_,_,J⟩:=J;unfold mj at J;split at J
   ·rename_i e;subst e;simp at J;obtain⟨rfl,rfl⟩:=J;exact⟨.nil,rfl⟩
   ·split at J
    ·rename_i e;subst e;simp at J;obtain⟨_,rfl⟩:=J;exact⟨.var n,rfl⟩
    ·split at J
     ·rename_i e;subst e;simp at J;obtain⟨rfl,_⟩:=J;exact⟨.sym s,rfl⟩
     ·split at J
      ·rename_i e;subst e;simp at J;obtain⟨_,rfl⟩:=J;exact⟨.num n,rfl⟩
      ·cases J
 | .mk k n s [a],room,h=>by simp[gr]at h
 | .mk k n s (a::b::c::r),room,h=>by simp[gr]at h
def OR:∀(t:Tm) (room:Int),gr t room<=room\/gr t room= -1
 | .mk k n s [a,b],room=>by
  simp only[gr];split
  ·exact .inr rfl
  ·split
   ·exact .inr rfl
   ·split
    ·exact .inr rfl
    ·rcases OR b (room-1-gr a (room-1))with h|h<;>omega
 | .mk k n s [],room=>by simp only[gr];split<;>simp;rename_i h;omega
 | .mk k n s [a],room=>by simp[gr]
 | .mk k n s (a::b::c::r),room=>by simp[gr]
mutual
def Tm.sz:Tm->Nat
 | .mk _ _ _ a=>1+Tm.szL a
def Tm.szL:List Tm->Nat
 |[]=>0
 |x::xs=>x.sz+Tm.szL xs
end
def szL_mem:∀{l:List Tm} {x:Tm},x∈l->x.sz<=Tm.szL l
 |y::l,x,h=>by
  rcases gI.1 h with rfl|h
  ·simp[Tm.szL]
  ·have:=szL_mem h;simp[Tm.szL];omega
def QC{t x:Tm}(h:x∈t.args):x.sz<t.sz:=by cases t;simp[Tm.args]at h;have:=szL_mem h;simp[Tm.sz];omega
def T.fit(t:T):Bool:=t.ok&&decide (t.size<=5000)
def Tm.fits(t:Tm):Bool:=decide (0<gr t 5000)
def Tm.fits_T(t:T):t.tm.fits=t.fit:=by
 unfold Tm.fits T.fit;rw[IU];have:=t.size_pos;by_cases J:t.ok=true<;>by_cases U:t.size<=5000
 ·rw[if_pos ⟨J,Ω⟩];simp[J,U];omega
 ·rw[if_neg Ω];simp[U]
 ·rw[if_neg (by simp[J])];simp[J]
 ·rw[if_neg (by simp[J])];simp[J]
def Tm.fits_ex{t:Tm}(h:t.fits=true):∃x:T,x.tm=t/\x.fit=true:=by obtain⟨x,rfl⟩:=OS t 5000 (by simpa[Tm.fits]using h);exact⟨x,rfl,by rw[<-Tm.fits_T];exact h⟩
structure Bd where
 v:Int
 t:T
 deriving DecidableEq,Inhabited
def Bd.e(b:Bd):af:= .agg [.int .i64 b.v,.int .i64 b.t.kind,.int .i64 b.t.int,.str b.t.name,.slice 4 .no (b.t.args.map T.e)]
@[simp]def Bd.eta(b:Bd):Bd.mk b.v b.t=b:=rfl
@[simp]def Rr(v:Int)(t:T):af.agg [.int .i64 v,.int .i64 t.kind,.int .i64 t.int,.str t.name,.slice 4 .no (t.args.map T.e)]=(Bd.mk v t).e:=rfl
@[simp]def atF(v:Int):af.agg [.int .i64 v,.int .i64 0,.int .i64 0,.str [],.slice 4 .no []]=(Bd.mk v .nil).e:=rfl
@[simp]def atJ(v n:Int):af.agg [.int .i64 v,.int .i64 1,.int .i64 n,.str [],.slice 4 .no []]=(Bd.mk v (.var n)).e:=rfl
@[simp]def atI(v:Int)(s:List cU):af.agg [.int .i64 v,.int .i64 2,.int .i64 0,.str s,.slice 4 .no []]=(Bd.mk v (.sym s)).e:=rfl
@[simp]def atG(v n:Int):af.agg [.int .i64 v,.int .i64 3,.int .i64 n,.str [],.slice 4 .no []]=(Bd.mk v (.num n)).e:=rfl
@[simp]def atH(v:Int)(a b:T):af.agg [.int .i64 v,.int .i64 4,.int .i64 0,.str [],.slice 4 .no [a.e,b.e]]=(Bd.mk v (.pair a b)).e:=rfl
@[simp]def avU(S:aB->Prop)(b:Bd):az S b.e=True:=by simp[Bd.e,-Rr]
@[simp]def axL(b:Bd):b7 b.e=b.e:=by simp[Bd.e,-Rr]
def XU(S:aB->Prop):∀l:List Bd,aH S (l.map Bd.e)
 |[]=>by simp[aH]
 |x::xs=>by simp[aH,XU S xs]
@[simp]def avJ(S:aB->Prop)(l:List Bd):aH S (l.map Bd.e)=True:=h1 (XU S l)
@[simp]def abU:∀l:List Bd,cf (l.map Bd.e)=l.map Bd.e
 |[]=>rfl
 |x::xs=>by simp[cf,abU xs]
@[simp]def axh(b:Bd):eT b.e=true:=rfl
@[simp]def atZ(b:Bd):cells b.e=[.int .i64 b.v,.int .i64 b.t.kind,.int .i64 b.t.int,.str b.t.name,.slice 4 .no (b.t.args.map T.e)]:=rfl
@[simp]def avs(b:Bd):qM 5 b.e:=⟨_,rfl,rfl⟩
@[simp]def auR(off:Nat)(a:Bool)(sz:Nat)(b:Bd):vV off a sz b.e=if a then some (off+sz<=5,.agg (([.int .i64 b.v,.int .i64 b.t.kind,.int .i64 b.t.int,.str b.t.name,.slice 4 .no (b.t.args.map T.e)].drop off).take sz))else(([.int .i64 b.v,.int .i64 b.t.kind,.int .i64 b.t.int,.str b.t.name,.slice 4 .no (b.t.args.map T.e)]:List af)[off]?).map fun p=>(True,p):=rfl
@[simp]def auJ(off:Nat)(a:Bool)(sz:Nat)(b:Bd):s7 off a sz (.eptr b.e)=if a then some (off+sz<=5,.eptr (.agg (([.int .i64 b.v,.int .i64 b.t.kind,.int .i64 b.t.int,.str b.t.name,.slice 4 .no (b.t.args.map T.e)].drop off).take sz)))else(([.int .i64 b.v,.int .i64 b.t.kind,.int .i64 b.t.int,.str b.t.name,.slice 4 .no (b.t.args.map T.e)]:List af)[off]?).map fun p=>(eT p=true/\cells p=[p],.eptr p):=rfl
def T.occ(v:Int):T->Bool
 | .var n=>n==v
 | .pair a b=>a.occ v||b.occ v
 |_=>false
def fb(a b:Int):Int:=if a<b then-1 else if b<a then 1 else 0
def lz(a b:List cU):Int:=if a=b then 0 else if ir a b then-1 else 1
def e6:T->T->Int
 | .pair a b,.pair c d=>if e6 a c=0 then e6 b d else e6 a c
 |x,y=>if x.kind≠y.kind then fb x.kind y.kind else if x.int≠y.int then fb x.int y.int else lz x.name y.name
structure Bt where
 v:Int
 t:Tm
def Bt.e(b:Bt):af:= .agg [.int .i64 b.v,.int .i64 b.t.kind,.int .i64 b.t.num,.str b.t.name,.slice 4 .no (b.t.args.map enc)]
def Bd.b(b:Bd):Bt:=⟨b.v,b.t.tm⟩
def Bd.b_e(b:Bd):b.b.e=b.e:=by obtain⟨v,t⟩:=b;cases t<;>simp only[Bd.b,Bt.e,Bd.e,T.tm,Tm.kind,Tm.num,Tm.name,Tm.args,mA,al8,amd,amc,al9,ama,alz,alD,alC,alA,alB,am2,am7,am6,am3,am4,ad1,ad5,ad4,ad2,ad3,gV,rZ]
@[simp]def Bt.eta(b:Bt):Bt.mk b.v b.t=b:=rfl
@[simp]def Rs(v:Int)(t:Tm):af.agg [.int .i64 v,.int .i64 t.kind,.int .i64 t.num,.str t.name,.slice 4 .no (t.args.map enc)]=(Bt.mk v t).e:=rfl
@[simp]def avW(S:aB->Prop)(b:Bt):az S b.e=True:=by simp[Bt.e,-Rs]
@[simp]def axN(b:Bt):b7 b.e=b.e:=by simp[Bt.e,-Rs]
def XW(S:aB->Prop):∀l:List Bt,aH S (l.map Bt.e)
 |[]=>by simp[aH]
 |x::xs=>by simp[aH,XW S xs]
@[simp]def avL(S:aB->Prop)(l:List Bt):aH S (l.map Bt.e)=True:=h1 (XW S l)
@[simp]def art:∀l:List Bt,cf (l.map Bt.e)=l.map Bt.e
 |[]=>rfl
 |x::xs=>by simp[cf,art xs]
@[simp]def axk(b:Bt):eT b.e=true:=rfl
@[simp]def at2(b:Bt):cells b.e=[.int .i64 b.v,.int .i64 b.t.kind,.int .i64 b.t.num,.str b.t.name,.slice 4 .no (b.t.args.map enc)]:=rfl
@[simp]def avu(b:Bt):qM 5 b.e:=⟨_,rfl,rfl⟩
@[simp]def auS(off:Nat)(a:Bool)(sz:Nat)(b:Bt):vV off a sz b.e=if a then some (off+sz<=5,.agg (([.int .i64 b.v,.int .i64 b.t.kind,.int .i64 b.t.num,.str b.t.name,.slice 4 .no (b.t.args.map enc)].drop off).take sz))else(([.int .i64 b.v,.int .i64 b.t.kind,.int .i64 b.t.num,.str b.t.name,.slice 4 .no (b.t.args.map enc)]:List af)[off]?).map fun p=>(True,p):=rfl
@[simp]def auK(off:Nat)(a:Bool)(sz:Nat)(b:Bt):s7 off a sz (.eptr b.e)=if a then some (off+sz<=5,.eptr (.agg (([.int .i64 b.v,.int .i64 b.t.kind,.int .i64 b.t.num,.str b.t.name,.slice 4 .no (b.t.args.map enc)].drop off).take sz)))else(([.int .i64 b.v,.int .i64 b.t.kind,.int .i64 b.t.num,.str b.t.name,.slice 4 .no (b.t.args.map enc)]:List af)[off]?).map fun p=>(eT p=true/\cells p=[p],.eptr p):=rfl
def Co(l:List Bt)(i:Nat):Prop:= ∀b,l[i]? =some b->(0<=b.v/\b.v<=100000)/\(∀c,0<i->l[i-1]? =some c->c.v<b.v)/\b.t.fits=true
def AL(l:List Bt):Prop:=l.length<=400/\∀i,i<l.length->Co l i
def sG:∀a b:T,e6 a b=0↔a=b
 | .pair a b,.pair c d=>by
  simp only[e6,T.pair.injEq];split
  ·rename_i h;rw[sG b d,<-sG a c];simp[h]
  ·rename_i h;simp[h,<-sG a c]
 | .nil,y=>by cases y<;>simp[e6,fb,lz]
 | .var n,y=>by cases y<;>simp[e6,fb,lz]<;>omega
 | .sym s,y=>by cases y<;>simp[e6,fb,lz];rename_i e;by_cases h:s=e<;>simp[h];by_cases U:ir s e=true<;>simp[U]
 | .num n,y=>by cases y<;>simp[e6,fb,lz]<;>omega
 | .pair a b,.nil| .pair a b,.var _| .pair a b,.sym _| .pair a b,.num _=>by simp[e6,fb]
def T.sub(f:Int->bd T):T->T
 | .var n=>match f n with|some x=>x|none=>.var n
 | .pair a b=>.pair (a.sub f) (b.sub f)
 |t=>t
def ml(f:Int->Int):T->Int
 | .var n=>if 5001<f n then 5001 else f n
 | .pair a b=>if 5000<ml f a then ml f a else if 5001<1+ml f a+ml f b then 5001 else 1+ml f a+ml f b
 |_=>1
def JX(f:Int->Int)(c:∀v,-1<=f v):∀t,-1<=ml f t/\ml f t<=5001
 | .var n=>by have:=c n;simp only[ml];split<;>omega
 | .pair a b=>by have:=JX f c a;have:=JX f c b;simp only[ml];split<;>(try split)<;>omega
 | .nil| .sym _| .num _=>by simp[ml]
def dH(l:List Bd)(v:Int):bd T:=(l.find? fun b=>b.v==v).map (·.t)
end
section
open Go
structure kd {α:Type} (c:α->α->Int):Prop where
 neg:∀a b,c b a= -c a b
 tr:∀a b d,c a b<=0->c b d<=0->c a d<=0
 zero:∀a b,c a b=0↔a=b
section
variable {α:Type} {c:α->α->Int}
def iK(c:α->α->Int)(a b:α):Bool:=decide (c a b<0)
def kd.ltOk(h:kd c):r4 (iK c):=by
 refine⟨fun x y a=>?_,fun x y z J U=>?_⟩
 ·simp only[iK,gy,iM]at a⊢;rw[h.neg x y];omega
 ·simp only[iK,iM]at J U⊢;have d:=h.neg x y;have e:=h.neg y z;have b:=h.neg x z;have:=h.tr x y z Ω Ω;omega
def kd.refl(h:kd c)(a:α):c a a=0:=(h.zero a a).2 rfl
def kd.ltr(h:kd c){a b d:α}(J:c a b<0)(U:c b d<=0):c a d<0:=by
 have f:=h.tr a b d Ω U;rcases(by omega:c a d<0\/c a d=0)with e|e
 ·exact e
 ·obtain rfl:=(h.zero a d).1 e;have:=h.neg a b;omega
def qc(c:α->α->Int)(l:List α):List α:=l.mergeSort fun x y=>decide (c x y<=0)
def Au(c:α->α->Int)(l:List α):(qc c l).Perm l:=List.mergeSort_perm l _
def Qm(h:kd c)(l:List α):(qc c l).Pairwise fun x y=>c x y<=0:=by have:=List.pairwise_mergeSort (le:=fun x y=>decide (c x y<=0)) (fun a b d J U=>by simp at J U⊢;exact h.tr a b d J U) (fun a b=>by simp;have:=h.neg a b;omega) l;exact this.imp Ψ
def abQ(h:kd c){l a:List α}(d:a.Perm l)(e:a.Pairwise fun x y=>iK c y x=false):a=qc c l:=by refine Rb (le:=fun x y=>c x y<=0) (fun x y _ _ J U=>(h.zero x y).1 (by have:=h.neg x y;omega)) (e.imp fun{x y} b=>?_) (Qm h l) (d.trans (Au c l).symm);simp only[iK,iM]at b;have:=h.neg x y;omega
def cV[DecidableEq α](p:bd α):List α->List α
 |[]=>[]
 |x::r=>if p=some x then cV (some x) r else x::cV (some x) r
def asc[DecidableEq α](c:α->α->Int)(l:List α):List α:=cV none (qc c l)
def iN(c:α->α->Int)(l:List α):Prop:=l.Pairwise fun x y=>c x y<0
variable [DecidableEq α]
def LI:∀(l:List α) (p:bd α) (x:α),x∈cV p l->x∈l
 |[],_,_,h=>by simp[cV]at h
 |y::r,p,x,h=>by
  simp only[cV]at h;split at h
  ·exact q5 _ (LI r _ x h)
  ·rcases gI.1 h with rfl|h
   ·simp
   ·exact q5 _ (LI r _ x h)
def Ow:∀(l:List α) (p:bd α) (x:α),x∈l->x∈cV p l\/p=some x
 |y::r,p,x,h=>by
  simp only[cV];rcases gI.1 h with rfl|h
  ·split
   ·rename_i U;exact .inr U
   ·simp
  ·split
   ·rename_i U;rcases Ow r (some y) x h with a|a
    ·exact .inl a
    ·cases a;exact .inr U
   ·rcases Ow r (some y) x h with a|a
    ·exact .inl (q5 _ a)
    ·cases a;simp
def Un(ax:kd c):∀(l:List α) (p:bd α),l.Pairwise (fun x y=>c x y<=0)->(∀y,p=some y->∀x∈l,c y x<=0)->iN c (cV p l)/\∀y,p=some y->∀x∈cV p l,c y x<0
 |[],p,_,_=>⟨ayl,fun y _ x a=>by simp[cV]at a⟩
 |z::r,p,h,i=>by
  obtain⟨J,U⟩:=oh.1 h;have b:=Un ax r (some z) U (fun y f x a=>by cases f;exact J x a);simp only[cV];split
  ·rename_i e;subst e;exact b
  ·rename_i e;refine⟨oh.2 ⟨fun x a=>b.2 z rfl x a,b.1⟩,fun y f x a=>?_⟩;subst f;have g:c y z<0:=by
    have j:=i y rfl z Ψ;rcases(by omega:c y z<0\/c y z=0)with d|d
    ·exact d
    ·exact absurd (fy some ((ax.zero y z).1 d)) e
   rcases gI.1 a with rfl|a
   ·exact g
   ·exact ax.ltr g (by have:=b.2 z rfl x a;omega)
def KS(ax:kd c)(l:List α):iN c (asc c l):=(Un ax _ none (Qm ax l) (fun y h=>by cases h)).1
def YB(l:List α)(x:α):x∈asc c l↔x∈l:=by
 constructor
 ·intro h;exact(Au c l).mem_iff.1 (LI _ _ _ h)
 ·intro h;rcases Ow (qc c l) none x ((Au c l).mem_iff.2 h)with h|h
  ·exact h
  ·cases h
omit [DecidableEq α]in
def iN.ext(ax:kd c){l d:List α}(h:iN c l)(f:iN c d)(hm:∀x,x∈l↔x∈d):l=d:=by
 have g:∀{l:List α},iN c l->l.Nodup:=fun{l} h=>h.imp fun{a b} h e=>by subst e;have:=ax.refl a;omega
 refine Rb (le:=fun x y=>c x y<=0) (fun x y _ _ J U=>(ax.zero x y).1 (by have:=ax.neg x y;omega)) (h.imp fun h=>Ω) (f.imp fun h=>Ω) ?_;exact(List.perm_ext_iff_of_nodup (g h) (g f)).2 hm
omit [DecidableEq α]in
def iN.nodup(ax:kd c){l:List α}(h:iN c l):l.Nodup:=h.imp fun{a b} h e=>by subst e;have:=ax.refl a;omega
end
def KZ:∀a b:List cU,ir a b=true->ir b a=false
 |_,[],h=>by simp[ir]at h
 |[],_::_,_=>by simp[ir]
 |x::a,y::b,h=>by
  simp only[ir,og,gy,cP,ey]at h;simp only[ir,Bool.or_eq_false_iff,iM,Bool.and_eq_false_iff];rcases h with h|⟨rfl,h⟩
  ·refine⟨fun U=>?_,.inl ?_⟩
   ·rw[UInt8.lt_iff_toNat_lt]at h U;omega
   ·simp;intro e;subst e;rw[UInt8.lt_iff_toNat_lt]at h;omega
  ·exact⟨fun U=>by rw[UInt8.lt_iff_toNat_lt]at U;omega,.inr (KZ a b h)⟩
def RK:∀a b:List cU,a≠b->ir a b=false->ir b a=true
 |[],[],h,_=>absurd rfl h
 |x::a,[],_,_=>by simp[ir]
 |[],_::_,_,h=>by simp[ir]at h
 |x::a,y::b,c,h=>by
  simp only[ir,Bool.or_eq_false_iff,iM,Bool.and_eq_false_iff]at h;simp only[ir,og,gy,cP,ey];by_cases e:x=y
  ·subst e;right;refine⟨rfl,RK a b (fun e=>c (by rw[e])) ?_⟩;rcases h.2 with U|U
   ·simp at U
   ·exact U
  ·left;have J:=h.1;rw[UInt8.lt_iff_toNat_lt]at J⊢;have:x.toNat≠y.toNat:=fun h=>e (UInt8.toNat_inj.1 h);omega
def RJ:∀a b d:List cU,ir a b=true->ir b d=true->ir a d=true
 |_,[],_,h,_=>by simp[ir]at h
 |_,_::_,[],_,h=>by simp[ir]at h
 |[],_::_,_::_,_,_=>by simp[ir]
 |x::a,y::b,z::d,J,U=>by
  simp only[ir,og,gy,cP,ey,UInt8.lt_iff_toNat_lt]at J U⊢;rcases J with J|⟨rfl,J⟩<;>rcases U with U|⟨rfl,U⟩
  ·left;omega
  ·left;exact J
  ·left;exact U
  ·exact .inr ⟨rfl,RJ a b d J U⟩
def k1:kd fb:=by
 refine⟨fun a b=>?_,fun a b d=>?_,fun a b=>?_⟩
 ·simp only[fb];repeat' split
  all_goals omega
 ·simp only[fb];repeat' split
  all_goals omega
 ·simp only[fb];repeat' split
  all_goals omega
def Fg:kd lz:=by
 have g:∀a b,lz b a= -lz a b:=fun a b=>by
  simp only[lz];by_cases e:a=b
  ·subst e;simp
  ·rw[if_neg e,if_neg (Ne.symm e)];cases h:ir a b with
   |true=>simp[KZ a b h]
   |false=>simp[RK a b e h]
 refine⟨g,fun a b d J U=>?_,fun a b=>?_⟩
 ·simp only[lz]at J U⊢;by_cases c:a=b
  ·subst c;exact U
  ·by_cases f:b=d
   ·subst f;exact J
   ·rw[if_neg c]at J;rw[if_neg f]at U;have g1:ir a b=true:=by cases h:ir a b<;>simp[h]at J⊢
    have g2:ir b d=true:=by cases h:ir b d<;>simp[h]at U⊢
    rw[RJ a b d g1 g2];split<;>simp
 ·simp only[lz];by_cases e:a=b
  ·simp[e]
  ·rw[if_neg e];simp[e];split<;>omega
def tR{a b:T}(h:a.kind≠b.kind):e6 a b=fb a.kind b.kind:=by cases a<;>cases b<;>simp at h<;>simp[e6]
def I7:∀a b:T,e6 b a= -e6 a b
 | .pair a b,.pair c d=>by
  simp only[e6];have J:=I7 a c;have U:=I7 b d;by_cases e:e6 a c=0
  ·rw[if_pos e,if_pos Ω,U]
  ·rw[if_neg e,if_neg Ω,J]
 | .nil,y=>by
  by_cases ab:T.nil.kind=y.kind
  ·cases y<;>simp at ab;simp[e6,lz]
  ·rw[tR ab,tR (Ne.symm ab),k1.neg]
 | .var n,y=>by
  by_cases ab:(T.var n).kind=y.kind
  ·cases y<;>simp at ab;rename_i m;by_cases e:n=m
   ·subst e;simp[e6,lz]
   ·simp[e6,e,Ne.symm e,k1.neg n m]
  ·rw[tR ab,tR (Ne.symm ab),k1.neg]
 | .sym s,y=>by
  by_cases ab:(T.sym s).kind=y.kind
  ·cases y<;>simp at ab;rename_i m;simp[e6,Fg.neg s m]
  ·rw[tR ab,tR (Ne.symm ab),k1.neg]
 | .num n,y=>by
  by_cases ab:(T.num n).kind=y.kind
  ·cases y<;>simp at ab;rename_i m;by_cases e:n=m
   ·subst e;simp[e6,lz]
   ·simp[e6,e,Ne.symm e,k1.neg n m]
  ·rw[tR ab,tR (Ne.symm ab),k1.neg]
 | .pair a b,.nil| .pair a b,.var _| .pair a b,.sym _| .pair a b,.num _=>by simp[e6,fb]
def I6{a b:T}(h:e6 a b<=0):a.kind<=b.kind:=by
 by_cases ab:a.kind=b.kind
 ·omega
 ·rw[tR ab]at h;simp only[fb]at h;repeat' split at h
  all_goals omega
def ZP(n m:Int):e6 (.var n) (.var m)=fb n m:=by
 simp only[e6,T.kind,T.int,T.name,lz];by_cases e:n=m
 ·subst e;simp[fb]
 ·simp[e]
def ZO(n m:Int):e6 (.num n) (.num m)=fb n m:=by
 simp only[e6,T.kind,T.int,T.name,lz];by_cases e:n=m
 ·subst e;simp[fb]
 ·simp[e]
def apn(n m:List cU):e6 (.sym n) (.sym m)=lz n m:=by simp[e6]
def I8(a b d:T)(c:a.kind≠4)(J:e6 a b<=0)(U:e6 b d<=0):e6 a d<=0:=by
 have f:=I6 J;have e:=I6 U;by_cases ab:a.kind=d.kind
 ·cases a<;>cases d<;>simp at ab c;all_goals(cases b<;>simp at f e)
  ·simp[e6,lz]
  ·rw[ZP]at J U⊢;exact k1.tr _ _ _ J U
  ·rw[apn]at J U⊢;exact Fg.tr _ _ _ J U
  ·rw[ZO]at J U⊢;exact k1.tr _ _ _ J U
 ·rw[tR ab];simp only[fb];repeat' split
  all_goals omega
def apo:∀a b d:T,e6 a b<=0->e6 b d<=0->e6 a d<=0:=by
 intro a;induction a with
 |pair e a2 o m=>
  intro b d J U;have l:=I6 J;have i:=I6 U;cases b<;>simp at l;all_goals(cases d<;>simp at i)
  rename_i c j d1 d2;simp only[e6]at J U⊢;by_cases g:e6 e c=0
  ·obtain rfl:=(sG e c).1 g;rw[if_pos g]at J;by_cases f:e6 e d1=0
   ·rw[if_pos f]at U⊢;exact m j d2 J U
   ·rw[if_neg f]at U⊢;exact U
  ·rw[if_neg g]at J;by_cases f:e6 c d1=0
   ·obtain rfl:=(sG c d1).1 f;rw[if_neg g];exact J
   ·rw[if_neg f]at U;have k:=o c d1 J U;by_cases h:e6 e d1=0
    ·obtain rfl:=(sG e d1).1 h;have:=I7 e c;omega
    ·rw[if_neg h];exact k
 |nil=>exact fun b d=>I8 _ b d Ψ
 |var n=>exact fun b d=>I8 _ b d Ψ
 |sym n=>exact fun b d=>I8 _ b d Ψ
 |num n=>exact fun b d=>I8 _ b d Ψ
def Pg:kd e6:=⟨I7,apo,sG⟩
end
section
open Go
section
variable {α:Type} {c:α->α->Int}
def kH(c:α->α->Int):List α->List α->Int
 |[],[]=>0
 |[],_::_=> -1
 |_::_,[]=>1
 |x::xs,y::ys=>if c x y=0 then kH c xs ys else c x y
def Yi(h:kd c):∀a b:List α,kH c b a= -kH c a b
 |[],[]=>rfl
 |[],_::_=>rfl
 |_::_,[]=>rfl
 |x::xs,y::ys=>by
  simp only[kH];have J:=h.neg x y;by_cases e:c x y=0
  ·rw[if_pos e,if_pos Ω,Yi h xs ys]
  ·rw[if_neg e,if_neg Ω,J]
def Yk(h:kd c):∀a b:List α,kH c a b=0↔a=b
 |[],[]=>by simp[kH]
 |[],_::_=>by simp[kH]
 |_::_,[]=>by simp[kH]
 |x::xs,y::ys=>by
  simp only[kH,rX];by_cases e:c x y=0
  ·rw[if_pos e,Yk h xs ys];simp[(h.zero x y).1 e]
  ·rw[if_neg e];exact⟨fun d=>absurd d e,fun d=>absurd ((h.zero x y).2 d.1) e⟩
def Yj(h:kd c):∀a b d:List α,kH c a b<=0->kH c b d<=0->kH c a d<=0
 |[],_,[],_,_=>by simp[kH]
 |[],_,_::_,_,_=>by simp[kH]
 |_::_,[],_,J,_=>by simp[kH]at J
 |_::_,_::_,[],_,U=>by simp[kH]at U
 |x::xs,y::ys,z::dt,J,U=>by
  simp only[kH]at J U⊢;by_cases f:c x y=0
  ·have:=(h.zero x y).1 f;subst this;rw[if_pos f]at J;by_cases e:c x z=0
   ·rw[if_pos e]at U⊢;exact Yj h xs ys dt J U
   ·rw[if_neg e]at U⊢;exact U
  ·rw[if_neg f]at J;have g:c x y<0:=Ω
   by_cases e:c y z=0
   ·have:=(h.zero y z).1 e;subst this;rw[if_neg f];omega
   ·rw[if_neg e]at U;have:=h.ltr g U;rw[if_neg Ω];omega
def amk(h:kd c):kd (kH c):=⟨Yi h,Yj h,Yk h⟩
end
def z6(x y:Bd):Int:=if fb x.v y.v=0 then e6 x.t y.t else fb x.v y.v
def apl:kd z6:=by
 refine⟨fun x y=>?_,fun x y z J U=>?_,fun x y=>?_⟩
 ·unfold z6;have:=k1.neg x.v y.v;have:=Pg.neg x.t y.t;by_cases e:fb x.v y.v=0
  ·rw[if_pos e,if_pos Ω];omega
  ·rw[if_neg e,if_neg Ω];omega
 ·unfold z6 at J U⊢;by_cases b:fb x.v y.v=0
  ·rw[if_pos b]at J;rw[(k1.zero _ _).1 b];by_cases a:fb y.v z.v=0
   ·rw[if_pos a]at U⊢;exact Pg.tr _ _ _ J U
   ·rw[if_neg a]at U⊢;exact U
  ·rw[if_neg b]at J;have c:fb x.v y.v<0:=Ω
   by_cases a:fb y.v z.v=0
   ·rw[<-(k1.zero _ _).1 a,if_neg b];exact J
   ·rw[if_neg a]at U;have:=k1.ltr c U;rw[if_neg Ω];omega
 ·unfold z6;by_cases e:fb x.v y.v=0
  ·rw[if_pos e,Pg.zero];have:=(k1.zero _ _).1 e;cases x;cases y;simp_all
  ·rw[if_neg e];exact⟨fun h=>absurd h e,fun h=>by rw[h]at e;exact absurd (k1.refl _) e⟩
def fa:List Bd->List Bd->Int:=kH z6
def mN:kd fa:=amk apl
end
section
open Go
def T.ap(c:Int->T):T->T
 | .var n=>c n
 | .pair a b=>.pair (a.ap c) (b.ap c)
 |t=>t
def Dj(f g:Int->T)(t:T):(t.ap f).ap g=t.ap fun v=>(f v).ap g:=by
 induction t with
 |pair a b d c=>simp[T.ap,d,c]
 |_=>simp[T.ap]
def vJ{f g:Int->T}{t:T}(h:∀v,t.occ v=true->f v=g v):t.ap f=t.ap g:=by
 induction t with
 |var n=>exact h n (by simp[T.occ])
 |pair a b e d=>simp only[T.ap];rw[e fun v c=>h v (by simp[T.occ,c]),d fun v c=>h v (by simp[T.occ,c])]
 |_=>rfl
def adZ(t:T):t.ap .var=t:=by induction t<;>simp_all[T.ap]
def Rx{f:Int->T}{t:T}(h:∀v,t.occ v=true->f v= .var v):t.ap f=t:=(vJ h).trans (adZ t)
def abY(f:Int->bd T)(t:T):t.sub f=t.ap fun v=>(f v).getD (.var v):=by
 induction t with
 |var n=>simp only[T.sub,T.ap];cases f n<;>rfl
 |pair a b d c=>simp[T.sub,T.ap,d,c]
 |_=>rfl
def adY(c:Int->T)(t:T):t.size<=(t.ap c).size:=by
 induction t with
 |var n=>exact T.size_pos _
 |pair a b e d=>simp only[T.ap,T.size];omega
 |_=>exact dP _
def Cn(c:Int->T){v:Int}{t:T}(h:t.occ v=true):(c v).size<=(t.ap c).size/\(t.kind≠1->(c v).size<(t.ap c).size):=by
 induction t with
 |var n=>simp[T.occ]at h;subst h;simp[T.ap,T.kind]
 |pair a b e d=>
  simp only[T.occ,og]at h;simp only[T.ap,T.size];rcases h with h|h
  ·have:=(e h).1;exact⟨Ω,fun _=>Ω⟩
  ·have:=(d h).1;exact⟨Ω,fun _=>Ω⟩
 |_=>simp[T.occ]at h
def E5{c:Int->T}{v:Int}{t:T}:(t.ap c).occ v=true↔∃w,t.occ w=true/\(c w).occ v=true:=by
 induction t with
 |var n=>simp[T.ap,T.occ]
 |pair a b e d=>
  simp only[T.ap,T.occ,og,e,d];constructor
  ·rintro(⟨w,J,U⟩|⟨w,J,U⟩)
   ·exact⟨w,.inl J,U⟩
   ·exact⟨w,.inr J,U⟩
  ·rintro⟨w,J|J,U⟩
   ·exact .inl ⟨w,J,U⟩
   ·exact .inr ⟨w,J,U⟩
 |_=>simp[T.ap,T.occ]
def cQ(s:List Bd)(v:Int):T:=(dH s v).getD (.var v)
abbrev jA(s:List Bd):Prop:=s.Pairwise fun x y=>x.v<y.v
def hS(s:List Bd)(a:Int->T):Prop:= ∀b∈s,a b.v=b.t.ap a
structure gD (s:List Bd):Prop where
 asc:jA s
 free:∀b∈s,∀w,b.t.occ w=true->dH s w=none
 ori:∀b∈s,∀w,b.t= .var w->w<b.v
def vL(b:Bd)(s:List Bd)(v:Int):dH (b::s) v=if b.v=v then some b.t else dH s v:=by
 unfold dH;by_cases h:b.v=v
 ·simp[h]
 ·have:(b.v==v)=false:=by simp[h]
  simp[this,h,List.find?_cons]
def kP{v:Int}{t:T}:∀{s:List Bd},dH s v=some t->(⟨v,t⟩:Bd)∈s
 |[],h=>by simp[dH]at h
 |b::s,h=>by
  rw[vL]at h;split at h
  ·rename_i e;cases h;subst e;simp
  ·exact q5 _ (kP h)
def w6{v:Int}:∀{s:List Bd},dH s v=none↔∀b∈s,b.v≠v
 |[]=>by simp[dH]
 |b::s=>by
  rw[vL];by_cases h:b.v=v
  ·simp[h]
  ·simp[h,w6 (s:=s)]
def w5{b:Bd}:∀{s:List Bd},jA s->b∈s->dH s b.v=some b.t
 |[],_,h=>by simp at h
 |c::s,d,h=>by
  rw[vL];have a:=oh.1 d;rcases gI.1 h with rfl|h
  ·simp
  ·have:=a.1 b h;rw[if_neg Ω];exact w5 a.2 h
def Rz:∀{s a:List Bd},jA s->jA a->(∀v,dH s v=dH a v)->s=a
 |[],[],_,_,_=>rfl
 |[],c::a,_,_,h=>by have:=h c.v;rw[vL]at this;simp[dH]at this
 |c::s,[],_,_,h=>by have:=h c.v;rw[vL]at this;simp[dH]at this
 |b::s,c::a,k,m,h=>by
  have f:=oh.1 m;have d:=oh.1 k;have J:(⟨b.v,b.t⟩:Bd)∈c::a:=kP (by rw[<-h b.v,vL];simp);have U:(⟨c.v,c.t⟩:Bd)∈b::s:=kP (by rw[h c.v,vL];simp);have o:b=c:=by
   rcases gI.1 J with e|e
   ·exact e
   ·rcases gI.1 U with i|i
    ·exact i.symm
    ·have n:=f.1 _ e;have l:=d.1 _ i;simp only at n l;omega
  subst o;rw[Rz d.2 f.2 fun v=>?_];have:=h v;rw[vL,vL]at this;by_cases e:b.v=v
  ·have j:dH s v=none:=w6.2 fun x g=>by have:=d.1 x g;omega
   have z2:dH a v=none:=w6.2 fun x g=>by have:=f.1 x g;omega
   rw[j,z2]
  ·simpa[e]using this
def arf{s:List Bd}(c:jA s){a:Int->T}:hS s a↔∀v,a v=(cQ s v).ap a:=by
 constructor
 ·intro h v;unfold cQ;cases e:dH s v with
  |none=>rfl
  |some t=>exact h _ (kP e)
 ·intro h b d;have:=h b.v;rw[cQ,w5 c d]at this;exact this
def Qk{s:List Bd}{a:Int->T}(h:hS s a)(t:T):t.ap a=(t.ap (cQ s)).ap a:=by
 rw[Dj];refine vJ fun v _=>?_;unfold cQ;cases e:dH s v with
 |none=>rfl
 |some t=>exact h _ (kP e)
def aqV{s:List Bd}(b:gD s){t:T}(h:∀w,t.occ w=true->dH s w=none):t.ap (cQ s)=t:=Rx fun v a=>by simp[cQ,h v a]
def Ar{s:List Bd}(a:gD s):hS s (cQ s):=fun b c=>by rw[aqV a (a.free b c),cQ,w5 a.asc c];rfl
def OF{s a:List Bd}(f:gD s)(c:gD a)(h:∀d,hS a d->hS s d){v:Int}(g:dH a v=none):dH s v=none:=by
 cases e:dH s v with
 |none=>rfl
 |some t=>
  have J:=h _ (Ar c) _ (kP e);simp only[cQ,g,mW]at J;cases t with
  |var w=>
   have U:w<v:=f.ori _ (kP e) w rfl;simp only[T.ap,cQ]at J;cases b:dH a w with
   |none=>rw[b]at J;simp at J;omega
   |some u=>rw[b]at J;simp only[mr]at J;subst J;have:=c.ori _ (kP b) v rfl;simp only at this;omega
  |_=>simp[T.ap]at J
def am1{s a:List Bd}(c:gD a)(h:∀b,hS a b->hS s b){v:Int}:(cQ s v).size<=(cQ a v).size:=by
 have J:=h _ (Ar c);unfold cQ;cases e:dH s v with
 |none=>exact T.size_pos _
 |some t=>have:=J _ (kP e);show t.size<=(cQ a v).size;simp only at this;rw[this];exact adY _ _
def arj{s b:List Bd}(d:gD s)(c:gD b)(h:∀a,hS s a↔hS b a):s=b:=by
 refine Rz d.asc c.asc fun v=>?_;have d1:∀w,dH s w=none↔dH b w=none:=fun w=>⟨OF c d (fun a=>(h a).1),OF d c fun a=>(h a).2⟩;cases e:dH s v with
 |none=>exact((d1 v).1 e).symm
 |some t=>
  cases f:dH b v with
  |none=>rw[(d1 v).2 f]at e;cases e
  |some t'=>have J:=(h _).2 (Ar c) _ (kP e);simp only[cQ,f,mr]at J;rw[J];exact fy some (Rx fun w hw=>by have:=(d1 w).1 (d.free _ (kP e) w hw);simp[cQ,this]).symm
def iv(s:List Bd):Prop:=s.length<=400/\∀b∈s,b.t.size<=5000
def ad8{s:List Bd}(h:jA s):(s.map (·.v)).Nodup:=by rw[List.nodup_iff_pairwise_ne,List.pairwise_map];exact h.imp fun h=>Ω
def Vl{s a:List Bd}(d:gD s)(g:gD a)(h:∀j,hS a j->hS s j)(l:iv a):iv s:=by
 have k:∀x∈s.map (·.v),x∈a.map (·.v):=by
  intro x m;obtain⟨b,f,rfl⟩:=hb.1 m;cases e:dH a b.v with
  |none=>have:=OF d g h e;rw[w5 d.asc f]at this;cases this
  |some t=>exact hb.2 ⟨_,kP e,rfl⟩
 have i:=Ra (ad8 d.asc) k;simp only[List.length_map]at i;refine⟨kC i l.1,fun b f=>?_⟩;have J:=am1 (s:=s) g h (v:=b.v);rw[cQ,w5 d.asc f]at J;obtain⟨c,ax,e⟩:=hb.1 (k b.v (hb.2 ⟨b,f,rfl⟩));have U:=l.2 c ax;rw[cQ,<-e,w5 g.asc ax]at J;exact kC J U
def kh(E:List (T×T))(a:Int->T):Prop:= ∀e∈E,e.1.ap a=e.2.ap a
def FO(a:Int->T):kh [] a:=fun _ h=>by simp at h
def sI{e:T×T}{E:List (T×T)}{a:Int->T}:kh (e::E) a↔e.1.ap a=e.2.ap a/\kh E a:=by simp[kh]
def FN{E b:List (T×T)}{a:Int->T}:kh (E++b) a↔kh E a/\kh b a:=by simp only[kh,kc];exact⟨fun h=>⟨fun e he=>h e (.inl he),fun e he=>h e (.inr he)⟩,fun h e he=>he.elim (h.1 e) (h.2 e)⟩
def jF(s:List Bd)(E:List (T×T)):bd (List Bd)->Prop
 |some a=>(gD a/\iv a)/\∀b,hS a b↔hS s b/\kh E b
 |none=> ∀a,gD a->(∀b,hS a b->hS s b/\kh E b)->¬iv a
def adP{s:List Bd}{E:List (T×T)}:∀{o o':bd (List Bd)},jF s E o->jF s E o'->o=o'
 |none,none,_,_=>rfl
 |some s1,none,h,a=>absurd h.1.2 (a s1 h.1.1 fun b=>(h.2 b).1)
 |none,some s1,a,h=>absurd h.1.2 (a s1 h.1.1 fun b=>(h.2 b).1)
 |some s1,some s2,h,a=>by rw[arj h.1.1 a.1.1 fun b=>(h.2 b).trans (a.2 b).symm]
def Dh{s s2:List Bd}{E c:List (T×T)}(h:∀a,(hS s a/\kh E a)↔(hS s2 a/\kh c a)):∀{o:bd (List Bd)},jF s E o->jF s2 c o
 |none,b=>fun e J U=>b e J fun a d=>(h a).2 (U a d)
 |some s1,b=>⟨b.1,fun a=>(b.2 a).trans (h a)⟩
def Rm{s s1:List Bd}{E d:List (T×T)}(h:jF s E (some s1)):∀{o:bd (List Bd)},jF s1 d o->jF s (E++d) o
 |none,b=>fun e J U=>b e J fun a c=>⟨(h.2 a).2 ⟨(U a c).1,(FN.1 (U a c).2).1⟩,(FN.1 (U a c).2).2⟩
 |some s2,b=>⟨b.1,fun a=>by rw[b.2 a,h.2 a,FN,and_assoc]⟩
def KJ{s:List Bd}{E:List (T×T)}(c:List (T×T))(h:jF s E none):jF s (E++c) none:=fun d J U=>h d J fun b a=>⟨(U b a).1,(FN.1 (U b a).2).1⟩
def Gr{s:List Bd}{E:List (T×T)}(h:∀a,hS s a->¬kh E a):jF s E none:=fun b J U=>absurd (U _ (Ar J)).2 (h _ (U _ (Ar J)).1)
def KK{s:List Bd}(a:gD s)(c:iv s):jF s [] (some s):=⟨⟨a,c⟩,fun b=>⟨fun h=>⟨h,FO b⟩,fun h=>h.1⟩⟩
def one(v:Int)(x:T)(w:Int):T:=if w=v then x else .var w
def p2(b:Bd):List Bd->List Bd
 |[]=>[b]
 |c::s=>if b.v<c.v then b::c::s else c::p2 b s
def nN(s:List Bd)(v:Int)(x:T):List Bd:=p2 ⟨v,x⟩ (s.map fun b=>⟨b.v,b.t.ap (one v x)⟩)
def Ox{b x:Bd}:∀{s:List Bd},x∈p2 b s↔x=b\/x∈s
 |[]=>by simp[p2]
 |c::s=>by
  simp only[p2];split
  ·simp
  ·simp only[gI,Ox (s:=s)];constructor
   ·rintro(h|h|h)
    ·exact .inr (.inl h)
    ·exact .inl h
    ·exact .inr (.inr h)
   ·rintro(h|h|h)
    ·exact .inr (.inl h)
    ·exact .inl h
    ·exact .inr (.inr h)
def Yh{b:Bd}:∀{s:List Bd},(p2 b s).length=s.length+1
 |[]=>rfl
 |c::s=>by simp only[p2];split<;>simp[Yh]
def RA{b:Bd}:∀{s:List Bd},jA s->(∀c∈s,c.v≠b.v)->jA (p2 b s)
 |[],_,_=>by simp[p2]
 |c::s,e,f=>by
  have d:=oh.1 e;simp only[p2];split
  ·rename_i g;refine oh.2 ⟨fun x a=>?_,e⟩;rcases gI.1 a with rfl|a
   ·exact g
   ·have:=d.1 x a;omega
  ·rename_i h;refine oh.2 ⟨fun x a=>?_,RA d.2 fun c ax=>f c (by simp[ax])⟩;rcases Ox.1 a with rfl|a
   ·have:=f c Ψ;omega
   ·exact d.1 x a
def rF{s:List Bd}{v:Int}{x:T}{b:Bd}:b∈nN s v x↔b=⟨v,x⟩\/ ∃c∈s,b=⟨c.v,c.t.ap (one v x)⟩:=by unfold nN;rw[Ox,hb];refine or_congr Iff.rfl ⟨fun⟨c,J,U⟩=>⟨c,J,U.symm⟩,fun⟨c,J,U⟩=>⟨c,J,U.symm⟩⟩
def ZK{v:Int}{x:T}{a:Int->T}(h:a v=x.ap a)(t:T):(t.ap (one v x)).ap a=t.ap a:=by
 rw[Dj];refine vJ fun w _=>?_;unfold one;split
 ·rename_i e;subst e;exact h.symm
 ·rfl
def Gv{s:List Bd}{v w:Int}{x:T}:dH (nN s v x) w=none↔w≠v/\dH s w=none:=by
 rw[w6,w6];constructor
 ·intro h;exact⟨fun e=>h ⟨v,x⟩ (rF.2 (.inl rfl)) e.symm,fun b a=>h ⟨b.v,b.t.ap (one v x)⟩ (rF.2 (.inr ⟨b,a,rfl⟩))⟩
 ·rintro⟨J,U⟩ b a;rcases rF.1 a with rfl|⟨c,ax,rfl⟩
  ·exact fun e=>J e.symm
  ·exact U c ax
def Qi{s:List Bd}(a:gD s){t:T}{w:Int}(h:(t.ap (cQ s)).occ w=true):dH s w=none:=by
 obtain⟨u,_,U⟩:=E5.1 h;unfold cQ at U;cases e:dH s u with
 |none=>rw[e]at U;simp[T.occ]at U;subst U;exact e
 |some t=>rw[e]at U;exact a.free _ (kP e) w U
def ari{s:List Bd}(d:gD s){v:Int}{t:T}(i:dH s v=none)(ar:(t.ap (cQ s)).occ v=false)(f:∀w,t.ap (cQ s)= .var w->w<v):gD (nN s v (t.ap (cQ s))):=by
 have g:∀w,(t.ap (cQ s)).occ w=true->dH (nN s v (t.ap (cQ s))) w=none:=fun w hw=>Gv.2 ⟨fun e=>(by subst e;rw[ar]at hw;cases hw),Qi d hw⟩;refine⟨RA ?_ ?_,fun b a w hw=>?_,fun b a w hw=>?_⟩
 ·rw[jA,List.pairwise_map];exact d.asc
 ·intro c ax;obtain⟨b,a,rfl⟩:=hb.1 ax;exact w6.1 i b a
 ·rcases rF.1 a with rfl|⟨c,ax,rfl⟩
  ·exact g w hw
  ·obtain⟨u,J,U⟩:=E5.1 hw;unfold one at U;split at U
   ·exact g w U
   ·rename_i h;simp[T.occ]at U;subst U;exact Gv.2 ⟨h,d.free c ax _ J⟩
 ·rcases rF.1 a with rfl|⟨c,ax,rfl⟩
  ·exact f w hw
  ·simp only at hw⊢;cases e:c.t with
   |var u=>
    have:=d.ori c ax u e;rw[e]at hw;simp only[T.ap,one]at hw;split at hw
    ·rename_i j;subst j;have:=f w hw;omega
    ·cases hw;exact this
   |_=>rw[e]at hw;simp[T.ap]at hw
def abK{s:List Bd}{v:Int}{t:T}(a:Int->T):hS (nN s v (t.ap (cQ s))) a↔hS s a/\kh [(.var v,t)] a:=by
 have f:kh [(.var v,t)] a↔a v=t.ap a:=by simp[kh,T.ap]
 rw[f];constructor
 ·intro h;have d:a v=(t.ap (cQ s)).ap a:=h _ (rF.2 (.inl rfl));have J:hS s a:=fun b e=>by have:=h _ (rF.2 (.inr ⟨b,e,rfl⟩));simp only at this;rw[ZK d]at this;exact this
  exact⟨J,by rw[Qk J t];exact d⟩
 ·rintro⟨J,U⟩ b e;have d:a v=(t.ap (cQ s)).ap a:=by rw[<-Qk J t];exact U
  rcases rF.1 e with rfl|⟨c,ax,rfl⟩
  ·exact d
  ·simp only;rw[ZK d];exact J c ax
open Classical in
def adM{s:List Bd}(f:gD s){v:Int}{t:T}(h:dH s v=none)(ar:(t.ap (cQ s)).occ v=false)(c:∀w,t.ap (cQ s)= .var w->w<v):jF s [(.var v,t)] (if iv (nN s v (t.ap (cQ s)))then some (nN s v (t.ap (cQ s)))else none):=by
 have J:=ari f h ar c;split
 ·rename_i a;exact⟨⟨J,a⟩,abK⟩
 ·rename_i a;exact fun i U e g=>a (Vl J U (fun b d=>(abK b).2 (e b d)) g)
def ie(s:List Bd):T->T
 | .var n=>cQ s n
 |t=>t
def o2(s:List Bd)(v:Int)(t:T):bd (List Bd):=if(t.ap (cQ s)).size<=5000/\(t.ap (cQ s)).occ v=false/\s.length<400/\∀b∈s,(b.t.ap (one v (t.ap (cQ s)))).size<=5000 then some (nN s v (t.ap (cQ s)))else none
def kL(rec:List Bd->T->T->bd (bd (List Bd)))(s:List Bd):T->T->bd (bd (List Bd))
 | .var i,.var j=>some (if i<j then o2 s j (.var i)else if i=j then some s else o2 s i (.var j))
 | .var i,y=>some (o2 s i y)
 |x,.var j=>some (o2 s j x)
 | .pair b a2,.pair a c=>match rec s b a with
  |none=>none
  |some none=>some none
  |some (some s1)=>rec s1 a2 c
 |x,y=>some (if x=y then some s else none)
def lD:Nat->List Bd->T->T->bd (bd (List Bd))
 |0,_,_,_=>none
 |n+1,s,a,b=>kL (lD n) s (ie s a) (ie s b)
def arP{rec c:List Bd->T->T->bd (bd (List Bd))}(h:∀s a b o,rec s a b=some o->c s a b=some o){s:List Bd}{x y:T}{o:bd (List Bd)}(he:kL rec s x y=some o):kL c s x y=some o:=by
 cases x<;>cases y<;>simp only[kL]at he⊢ <;>try exact he
 rename_i g a2 f i;cases e:rec s g f with
 |none=>rw[e]at he;cases he
 |some d=>
  rw[e]at he;rw[h _ _ _ _ e];cases d with
  |none=>exact he
  |some s1=>exact h _ _ _ _ he
def FZ:∀{n m:Nat} {s:List Bd} {a b:T} {o:bd (List Bd)},n<=m->lD n s a b=some o->lD m s a b=some o
 |0,_,_,_,_,_,_,h=>by simp[lD]at h
 |n+1,0,_,_,_,_,hm,_=>Ω
 |n+1,m+1,s,a,b,o,hm,h=>by simp only[lD]at h⊢;exact arP (fun s a b o h=>FZ Ω h) h
def Mi{s:List Bd}{v:Int}{x:T}:iv (nN s v x)↔(x.size<=5000/\s.length<400/\∀b∈s,(b.t.ap (one v x)).size<=5000):=by
 have d:(nN s v x).length=s.length+1:=by simp[nN,Yh]
 unfold iv;rw[d];constructor
 ·rintro⟨J,U⟩;exact⟨U _ (rF.2 (.inl rfl)),Ω,fun b a=>U _ (rF.2 (.inr ⟨b,a,rfl⟩))⟩
 ·rintro⟨J,U,e⟩;refine⟨Ω,fun b a=>?_⟩;rcases rF.1 a with rfl|⟨c,ax,rfl⟩
  ·exact J
  ·exact e c ax
def adN{s:List Bd}(f:gD s){v:Int}{t:T}(i:dH s v=none)(d:t.ap (cQ s)≠ .var v)(c:∀w,t.ap (cQ s)= .var w->w<v):jF s [(.var v,t)] (o2 s v t):=by
 unfold o2;cases ar:(t.ap (cQ s)).occ v with
 |true=>
  rw[if_neg Ψ];refine Gr fun g J U=>?_;have b:=(sI.1 U).1;simp only[T.ap]at b;rw[Qk J t]at b;have ab:(t.ap (cQ s)).kind≠1:=by
   intro ab;cases e:t.ap (cQ s)with
   |var w=>rw[e]at ar;simp[T.occ]at ar;subst ar;exact d e
   |_=>rw[e]at ab;simp[T.kind]at ab
  have:=(Cn g ar).2 ab;rw[<-b]at this;omega
 |false=>
  have J:=adM f i ar c;by_cases a:iv (nN s v (t.ap (cQ s)))
  ·rw[if_pos a]at J;rw[if_pos ⟨(Mi.1 a).1,rfl,(Mi.1 a).2⟩];exact J
  ·rw[if_neg a]at J;rw[if_neg fun h=>a (Mi.2 ⟨h.1,h.2.2⟩)];exact J
def ac6{s:List Bd}(a:gD s){t:T}{i:Int}(h:ie s t= .var i):dH s i=none:=by
 cases t with
 |var n=>
  simp only[ie,cQ]at h;cases e:dH s n with
  |none=>rw[e]at h;simp at h;subst h;exact e
  |some u=>rw[e]at h;simp at h;subst h;exact a.free _ (kP e) i (by simp[T.occ])
 |_=>simp[ie]at h
def Q1{s:List Bd}{a:Int->T}(h:hS s a)(t:T):(ie s t).ap a=t.ap a:=by
 cases t with
 |var n=>
  simp only[ie,T.ap,cQ];cases e:dH s n with
  |none=>rfl
  |some u=>exact(h _ (kP e)).symm
 |_=>rfl
def ac8{s:List Bd}(a:gD s)(t:T):(ie s t).ap (cQ s)=t.ap (cQ s):=Q1 (Ar a) t
def rv(V:List Int)(t:T):Prop:= ∀w,t.occ w=true->w∈V
def zG(V:List Int)(s:List Bd):Prop:= ∀b∈s,b.v∈V/\rv V b.t
def A1(V:List Int)(s:List Bd):Nat:=(V.filter fun v=>(dH s v).isNone).length
def Vh{α:Type}{p q:α->Bool}{v:α}:∀{V:List α},(∀x∈V,q x=true->p x=true)->v∈V->p v=true->q v=false->(V.filter q).length<(V.filter p).length
 |[],_,h,_,_=>by simp at h
 |x::V,h,b,c,d=>by
  have hle:∀W:List α,(∀x∈W,q x=true->p x=true)->(W.filter q).length<=(W.filter p).length:=by
   intro W;induction W with
   |nil=>intro _;simp
   |cons y W g=>intro f;have:=g fun x a=>f x (by simp[a]);have j:=f y Ψ;simp only[List.filter_cons];cases e:q y<;>cases i:p y<;>simp_all<;>omega
  simp only[List.filter_cons];rcases gI.1 b with rfl|b
  ·have:=hle V fun x a=>h x (by simp[a]);simp[c,d];omega
  ·have:=Vh (fun x a=>h x (q5 _ a)) b c d;have a:=h x Ψ;cases e:q x<;>cases i:p x<;>simp_all<;>omega
def afb{V:List Int}{s:List Bd}{v:Int}{x:T}(a:v∈V)(b:dH s v=none):A1 V (nN s v x)<A1 V s:=by
 unfold A1;refine Vh (v:=v) (fun w _ h=>?_) a (by simp[b]) ?_
 ·rw[Option.isNone_iff_eq_none,Gv]at h;simp[h.2]
 ·cases e:dH (nN s v x) v with
  |none=>exact absurd rfl (Gv.1 e).1
  |some _=>rfl
def Xi{V:List Int}{s:List Bd}(h:zG V s){t:T}(a:rv V t):rv V (t.ap (cQ s)):=fun w hw=>by
 obtain⟨u,J,U⟩:=E5.1 hw;unfold cQ at U;cases e:dH s u with
 |none=>rw[e]at U;simp[T.occ]at U;subst U;exact a _ J
 |some x=>rw[e]at U;exact(h _ (kP e)).2 w U
def alx{V:List Int}{s:List Bd}(h:zG V s){v:Int}{x:T}(e:v∈V)(a:rv V x):zG V (nN s v x):=fun b d=>by
 rcases rF.1 d with rfl|⟨c,ax,rfl⟩
 ·exact⟨e,a⟩
 ·refine⟨(h c ax).1,fun w hw=>?_⟩;obtain⟨u,J,U⟩:=E5.1 hw;unfold one at U;split at U
  ·exact a w U
  ·simp[T.occ]at U;subst U;exact(h c ax).2 _ J
def Xj{V:List Int}{s:List Bd}(h:zG V s){t:T}(a:rv V t):rv V (ie s t):=by
 cases t with
 |var n=>have:=Xi h a;simpa[ie,T.ap]using this
 |_=>exact a
def Dg(V:List Int)(s:List Bd)(a b:T)(o:bd (List Bd)):Prop:=jF s [(a,b)] o/\∀c,o=some c->zG V c/\(c=s\/A1 V c<A1 V s)
def F0{V:List Int}{s:List Bd}(j:gD s)(d:zG V s){v:Int}{t a b:T}(e:v∈V)(k:rv V t)(f:dH s v=none)(i:t.ap (cQ s)≠ .var v)(g:∀w,t.ap (cQ s)= .var w->w<v)(ax:∀c,hS s c->(c v=t.ap c↔a.ap c=b.ap c)):Dg V s a b (o2 s v t):=by
 refine⟨Dh (fun c=>?_) (adN j f i g),fun l h=>?_⟩
 ·refine and_congr_right fun h=>?_;rw[sI,sI];simp only[T.ap,ax c h]
 ·unfold o2 at h;split at h
  ·cases h;exact⟨alx d e (Xi d k),.inr (afb e f)⟩
  ·cases h
def CO{s:List Bd}{i:Int}(h:dH s i=none):cQ s i= .var i:=by simp[cQ,h]
def acs(V:List Int)(k:Nat):∀(m:Nat) (s:List Bd) (a b:T),gD s->iv s->zG V s->rv V a->rv V b->A1 V s=k->(a.ap (cQ s)).size+(b.ap (cQ s)).size=m->
  ∃n o,lD n s a b=some o/\Dg V s a b o:=by
 induction k using Nat.strongRecOn with
 |ind k NI=>
 intro m;induction m using Nat.strongRecOn with
 |ind m BT=>
 intro s a b v L y bS ag ab hm;have r:=Xj y bS;have u:=Xj y ag;have P:=ac8 v a;have O:=ac8 v b;have E:=fun c (h:hS s c)=>Q1 h a;have A:=fun c (h:hS s c)=>Q1 h b;have sn:=fun i=>ac6 v (t:=a) (i:=i);have Q:=fun i=>ac6 v (t:=b) (i:=i);have key:∀(rec:List Bd->T->T->bd (bd (List Bd))) (o:bd (List Bd)),kL rec s (ie s a) (ie s b)=some o->(∀l a2 g f,ie s a= .pair l a2->ie s b= .pair g f->Dg V s a b o)->Dg V s a b o:=by
  intro rec o he bM;cases ex:ie s a with
  |var i=>
   have M:=sn i ex;have x:=fun c h=>(E c h).symm.trans (by rw[ex]);cases d:ie s b with
   |var j=>
    have z:=Q j d;have p:=fun c h=>(A c h).symm.trans (by rw[d]);rw[ex,d]at he;simp only[kL]at he;have hi:i∈V:=by rw[ex]at r;exact r i (by simp[T.occ])
    have ah:j∈V:=by rw[d]at u;exact u j (by simp[T.occ])
    rcases Int.lt_trichotomy i j with h|h|h
    ·rw[if_pos h]at he;cases he;refine F0 v y ah (by rw[ex]at r;exact r) z (by simp[T.ap,CO M];omega) (fun w hw=>by simp[T.ap,CO M]at hw;omega) fun c q=>?_;rw[x c q,p c q];simp only[T.ap];exact⟨Eq.symm,Eq.symm⟩
    ·subst h;rw[if_neg Ω,if_pos rfl]at he;cases he;refine⟨⟨⟨v,L⟩,fun c=>⟨fun h=>⟨h,sI.2 ⟨?_,FO c⟩⟩,fun h=>h.1⟩⟩,fun B e=>by cases e;exact⟨y,.inl rfl⟩⟩;simp only;rw[x c h,p c h]
    ·rw[if_neg Ω,if_neg Ω]at he;cases he;refine F0 v y hi (by rw[d]at u;exact u) M (by simp[T.ap,CO z];omega) (fun w hw=>by simp[T.ap,CO z]at hw;omega) fun c q=>?_;rw[x c q,p c q];simp only[T.ap]
   |_=>have p:=fun c h=>(A c h).symm.trans (by rw[d]);rw[ex,d]at he;simp only[kL]at he;cases he;refine F0 v y (by rw[ex]at r;exact r i (by simp[T.occ])) (by rw[d]at u;exact u) M (by simp[T.ap]) (fun w hw=>by simp[T.ap]at hw) fun c q=>?_;rw[x c q,p c q];simp only[T.ap]
  |pair l a2=>
   cases d:ie s b with
   |pair g f=>exact bM l a2 g f ex d
   |var j=>have z:=Q j d;have x:=fun c h=>(E c h).symm.trans (by rw[ex]);have p:=fun c h=>(A c h).symm.trans (by rw[d]);rw[ex,d]at he;simp only[kL]at he;cases he;refine F0 v y (by rw[d]at u;exact u j (by simp[T.occ])) (by rw[ex]at r;exact r) z (by simp[T.ap]) (fun w hw=>by simp[T.ap]at hw) fun c q=>?_;rw[x c q,p c q];simp only[T.ap];exact⟨Eq.symm,Eq.symm⟩
   |_=>have x:=fun c h=>(E c h).symm.trans (by rw[ex]);have p:=fun c h=>(A c h).symm.trans (by rw[d]);rw[ex,d]at he;simp only[kL]at he;simp at he;subst he;refine⟨Gr fun c J U=>?_,fun B e=>by cases e⟩;have:=(sI.1 U).1;simp only at this;rw[x c J,p c J]at this;simp[T.ap]at this
  |_=>
   have x:=fun c h=>(E c h).symm.trans (by rw[ex]);cases d:ie s b with
   |var j=>have z:=Q j d;have p:=fun c h=>(A c h).symm.trans (by rw[d]);rw[ex,d]at he;simp only[kL]at he;cases he;refine F0 v y (by rw[d]at u;exact u j (by simp[T.occ])) (by rw[ex]at r;exact r) z (by simp[T.ap]) (fun w hw=>by simp[T.ap]at hw) fun c q=>?_;rw[x c q,p c q];simp only[T.ap];exact⟨Eq.symm,Eq.symm⟩
   |_=>
    have p:=fun c h=>(A c h).symm.trans (by rw[d]);rw[ex,d]at he;simp only[kL,dU]at he;split at he
    ·rename_i e;subst he;refine⟨⟨⟨v,L⟩,fun c=>⟨fun h=>⟨h,sI.2 ⟨?_,FO c⟩⟩,fun h=>h.1⟩⟩,fun B e=>by cases e;exact⟨y,.inl rfl⟩⟩;simp only;rw[x c h,p c h];try rw[e]
    ·rename_i e;subst he;refine⟨Gr fun c J U=>?_,fun B e=>by cases e⟩;have:=(sI.1 U).1;simp only at this;rw[x c J,p c J]at this;simp[T.ap]at this e;try exact e this
 by_cases HX:∃l a2 g f,ie s a= .pair l a2/\ie s b= .pair g f
 ·obtain⟨l,a2,g,f,ex,d⟩:=HX;have W:(l.ap (cQ s)).size+(g.ap (cQ s)).size<m/\(a2.ap (cQ s)).size+(f.ap (cQ s)).size<m:=by rw[ex]at P;rw[d]at O;simp only[T.ap]at P O;rw[<-hm,<-P,<-O];simp only[T.size];omega
  have me:rv V l:=fun w hw=>by rw[ex]at r;exact r w (by simp[T.occ,hw])
  have R:rv V a2:=fun w hw=>by rw[ex]at r;exact r w (by simp[T.occ,hw])
  have mD:rv V g:=fun w hw=>by rw[d]at u;exact u w (by simp[T.occ,hw])
  have S:rv V f:=fun w hw=>by rw[d]at u;exact u w (by simp[T.occ,hw])
  have Z:∀c,(hS s c/\kh ([(l,g)]++[(a2,f)]) c)↔(hS s c/\kh [(a,b)] c):=fun c=>and_congr_right fun h=>by simp only[List.singleton_append,sI,FO,jc];rw[<-E c h,<-A c h,ex,d];simp[T.ap]
  obtain⟨K,hj,Y,G⟩:=BT _ W.1 s l g v L y me mD ab rfl;cases hj with
  |none=>refine⟨K+1,none,?_,Dh Z (KJ _ G.1),fun B e=>by cases e⟩;simp only[lD,ex,d,kL,Y]
  |some s1=>
   obtain⟨v1,v2⟩:=G.2 s1 rfl;have Ep:∃F H,lD F s1 a2 f=some H/\Dg V s1 a2 f H:=by
    rcases v2 with rfl|v2
    ·exact BT _ W.2 _ a2 f v L y R S ab rfl
    ·exact NI _ Ω _ s1 a2 f G.1.1.1 G.1.1.2 v1 R S rfl rfl
   obtain⟨F,H,aC,X⟩:=Ep;refine⟨max K F+1,H,?_,Dh Z (Rm G.1 X.1),fun B e=>?_⟩
   ·simp only[lD,ex,d,kL,FZ (Nat.le_max_left K F) Y];exact FZ (Nat.le_max_right K F) aC
   ·obtain⟨fc,N⟩:=X.2 B e;refine⟨fc,?_⟩;rcases v2 with rfl|v2
    ·exact N
    ·rcases N with rfl|N
     ·exact .inr v2
     ·exact .inr Ω
 ·have WS:∀l a2 g f,ie s a= .pair l a2->ie s b= .pair g f->er:=fun l a2 g f J U=>HX ⟨l,a2,g,f,J,U⟩;have:∃o,kL (lD 0) s (ie s a) (ie s b)=some o:=by cases ex:ie s a<;>cases d:ie s b<;>simp only[kL]<;>first|exact⟨_,rfl⟩|exact(WS _ _ _ _ ex d).elim
  obtain⟨o,ar⟩:=this;exact⟨1,o,ar,key _ o ar fun l a2 g f J U=>(WS l a2 g f J U).elim⟩
def dp{α:Type}(k:Int):List (Int×α)->bd α
 |[]=>none
 |(i,v)::r=>if k=i then some v else dp k r
def fB{α:Type}(k:Int)(v:α):List (Int×α)->List (Int×α)
 |[]=>[(k,v)]
 |(i,w)::r=>if k=i then(i,v)::r else(i,w)::fB k v r
def cG{α:Type}(m:List (Int×α)):List Int:=m.map (·.1)
def oR{α:Type}(k:Int)(v:α)(j:Int):∀m:List (Int×α),dp j (fB k v m)=if j=k then some v else dp j m
 |[]=>by simp only[fB,dp]
 |(i,w)::r=>by
  simp only[fB];by_cases h:k=i
  ·subst h;by_cases U:j=k<;>simp[dp,U]
  ·by_cases U:j=i
   ·subst U;have:¬j=k:=fun e=>h e.symm;simp[dp,h,this]
   ·simp[dp,h,U,oR k v j r]
def J9{α:Type}{k:Int}:∀{m:List (Int×α)},(dp k m).isSome=true↔k∈cG m
 |[]=>by simp[dp,cG]
 |(i,w)::r=>by
  simp only[dp,cG,gV,gI];by_cases h:k=i
  ·simp[h]
  ·simp only[h,if_false,false_or];exact J9
def arI{α:Type}{k:Int}{m:List (Int×α)}:dp k m=none↔k∉cG m:=by rw[<-J9];cases dp k m<;>simp
def EK{α:Type}{k:Int}{v:α}:∀{m:List (Int×α)},k∈cG m->cG (fB k v m)=cG m
 |[],h=>by simp[cG]at h
 |(i,w)::r,h=>by
  simp only[fB];by_cases e:k=i
  ·simp[e,cG]
  ·rw[if_neg e];have a:k∈cG r:=by simpa[cG,e]using h
   have:=EK (v:=v) a;simp only[cG]at this⊢;simp[this]
def XQ{α:Type}{k:Int}{v:α}:∀{m:List (Int×α)},k∉cG m->cG (fB k v m)=cG m++[k]
 |[],h=>by simp[cG,fB]
 |(i,w)::r,h=>by have e:¬k=i:=fun e=>h (by simp[cG,e]);have a:k∉cG r:=fun ab=>h (by simp[cG]at ab⊢;exact .inr ab);have:=XQ (v:=v) a;simp only[fB,if_neg e];simp only[cG]at this⊢;simp[this]
structure bJ where
 up:List (Int×Int)
 shape:List (Int×T)
 shaped:List (Int×Bool)
 color:List (Int×Int)
 size:List (Int×Int)
 full:List (Int×T)
def bJ.shd(c:bJ)(x:Int):Bool:=(dp x c.shaped).getD false
def bJ.shp(c:bJ)(x:Int):T:=(dp x c.shape).getD .nil
def bJ.col(c:bJ)(x:Int):Int:=(dp x c.color).getD 0
def bJ.sz(c:bJ)(x:Int):Int:=(dp x c.size).getD 0
def jR(m:List (Int×Int))(v:Int):Int:=(dp v m).getD 0
def yn:Nat->List (Int×Int)->Int->bd (Int×List (Int×Int))
 |0,_,_=>none
 |n+1,m,v=>if jR m v=v then some (v,m)else yn n (fB v (jR m (jR m v)) m) (jR (fB v (jR m (jR m v)) m) v)
def AM(v:Int)(m:List (Int×Int)):List (Int×Int):=if(dp v m).isSome then m else fB v v m
def rt(c:bJ)(v:Int):bd (Int×bJ):=(yn (v.toNat+1) (AM v c.up) v).map fun p=>(p.1,{c with up:=p.2})
def T.foldO{α:Type}(f:Int->α->bd α):T->α->bd α
 | .var n,a=>f n a
 | .pair x y,a=>(x.foldO f a).bind (y.foldO f)
 |_,a=>some a
def T.mapO{α:Type}(f:Int->α->bd (T×α)):T->α->bd (T×α)
 | .var n,a=>f n a
 | .pair x y,a=>(x.mapO f a).bind fun p=>(y.mapO f p.2).map fun q=>(.pair p.1 q.1,q.2)
 |t,a=>some (t,a)
def T.sizeO{α:Type}(f:Int->α->bd (Int×α)):T->α->bd (Int×α)
 | .var n,a=>(f n a).map fun p=>(if 5001<p.1 then 5001 else p.1,p.2)
 | .pair x y,a=>(x.sizeO f a).bind fun p=>if 5000<p.1 then some p else(y.sizeO f p.2).map fun q=>(if 5001<1+p.1+q.1 then 5001 else 1+p.1+q.1,q.2)
 |_,a=>some (1,a)
def Ca(t:T)(c:bJ):bd bJ:=t.foldO (fun v c=>(rt c v).map (·.2)) c
structure vC where
 c:bJ
 seen:List (Int×Bool)
 found:Bool
def yl(rec:T->bJ->List (Int×Bool)->bd vC)(x:Int)(v:Int)(a:vC):bd vC:=
 (rt a.c v).bind fun p=>if a.found=true\/p.1=x then some ⟨p.2,a.seen,true⟩
  else if(dp p.1 a.seen).getD false=false/\p.2.shd p.1=true then rec (p.2.shp p.1) p.2 (fB p.1 true a.seen)
  else some ⟨p.2,a.seen,a.found⟩
def qT:Nat->Int->T->bJ->List (Int×Bool)->bd vC
 |0,_,_,_,_=>none
 |n+1,x,t,c,seen=>t.foldO (yl (qT n x) x) ⟨c,seen,false⟩
def bJ.know(c:bJ)(x:Int)(t:T):bJ:={c with shape:=fB x t c.shape,shaped:=fB x true c.shaped}
def wB(n:Nat)(x:Int)(t:T)(c:bJ):bd (Bool×bJ):=(qT n x t (c.know x t) []).map fun a=>(!a.found,a.c)
def bJ.join(c:bJ)(x y:Int):bJ:={c with up:=fB y x c.up}
def s6(rec:T->T->bJ->bd (Bool×bJ))(n:Nat)(x y:Int)(c:bJ):bd (Bool×bJ):=
 if c.shd y=false then
  (if c.shd x=false then some (true,c)else(qT n x (c.shp x) c []).map fun a=>(!a.found,a.c))
 else if c.shd x=false then wB n x (c.shp y) c
 else(qT n x (c.shp y) c []).bind fun a=>if a.found=true then some (false,a.c)else
  (qT n x (a.c.shp x) a.c []).bind fun b=>if b.found=true then some (false,b.c)else rec (b.c.shp x) (c.shp y) b.c
def hs:Nat->T->T->bJ->bd (Bool×bJ)
 |0,_,_,_=>none
 |n+1,.var i,.var j,c=>(rt c i).bind fun p=>(rt p.2 j).bind fun q=>if p.1=q.1 then some (true,q.2)else if q.1<p.1 then s6 (hs n) n q.1 p.1 (q.2.join q.1 p.1)else s6 (hs n) n p.1 q.1 (q.2.join p.1 q.1)
 |n+1,.var i,b,c=>(rt c i).bind fun p=>if p.2.shd p.1=false then wB n p.1 b p.2 else hs n (p.2.shp p.1) b p.2
 |n+1,a,.var j,c=>hs n (.var j) a c
 |n+1,.pair e a2,.pair d f,c=>(hs n e d c).bind fun p=>if p.1=true then hs n a2 f p.2 else some (false,p.2)
 |_+1,a,b,c=>some (decide (a=b),c)
structure kg (m:List (Int×Int)) (ρ:Int->Int):Prop where
 up:∀v u,dp v m=some u->(0<=u/\u<=v/\u∈cG m)/\ρ u=ρ v/\(ρ v=v↔u=v)
 no:∀v,v∉cG m->ρ v=v
def kg.get{m:List (Int×Int)}{ρ:Int->Int}(h:kg m ρ){v:Int}(a:v∈cG m):∃u,dp v m=some u/\jR m v=u:=by have:=J9.2 a;obtain⟨u,hu⟩:=fx.1 this;exact⟨u,hu,by simp[jR,hu]⟩
def kg.root{m:List (Int×Int)}{ρ:Int->Int}(h:kg m ρ):∀(n:Nat) (v:Int),v.toNat<=n->(ρ v<=v/\ρ (ρ v)=ρ v/\(v∈cG m->ρ v∈cG m/\0<=ρ v)):=by
 intro n;induction n using Nat.strongRecOn with
 |ind n f=>
 intro v i;by_cases a:v∈cG m
 ·obtain⟨u,J,_⟩:=h.get a;obtain⟨⟨c,a2,a3⟩,a4,a5⟩:=h.up v u J;by_cases e:u=v
  ·have:=a5.2 e;subst e;rw[this];exact⟨Ω,this,fun _=>⟨a3,c⟩⟩
  ·obtain⟨g,d,b⟩:=f (u.toNat) Ω u Ω;rw[<-a4];exact⟨Ω,d,fun _=>b a3⟩
 ·have:=h.no v a;rw[this];exact⟨Ω,this,fun h=>absurd h a⟩
def kg.le{m:List (Int×Int)}{ρ:Int->Int}(h:kg m ρ)(v:Int):ρ v<=v:=(h.root v.toNat v (dP _)).1
def kg.idem{m:List (Int×Int)}{ρ:Int->Int}(h:kg m ρ)(v:Int):ρ (ρ v)=ρ v:=(h.root v.toNat v (dP _)).2.1
def kg.mem{m:List (Int×Int)}{ρ:Int->Int}(h:kg m ρ){v:Int}(a:v∈cG m):ρ v∈cG m/\0<=ρ v:=(h.root v.toNat v (dP _)).2.2 a
def abv{ρ:Int->Int}:∀(n:Nat) (m:List (Int×Int)) (v:Int),kg m ρ->v∈cG m->v.toNat<n->∃a,yn n m v=some (ρ v,a)/\kg a ρ/\cG a=cG m
 |0,_,_,_,_,p=>Ω
 |n+1,m,v,h,f,p=>by
  obtain⟨u,J,U⟩:=h.get f;obtain⟨⟨q,a2,a3⟩,a4,a5⟩:=h.up v u J;simp only[yn,U];by_cases e:u=v
  ·rw[if_pos e];have:=a5.2 e;exact⟨m,by rw[this],h,rfl⟩
  ·rw[if_neg e];obtain⟨x,g1,g2⟩:=h.get a3;obtain⟨⟨k,r,d⟩,c,t⟩:=h.up u x g1;rw[g2];have ab:=EK (v:=x) f;have g:kg (fB v x m) ρ:=by
    refine⟨fun w y hw=>?_,fun w hw=>h.no w (by rw[ab]at hw;exact hw)⟩;rw[oR]at hw;rw[ab];by_cases ew:w=v
    ·subst ew;rw[if_pos rfl]at hw;cases hw;refine⟨⟨k,Ω,d⟩,by rw[c,a4],⟨fun o=>absurd (a5.1 o) e,fun s=>?_⟩⟩;have:u=w:=Ω
     exact absurd this e
    ·rw[if_neg ew]at hw;exact h.up w y hw
   have b:jR (fB v x m) v=x:=by simp[jR,oR]
   rw[b];obtain⟨a,l,j,i⟩:=abv n (fB v x m) x g (by rw[ab];exact d) Ω;exact⟨a,by rw[l,c,a4],j,by rw[i,ab]⟩
structure hc (ρ:Int->Int) (c cC:bJ):Prop where
 ru:kg cC.up ρ
 keys:cG cC.up=cG c.up
 eq:cC={c with up:=cC.up}
def hc.refl{ρ:Int->Int}{c:bJ}(h:kg c.up ρ):hc ρ c c:=⟨h,rfl,rfl⟩
def hc.trans{ρ:Int->Int}{a b c:bJ}(h:hc ρ a b)(k:hc ρ b c):hc ρ a c:=⟨k.ru,k.keys.trans h.keys,by rw[k.eq,h.eq]⟩
def hc.shd{ρ:Int->Int}{c a:bJ}(h:hc ρ c a)(x:Int):a.shd x=c.shd x:=by rw[h.eq];rfl
def hc.shp{ρ:Int->Int}{c a:bJ}(h:hc ρ c a)(x:Int):a.shp x=c.shp x:=by rw[h.eq];rfl
def vj{ρ:Int->Int}{c:bJ}{v:Int}(h:kg c.up ρ)(b:v∈cG c.up):∃a,rt c v=some (ρ v,a)/\hc ρ c a:=by
 have e:AM v c.up=c.up:=by simp[AM,J9.2 b]
 obtain⟨d,J,U,f⟩:=abv (v.toNat+1) c.up v h b Ω;exact⟨{c with up:=d},by simp[rt,e,J],⟨U,f,rfl⟩⟩
def aqJ{ρ:Int->Int}{c:bJ}{v:Int}(h:kg c.up ρ)(d:0<=v)(a:v∉cG c.up):rt c v=some (v,{c with up:=fB v v c.up})/\kg (fB v v c.up) ρ/\cG (fB v v c.up)=cG c.up++[v]:=by
 have f:=arI.2 a;have ab:=XQ (v:=v) a;refine⟨?_,⟨fun w u hw=>?_,fun w hw=>h.no w fun hm=>hw (by rw[ab];simp[hm])⟩,ab⟩
 ·simp[rt,AM,f,yn,jR,oR]
 ·rw[oR]at hw;rw[ab];by_cases e:w=v
  ·subst e;rw[if_pos rfl]at hw;cases hw;exact⟨⟨d,Ω,Ψ⟩,rfl,⟨fun _=>rfl,fun _=>h.no _ a⟩⟩
  ·rw[if_neg e]at hw;obtain⟨⟨b,a2,a3⟩,a4⟩:=h.up w u hw;exact⟨⟨b,a2,by simp[a3]⟩,a4⟩
def bJ.ph(c:bJ)(x:Int):bd T:=if c.shd x then some (c.shp x)else none
def hc.ph{ρ:Int->Int}{c a:bJ}(h:hc ρ c a):a.ph=c.ph:=by funext x;simp only[bJ.ph,h.shd,h.shp]
def kN(ph:Int->bd T)(ρ:Int->Int)(a:Int->T):Prop:=(∀v,a v=a (ρ v))/\∀x t,ρ x=x->ph x=some t->a x=t.ap a
def jT(ph:Int->bd T)(ρ:Int->Int)(z u:Int):Prop:=ρ z=z/\∃t w,ph z=some t/\t.occ w=true/\ρ w=u
inductive oj (E:Int->Int->Prop):Int->Int->Prop
 |refl (a:Int):oj E a a
 |step {a b c:Int}:E a b->oj E b c->oj E a c
def pJ(V:List Int)(ph:Int->bd T):Prop:= ∀x t,ph x=some t->t.kind≠1/\(∀w,t.occ w=true->w∈V)/\x∈V
def Kd(V:List Int)(ph:Int->bd T)(seen:List (Int×Bool)):Nat:=(V.filter fun v=>(ph v).isSome&& !((dp v seen).getD false)).length
def nY(seen:List (Int×Bool))(z:Int):Prop:=(dp z seen).getD false=true
structure adE (V:List Int) (ph:Int->bd T) (ρ:Int->Int) (x:Int) (occ:Int->Prop) (a br:vC):Prop where
 sm:hc ρ a.c br.c
 sub:∀z,nY a.seen z->nY br.seen z
 yes:br.found=true->a.found=true\/ ∃w,occ w/\oj (jT ph ρ) (ρ w) x
 kept:a.found=true->br.found=true
 no:br.found=false->(∀w,occ w->ρ w≠x/\((ph (ρ w)).isSome=true->nY br.seen (ρ w)))/\∀r,nY br.seen r->¬nY a.seen r->∀u,jT ph ρ r u->u≠x/\((ph u).isSome=true->nY br.seen u)
def Hh{α:Type}{p q:α->Bool}:∀{V:List α},(∀x∈V,q x=true->p x=true)->(V.filter q).length<=(V.filter p).length
 |[],_=>by simp
 |y::V,h=>by have:=Hh (p:=p) (q:=q) (V:=V) fun x a=>h x (by simp[a]);have b:=h y Ψ;simp only[List.filter_cons];cases e:q y<;>cases c:p y<;>simp_all<;>omega
def Hi{α:Type}{p q:α->Bool}{v:α}:∀{V:List α},(∀x∈V,q x=true->p x=true)->v∈V->p v=true->q v=false->(V.filter q).length<(V.filter p).length
 |[],_,h,_,_=>by simp at h
 |x::V,h,b,c,d=>by
  have hle:=Hh (p:=p) (q:=q) (V:=V) fun x a=>h x (q5 _ a);simp only[List.filter_cons];rcases gI.1 b with rfl|b
  ·simp[c,d];omega
  ·have:=Hi (fun x a=>h x (q5 _ a)) b c d;have a:=h x Ψ;cases e:q x<;>cases f:p x<;>simp_all<;>omega
def arR{V:List Int}{ph:Int->bd T}{s b:List (Int×Bool)}(h:∀z,nY s z->nY b z):Kd V ph b<=Kd V ph s:=
 Hh fun x _ a=>by
  simp only[cP,sS]at a⊢;refine⟨a.1,?_⟩;cases e:(dp x s).getD false with
  |false=>rfl
  |true=>have:=h x e;unfold nY at this;rw[a.2]at this;cases this
def NK{s:List (Int×Bool)}{r z:Int}:nY (fB r true s) z↔z=r\/nY s z:=by unfold nY;rw[oR];by_cases h:z=r<;>simp[h]
def aqB{V:List Int}{ph:Int->bd T}{ρ:Int->Int}{x:Int}(gL:pJ V ph)(k:Nat):∀(t:T) (a:vC),kg a.c.up ρ->cG a.c.up=V->a.c.ph=ph->(∀w,t.occ w=true->w∈V)->Kd V ph a.seen<=k->
  ∃N br,(∀n,N<=n->t.foldO (yl (qT n x) x) a=some br)/\adE V ph ρ x (fun w=>t.occ w=true) a br:=by
 induction k using Nat.strongRecOn with
 |ind k NI=>
 intro t;induction t with
 |var v=>
  intro a m ab g s y;obtain⟨i,J,U⟩:=vj m (by rw[ab];exact s v (by simp[T.occ]));have W:i.shd (ρ v)=(ph (ρ v)).isSome:=by rw[U.shd,<-g];simp only[bJ.ph];split<;>simp_all
  by_cases d:a.found=true\/ρ v=x
  ·refine⟨0,⟨i,a.seen,true⟩,fun n _=>by simp[T.foldO,yl,J,d],U,fun z c=>c,fun _=>?_,fun _=>rfl,fun h=>by cases h⟩;rcases d with d|d
   ·exact .inl d
   ·exact .inr ⟨v,by simp[T.occ],by rw[d];exact .refl _⟩
  ·by_cases o:(dp (ρ v) a.seen).getD false=false/\i.shd (ρ v)=true
   ·have F:ph (ρ v)=some (i.shp (ρ v)):=by rw[<-g];simp only[bJ.ph,U.shp];rw[if_pos (by rw[<-U.shd];exact o.2)]
    obtain⟨g1,g2,g3⟩:=gL _ _ F;have bO:Kd V ph (fB (ρ v) true a.seen)<k:=by
     refine Nat.lt_of_lt_of_le (Hi (v:=ρ v) (fun z _ c=>?_) g3 ?_ ?_) y
     ·simp only[cP,sS]at c⊢;refine⟨c.1,?_⟩;rw[oR]at c;by_cases e:z=ρ v
      ·subst e;exact o.1
      ·rw[if_neg e]at c;exact c.2
     ·simp[F,o.1]
     ·simp[oR]
    obtain⟨N,br,G,b⟩:=NI _ bO (i.shp (ρ v)) ⟨i,fB (ρ v) true a.seen,false⟩ U.ru (by rw[U.keys];exact ab) (by rw[U.ph];exact g) g2 (dP _);refine⟨N+1,br,fun n aA=>?_,U.trans b.sm,fun z c=>b.sub z (NK.2 (.inr c)),fun O=>?_,fun h=>absurd (.inl h) d,fun B=>?_⟩
    ·obtain⟨n',rfl⟩:∃n',n=n'+1:=⟨n-1,Ω⟩;simp only[T.foldO,yl,J,k4,if_neg d,if_pos o,qT];exact G n' Ω
    ·rcases b.yes O with h|⟨w,l,j⟩
     ·cases h
     ·exact .inr ⟨v,by simp[T.occ],.step ⟨by rw[kg.idem m],_,w,F,l,rfl⟩ j⟩
    ·obtain⟨l,j⟩:=b.no B;have X:nY br.seen (ρ v):=b.sub _ (NK.2 (.inl rfl));refine⟨fun w hw=>?_,fun r M A u hu=>?_⟩
     ·simp[T.occ]at hw;subst hw;exact⟨fun e=>d (.inr e),fun _=>X⟩
     ·by_cases P:r=ρ v
      ·subst P;obtain⟨_,t',w,Q,z2,rfl⟩:=hu;rw[F]at Q;cases Q;exact l w z2
      ·exact j r M (fun h=>(NK.1 h).elim P A) u hu
   ·have D7:a.found=false:=by cases e:a.found with
     |false=>rfl
     |true=>exact absurd (.inl e) d
    refine⟨0,⟨i,a.seen,a.found⟩,fun n _=>by simp only[T.foldO,yl,J,k4,if_neg d,if_neg o],U,fun z c=>c,fun h=>.inl h,fun h=>h,fun _=>⟨fun w hw=>?_,fun r J U=>absurd J U⟩⟩;simp[T.occ]at hw;subst hw;refine⟨fun e=>d (.inr e),fun bM=>?_⟩;unfold nY;cases e:(dp (ρ v) a.seen).getD false with
    |true=>rfl
    |false=>exact absurd ⟨e,by rw[W];exact bM⟩ o
 |pair p q K H=>
  intro a m ab g s y;obtain⟨Z,E,G,b⟩:=K a m ab g (fun w hw=>s w (by simp[T.occ,hw])) y;obtain⟨Y,a2,aC,f⟩:=H E b.sm.ru (by rw[b.sm.keys];exact ab) (by rw[b.sm.ph];exact g) (fun w hw=>s w (by simp[T.occ,hw])) (kC (arR b.sub) y);refine⟨max Z Y,a2,fun n aA=>by simp only[T.foldO];rw[G n Ω];exact aC n Ω,b.sm.trans f.sm,fun z c=>f.sub z (b.sub z c),fun O=>?_,fun h=>f.kept (b.kept h),fun B=>?_⟩
  ·rcases f.yes O with h|⟨w,l,j⟩
   ·rcases b.yes h with h|⟨w,l,j⟩
    ·exact .inl h
    ·exact .inr ⟨w,by simp[T.occ,l],j⟩
   ·exact .inr ⟨w,by simp[T.occ,l],j⟩
  ·have L:E.found=false:=by cases e:E.found with
    |false=>rfl
    |true=>have:=f.kept e;rw[B]at this;cases this
   obtain⟨S,R⟩:=b.no L;obtain⟨s1,s2⟩:=f.no B;refine⟨fun w hw=>?_,fun r M A u hu=>?_⟩
   ·simp only[T.occ,og]at hw;rcases hw with hw|hw
    ·exact⟨(S w hw).1,fun h=>f.sub _ ((S w hw).2 h)⟩
    ·exact s1 w hw
   ·by_cases h:nY E.seen r
    ·exact⟨(R r h A u hu).1,fun cL=>f.sub _ ((R r h A u hu).2 cL)⟩
    ·exact s2 r M h u hu
 |_=>intro a m ab g s y;exact⟨0,a,fun n _=>rfl,hc.refl m,fun z c=>c,fun h=>.inl h,fun h=>h,fun _=>⟨fun w hw=>by simp[T.occ]at hw,fun r J U=>absurd J U⟩⟩
def Jv{ρ:Int->Int}{x:Int}{c:bJ}{t:T}(f:kg c.up ρ)(j:pJ (cG c.up) c.ph)(r:∀w,t.occ w=true->w∈cG c.up):
  ∃N a,(∀n,N<=n->qT n x t c []=some a)/\hc ρ c a.c/\(a.found=true↔∃w,t.occ w=true/\oj (jT c.ph ρ) (ρ w) x):=by
 obtain⟨N,a,J,U⟩:=aqB (x:=x) j _ t ⟨c,[],false⟩ f rfl rfl r (dP _);refine⟨N+1,a,fun n B=>?_,U.sm,fun h=>?_,fun⟨w,hw,s⟩=>?_⟩
 ·obtain⟨n',rfl⟩:∃n',n=n'+1:=⟨n-1,Ω⟩;exact J n' Ω
 ·rcases U.yes h with h|h
  ·cases h
  ·exact h
 ·cases e:a.found with
  |true=>rfl
  |false=>
   obtain⟨d,m⟩:=U.no e;have key:∀z,oj (jT c.ph ρ) z x->z≠x->((c.ph z).isSome=true->nY a.seen z)->er:=by
    have:∀z y,oj (jT c.ph ρ) z y->y=x->z≠x->((c.ph z).isSome=true->nY a.seen z)->er:=by
     intro z y u;induction u with
     |refl z=>intro h k;exact absurd h k
     | @step z b A he _ o=>intro q v i;obtain⟨_,t',w',g,_,_⟩:=id he;have p:=i (by simp[g]);obtain⟨g1,g2⟩:=m z p (by simp[nY,dp]) b he;exact o q g1 g2
    exact fun z l=>this z x l rfl
   exact(key _ s (d w hw).1 (d w hw).2).elim
end
section
open Go
def adR{E:Int->Int->Prop}{x:Int}{r:Int->Nat}{M:Nat}(h:∀z u,z≠x->E z u->r u<r z)(c:∀u,E x u->r u<M)(d:∀u,E x u->¬oj E u x):∃a:Int->Nat,∀z u,E z u->a u<a z:=by
 classical
 refine⟨fun z=>if oj E z x then r z+M else r z,fun z u he=>?_⟩;show(if oj E u x then r u+M else r u)<(if oj E z x then r z+M else r z);by_cases b:z=x
 ·subst b;have J:=d u he;have U:=c u he;rw[if_neg J,if_pos (oj.refl z)];omega
 ·have J:=h z u b he;by_cases hu:oj E u x
  ·rw[if_pos hu,if_pos (oj.step he hu)];omega
  ·rw[if_neg hu];split<;>omega
def ox(ph:Int->bd T)(ρ:Int->Int):Nat->Int->T
 |0,v=>.var (ρ v)
 |n+1,v=>match ph (ρ v)with
  |none=>.var (ρ v)
  |some t=>t.ap (ox ph ρ n)
section
variable {ph:Int->bd T} {ρ:Int->Int} {r:Int->Nat}
def agq(a:∀v,ρ (ρ v)=ρ v):∀(n:Nat) (v:Int),ox ph ρ n v=ox ph ρ n (ρ v)
 |0,v=>by simp[ox,a]
 |n+1,v=>by simp[ox,a]
def UN(a:∀v,ρ (ρ v)=ρ v)(b:∀z u,jT ph ρ z u->r u<r z):∀(n:Nat) (v:Int),r (ρ v)<n->ox ph ρ n v=ox ph ρ (n+1) v
 |0,_,h=>Ω
 |n+1,v,h=>by
  show(match ph (ρ v)with|none=>T.var (ρ v)|some t=>t.ap (ox ph ρ n))=(match ph (ρ v)with|none=>T.var (ρ v)|some t=>t.ap (ox ph ρ (n+1)));cases e:ph (ρ v)with
  |none=>rfl
  |some t=>refine vJ fun w hw=>UN a b n w ?_;have:=b (ρ v) (ρ w) ⟨a v,t,w,e,hw,rfl⟩;omega
def UM(a:∀v,ρ (ρ v)=ρ v)(b:∀z u,jT ph ρ z u->r u<r z){n:Nat}{v:Int}(h:r (ρ v)<n):∀k,ox ph ρ (n+k) v=ox ph ρ n v
 |0=>rfl
 |k+1=>by rw[<-UM a b h k];exact(UN a b (n+k) v Ω).symm
def hU(ph:Int->bd T)(ρ:Int->Int)(r:Int->Nat)(v:Int):T:=ox ph ρ (r (ρ v)+1) v
def Bl(a:∀v,ρ (ρ v)=ρ v)(v:Int):hU ph ρ r v=hU ph ρ r (ρ v):=by unfold hU;rw[agq a,a]
def DS{v:Int}(h:ph (ρ v)=none):hU ph ρ r v= .var (ρ v):=by simp[hU,ox,h]
def Bm(a:∀v,ρ (ρ v)=ρ v)(b:∀z u,jT ph ρ z u->r u<r z){v:Int}{t:T}(h:ph (ρ v)=some t):hU ph ρ r v=t.ap (hU ph ρ r):=by show ox ph ρ (r (ρ v)+1) v=_;simp only[ox,h];refine vJ fun w hw=>?_;have J:=b (ρ v) (ρ w) ⟨a v,t,w,h,hw,rfl⟩;have:=UM a b (n:=r (ρ w)+1) (v:=w) Ω (r (ρ v)-(r (ρ w)+1));rw[show r (ρ w)+1+(r (ρ v)-(r (ρ w)+1))=r (ρ v)from by omega]at this;exact this
def ajC(a:∀v,ρ (ρ v)=ρ v)(c:∀z u,jT ph ρ z u->r u<r z):kN ph ρ (hU ph ρ r):=⟨Bl a,fun x t b h=>Bm a c (by rw[b];exact h)⟩
def JZ{V:List Int}(b:pJ V ph){a:Int->T}(h:kN ph ρ a){z u:Int}(he:jT ph ρ z u):(a u).size<(a z).size:=by obtain⟨J,t,w,U,c,rfl⟩:=he;rw[h.2 z t J U,<-h.1 w];exact(Cn a c).2 (b z t U).1
def J0{V:List Int}(b:pJ V ph){a:Int->T}(h:kN ph ρ a){z u:Int}(he:oj (jT ph ρ) z u):(a u).size<=(a z).size:=by
 induction he with
 |refl=>exact dP _
 |step J _ c=>have:=JZ b h J;omega
end
def aem(r:Int->Nat)(t:T):∃M,∀w,t.occ w=true->r w<M:=by
 induction t with
 |var n=>exact⟨r n+1,fun w hw=>by simp[T.occ]at hw;subst hw;omega⟩
 |pair a b f e=>
  obtain⟨d,J⟩:=f;obtain⟨c,U⟩:=e;refine⟨d+c,fun w hw=>?_⟩;simp only[T.occ,og]at hw;rcases hw with hw|hw
  ·have:=J w hw;omega
  ·have:=U w hw;omega
 |_=>exact⟨0,fun w hw=>by simp[T.occ]at hw⟩
def FG{ph:Int->bd T}{ρ:Int->Int}(b:∀v,ρ (ρ v)=ρ v){x:Int}{r:Int->Nat}(h:∀z u,z≠x->jT ph ρ z u->r u<r z)(g:∀u,jT ph ρ x u->¬oj (jT ph ρ) u x):∃f,kN ph ρ f:=by
 have a:∃M,∀u,jT ph ρ x u->r u<M:=by
  cases e:ph x with
  |none=>exact⟨0,fun u ⟨_,t,w,J,_⟩=>by rw[e]at J;cases J⟩
  |some t=>obtain⟨M,a⟩:=aem (fun w=>r (ρ w)) t;refine⟨M,fun u ⟨_,t',w,J,U,d⟩=>?_⟩;rw[e]at J;cases J;subst d;exact a w U
 obtain⟨M,a⟩:=a;obtain⟨i,c⟩:=adR h a g;exact⟨_,ajC b c⟩
structure mY (c:bJ) (ρ:Int->Int):Prop where
 ru:kg c.up ρ
 sh:pJ (cG c.up) c.ph
 sat:∃aS,kN c.ph ρ aS
def mY.sm{c a:bJ}{ρ:Int->Int}(h:mY c ρ)(k:hc ρ c a):mY a ρ:=⟨k.ru,by rw[k.keys,k.ph];exact h.sh,by rw[k.ph];exact h.sat⟩
def jo(c:bJ)(ρ:Int->Int):Nat:=((cG c.up).filter fun v=>decide (ρ v=v)).length+((cG c.up).filter fun v=>decide (ρ v=v)&& !(c.ph v).isSome).length
def yJ{c a:bJ}{ρ:Int->Int}(k:hc ρ c a):jo a ρ=jo c ρ:=by unfold jo;rw[k.keys,k.ph]
structure jU (c:bJ) (ρ:Int->Int) (p:(Int->T)->Prop) (o:Bool×bJ):Prop where
 keys:cG o.2.up=cG c.up
 rest:o.2.color=c.color/\o.2.size=c.size/\o.2.full=c.full
 yes:o.1=true->∃ρ',mY o.2 ρ'/\(∀aS,kN o.2.ph ρ' aS↔kN c.ph ρ aS/\p aS)/\((ρ'=ρ/\o.2.ph=c.ph)\/jo o.2 ρ'<jo c ρ)
 no:o.1=false->∀aS,kN c.ph ρ aS->¬p aS
def hc.rest{ρ:Int->Int}{c a:bJ}(h:hc ρ c a):a.color=c.color/\a.size=c.size/\a.full=c.full:=by rw[h.eq];exact⟨rfl,rfl,rfl⟩
def jU.sm{c a:bJ}{ρ:Int->Int}{p:(Int->T)->Prop}{o:Bool×bJ}(k:hc ρ c a)(h:jU a ρ p o):jU c ρ p o:=⟨h.keys.trans k.keys,by rw[h.rest.1,h.rest.2.1,h.rest.2.2];exact k.rest,fun e=>by rw[<-yJ k,<-k.ph];exact h.yes e,by rw[<-k.ph];exact h.no⟩
def jU.congr{c:bJ}{ρ:Int->Int}{p q:(Int->T)->Prop}{o:Bool×bJ}(d:∀a,kN c.ph ρ a->(p a↔q a))(h:jU c ρ p o):jU c ρ q o:=⟨h.keys,h.rest,fun e=>by obtain⟨ρ',J,U,g⟩:=h.yes e;exact⟨ρ',J,fun a=>(U a).trans (and_congr_right fun b=>d a b),g⟩,fun e a b f=>h.no e a b ((d a b).2 f)⟩
def ye(c:bJ)(x:Int)(t:T)(z:Int):(c.know x t).ph z=if z=x then some t else c.ph z:=by
 simp only[bJ.ph,bJ.know,bJ.shd,bJ.shp,oR];by_cases h:z=x
 ·simp[h]
 ·simp only[if_neg h];exact ite_congr rfl (fun _=>rfl) fun _=>rfl
def X9{c:bJ}{ρ:Int->Int}(hi:mY c ρ){x:Int}(B:ρ x=x)(ab:x∈cG c.up)(y:c.ph x=none){t:T}(F:t.kind≠1)(E:∀w,t.occ w=true->w∈cG c.up):
  ∃N o,(∀n,N<=n->wB n x t c=some o)/\jU c ρ (fun d=>d x=t.ap d) o:=by
 have i:pJ (cG (c.know x t).up) (c.know x t).ph:=by
  intro z u b;rw[ye]at b;split at b
  ·rename_i e;cases b;subst e;exact⟨F,E,ab⟩
  ·exact hi.sh z u b
 have s:∀d,kN (c.know x t).ph ρ d↔kN c.ph ρ d/\d x=t.ap d:=by
  intro d;constructor
  ·rintro⟨J,U⟩;refine⟨⟨J,fun z u b hu=>U z u b ?_⟩,U x t B (by rw[ye];simp)⟩;rw[ye];split
   ·rename_i e;subst e;rw[y]at hu;cases hu
   ·exact hu
  ·rintro⟨⟨J,U⟩,g⟩;refine⟨J,fun z u b hu=>?_⟩;rw[ye]at hu;split at hu
   ·rename_i e;subst e;cases hu;exact g
   ·exact U z u b hu
 obtain⟨N,a,J,U,g⟩:=Jv (x:=x) (c:=c.know x t) (t:=t) hi.ru i E;refine⟨N,(!a.found,a.c),fun n Q=>by simp[wB,J n Q],U.keys,U.rest,fun f=>?_,fun f d A he=>?_⟩
 ·simp only[sS]at f;have l:∀u,jT (c.know x t).ph ρ x u->¬oj (jT (c.know x t).ph ρ) u x:=by rintro u ⟨_,t',w,h,j,rfl⟩ P;rw[ye,if_pos rfl]at h;cases h;have:=g.2 ⟨w,j,P⟩;rw[f]at this;cases this
  obtain⟨K,H⟩:=hi.sat
  have m:=FG (ph:=(c.know x t).ph) (ρ:=ρ) hi.ru.idem (x:=x) (r:=fun z=>(K z).size) (fun z u b he=>by refine JZ hi.sh H ?_;obtain⟨k,t',w,G,M⟩:=he;rw[ye,if_neg b]at G;exact⟨k,t',w,G,M⟩) l
  refine⟨ρ,⟨U.ru,?_,?_⟩,fun d=>?_,.inr ?_⟩
  ·simp only[U.keys,U.ph];exact i
  ·simp only[U.ph];exact m
  ·simp only[U.ph];exact s d
  ·simp only[yJ U];unfold jo;have k:cG (c.know x t).up=cG c.up:=rfl;rw[k];have:=Hi (V:=cG c.up) (v:=x) (p:=fun v=>decide (ρ v=v)&& !(c.ph v).isSome) (q:=fun v=>decide (ρ v=v)&& !((c.know x t).ph v).isSome) (fun z _ b=>by
    rw[ye]at b;split at b
    ·simp at b
    ·exact b) ab (by simp[B,y]) (by simp[ye])
   omega
 ·simp only[Bool.not_eq_false']at f;obtain⟨w,h,j⟩:=g.1 f;have L:=(s d).2 ⟨A,he⟩;have:=J0 i L j;have O:=(Cn d h).2 F;rw[<-he]at O;rw[<-A.1 w]at this;omega
def jY(ρ:Int->Int)(x y:Int)(v:Int):Int:=if ρ v=y then x else ρ v
section
variable {c:bJ} {ρ:Int->Int} {x y:Int}
def rA(b:ρ x=x)(c:ρ y=y)(a:x≠y){z:Int}:jY ρ x y z=z↔ρ z=z/\z≠y:=by
 unfold jY;split
 ·rename_i e;constructor
  ·intro h;subst h;rw[b]at e;exact absurd e a
  ·rintro⟨J,U⟩;rw[J]at e;exact absurd e U
 ·rename_i e;constructor
  ·intro h;exact⟨h,fun d=>e (by rw[d,c])⟩
  ·exact fun h=>h.1
def kg.join(h:kg c.up ρ)(d:ρ x=x)(f:ρ y=y)(l:x<y)(j:x∈cG c.up)(g:y∈cG c.up):kg (c.join x y).up (jY ρ x y):=by
 have ab:cG (c.join x y).up=cG c.up:=EK g;refine⟨fun v u b=>?_,fun v b=>?_⟩
 ·rw[ab];have a:dp v (fB y x c.up)=some u:=b;rw[oR]at a;by_cases e:v=y
  ·subst e;rw[if_pos rfl]at a;cases a;have i:=(h.mem j).2;rw[d]at i;refine⟨⟨i,Ω,j⟩,?_,⟨fun e=>?_,fun e=>Ω⟩⟩
   ·unfold jY;rw[d,f,if_pos rfl,if_neg Ω]
   ·have:=((rA d f Ω).1 e).2;exact absurd rfl this
  ·rw[if_neg e]at a;obtain⟨k,a2,a3⟩:=h.up v u a;refine⟨k,by unfold jY;rw[a2],?_⟩;rw[rA d f Ω,a3];exact⟨fun h=>h.1,fun h=>⟨h,e⟩⟩
 ·rw[ab]at b;have:=h.no v b;unfold jY;rw[this,if_neg fun e=>b (by rw[e];exact g)]
def arc{ph:Int->bd T}(i:ρ x=x)(d:ρ y=y)(h:x≠y)(a:Int->T):(kN ph (jY ρ x y) a/\∀t,ph y=some t->a x=t.ap a)↔(kN ph ρ a/\a x=a y):=by
 constructor
 ·rintro⟨⟨J,U⟩,c⟩;have g:a y=a x:=by have:=J y;simpa[jY,d]using this
  refine⟨⟨fun v=>?_,fun z t f b=>?_⟩,g.symm⟩
  ·have:=J v;unfold jY at this;split at this
   ·rename_i e;rw[e,this,g]
   ·exact this
  ·by_cases e:z=y
   ·subst e;rw[g];exact c t b
   ·exact U z t ((rA i d h).2 ⟨f,e⟩) b
 ·rintro⟨⟨J,U⟩,c⟩;refine⟨⟨fun v=>?_,fun z t f b=>U z t ((rA i d h).1 f).1 b⟩,fun t b=>by rw[c];exact U y t d b⟩;unfold jY;split
  ·rename_i e;rw[J v,e,c]
  ·exact J v
def aqA{V:List Int}{ph:Int->bd T}(d:pJ V ph)(i:ρ x=x)(k:ρ y=y)(c:x≠y){b:Int->T}(h:kN ph ρ b){z u:Int}(f:z≠x)(he:jT ph (jY ρ x y) z u):(if u=x then 0 else(b u).size)<(if z=x then 0 else(b z).size):=by
 obtain⟨J,t,w,U,g,rfl⟩:=he;have j:=(rA i k c).1 J;rw[if_neg f];split
 ·exact T.size_pos _
 ·rename_i a;have:jY ρ x y w=ρ w:=by
   unfold jY at a⊢;split
   ·rename_i e;rw[if_pos e]at a;exact absurd rfl a
   ·rfl
  rw[this];exact JZ d h ⟨j.1,t,w,U,g,rfl⟩
def adx(e:ρ x=x)(b:ρ y=y)(d:x≠y)(f:y∈cG c.up):jo (c.join x y) (jY ρ x y)<jo c ρ:=by have ab:cG (c.join x y).up=cG c.up:=EK f;have g:(c.join x y).ph=c.ph:=rfl;unfold jo;rw[ab,g];have J:=Hi (V:=cG c.up) (v:=y) (p:=fun v=>decide (ρ v=v)) (q:=fun v=>decide (jY ρ x y v=v)) (fun z _ a=>by simp only[gy]at a⊢;exact((rA e b d).1 a).1) f (by simp[b]) (by simp only[iM];exact fun h=>((rA e b d).1 h).2 rfl);have U:=Hh (V:=cG c.up) (p:=fun v=>decide (ρ v=v)&& !(c.ph v).isSome) (q:=fun v=>decide (jY ρ x y v=v)&& !(c.ph v).isSome) (fun z _ a=>by simp only[cP,gy]at a⊢;exact⟨((rA e b d).1 a.1).1,a.2⟩);omega
end
def Cv{c:bJ}{x:Int}(h:c.shd x=false):c.ph x=none:=by simp[bJ.ph,h]
def Cw{c:bJ}{x:Int}(h:¬c.shd x=false):c.ph x=some (c.shp x):=by simp[bJ.ph];simpa using h
def UD{c:bJ}{ρ:Int->Int}(hi:mY c ρ){x y:Int}(g:ρ x=x)(A:ρ y=y)(iQ:x<y)(EN:x∈cG c.up)(W:y∈cG c.up)
  (rec:∀(M:bJ) (X:Int->Int),mY M X->cG M.up=cG c.up->jo M X<jo c ρ->∀a b:T,(∀w,a.occ w=true->w∈cG c.up)->(∀w,b.occ w=true->w∈cG c.up)->∃N o,(∀n,N<=n->hs n a b M=some o)/\jU M X (fun d=>a.ap d=b.ap d) o):
  ∃N o,(∀n,N<=n->s6 (hs n) n x y (c.join x y)=some o)/\jU c ρ (fun d=>d x=d y) o:=by
 have i:x≠y:=Ω
 have ab:cG (c.join x y).up=cG c.up:=EK W;have O:(c.join x y).ph=c.ph:=rfl;have E:=hi.ru.join g A iQ EN W;have Z:=adx (c:=c) g A i W;have L:pJ (cG (c.join x y).up) (c.join x y).ph:=by rw[ab,O];exact hi.sh
 obtain⟨l5,wu⟩:=hi.sat
 have S:∀z u,z≠x->jT c.ph (jY ρ x y) z u->(fun z=>if z=x then 0 else(l5 z).size) u<(fun z=>if z=x then 0 else(l5 z).size) z:=fun z u bC he=>aqA hi.sh g A i wu bC he;have F:=fun d=>arc (ph:=c.ph) g A i d;have W6:∀{cC:bJ},hc (jY ρ x y) (c.join x y) cC->(∃d,kN c.ph (jY ρ x y) d)->c.ph y=none->jU c ρ (fun d=>d x=d y) (true,cC):=by intro cC k r B;refine⟨k.keys.trans ab,k.rest,fun _=>⟨jY ρ x y,⟨k.ru,by simp only[k.keys,k.ph];exact L,by simp only[k.ph];exact r⟩,fun d=>?_,.inr (by simp only[yJ k];exact Z)⟩,fun e=>by cases e⟩;simp only[k.ph,O];rw[<-F d];exact⟨fun h=>⟨h,fun t H=>by rw[B]at H;cases H⟩,fun h=>h.1⟩
 by_cases J:(c.join x y).shd y=false
 ·have WU:c.ph y=none:=Cv J;by_cases U:(c.join x y).shd x=false
  ·have V:c.ph x=none:=Cv U;refine⟨0,(true,c.join x y),fun n _=>by simp only[s6,if_pos J,if_pos U],W6 (hc.refl E) ?_ WU⟩;exact FG E.idem (x:=x) S fun u ⟨_,t,w,q,_⟩=>by rw[V]at q;cases q
  ·have m:c.ph x=some ((c.join x y).shp x):=Cw U;obtain⟨N,a,K,f,R⟩:=Jv (x:=x) (c:=c.join x y) (t:=(c.join x y).shp x) E L (by rw[ab];exact(hi.sh _ _ m).2.1);refine⟨N,(!a.found,a.c),fun n B=>by simp only[s6,if_pos J,if_neg U,K n B,pC],?_⟩;cases s:a.found with
   |false=>refine W6 f (FG E.idem (x:=x) S fun u ⟨_,t,w,j,p,G⟩ aJ=>?_) WU;rw[m]at j;cases j;subst G;have:=R.2 ⟨w,p,aJ⟩;rw[s]at this;cases this
   |true=>refine⟨f.keys.trans ab,f.rest,(fun e=>by cases e),fun _ d r he=>?_⟩;obtain⟨w,j,p⟩:=R.1 s;have v:=((F d).2 ⟨r,he⟩).1;have P:=J0 hi.sh v p;have Q:=(Cn d j).2 (hi.sh _ _ m).1;rw[<-v.2 x _ ((rA g A i).2 ⟨g,i⟩) m]at Q;rw[<-v.1 w]at P;omega
 ·have l:c.ph y=some ((c.join x y).shp y):=Cw J;by_cases U:(c.join x y).shd x=false
  ·have V:c.ph x=none:=Cv U;have nl:mY (c.join x y) (jY ρ x y):=⟨E,L,FG E.idem (x:=x) S fun u ⟨_,t,w,q,_⟩=>by rw[O,V]at q;cases q⟩;obtain⟨N,o,K,f⟩:=X9 nl (x:=x) ((rA g A i).2 ⟨g,i⟩) (by rw[ab];exact EN) V (t:=(c.join x y).shp y) (hi.sh _ _ l).1 (by rw[ab];exact(hi.sh _ _ l).2.1);refine⟨N,o,fun n B=>by simp only[s6,if_neg J,if_pos U,K n B],f.keys.trans ab,f.rest,fun s=>?_,fun s d r he=>?_⟩
   ·obtain⟨ρ',g1,g2,g3⟩:=f.yes s;refine⟨ρ',g1,fun d=>?_,.inr ?_⟩
    ·rw[g2 d,<-F d];refine and_congr_right fun _=>⟨fun h t H=>by rw[l]at H;cases H;exact h,fun h=>h _ l⟩
    ·rcases g3 with⟨rfl,g3⟩|g3
     ·have:jo o.2 (jY ρ x y)=jo (c.join x y) (jY ρ x y):=by unfold jo;rw[f.keys,g3]
      omega
     ·omega
   ·obtain⟨s1,s2⟩:=(F d).2 ⟨r,he⟩;exact f.no s d s1 (s2 _ l)
  ·have m:c.ph x=some ((c.join x y).shp x):=Cw U;obtain⟨Y,a,K,f,R⟩:=Jv (x:=x) (c:=c.join x y) (t:=(c.join x y).shp y) E L (by rw[ab];exact(hi.sh _ _ l).2.1);cases s:a.found with
   |true=>refine⟨Y,(false,a.c),fun n B=>by simp only[s6,if_neg J,if_neg U,K n B,k4,s,if_true],f.keys.trans ab,f.rest,(fun e=>by cases e),fun _ d r he=>?_⟩;obtain⟨w,j,p⟩:=R.1 s;obtain⟨v,qF⟩:=(F d).2 ⟨r,he⟩;have P:=J0 hi.sh v p;have Q:=(Cn d j).2 (hi.sh _ _ l).1;rw[<-qF _ l]at Q;rw[<-v.1 w]at P;omega
   |false=>
    have W9:a.c.shp x=(c.join x y).shp x:=f.shp x;obtain⟨jV,b,f1,f2,f3⟩:=Jv (x:=x) (c:=a.c) (t:=(c.join x y).shp x) f.ru (by rw[f.keys,f.ph];exact L) (by rw[f.keys,ab];exact(hi.sh _ _ m).2.1);have e3:=f.trans f2;cases be:b.found with
    |true=>refine⟨max Y jV,(false,b.c),fun n B=>by simp only[s6,if_neg J,if_neg U,K n Ω,k4,s,W9,f1 n Ω,be,if_true,hQ,if_false],e3.keys.trans ab,e3.rest,(fun e=>by cases e),fun _ d r he=>?_⟩;obtain⟨w,j,p⟩:=f3.1 be;obtain⟨v,_⟩:=(F d).2 ⟨r,he⟩;rw[f.ph]at p;have P:=J0 hi.sh v p;have Q:=(Cn d j).2 (hi.sh _ _ m).1;rw[<-v.2 x _ ((rA g A i).2 ⟨g,i⟩) m]at Q;rw[<-v.1 w]at P;omega
    |false=>
     have Bz:mY b.c (jY ρ x y):=by refine⟨e3.ru,by rw[e3.keys,e3.ph];exact L,?_⟩;rw[e3.ph];refine FG E.idem (x:=x) S fun u ⟨_,t,w,j,p,G⟩ aJ=>?_;rw[O,m]at j;cases j;subst G;have:=f3.2 ⟨w,p,by rw[f.ph];exact aJ⟩;rw[be]at this;cases this
     obtain⟨AH,o,g1,g2⟩:=rec b.c (jY ρ x y) Bz (e3.keys.trans ab) (by rw[yJ e3];exact Z) ((c.join x y).shp x) ((c.join x y).shp y) (hi.sh _ _ m).2.1 (hi.sh _ _ l).2.1;refine⟨max (max Y jV) AH,o,fun n B=>?_,g2.keys.trans (e3.keys.trans ab),?_,fun cL=>?_,fun cL d r he=>?_⟩
     ·simp only[s6,if_neg J,if_neg U,K n Ω,k4,s,W9,f1 n Ω,be,hQ,if_false,e3.shp];exact g1 n Ω
     ·rw[g2.rest.1,g2.rest.2.1,g2.rest.2.2];exact e3.rest
     ·obtain⟨ρ',j,p,G⟩:=g2.yes cL;refine⟨ρ',j,fun d=>?_,.inr ?_⟩
      ·rw[p d,e3.ph,O,<-F d];refine and_congr_right fun h=>?_;have:=h.2 x _ ((rA g A i).2 ⟨g,i⟩) m;rw[<-this];exact⟨fun h t H=>by rw[l]at H;cases H;exact h,fun h=>h _ l⟩
      ·have:jo b.c (jY ρ x y)<jo c ρ:=by rw[yJ e3];exact Z
       rcases G with⟨rfl,G⟩|G
       ·have:jo o.2 (jY ρ x y)=jo b.c (jY ρ x y):=by unfold jo;rw[g2.keys,G]
        omega
       ·omega
     ·obtain⟨s1,s2⟩:=(F d).2 ⟨r,he⟩;refine g2.no cL d (by rw[e3.ph];exact s1) ?_;have:=s1.2 x _ ((rA g A i).2 ⟨g,i⟩) m;rw[<-this];exact s2 _ l
def vQ:T->T->Nat
 | .var _,_=>1
 |_,.var _=>2
 |_,_=>0
def afv(K:Nat):∀(m:Nat) (c:bJ) (ρ:Int->Int) (a b:T) (k:Int->T),mY c ρ->kN c.ph ρ k->(∀w,a.occ w=true->w∈cG c.up)->(∀w,b.occ w=true->w∈cG c.up)->jo c ρ=K->((a.ap k).size+(b.ap k).size)*3+vQ a b=m->
  ∃N o,(∀n,N<=n->hs n a b c=some o)/\jU c ρ (fun d=>a.ap d=b.ap d) o:=by
 induction K using Nat.strongRecOn with
 |ind K alu=>
 have Xh:∀(f:bJ) (g:Int->Int),mY f g->jo f g<K->∀a b:T,(∀w,a.occ w=true->w∈cG f.up)->(∀w,b.occ w=true->w∈cG f.up)->∃N o,(∀n,N<=n->hs n a b f=some o)/\jU f g (fun d=>a.ap d=b.ap d) o:=by
  intro f g J U a b v r;obtain⟨d,ik⟩:=J.sat
  exact alu _ U _ f g a b d J ik v r rfl rfl
 intro m;induction m using Nat.strongRecOn with
 |ind m BT=>
 intro c ρ a b k hi R v r P hm;have aky:∀{a b:T},(∀n,hs (n+1) a b c=some (decide (a=b),c))->(∀d,a.ap d=a)->(∀d,b.ap d=b)->∃N o,(∀n,N<=n->hs n a b c=some o)/\jU c ρ (fun d=>a.ap d=b.ap d) o:=by
  intro a b J U F;refine⟨1,(decide (a=b),c),fun n B=>?_,rfl,⟨rfl,rfl,rfl⟩,fun h=>?_,fun h d _ he=>?_⟩
  ·obtain⟨n',rfl⟩:∃n',n=n'+1:=⟨n-1,Ω⟩;exact J n'
  ·simp only[gy]at h;subst h;exact⟨ρ,hi,fun d=>⟨fun h=>⟨h,rfl⟩,fun h=>h.1⟩,.inl ⟨rfl,rfl⟩⟩
  ·simp only[iM]at h;rw[U,F]at he;exact h he
 have Wi:∀{a b:T},(∀n,hs (n+1) a b c=some (decide (a=b),c))->(∀d,a.ap d≠b.ap d)->a≠b->∃N o,(∀n,N<=n->hs n a b c=some o)/\jU c ρ (fun d=>a.ap d=b.ap d) o:=by intro a b J U F;refine⟨1,(false,c),fun n B=>?_,rfl,⟨rfl,rfl,rfl⟩,(fun h=>by cases h),fun _ d _ he=>U d he⟩;obtain⟨n',rfl⟩:∃n',n=n'+1:=⟨n-1,Ω⟩;rw[J n',mX F]
 have xS:∀(i:Int) (b:T),b.kind≠1->(∀n,hs (n+1) (.var i) b c=(rt c i).bind fun p=>if p.2.shd p.1=false then wB n p.1 b p.2 else hs n (p.2.shp p.1) b p.2)->i∈cG c.up->(∀w,b.occ w=true->w∈cG c.up)->((k i).size+(b.ap k).size)*3<m->∃N o,(∀n,N<=n->hs n (.var i) b c=some o)/\jU c ρ (fun d=>d i=b.ap d) o:=by
  intro i b xt Wl ki r bO;obtain⟨f,y,s⟩:=vj hi.ru ki;have O:=hi.sm s;by_cases l:f.shd (ρ i)=false
  ·obtain⟨N,o,A,t⟩:=X9 O (x:=ρ i) (hi.ru.idem i) (by rw[s.keys];exact(hi.ru.mem ki).1) (Cv l) xt (by rw[s.keys];exact r);refine⟨N+1,o,fun n B=>?_,jU.sm s (jU.congr (fun d h=>?_) t)⟩
   ·obtain⟨n',rfl⟩:∃n',n=n'+1:=⟨n-1,Ω⟩;rw[Wl,y];simp only[k4,if_pos l];exact A n' Ω
   ·rw[<-h.1 i]
  ·have S:f.ph (ρ i)=some (f.shp (ρ i)):=Cw l;have mg:∀d,kN f.ph ρ d->d i=(f.shp (ρ i)).ap d:=fun d h=>by rw[h.1 i];exact h.2 _ _ (hi.ru.idem i) S
   have Ef:=(O.sh _ _ S).1;have aka:vQ (f.shp (ρ i)) b=0:=by cases e:f.shp (ρ i)<;>cases b<;>simp_all[vQ,T.kind]
   have Xe:kN f.ph ρ k:=by rw[s.ph];exact R
   obtain⟨N,o,A,t⟩:=BT (((f.shp (ρ i)).ap k).size*3+(b.ap k).size*3) (by rw[<-mg k Xe];omega) f ρ (f.shp (ρ i)) b k O Xe (O.sh _ _ S).2.1 (by rw[s.keys];exact r) (by rw[yJ s];exact P) (by rw[aka];omega);refine⟨N+1,o,fun n B=>?_,jU.sm s (jU.congr (fun d h=>?_) t)⟩
   ·obtain⟨n',rfl⟩:∃n',n=n'+1:=⟨n-1,Ω⟩;rw[Wl,y];simp only[k4,if_neg l];exact A n' Ω
   ·rw[mg d h]
 have Ex:∀(i j:Int),i∈cG c.up->j∈cG c.up->∃N o,(∀n,N<=n->hs n (.var i) (.var j) c=some o)/\jU c ρ (fun d=>d i=d j) o:=by
  intro i j ki Q;obtain⟨f,y,s⟩:=vj hi.ru ki;obtain⟨H,A,bN⟩:=vj s.ru (by rw[s.keys];exact Q:j∈cG f.up);have z:=s.trans bN;have W:=hi.sm z;have fM:ρ i∈cG H.up:=by rw[z.keys];exact(hi.ru.mem ki).1
  have WA:ρ j∈cG H.up:=by rw[z.keys];exact(hi.ru.mem Q).1
  have xM:∀(f:bJ) (g:Int->Int),mY f g->cG f.up=cG H.up->jo f g<jo H ρ->∀a b:T,(∀w,a.occ w=true->w∈cG H.up)->(∀w,b.occ w=true->w∈cG H.up)->∃N o,(∀n,N<=n->hs n a b f=some o)/\jU f g (fun d=>a.ap d=b.ap d) o:=fun di ρ3 J U F a b v r=>Xh di ρ3 J (by rw[yJ z,P]at F;exact F) a b (by rw[U];exact v) (by rw[U];exact r);rcases Int.lt_trichotomy (ρ i) (ρ j)with h|h|h
  ·obtain⟨N,o,bh,X⟩:=UD W (hi.ru.idem i) (hi.ru.idem j) h fM WA xM;refine⟨N+1,o,fun n B=>?_,jU.sm z (jU.congr (fun d h=>?_) X)⟩
   ·obtain⟨n',rfl⟩:∃n',n=n'+1:=⟨n-1,Ω⟩;simp only[hs,y,A,k4];rw[if_neg Ω,if_neg Ω];exact bh n' Ω
   ·rw[h.1 i,h.1 j]
  ·refine⟨1,(true,H),fun n B=>?_,z.keys,z.rest,fun _=>⟨ρ,W,fun d=>?_,.inl ⟨rfl,z.ph⟩⟩,fun e=>by cases e⟩
   ·obtain⟨n',rfl⟩:∃n',n=n'+1:=⟨n-1,Ω⟩;simp only[hs,y,A,k4,if_pos h]
   ·simp only[z.ph];exact⟨fun l=>⟨l,by rw[l.1 i,l.1 j,h]⟩,fun l=>l.1⟩
  ·obtain⟨N,o,bh,X⟩:=UD W (hi.ru.idem j) (hi.ru.idem i) h WA fM xM;refine⟨N+1,o,fun n B=>?_,jU.sm z (jU.congr (fun d h=>?_) X)⟩
   ·obtain⟨n',rfl⟩:∃n',n=n'+1:=⟨n-1,Ω⟩;simp only[hs,y,A,k4];rw[if_neg Ω,if_pos h];exact bh n' Ω
   ·rw[h.1 i,h.1 j];exact⟨Eq.symm,Eq.symm⟩
 have BN:∀(a:T) (j:Int),a.kind≠1->(∀n,hs (n+1) a (.var j) c=hs n (.var j) a c)->(∀n,hs (n+1) (.var j) a c=(rt c j).bind fun p=>if p.2.shd p.1=false then wB n p.1 a p.2 else hs n (p.2.shp p.1) a p.2)->j∈cG c.up->(∀w,a.occ w=true->w∈cG c.up)->((k j).size+(a.ap k).size)*3<m->∃N o,(∀n,N<=n->hs n a (.var j) c=some o)/\jU c ρ (fun d=>a.ap d=d j) o:=by intro a j J U F Q v bO;obtain⟨N,o,y,E⟩:=xS j a J F Q v bO;refine⟨N+1,o,fun n B=>?_,jU.congr (fun d _=>⟨Eq.symm,Eq.symm⟩) E⟩;obtain⟨n',rfl⟩:∃n',n=n'+1:=⟨n-1,Ω⟩;rw[U];exact y n' Ω
 cases a with
 |var i=>
  have ki:i∈cG c.up:=v i (by simp[T.occ]);cases b with
  |var j=>exact Ex i j ki (r j (by simp[T.occ]))
  |_=>exact xS i _ (by simp[T.kind]) (fun n=>rfl) ki r (by simp only[T.ap,vQ]at hm⊢;omega)
 |pair Z a2=>
  cases b with
  |var j=>exact BN _ j (by simp[T.kind]) (fun n=>rfl) (fun n=>rfl) (r j (by simp[T.occ])) v (by simp only[T.ap,vQ]at hm⊢;omega)
  |pair Y L=>
   have uP:∀p q:T,vQ p q<=2:=fun p q=>by cases p<;>cases q<;>simp[vQ]
   have me:∀w,Z.occ w=true->w∈cG c.up:=fun w hw=>v w (by simp[T.occ,hw]);have rj:∀w,a2.occ w=true->w∈cG c.up:=fun w hw=>v w (by simp[T.occ,hw]);have mD:∀w,Y.occ w=true->w∈cG c.up:=fun w hw=>r w (by simp[T.occ,hw]);have qA:∀w,L.occ w=true->w∈cG c.up:=fun w hw=>r w (by simp[T.occ,hw]);simp only[T.ap,T.size,vQ]at hm;have f1:=uP Z Y;have f2:=uP a2 L;obtain⟨iG,hj,y,E⟩:=BT _ (by rw[<-hm];omega) c ρ Z Y k hi R me mD P rfl;obtain⟨anb,f⟩:=hj;cases anb with
   |false=>refine⟨iG+1,(false,f),fun n B=>?_,E.keys,E.rest,(fun e=>by cases e),fun _ d l he=>E.no rfl d l (by simp only[T.ap,T.pair.injEq]at he;exact he.1)⟩;obtain⟨n',rfl⟩:∃n',n=n'+1:=⟨n-1,Ω⟩;simp only[hs,y n' Ω,k4,hQ,if_false]
   |true=>
    obtain⟨g,a7,bB,u⟩:=E.yes rfl;simp only at a7 bB u;have G:cG f.up=cG c.up:=E.keys;have Ep:∃V M,(∀n,V<=n->hs n a2 L f=some M)/\jU f g (fun d=>a2.ap d=L.ap d) M:=by
     rcases u with⟨rfl,u⟩|u
     ·exact BT _ (by rw[<-hm];omega) f g a2 L k a7 (by rw[u];exact R) (by rw[G];exact rj) (by rw[G];exact qA) (by unfold jo;rw[G,u];exact P) rfl
     ·exact Xh f g a7 Ω a2 L (by rw[G];exact rj) (by rw[G];exact qA)
    obtain⟨V,M,A,t⟩:=Ep;refine⟨max iG V+1,M,fun n B=>?_,t.keys.trans G,?_,fun aG=>?_,fun aG d l he=>?_⟩
    ·obtain⟨n',rfl⟩:∃n',n=n'+1:=⟨n-1,Ω⟩;simp only[hs,y n' Ω,k4,if_true];exact A n' Ω
    ·rw[t.rest.1,t.rest.2.1,t.rest.2.2];exact E.rest
    ·obtain⟨ρ2,s1,s2,s3⟩:=t.yes aG;refine⟨ρ2,s1,fun d=>?_,?_⟩
     ·rw[s2 d,bB d];simp only[T.ap,T.pair.injEq,and_assoc]
     ·rcases u with⟨rfl,u⟩|u
      ·rcases s3 with⟨rfl,s3⟩|s3
       ·exact .inl ⟨rfl,s3.trans u⟩
       ·have:jo f g=jo c g:=by unfold jo;rw[G,u]
        exact .inr Ω
      ·rcases s3 with⟨rfl,s3⟩|s3
       ·have:jo M.2 ρ2=jo f ρ2:=by unfold jo;rw[t.keys,s3]
        exact .inr Ω
       ·exact .inr Ω
    ·simp only[T.ap,T.pair.injEq]at he;exact t.no aG d ((bB d).2 ⟨l,he.1⟩) he.2
  |_=>exact Wi (fun n=>rfl) (fun d=>by simp[T.ap]) Ψ
 |_=>
  cases b with
  |var j=>exact BN _ j (by simp[T.kind]) (fun n=>rfl) (fun n=>rfl) (r j (by simp[T.occ])) v (by simp only[T.ap,vQ]at hm⊢;omega)
  |_=>first|exact aky (fun n=>rfl) (fun d=>rfl) (fun d=>rfl)|exact Wi (fun n=>rfl) (fun d=>by simp[T.ap]) Ψ
end
section
open Go
def Az(rec:Int->bJ->bd (Bool×bJ))(v:Int)(a:bJ×Bool):bd (bJ×Bool):=if a.2=true then(rt a.1 v).bind fun p=>(rec p.1 p.2).map fun q=>(q.2,q.1)else some a
def Ap(v:Int)(c:bJ):bd (Int×bJ):=(rt c v).map fun p=>(p.2.sz p.1,p.2)
def bJ.grey(c:bJ)(x:Int):bJ:={c with color:=fB x 1 c.color,size:=fB x 1 c.size}
def bJ.black(c:bJ)(x:Int):bJ:={c with color:=fB x 2 c.color}
def rV:Nat->Int->bJ->bd (Bool×bJ)
 |0,_,_=>none
 |n+1,x,c=>if c.col x=2 then some (true,c)else if c.col x=1 then some (false,c)else
   if(c.grey x).shd x=false then some (true,(c.grey x).black x)else
   (((c.grey x).shp x).foldO (Az (rV n)) (c.grey x,true)).bind fun a=>if a.2=false then some (false,a.1)else
   (((a.1.shp x).sizeO Ap a.1).map fun p=>(true,{p.2 with size:=fB x p.1 p.2.size}.black x))
def C4(rec:Int->bJ->bd (T×bJ))(v:Int)(c:bJ):bd (T×bJ):=(rt c v).bind fun p=>rec p.1 p.2
def rU:Nat->Int->bJ->bd (T×bJ)
 |0,_,_=>none
 |n+1,x,c=>match dp x c.full with
  |some t=>some (t,c)
  |none=>if c.shd x=false then some (.var x,{c with full:=fB x (.var x) c.full})else
   ((c.shp x).mapO (C4 (rU n)) c).map fun p=>(p.1,{p.2 with full:=fB x p.1 p.2.full})
def ua(n:Nat):List Int->bJ->List Int->bd (bd (List Int)×bJ)
 |[],c,out=>some (some out,c)
 |v::bm,c,out=>(rt c v).bind fun p=>(rV n p.1 p.2).bind fun q=>if q.1=false then some (none,q.2)else
   if p.1=v/\q.2.shd p.1=false then ua n bm q.2 out else
   if 5000<q.2.sz p.1\/400<out.length+1 then some (none,q.2)else ua n bm q.2 (out++[v])
def Aq(n:Nat):List Int->bJ->bd (List Bd×bJ)
 |[],c=>some ([],c)
 |v::bm,c=>(rt c v).bind fun p=>(rU n p.1 p.2).bind fun q=>(Aq n bm q.2).map fun r=>(⟨v,q.1⟩::r.1,r.2)
def FM(n:Nat)(bm:List Int)(c:bJ):bd (bd (List Bd)):=(ua n bm c []).bind fun a=>match a.1 with
 |none=>some none
 |some out=>(Aq n out a.2).map fun r=>some r.1
def re(n:Nat):List (T×T)->bJ->bd (Bool×bJ)
 |[],c=>some (true,c)
 |e::es,c=>(Ca e.1 c).bind fun b=>(Ca e.2 b).bind fun a=>(hs n e.1 e.2 a).bind fun p=>if p.1=true then re n es p.2 else some (false,p.2)
def mY.rank{c:bJ}{ρ:Int->Int}(h:mY c ρ):∃r:Int->Nat,∀z u,jT c.ph ρ z u->r u<r z:=by
 obtain⟨b,a⟩:=h.sat
 exact⟨fun z=>(b z).size,fun z u he=>JZ h.sh a he⟩
structure vA (V:List Int) (ph:Int->bd T) (ρ:Int->Int) (c:bJ):Prop where
 ru:kg c.up ρ
 keys:cG c.up=V
 ph:c.ph=ph
def vA.sm{V:List Int}{ph:Int->bd T}{ρ:Int->Int}{c a:bJ}(h:vA V ph ρ c)(k:hc ρ c a):vA V ph ρ a:=⟨k.ru,k.keys.trans h.keys,k.ph.trans h.ph⟩
def cut(n:Nat):Int:=if 5001<(n:Int)then 5001 else n
section
variable {V:List Int} {ph:Int->bd T} {ρ:Int->Int} {r:Int->Nat}
def aq2(f:Int->T):∀(t:T) (c:bJ),vA V ph ρ c->(∀w,t.occ w=true->w∈V/\c.sz (ρ w)=cut (f w).size)->∃i,t.sizeO Ap c=some (cut (t.ap f).size,i)/\hc ρ c i:=by
 intro t;induction t with
 |var v=>
  intro c h d;obtain⟨o,n⟩:=d v (by simp[T.occ]);obtain⟨e,J,U⟩:=vj h.ru (by rw[h.keys];exact o:v∈cG c.up);refine⟨e,?_,U⟩;have:e.sz (ρ v)=cut (f v).size:=by rw[<-n,U.eq];rfl
  simp only[T.sizeO,Ap,J,pC,this,T.ap,dU,jn,jc];unfold cut;split<;>omega
 |pair a b k j=>
  intro c h d;obtain⟨e,J,g⟩:=k c h fun w hw=>d w (by simp[T.occ,hw]);obtain⟨l,U,m⟩:=j e (h.sm g) fun w hw=>⟨(d w (by simp[T.occ,hw])).1,by rw[<-(d w (by simp[T.occ,hw])).2,g.eq];rfl⟩;have p:=T.size_pos (b.ap f);simp only[T.sizeO,J,k4,T.ap,T.size];by_cases ax:5000<cut (a.ap f).size
  ·rw[if_pos ax];refine⟨e,?_,g⟩;simp only[dU,jn,jc];unfold cut at ax⊢;split at ax<;>split<;>(try split)<;>omega
  ·rw[if_neg ax,U];refine⟨l,?_,g.trans m⟩;simp only[pC,dU,jn,jc];unfold cut at ax⊢;split at ax<;>(repeat' split)<;>omega
 |_=>intro c h d;exact⟨c,by simp[T.sizeO,T.ap,T.size,cut],hc.refl h.ru⟩
structure r7 (V:List Int) (ph:Int->bd T) (ρ:Int->Int) (r:Int->Nat) (d:Nat) (c:bJ):Prop where
 fin:vA V ph ρ c
 col:∀z,r z<d->c.col z=0\/(c.col z=2/\c.sz z=cut (hU ph ρ r z).size)
structure ou (ph:Int->bd T) (ρ:Int->Int) (r:Int->Nat) (d:Nat) (c cC:bJ):Prop where
 full:cC.full=c.full
 hi:∀z,d<=r z->cC.col z=c.col z/\cC.sz z=c.sz z
 lo:∀z,c.col z=2->cC.col z=2/\cC.sz z=c.sz z
def ou.refl{c:bJ}{d:Nat}:ou ph ρ r d c c:=⟨rfl,fun _ _=>⟨rfl,rfl⟩,fun _ h=>⟨h,rfl⟩⟩
def ou.trans{a b c:bJ}{d:Nat}(h:ou ph ρ r d a b)(k:ou ph ρ r d b c):ou ph ρ r d a c:=⟨k.full.trans h.full,fun z e=>⟨(k.hi z e).1.trans (h.hi z e).1,(k.hi z e).2.trans (h.hi z e).2⟩,fun z e=>⟨(k.lo z (h.lo z e).1).1,(k.lo z (h.lo z e).1).2.trans (h.lo z e).2⟩⟩
def ou.mono{a b:bJ}{d c:Nat}(f:d<=c)(h:ou ph ρ r d a b):ou ph ρ r c a b:=⟨h.full,fun z e=>h.hi z Ω,h.lo⟩
def ou.sm{c a:bJ}{d:Nat}(k:hc ρ c a):ou ph ρ r d c a:=by
 have b:∀z,a.col z=c.col z:=fun z=>by rw[k.eq];rfl
 have e:∀z,a.sz z=c.sz z:=fun z=>by rw[k.eq];rfl
 exact⟨k.rest.2.2,fun z _=>⟨b z,e z⟩,fun z h=>⟨by rw[b];exact h,e z⟩⟩
def r7.sm{c a:bJ}{d:Nat}(h:r7 V ph ρ r d c)(k:hc ρ c a):r7 V ph ρ r d a:=by
 have e:∀z,a.col z=c.col z:=fun z=>by rw[k.eq];rfl
 have f:∀z,a.sz z=c.sz z:=fun z=>by rw[k.eq];rfl
 exact⟨h.fin.sm k,fun z b=>by rw[e,f];exact h.col z b⟩
def atj(gL:pJ V ph)(R:∀v,ρ (ρ v)=ρ v)(aJ:∀z u,jT ph ρ z u->r u<r z)(d:Nat):∀(x:Int) (c:bJ),r x<d->ρ x=x->x∈V->r7 V ph ρ r d c->
  ∃N A,(∀n,N<=n->rV n x c=some (true,A))/\r7 V ph ρ r d A/\ou ph ρ r (r x+1) c A/\A.col x=2/\A.sz x=cut (hU ph ρ r x).size:=by
 induction d using Nat.strongRecOn with
 |ind d b1=>
 intro x c aK P kR hw;rcases hw.col x aK with bA|⟨U,aq⟩;rotate_left
 ·refine⟨1,c,fun n F=>?_,hw,ou.refl,U,aq⟩;obtain⟨n',rfl⟩:∃n',n=n'+1:=⟨n-1,Ω⟩;simp only[rV,if_pos U]
 have k:∀z,(c.grey x).col z=if z=x then 1 else c.col z:=fun z=>by simp only[bJ.grey,bJ.col,oR];split<;>rfl
 have H:∀z,(c.grey x).sz z=if z=x then 1 else c.sz z:=fun z=>by simp only[bJ.grey,bJ.sz,oR];split<;>rfl
 have m:vA V ph ρ (c.grey x):=⟨hw.fin.ru,hw.fin.keys,hw.fin.ph⟩;have X:r7 V ph ρ r (r x) (c.grey x):=⟨m,fun z g=>by
  have cv:z≠x:=fun e=>by subst e;omega
  rw[k,H,if_neg cv,if_neg cv];exact hw.col z Ω⟩
 have Ei:¬c.col x=2:=Ω
 have tv:¬c.col x=1:=Ω
 have p:∀(e:bJ) (z:Int),(e.black x).col z=(if z=x then 2 else e.col z):=fun e z=>by simp only[bJ.black,bJ.col,oR];split<;>rfl
 by_cases O:(c.grey x).shd x=false
 ·have l:ph x=none:=by rw[<-m.ph];exact Cv O
  have be:hU ph ρ r x= .var x:=by rw[DS (by rw[P];exact l),P]
  have K:∀z,((c.grey x).black x).sz z=if z=x then 1 else c.sz z:=H
  refine⟨1,(c.grey x).black x,fun n F=>?_,⟨⟨m.ru,m.keys,m.ph⟩,fun z g=>?_⟩,⟨rfl,fun z g=>?_,fun z g=>?_⟩,?_,?_⟩
  ·obtain⟨n',rfl⟩:∃n',n=n'+1:=⟨n-1,Ω⟩;simp only[rV,if_neg Ei,if_neg tv,if_pos O]
  ·rw[p,K,k];by_cases e:z=x
   ·subst e;simp only[if_true,be];exact .inr ⟨trivial,by simp[T.size,cut]⟩
   ·simp only[if_neg e];exact hw.col z g
  ·have e:z≠x:=fun e=>by subst e;omega
   rw[p,K,k];simp only[if_neg e];exact⟨trivial,trivial⟩
  ·have e:z≠x:=fun e=>by subst e;omega
   rw[p,K,k];simp only[if_neg e];exact⟨g,trivial⟩
  ·rw[p,if_pos rfl]
  ·rw[K,if_pos rfl,be];simp[T.size,cut]
 ·have l:ph x=some ((c.grey x).shp x):=by rw[<-m.ph];exact Cw O
  obtain⟨g1,g2,g3⟩:=gL _ _ l;have Y:∀(t:T) (e:bJ),(∀w,t.occ w=true->((c.grey x).shp x).occ w=true)->r7 V ph ρ r (r x) e->∃N s,(∀n,N<=n->t.foldO (Az (rV n)) (e,true)=some (s,true))/\r7 V ph ρ r (r x) s/\ou ph ρ r (r x) e s/\∀w,t.occ w=true->s.col (ρ w)=2/\s.sz (ρ w)=cut (hU ph ρ r w).size:=by
   intro t;induction t with
   |var v=>intro e o he;have aN:=g2 v (o v (by simp[T.occ]));have xN:r (ρ v)<r x:=aJ x (ρ v) ⟨P,_,v,l,o v (by simp[T.occ]),rfl⟩;obtain⟨W,G,a8⟩:=vj he.fin.ru (by rw[he.fin.keys];exact aN:v∈cG e.up);obtain⟨N,i,E,j,y,cq,s2⟩:=b1 (r x) aK (ρ v) W xN (R v) (by rw[<-he.fin.keys];exact(he.fin.ru.mem (by rw[he.fin.keys];exact aN)).1) (he.sm a8);refine⟨N,i,fun n F=>by simp[T.foldO,Az,G,E n F],j,(ou.sm a8).trans (y.mono Ω),fun w hw=>?_⟩;simp[T.occ]at hw;subst hw;exact⟨cq,by rw[s2,<-Bl R]⟩
   |pair a b et eu=>
    intro e o he;obtain⟨iG,W,G,q,S,s1⟩:=et e (fun w hw=>o w (by simp[T.occ,hw])) he;obtain⟨jV,i,E,j,y,s2⟩:=eu W (fun w hw=>o w (by simp[T.occ,hw])) q;refine⟨max iG jV,i,fun n F=>by simp only[T.foldO];rw[G n Ω];exact E n Ω,j,S.trans y,fun w hw=>?_⟩;simp only[T.occ,og]at hw;rcases hw with hw|hw
    ·obtain⟨l4,z2⟩:=s1 w hw;exact⟨(y.lo _ l4).1,by rw[(y.lo _ l4).2];exact z2⟩
    ·exact s2 w hw
   |_=>intro e _ he;exact⟨0,e,fun n _=>rfl,he,ou.refl,fun w hw=>by simp[T.occ]at hw⟩
  obtain⟨N,e,G,q,S,s1⟩:=Y ((c.grey x).shp x) (c.grey x) (fun w h=>h) X;have Z:e.shp x=(c.grey x).shp x:=by
   have J:e.ph x=some ((c.grey x).shp x):=by rw[q.fin.ph];exact l
   unfold bJ.ph at J;split at J
   ·exact e8 J
   ·cases J
  obtain⟨i,E,bN⟩:=aq2 (V:=V) (ph:=ph) (ρ:=ρ) (hU ph ρ r) ((c.grey x).shp x) e q.fin (fun w hw=>⟨g2 w hw,(s1 w hw).2⟩);have nv:hU ph ρ r x=((c.grey x).shp x).ap (hU ph ρ r):=Bm R aJ (by rw[P];exact l);have Q:=S.trans (ou.sm (ph:=ph) (r:=r) (d:=r x) bN);have j:=q.sm bN;let M:bJ:={i with size:=fB x (cut (hU ph ρ r x).size) i.size}.black x
  have L:∀z,M.col z=if z=x then 2 else i.col z:=fun z=>p _ z
  have s3:∀z,M.sz z=if z=x then cut (hU ph ρ r x).size else i.sz z:=fun z=>by show(dp z (fB x _ i.size)).getD 0=_;rw[oR];split<;>rfl
  refine⟨N+1,M,fun n F=>?_,⟨⟨j.fin.ru,j.fin.keys,j.fin.ph⟩,fun z g=>?_⟩,⟨Q.full,fun z g=>?_,fun z g=>?_⟩,by rw[L,if_pos rfl],by rw[s3,if_pos rfl]⟩
  ·obtain⟨n',rfl⟩:∃n',n=n'+1:=⟨n-1,Ω⟩;simp only[rV,if_neg Ei,if_neg tv,if_neg O,G n' Ω,k4,Bool.true_eq_false,if_false,Z,E,pC,nv,M]
  ·rw[L,s3];by_cases f:z=x
   ·subst f;simp only[if_true];exact .inr ⟨trivial,trivial⟩
   ·simp only[if_neg f];by_cases bO:r z<r x
    ·exact j.col z bO
    ·obtain⟨B,a2⟩:=Q.hi z Ω;rw[B,a2,k,H,if_neg f,if_neg f];exact hw.col z g
  ·have f:z≠x:=fun e=>by subst e;omega
   obtain⟨B,a2⟩:=Q.hi z Ω;rw[L,s3,if_neg f,if_neg f,B,a2,k,H,if_neg f,if_neg f];exact⟨rfl,rfl⟩
  ·have f:z≠x:=fun e=>by subst e;omega
   obtain⟨B,a2⟩:=Q.lo z (by rw[k,if_neg f];exact g);rw[L,s3,if_neg f,if_neg f,B,a2,H,if_neg f];exact⟨rfl,rfl⟩
structure sV (V:List Int) (ph:Int->bd T) (ρ:Int->Int) (r:Int->Nat) (c:bJ):Prop where
 fin:vA V ph ρ c
 full:∀x t,dp x c.full=some t->t=hU ph ρ r x
def sV.sm{c a:bJ}(h:sV V ph ρ r c)(k:hc ρ c a):sV V ph ρ r a:=⟨h.fin.sm k,by rw[k.rest.2.2];exact h.full⟩
def ath(Q:pJ V ph)(s:∀v,ρ (ρ v)=ρ v)(K:∀z u,jT ph ρ z u->r u<r z)(d:Nat):∀(x:Int) (c:bJ),r x<d->ρ x=x->x∈V->sV V ph ρ r c->
  ∃N J,(∀n,N<=n->rU n x c=some (hU ph ρ r x,J))/\sV V ph ρ r J:=by
 induction d with
 |zero=>intro x c h;omega
 |succ d W=>
 intro x c aK o Z f;cases p:dp x c.full with
 |some t=>refine⟨1,c,fun n j=>?_,f⟩;obtain⟨n',rfl⟩:∃n',n=n'+1:=⟨n-1,Ω⟩;simp only[rU,p,f.full x t p]
 |none=>
  have L:∀(e:bJ),sV V ph ρ r e->sV V ph ρ r {e with full:=fB x (hU ph ρ r x) e.full}:=fun e he=>⟨⟨he.fin.ru,he.fin.keys,he.fin.ph⟩,fun z t U=>by
   have l:dp z (fB x (hU ph ρ r x) e.full)=some t:=U;rw[oR]at l;split at l
   ·rename_i e;subst e;cases l;rfl
   ·exact he.full z t l⟩
  by_cases m:c.shd x=false
  ·have i:ph x=none:=by rw[<-f.fin.ph];exact Cv m
   have be:hU ph ρ r x= .var x:=by rw[DS (by rw[o];exact i),o]
   refine⟨1,_,fun n j=>?_,L c f⟩;obtain⟨n',rfl⟩:∃n',n=n'+1:=⟨n-1,Ω⟩;simp only[rU,p,if_pos m,be]
  ·have i:ph x=some (c.shp x):=by rw[<-f.fin.ph];exact Cw m
   obtain⟨g1,g2,g3⟩:=Q _ _ i;have E:∀(t:T) (e:bJ),(∀w,t.occ w=true->(c.shp x).occ w=true)->sV V ph ρ r e->∃N H,(∀n,N<=n->t.mapO (C4 (rU n)) e=some (t.ap (hU ph ρ r),H))/\sV V ph ρ r H:=by
    intro t;induction t with
    |var v=>intro e g he;have G:=g2 v (g v (by simp[T.occ]));have Y:r (ρ v)<r x:=K x (ρ v) ⟨o,_,v,i,g v (by simp[T.occ]),rfl⟩;obtain⟨B,k,X⟩:=vj he.fin.ru (by rw[he.fin.keys];exact G:v∈cG e.up);obtain⟨N,F,A,y⟩:=W (ρ v) B Ω (s v) (by rw[<-he.fin.keys];exact(he.fin.ru.mem (by rw[he.fin.keys];exact G)).1) (he.sm X);exact⟨N,F,fun n j=>by simp only[T.mapO,C4,k,k4,A n j,T.ap];rw[<-Bl s],y⟩
    |pair a b S R=>intro e g he;obtain⟨P,B,k,q⟩:=S e (fun w hw=>g w (by simp[T.occ,hw])) he;obtain⟨O,F,A,y⟩:=R B (fun w hw=>g w (by simp[T.occ,hw])) q;exact⟨max P O,F,fun n j=>by simp only[T.mapO,k n Ω,k4,A n Ω,pC,T.ap],y⟩
    |_=>intro e _ he;exact⟨0,e,fun n _=>rfl,he⟩
   obtain⟨N,e,k,q⟩:=E (c.shp x) c (fun w h=>h) f;have M:hU ph ρ r x=(c.shp x).ap (hU ph ρ r):=Bm s K (by rw[o];exact i);refine⟨N+1,_,fun n j=>?_,L e q⟩;obtain⟨n',rfl⟩:∃n',n=n'+1:=⟨n-1,Ω⟩;simp only[rU,p,if_neg m,k n' Ω,pC,M]
def o3(ph:Int->bd T)(ρ:Int->Int)(v:Int):Bool:= !(decide (ρ v=v)&&(ph v).isNone)
def aq5(Y:pJ V ph)(s:∀v,ρ (ρ v)=ρ v)(aJ:∀z u,jT ph ρ z u->r u<r z)(X:∀v∈V,ρ v∈V):∀(bm:List Int) (c:bJ) (out:List Int),(∀v∈bm,v∈V)->(∀d,r7 V ph ρ r d c)->out.length<=400->(∀v∈out,(hU ph ρ r v).size<=5000)->
  ∃N x o,(∀n,N<=n->ua n bm c out=some (o,x))/\vA V ph ρ x/\x.full=c.full/\(∀l,o=some l->l=out++bm.filter (o3 ph ρ)/\l.length<=400/\∀v∈l,(hU ph ρ r v).size<=5000)/\(o=none->¬((out++bm.filter (o3 ph ρ)).length<=400/\∀v∈out++bm.filter (o3 ph ρ),(hU ph ρ r v).size<=5000)):=by
 intro bm;induction bm with
 |nil=>intro c out _ hw J U;exact⟨0,c,some out,fun n _=>rfl,(hw 0).fin,rfl,fun l e=>by cases e;simp;exact⟨J,U⟩,fun e=>by cases e⟩
 |cons v bm P=>
  intro c out F hw J U;have K:=F v Ψ;obtain⟨O,a7,Q⟩:=vj (hw 0).fin.ru (by rw[(hw 0).fin.keys];exact K:v∈cG c.up);have W:∀d,r7 V ph ρ r d O:=fun d=>(hw d).sm Q;obtain⟨i,a,bB,j,M,aC,s2⟩:=atj Y s aJ (r (ρ v)+1) (ρ v) O Ω (s v) (X v K) (W _);have L:∀d,r7 V ph ρ r d a:=fun d=>⟨j.fin,fun z B=>by
   by_cases Z:r z<r (ρ v)+1
   ·exact j.col z Z
   ·obtain⟨y,a2⟩:=M.hi z Ω;rw[y,a2];exact(W d).col z B⟩
  have G:a.full=c.full:=M.full.trans Q.rest.2.2;have S:(a.shd (ρ v)=false)=((ph (ρ v)).isNone=true):=by rw[<-j.fin.ph];unfold bJ.ph;cases a.shd (ρ v)<;>simp
  have m:∀n,i<=n->ua n (v::bm) c out=(if ρ v=v/\a.shd (ρ v)=false then ua n bm a out else if 5000<a.sz (ρ v)\/400<out.length+1 then some (none,a)else ua n bm a (out++[v])):=fun n g=>by simp only[ua,a7,k4,bB n g,Bool.true_eq_false,if_false]
  have R:hU ph ρ r (ρ v)=hU ph ρ r v:=(Bl s v).symm;by_cases ax:ρ v=v/\a.shd (ρ v)=false
  ·have f:o3 ph ρ v=false:=by have E:=ax.2;rw[S]at E;rw[ax.1]at E;simp[o3,ax.1,E]
   obtain⟨p,t,o,A,f3,k,H,q⟩:=P a out (fun w hw=>F w (by simp[hw])) L J U;refine⟨max i p,t,o,fun n g=>by rw[m n Ω,if_pos ax];exact A n Ω,f3,k.trans G,?_,?_⟩
   ·simp only[List.filter_cons,f,hQ,if_false];exact H
   ·simp only[List.filter_cons,f,hQ,if_false];exact q
  ·have f:o3 ph ρ v=true:=by
    cases e:o3 ph ρ v with
    |true=>rfl
    |false=>simp only[o3,Bool.not_eq_false',cP,gy]at e;exact absurd ⟨e.1,by rw[S,e.1];exact e.2⟩ ax
   by_cases b:5000<a.sz (ρ v)\/400<out.length+1
   ·refine⟨i,a,none,fun n g=>by rw[m n g,if_neg ax,if_pos b],j.fin,G,(fun l e=>by cases e),fun _=>?_⟩;simp only[List.filter_cons,f,if_true];rintro⟨y,a2⟩;rcases b with b|b
    ·rw[s2,R]at b;have:=a2 v Ψ;unfold cut at b;split at b<;>omega
    ·simp at y;omega
   ·have B:(hU ph ρ r v).size<=5000:=by have:¬5000<a.sz (ρ v):=fun h=>b (.inl h);rw[s2,R]at this;unfold cut at this;split at this<;>omega
    obtain⟨p,t,o,A,f3,k,H,q⟩:=P a (out++[v]) (fun w hw=>F w (by simp[hw])) L d6 (fun w hw=>by
     rcases kc.1 hw with hw|hw
     ·exact U w hw
     ·simp at hw;subst hw;exact B)
    refine⟨max i p,t,o,fun n g=>by rw[m n Ω,if_neg ax,if_neg b];exact A n Ω,f3,k.trans G,?_,?_⟩
    ·simp only[List.filter_cons,f,if_true];simpa using H
    ·simp only[List.filter_cons,f,if_true];simpa using q
def aq6(h:pJ V ph)(a:∀v,ρ (ρ v)=ρ v)(s:∀z u,jT ph ρ z u->r u<r z)(e:∀v∈V,ρ v∈V):∀(bm:List Int) (c:bJ),(∀v∈bm,v∈V)->sV V ph ρ r c->∃N l,∀n,N<=n->Aq n bm c=some (bm.map fun v=>⟨v,hU ph ρ r v⟩,l):=by
 intro bm;induction bm with
 |nil=>intro c _ _;exact⟨0,c,fun n _=>rfl⟩
 |cons v bm q=>intro c d hw;have b:=d v Ψ;obtain⟨o,x,t⟩:=vj hw.fin.ru (by rw[hw.fin.keys];exact b:v∈cG c.up);obtain⟨g,k,p,j⟩:=ath h a s (r (ρ v)+1) (ρ v) o Ω (a v) (e v b) (hw.sm t);obtain⟨f,i,m⟩:=q k (fun w hw=>d w (by simp[hw])) j;refine⟨max g f,i,fun n y=>?_⟩;simp only[Aq,x,k4,p n Ω,m n Ω,pC,gV];rw[<-Bl a]
end
end
section
open Go
def bJ.new:bJ:=⟨[],[],[],[],[],[]⟩
def sK(l:List Int):List Int:=l.mergeSort fun x y=>decide (x<=y)
def CS(n:Nat)(E:List (T×T)):bd (bd (List Bd)):=(re n E bJ.new).bind fun p=>if p.1=false then some none else FM n (sK (cG p.2.up)) p.2
def FP(l:List Int):(sK l).Perm l:=List.mergeSort_perm l _
def arn{l:List Int}(h:l.Nodup):(sK l).Pairwise (· < ·):=by have J:(sK l).Pairwise fun x y=>decide (x<=y)=true:=List.pairwise_mergeSort (fun a b c=>by simp;omega) (fun a b=>by simp;omega) l;have U:(sK l).Pairwise (· ≠ ·):=List.nodup_iff_pairwise_ne.1 ((FP l).nodup_iff.2 h);exact(J.and U).imp fun h=>by simp at h;omega
structure adC (c:bJ) (ρ:Int->Int) (cC:bJ) (Zd:Int->Prop):Prop where
 inv:mY cC ρ
 ph:cC.ph=c.ph
 nd:(cG cC.up).Nodup
 sub:∀v∈cG c.up,v∈cG cC.up
 occ:∀v,Zd v->v∈cG cC.up
 rest:cC.color=c.color/\cC.size=c.size/\cC.full=c.full
 new:∀v∈cG cC.up,v∈cG c.up\/Zd v
def YA{ρ:Int->Int}(t:T):∀(c:bJ),mY c ρ->(cG c.up).Nodup->(∀v,t.occ v=true->0<=v)->∃n,Ca t c=some n/\adC c ρ n fun v=>t.occ v=true:=by
 unfold Ca;induction t with
 |var v=>
  intro c hi i j;by_cases d:v∈cG c.up
  ·obtain⟨l,k,f⟩:=vj hi.ru d;refine⟨l,by simp[T.foldO,k],hi.sm f,f.ph,by rw[f.keys];exact i,fun w hw=>by rw[f.keys];exact hw,fun w hw=>?_,f.rest,fun w hw=>.inl (by rw[f.keys]at hw;exact hw)⟩;simp[T.occ]at hw;subst hw;rw[f.keys];exact d
  ·obtain⟨k,m,g⟩:=aqJ hi.ru (j v (by simp[T.occ])) d;refine⟨{c with up:=fB v v c.up},by simp only[T.foldO,k,pC],⟨m,?_,hi.sat⟩,rfl,?_,fun w hw=>by rw[g];simp[hw],fun w hw=>?_,⟨rfl,rfl,rfl⟩,fun w hw=>?_⟩
   ·intro x u z;obtain⟨s,a2,a3⟩:=hi.sh x u z;refine⟨s,fun w hw=>?_,?_⟩
    ·show w∈cG (fB v v c.up);rw[g];simp[a2 w hw]
    ·show x∈cG (fB v v c.up);rw[g];simp[a3]
   ·rw[g];rw[r1];exact⟨i,Ψ,fun a y b o e=>by simp at o;subst o;subst e;exact d y⟩
   ·simp[T.occ]at hw;subst hw;rw[g];simp
   ·rw[g]at hw;simp at hw;rcases hw with hw|rfl;exact .inl hw;exact .inr (by simp[T.occ])
 |pair a b q p=>
  intro c hi i j;obtain⟨l,k,m1⟩:=q c hi i fun v d=>j v (by simp[T.occ,d]);obtain⟨r,m,m2⟩:=p l m1.inv m1.nd fun v d=>j v (by simp[T.occ,d]);refine⟨r,by simp only[T.foldO,k,k4,m],m2.inv,m2.ph.trans m1.ph,m2.nd,fun v d=>m2.sub v (m1.sub v d),fun v d=>?_,?_,fun v d=>?_⟩
  ·simp only[T.occ,og]at d;rcases d with d|d
   ·exact m2.sub v (m1.occ v d)
   ·exact m2.occ v d
  ·rw[m2.rest.1,m2.rest.2.1,m2.rest.2.2];exact m1.rest
  ·rcases m2.new v d with h|h
   ·rcases m1.new v h with h|h
    ·exact .inl h
    ·exact .inr (by simp[T.occ,h])
   ·exact .inr (by simp[T.occ,h])
 |_=>intro c hi i j;exact⟨c,rfl,hi,rfl,i,fun v d=>d,fun v d=>by simp[T.occ]at d,⟨rfl,rfl,rfl⟩,fun v d=>.inl d⟩
def OU(E:List (T×T)):Prop:= ∀e∈E,∀v,(e.1.occ v=true\/e.2.occ v=true)->0<=v
def DC:∀(E:List (T×T)) (c:bJ) (ρ:Int->Int),mY c ρ->(cG c.up).Nodup->OU E->∃N o,(∀n,N<=n->re n E c=some o)/\((o.2.color=c.color/\o.2.size=c.size/\o.2.full=c.full)/\∀v∈cG o.2.up,v∈cG c.up\/ ∃e∈E,e.1.occ v=true\/e.2.occ v=true)/\(o.1=true->∃ρ',mY o.2 ρ'/\(cG o.2.up).Nodup/\∀a,kN o.2.ph ρ' a↔kN c.ph ρ a/\kh E a)/\(o.1=false->∀a,kN c.ph ρ a->¬kh E a):=by
 intro E;induction E with
 |nil=>intro c ρ hi g _;exact⟨0,(true,c),fun n _=>rfl,⟨⟨rfl,rfl,rfl⟩,fun v b=>.inl b⟩,fun _=>⟨ρ,hi,g,fun a=>⟨fun h=>⟨h,FO a⟩,fun h=>h.1⟩⟩,fun e=>by cases e⟩
 |cons e E R=>
  intro c ρ hi g m;obtain⟨Q,B,m1⟩:=YA e.1 c hi g fun v b=>m e Ψ v (.inl b);obtain⟨x,A,m2⟩:=YA e.2 Q m1.inv m1.nd fun v b=>m e Ψ v (.inr b);obtain⟨K,F⟩:=m2.inv.sat
  obtain⟨t,i,z,d⟩:=afv _ _ x ρ e.1 e.2 K m2.inv F (fun w hw=>m2.sub w (m1.occ w hw)) (fun w hw=>m2.occ w hw) rfl rfl;have k:x.ph=c.ph:=m2.ph.trans m1.ph;have s:i.2.color=c.color/\i.2.size=c.size/\i.2.full=c.full:=by rw[d.rest.1,d.rest.2.1,d.rest.2.2,m2.rest.1,m2.rest.2.1,m2.rest.2.2];exact m1.rest
  have r:∀v∈cG i.2.up,v∈cG c.up\/e.1.occ v=true\/e.2.occ v=true:=fun v b=>by
   rw[d.keys]at b;rcases m2.new v b with h|h
   ·rcases m1.new v h with h|h
    ·exact .inl h
    ·exact .inr (.inl h)
   ·exact .inr (.inr h)
  obtain⟨f,u⟩:=i;cases f with
  |false=>refine⟨t,(false,u),fun n g=>?_,⟨s,fun v b=>(r v b).imp id fun h=>⟨e,Ψ,h⟩⟩,(fun e=>by cases e),fun _ a p he=>d.no rfl a (by rw[k];exact p) (sI.1 he).1⟩;simp only[re,B,A,k4,z n g,hQ,if_false]
  |true=>
   obtain⟨G,y,a2,_⟩:=d.yes rfl;simp only at y a2;obtain⟨L,M,P,j,O,H⟩:=R u G y (by have:=d.keys;simp only at this;rw[this];exact m2.nd) fun l he=>m l (by simp[he]);refine⟨max t L,M,fun n g=>?_,?_,fun q=>?_,fun q a p he=>?_⟩
   ·simp only[re,B,A,k4,z n Ω,if_true];exact P n Ω
   ·refine⟨by rw[j.1.1,j.1.2.1,j.1.2.2];exact s,fun v b=>?_⟩;rcases j.2 v b with h|⟨l,J,U⟩
    ·exact(r v h).imp id fun h=>⟨e,Ψ,h⟩
    ·exact .inr ⟨l,by simp[J],U⟩
   ·obtain⟨ρ2,d1,d2,d3⟩:=O q;exact⟨ρ2,d1,d2,fun a=>by rw[d3 a,a2 a,k,sI,and_assoc]⟩
   ·exact H q a ((a2 a).2 ⟨by rw[k];exact p,(sI.1 he).1⟩) (sI.1 he).2
def Gw{ph:Int->bd T}{ρ:Int->Int}{v:Int}:o3 ph ρ v=false↔ρ v=v/\ph v=none:=by simp[o3]
def V6{ph:Int->bd T}{ρ:Int->Int}{r:Int->Nat}(a:∀v,ρ (ρ v)=ρ v):∀(n:Nat) (v w:Int),(ox ph ρ n v).occ w=true->(∀z u,jT ph ρ z u->r u<r z)->r (ρ v)<n->ρ w=w/\ph w=none
 |0,v,w,_,_,h=>Ω
 |n+1,v,w,h,b,c=>by
  simp only[ox]at h;cases e:ph (ρ v)with
  |none=>rw[e]at h;simp[T.occ]at h;subst h;exact⟨a v,e⟩
  |some t=>rw[e]at h;obtain⟨u,J,U⟩:=E5.1 h;have:=b (ρ v) (ρ u) ⟨a v,t,u,e,J,rfl⟩;exact V6 a n u w U b Ω
section
variable {V:List Int} {ph:Int->bd T} {ρ:Int->Int} {r:Int->Nat}
def vk(ph:Int->bd T)(ρ:Int->Int)(r:Int->Nat)(V:List Int):List Bd:=((sK V).filter (o3 ph ρ)).map fun v=>⟨v,hU ph ρ r v⟩
def Qj(a:V.Nodup):jA (vk ph ρ r V):=by unfold vk;rw[jA,List.pairwise_map];exact((arn a).filter _)
def abI(i:V.Nodup)(c:pJ V ph)(f:∀v,v∉V->ρ v=v)(v:Int):dH (vk ph ρ r V) v=if o3 ph ρ v then some (hU ph ρ r v)else none:=by
 by_cases a:o3 ph ρ v=true
 ·rw[if_pos a];have g:v∈V:=by
   refine Classical.byContradiction fun h=>?_;have J:=f v h;have U:ph v=none:=by cases e:ph v with
    |none=>rfl
    |some t=>exact absurd (c v t e).2.2 h
   rw[Gw.2 ⟨J,U⟩]at a;cases a
  have:(⟨v,hU ph ρ r v⟩:Bd)∈vk ph ρ r V:=hb.2 ⟨v,oV.2 ⟨(FP V).mem_iff.2 g,a⟩,rfl⟩;exact w5 (Qj i) this
 ·rw[if_neg a];refine w6.2 fun b d e=>?_;obtain⟨u,J,rfl⟩:=hb.1 d;simp only at e;subst e;exact a (oV.1 J).2
def aq8(i:V.Nodup)(d:pJ V ph)(j:∀v,v∉V->ρ v=v)(f:∀v,ρ (ρ v)=ρ v)(hle:∀v,ρ v<=v)(g:∀z u,jT ph ρ z u->r u<r z):gD (vk ph ρ r V):=by
 refine⟨Qj i,fun b a w hw=>?_,fun b a w hw=>?_⟩
 ·obtain⟨u,J,rfl⟩:=hb.1 a;rw[abI i d j];have:=V6 f _ u w hw g Ω;rw[Gw.2 this];rfl
 ·obtain⟨u,J,rfl⟩:=hb.1 a;have c:=(oV.1 J).2;simp only at hw⊢;cases e:ph (ρ u)with
  |none=>
   rw[DS e]at hw;cases hw;have U:=hle u;have k:ρ u≠u:=fun h=>by rw[Gw.2 ⟨h,by rw[h]at e;exact e⟩]at c;cases c
   omega
  |some t=>rw[Bm f g e]at hw;have:=(d _ _ e).1;cases t<;>simp[T.ap,T.kind]at hw this
def ajB(a:∀v,ρ (ρ v)=ρ v)(c:∀z u,jT ph ρ z u->r u<r z)(b:Int->T):kN ph ρ b↔∀v,b v=(hU ph ρ r v).ap b:=by
 constructor
 ·intro h;have:∀(n:Nat) (v:Int),r (ρ v)<n->b v=(hU ph ρ r v).ap b:=by
   intro n;induction n with
   |zero=>intro v h;omega
   |succ n d=>
    intro v i;cases e:ph (ρ v)with
    |none=>rw[DS e];exact h.1 v
    |some t=>rw[Bm a c e,Dj,h.1 v,h.2 _ t (a v) e];refine vJ fun w hw=>d w ?_;have:=c (ρ v) (ρ w) ⟨a v,t,w,e,hw,rfl⟩;omega
  exact fun v=>this _ v (Nat.lt_succ_self _)
 ·intro h;refine⟨fun v=>by rw[h v,h (ρ v),<-Bl a],fun x t f g=>?_⟩;rw[h x,Bm a c (by rw[f];exact g),Dj];exact vJ fun w _=>(h w).symm
def aq7(b:V.Nodup)(c:pJ V ph)(f:∀v,v∉V->ρ v=v)(d:∀v,ρ (ρ v)=ρ v)(g:∀z u,jT ph ρ z u->r u<r z)(a:Int->T):hS (vk ph ρ r V) a↔kN ph ρ a:=by
 rw[ajB d g,arf (Qj b)];refine forall_congr' fun v=>?_;rw[cQ,abI b c f];cases e:o3 ph ρ v with
 |true=>simp
 |false=>obtain⟨J,U⟩:=Gw.1 e;rw[DS (by rw[J];exact U),J];simp
end
def arh(E:List (T×T))(Z:OU E):∃n o,CS n E=some o/\jF [] E o/\∀c,re n E bJ.new=some (true,c)->(cG c.up).Nodup/\(∀v∈cG c.up,∃e∈E,e.1.occ v=true\/e.2.occ v=true)/\c.size=[]:=by
 have hi:mY bJ.new id:=⟨⟨fun v u h=>by simp[bJ.new,dp]at h,fun v _=>rfl⟩,fun x t h=>by simp[bJ.new,bJ.ph,bJ.shd,dp]at h,⟨.var,fun v=>rfl,fun x t _ h=>by simp[bJ.new,bJ.ph,bJ.shd,dp]at h⟩⟩;have F:∀a,kN bJ.new.ph id a:=fun a=>⟨fun v=>rfl,fun x t _ h=>by simp[bJ.new,bJ.ph,bJ.shd,dp]at h⟩;obtain⟨i,R,q,m,X,S⟩:=DC E bJ.new id hi (by simp[bJ.new,cG]) Z;obtain⟨m,M⟩:=m;obtain⟨f,c⟩:=R;cases f with
 |false=>refine⟨i,none,by simp[CS,q i (dP _)],Gr fun a _ he=>S rfl a (F a) he,fun c h=>?_⟩;rw[q i (dP _)]at h;cases h
 |true=>
  obtain⟨ρ,g,a2,a3⟩:=X rfl;simp only at g a2 a3 m M;have O:∀n,i<=n->∀p,re n E bJ.new=some (true,p)->(cG p.up).Nodup/\(∀v∈cG p.up,∃e∈E,e.1.occ v=true\/e.2.occ v=true)/\p.size=[]:=fun n aA p h=>by rw[q n aA]at h;cases h;exact⟨a2,fun v j=>(M v j).resolve_left (by simp[bJ.new,cG]),m.2.1⟩
  obtain⟨r,y⟩:=g.rank;have s:=g.ru.idem;have H:∀v∈cG c.up,ρ v∈cG c.up:=fun v j=>(g.ru.mem j).1;have W:vA (cG c.up) c.ph ρ c:=⟨g.ru,rfl,rfl⟩;have hw:∀d,r7 (cG c.up) c.ph ρ r d c:=fun d=>⟨W,fun z _=>.inl (by simp[bJ.col,m.1,bJ.new,dp])⟩;obtain⟨k,K,o,L,b9,V,P,RF⟩:=aq5 g.sh s y H (sK (cG c.up)) c [] (fun v j=>(FP _).mem_iff.1 j) hw Ψ (fun v j=>by simp at j);have dF:=aq8 (r:=r) a2 g.sh g.ru.no s g.ru.le y;have G:∀a,hS (vk c.ph ρ r (cG c.up)) a↔hS [] a/\kh E a:=fun a=>by rw[aq7 a2 g.sh g.ru.no s y,a3 a];exact⟨fun h=>⟨fun b ag=>by simp at ag,h.2⟩,fun h=>⟨F a,h.2⟩⟩
  have N:iv (vk c.ph ρ r (cG c.up))↔(([]++(sK (cG c.up)).filter (o3 c.ph ρ)).length<=400/\∀v∈[]++(sK (cG c.up)).filter (o3 c.ph ρ),(hU c.ph ρ r v).size<=5000):=by unfold iv vk;simp only[List.length_map,cb,hb,forall_exists_index,and_imp,forall_apply_eq_imp_iff₂]
  cases o with
  |none=>refine⟨max i k,none,by simp[CS,q (max i k) Ω,FM,L (max i k) Ω],?_,O _ Ω⟩;exact fun ak J U aq=>RF rfl (N.1 (Vl dF J (fun a Q=>(G a).2 (U a Q)) aq))
  |some l=>
   obtain⟨w,aC,Y⟩:=P l rfl;have B:sV (cG c.up) c.ph ρ r K:=⟨b9,fun x t h=>by rw[V,m.2.2]at h;simp[bJ.new,dp]at h⟩;simp only[cb]at w;obtain⟨A,di,d1⟩:=aq6 g.sh s y H l K (fun v j=>by rw[w]at j;exact(FP _).mem_iff.1 (oV.1 j).1) B;refine⟨max (max i k) A,some (vk c.ph ρ r (cG c.up)),?_,⟨⟨dF,N.2 ?_⟩,G⟩,O _ Ω⟩
   ·simp only[CS,q (max (max i k) A) Ω,k4,Bool.true_eq_false,if_false,FM,L (max (max i k) A) Ω,d1 (max (max i k) A) Ω,pC];rw[w];rfl
   ·rw[cb,<-w];exact⟨aC,Y⟩
def iH(s:List Bd):List (T×T):=s.map fun b=>(.var b.v,b.t)
def ard{s:List Bd}{a:Int->T}:kh (iH s) a↔hS s a:=by simp[kh,iH,hS,T.ap]
def adO{s:List Bd}{E:List (T×T)}{o:bd (List Bd)}:jF [] (iH s++E) o↔jF s E o:=by
 have h:∀a,(hS [] a/\kh (iH s++E) a)↔(hS s a/\kh E a):=fun a=>by rw[FN,ard];exact⟨fun h=>h.2,fun h=>⟨fun b c=>by simp at c,h⟩⟩
 exact⟨Dh h,Dh fun a=>(h a).symm⟩
end
section
open Go
open Classical in
noncomputable def mgu(s:List Bd)(E:List (T×T)):bd (List Bd):=if h:∃o,jF s E o then h.choose else none
def tP{s:List Bd}{E:List (T×T)}{o:bd (List Bd)}(h:jF s E o):mgu s E=o:=by have a:∃o,jF s E o:=⟨o,h⟩;unfold mgu;rw[dif_pos a];exact adP a.choose_spec h
def rK(s:List Bd):Prop:= ∀b∈s,(0<=b.v/\b.v<=100000)/\b.t.ok=true
def Ry{e:Int->T}{t:T}(c:t.ok=true)(h:∀v,t.occ v=true->(e v).ok=true):(t.ap e).ok=true:=by
 induction t with
 |var n=>exact h n (by simp[T.occ])
 |pair a b g f=>simp only[T.ok,cP]at c;simp only[T.ap,T.ok,cP];exact⟨g c.1 fun v d=>h v (by simp[T.occ,d]),f c.2 fun v d=>h v (by simp[T.occ,d])⟩
 |_=>exact c
def yB{t:T}(c:t.ok=true){v:Int}(h:t.occ v=true):0<=v/\v<=100000:=by
 induction t with
 |var n=>simp[T.occ]at h;subst h;simpa[T.ok]using c
 |pair a b e d=>
  simp only[T.ok,cP]at c;simp only[T.occ,og]at h;rcases h with h|h
  ·exact e c.1 h
  ·exact d c.2 h
 |_=>simp[T.occ]at h
def JU{s:List Bd}(b:rK s){t:T}(a:t.ok=true):(t.ap (cQ s)).ok=true:=Ry a fun v c=>by
 unfold cQ;cases e:dH s v with
 |none=>have:=yB a c;simpa[T.ok]using this
 |some x=>exact(b _ (kP e)).2
def Dm{s:List Bd}(a:rK s){v:Int}{t:T}(g:0<=v/\v<=100000)(e:t.ok=true){d:List Bd}(h:o2 s v t=some d):rK d:=by
 unfold o2 at h;split at h
 ·cases h;intro b f;rcases rF.1 f with rfl|⟨c,ax,rfl⟩
  ·exact⟨g,JU a e⟩
  ·refine⟨(a c ax).1,Ry (a c ax).2 fun w hw=>?_⟩;unfold one;split
   ·exact JU a e
   ·have:=yB (a c ax).2 hw;simpa[T.ok]using this
 ·cases h
def ac7{s:List Bd}(b:rK s){t:T}(a:t.ok=true):(ie s t).ok=true:=by
 cases t with
 |var n=>have:=JU b a;simpa[ie,T.ap]using this
 |_=>exact a
def QL:∀(n:Nat) (s:List Bd) (a b:T) (g:List Bd),rK s->a.ok=true->b.ok=true->lD n s a b=some (some g)->rK g
 |0,_,_,_,_,_,_,_,h=>by simp[lD]at h
 |n+1,s,a,b,g,c,m,q,h=>by
  have d:=ac7 c m;have e:=ac7 c q;simp only[lD]at h;generalize ie s a=x at h d;generalize ie s b=y at h e;have f:∀{i:Int},(T.var i).ok=true->0<=i/\i<=100000:=fun h=>yB h (by simp[T.occ]);cases x with
  |var i=>
   cases y with
   |var j=>
    simp only[kL,dU]at h;split at h
    ·exact Dm c (f e) d h
    ·split at h
     ·cases h;exact c
     ·exact Dm c (f d) e h
   |_=>simp only[kL,dU]at h;exact Dm c (f d) e h
  |pair l a2=>
   cases y with
   |var j=>simp only[kL,dU]at h;exact Dm c (f e) d h
   |pair k o=>
    simp only[T.ok,cP]at d e;simp only[kL]at h;split at h
    ·cases h
    ·cases h
    ·rename_i s1 p;exact QL n s1 a2 o g (QL n s l k s1 c d.1 e.1 p) d.2 e.2 h
   |_=>simp[kL]at h
  |_=>
   cases y with
   |var j=>simp only[kL,dU]at h;exact Dm c (f e) d h
   |_=>
    simp only[kL,dU]at h;split at h
    ·cases h;exact c
    ·cases h
def oS:T->List Int
 | .var n=>[n]
 | .pair a b=>oS a++oS b
 |_=>[]
def zS{t:T}{v:Int}(h:t.occ v=true):v∈oS t:=by
 induction t with
 |var n=>simp[T.occ]at h;subst h;simp[oS]
 |pair a b d c=>simp only[T.occ,og]at h;simp only[oS,kc];exact h.imp d c
 |_=>simp[T.occ]at h
def Kc{s:List Bd}(d:gD s)(e:iv s)(a b:T):∃n o,lD n s a b=some o/\jF s [(a,b)] o:=by obtain⟨n,o,J,U⟩:=acs (s.flatMap (fun b=>b.v::oS b.t)++oS a++oS b) _ _ s a b d e (fun c ax=>⟨by simp only[kc,List.mem_flatMap];exact .inl (.inl ⟨c,ax,Ψ⟩),fun w hw=>by simp only[kc,List.mem_flatMap];exact .inl (.inl ⟨c,ax,by simp[zS hw]⟩)⟩) (fun w hw=>by simp[zS hw]) (fun w hw=>by simp[zS hw]) rfl rfl;exact⟨n,o,J,U.1⟩
def Rn{s:List Bd}{e:T×T}{E:List (T×T)}{s1:List Bd}(h:jF s [e] (some s1)){o:bd (List Bd)}(U:jF s1 E o):jF s (e::E) o:=Rm (E:=[e]) h U
def IL{s:List Bd}(b:gD s)(c:iv s)(E:List (T×T)):jF s E (mgu s E):=by
 induction E generalizing s with
 |nil=>rw[tP (KK b c)];exact KK b c
 |cons e E d=>
  obtain⟨n,o,_,U⟩:=Kc b c e.1 e.2;cases o with
  |none=>have a:jF s (e::E) none:=KJ E U;rw[tP a];exact a
  |some s1=>have a:=Rn U (d U.1.1 U.1.2);rw[tP a];exact a
def OD{s:List Bd}(a:gD s)(b:iv s):mgu s []=some s:=tP (KK a b)
def OC{s:List Bd}(b:gD s)(c:iv s)(e:T×T)(E:List (T×T)):mgu s (e::E)=match mgu s [e]with|some s1=>mgu s1 E|none=>none:=by
 have J:=IL b c [e];cases h:mgu s [e]with
 |none=>rw[h]at J;have a:jF s (e::E) none:=KJ E J;exact tP a
 |some s1=>rw[h]at J;exact tP (Rn J (IL J.1.1 J.1.2 E))
def Cb{s:List Bd}(b:gD s)(c:iv s){E:List (T×T)}{a:List Bd}(h:mgu s E=some a):gD a/\iv a:=by have J:=IL b c E;rw[h]at J;exact J.1
def amM{s:List Bd}(c:gD s)(d:iv s)(ar:rK s){E:List (T×T)}(a:∀e∈E,e.1.ok=true/\e.2.ok=true){f:List Bd}(h:mgu s E=some f):rK f:=by
 induction E generalizing s with
 |nil=>rw[OD c d]at h;cases h;exact ar
 |cons e E j=>
  rw[OC c d]at h;split at h
  ·rename_i s1 J;obtain⟨n,o,U,b⟩:=Kc c d e.1 e.2;have g:=tP b;rw[J]at g;subst g;exact j b.1.1 b.1.2 (QL n s e.1 e.2 s1 ar (a e Ψ).1 (a e Ψ).2 U) (fun i he=>a i (by simp[he])) h
  ·cases h
def XP{l:List Int}(j:l.Nodup)(h:∀v∈l,0<=v/\v<=100000):l.length<=100001:=by
 have J:(l.map Int.toNat).Nodup:=by rw[List.nodup_iff_pairwise_ne,List.pairwise_map];exact atz (fun{a b} d f c e=>c (by have:=h a d;have:=h b f;omega)) j
 have:=Ra J (l₂:=List.range 100001) (fun x g=>by obtain⟨v,i,rfl⟩:=hb.1 g;have:=h v i;simp;omega)
 simpa using this
end
end Go.Pv
