/- The most general unifier within the limits. -/
import Derived.Deep.LoopGhost
import Derived.Test.YtahlgcidhnjlbaaGreatH1
set_option linter.all false
set_option maxHeartbeats 4000000
set_option maxRecDepth 4000
open Array renaming getElem?_toList->ve
open Bool renaming and_eq_true->cP,false_eq_true->hN,not_eq_true'->sv,or_eq_true->n2
open Decidable renaming not_not->aw5
open Go renaming Program->cG,TypeId->gT
open Go.IntKind renaming bits->pe,i64->vf,signed->tP,u64->ig,wrap->tQ
open Go.IntWalk renaming i64_in->pf
open Go.Op renaming bytesLess->iq
open Go.Region renaming wanted->p5
open Go.Result renaming andThen_ok->gy
open Go.Sem renaming run_bind->gr,run_pure->hy
open Go.Value renaming cells->pg
open List renaming all_eq_true->j7,cons_append->b3,drop_eq_getElem_cons->lA,getElem?_append_left->rE,getElem?_eq_getElem->cl,getElem?_eq_none->qQ,getElem?_eq_some_iff->fM,length_append->p6,length_cons->mI,map_cons->hc,mem_append->j2,mem_cons->gK,mem_cons_of_mem->qR,mem_filter->oL,mem_map->hz,nil_append->ca,nodup_append->rF,pairwise_cons->n3,pairwise_iff_getElem->qS
open List.Nodup renaming length_le_of_subset->Qu
open List.Pairwise renaming imp_of_mem->asv,nil->axe
open List.Perm renaming eq_of_pairwise->Qv
open List.cons renaming injEq->rD
open Nat renaming le_refl->dL,le_trans->kx
open Option renaming bind_some->lX,getD_none->oM,getD_some->mK,isSome_iff_exists->fA,isSome_none->mL,map_eq_some_iff->hl,map_some->pn
open Option.some renaming inj->e7,injEq->dS
open Prod.mk renaming injEq->jj
open _root_ renaming False->et,Option->bc,UInt8->cW,and_true->jk,beq_iff_eq->ey,congrArg->ff,decide_eq_false->po,decide_eq_false_iff_not->iL,decide_eq_true_eq->gu,eq_true->h0
namespace Go.Pv
section
open Go Go.RowKit
def al9(A:dB)(s a:cQ)(rm:bc aA):Prop:=(∀k,(ad k a.b).isSome->(ad k s.b).isSome\/rm=some k)/\(∀k,(ad k a.e).isSome->(ad k s.e).isSome\/rm=some k)/\(∀k,(ad k s.b).isSome->(ad k a.b).isSome)/\(∀k,(ad k s.e).isSome->(ad k a.e).isSome)/\
 (∀k,rm=some k->(∃j,k= .obj j)/\A.F k/\A.b k=none/\A.e k=none/\((ad k a.b).isSome\/(ad k a.e).isSome))
def acs(P:cG)(n:Nat)(args:List af)(A:dB)(d:bc Nat)(x:lB):Prop:=
 ∃s a r rm,(∀k cs,ad k s.b=some cs->A.b k=some cs/\aH (aK s) cs)/\(∀k o,ad k s.e=some o->A.e k=some o/\dU (aK s) o)/\hV s/\hV a/\al9 A s a rm/\aH (aK s) args/\
  bD P n args s (fun b t'=>b=r/\t'=a)/\x=⟨d,r,a.b,a.e,rm⟩
def acu(P:cG)(n0 n:Nat)(args:List af)(A:dB)(d:bc Nat)(x:lB):Prop:=
 ∃cS r,d=some cS/\(A.F (.loc (n0+cS))/\A.b (.loc (n0+cS))=none/\A.e (.loc (n0+cS))=none)/\aH (fun _=>et) args/\
  tU P n (n0+cS) args ⟨[],[]⟩ (fun a t'=>a=r/\t'=⟨[],[]⟩)/\x=⟨d,r,[],[],some (.loc (n0+cS))⟩
def zp:af->Bool
 | .ptr (.loc _) _=>true
 | .eptr _=>true
 |_=>false
def gL.isB:gL->Bool
 | .loadB _ _ _=>true
 | .mgetB _ _ _ _ _=>true
 |_=>false
def gL.ptrOf(t:Nat->af):gL->af
 | .load _ _ x=>dV t x
 | .loadB _ _ x=>dV t x
 |_=>.junk
def eW(P:cG)(q:Bool)(n0:Nat):eO->dB->lB->Prop
 | .s (.v d i),A,x=> ∃c p,qO A.t A.b A.e i=some (c,p)/\c/\(i.isLoad=true->i.isB=true\/q=true\/zp (i.ptrOf A.t)=true)/\x=⟨some d,p,[],[],none⟩
 | .s (.box d none v),A,x=>(A.F (.loc (n0+d))/\A.b (.loc (n0+d))=none/\A.e (.loc (n0+d))=none)/\eS (dV A.t v)=true/\x=⟨some d,.ptr (.loc (n0+d)) 0,[(.loc (n0+d),cells (dV A.t v))],[],some (.loc (n0+d))⟩
 | .s (.alloc d none z),A,x=>(A.F (.loc (n0+d))/\A.b (.loc (n0+d))=none/\A.e (.loc (n0+d))=none)/\x=⟨some d,.ptr (.loc (n0+d)) 0,[(.loc (n0+d),cells z)],[],some (.loc (n0+d))⟩
 | .s (.store sz u v),A,x=> ∃k off cs,dV A.t u= .ptr k off/\A.b k=some cs/\(gR cs=true/\eS (dV A.t v)=true/\(cells (dV A.t v)).length=sz/\off+sz<=cs.length)/\x=⟨none,.junk,[(k,nq cs off (cells (dV A.t v)))],[],none⟩
 | .s (.bsl d sz el xs),A,x=>(A.F (.loc (n0+d))/\A.b (.loc (n0+d))=none/\A.e (.loc (n0+d))=none)/\ub sz (xs.map (dV A.t))/\x=⟨some d,.slice sz (.own (.loc (n0+d))) (xs.map (dV A.t)),[],[(.loc (n0+d),⟨xs.length,el,sz,none⟩)],some (.loc (n0+d))⟩
 | .s (.app d sz el u v),A,x=> ∃tag xs a ys,dV A.t u= .slice sz tag xs/\dV A.t v= .slice sz a ys/\
   ((∃k o,tag= .own k/\A.e k=some o/\(o.xs=none/\o.n=xs.length/\o.el=el/\o.sz=sz/\xs.length+ys.length<=lim)/\x=⟨some d,.slice sz (.own k) (xs++ys),[],[(k,⟨xs.length+ys.length,el,sz,none⟩)],none⟩)\/
    (tag= .nil/\ys.length<=lim/\(A.F (.loc (n0+d))/\A.b (.loc (n0+d))=none/\A.e (.loc (n0+d))=none)/\x=⟨some d,.slice sz (.own (.loc (n0+d))) ys,[],[(.loc (n0+d),⟨ys.length,el,sz,none⟩)],some (.loc (n0+d))⟩))
 | .s (.appm d _ sz el u v),A,x=> ∃k n xs a ys,dV A.t u= .row sz k n/\dV A.t v= .slice sz a ys/\A.e k=some ⟨n,el,sz,some xs⟩/\xs.length+ys.length<=lim/\x=⟨some d,.row sz k (xs.length+ys.length),[],[(k,⟨xs.length+ys.length,el,sz,some (xs++ys)⟩)],none⟩
 | .s (.storeE sz u v),A,x=> ∃k n i f el b xs q,dV A.t u= .rptr b k n i f/\A.e k=some ⟨n,el,b,some xs⟩/\xs[i]? =some q/\(eS q=true/\eS (dV A.t v)=true/\(cells (dV A.t v)).length=sz/\f+sz<=(cells q).length/\0<sz)/\x=⟨none,.junk,[],[(k,⟨n,el,b,some (xs.set i (nY q f (cells (dV A.t v))))⟩)],none⟩
 | .s (.mkmap d (some m)),A,x=>(A.F (.obj m)/\A.b (.obj m)=none/\A.e (.obj m)=none)/\x=⟨some d,.gmap (.obj m),[(.obj m,[.hdm 0 []])],[],some (.obj m)⟩
 | .s (.mput e u k v),A,x=> ∃m cs cs',dV A.t u= .gmap m/\A.b m=some cs/\qF e (dV A.t k) (dV A.t v) cs=some cs'/\x=⟨none,.junk,[(m,cs')],[],none⟩
 | .call d f xs,A,x=> ∃n dE,dV A.t f= .func n dE/\((acs P n (cf (xs.map (dV A.t)++dE)) A d x/\(q=true->x.bw=[]/\x.ew=[]))\/acu P n0 n (cf (xs.map (dV A.t)++dE)) A d x)
 |_,_,_=>et
inductive CN where
 |v|l|n|s|w|a|c|m|r|k
 deriving DecidableEq
def eO.mode:eO->CN
 | .s (.v _ (.loadB _ _ _))=>.m
 | .s (.v _ (.mgetB _ _ _ _ _))=>.m
 | .s (.v _ i)=>if i.isLoad then .l else .v
 | .s (.storeE _ _ _)=>.r
 | .s (.box _ _ _)=>.n
 | .s (.alloc _ _ _)=>.n
 | .s (.store _ _ _)=>.w
 | .s (.bsl _ _ _ _)=>.s
 | .s (.app _ _ _ _ _)=>.a
 | .s (.bslm _ _ _ _ _)=>.w
 | .s (.mks _ _ _ _ _ _)=>.w
 | .s (.appm _ _ _ _ _ _)=>.r
 | .s (.mkmap _ _)=>.k
 | .s (.mput _ _ _ _)=>.w
 | .s (.range _ _ _)=>.w
 | .call _ _ _=>.c
 | .next _ _=>.w
structure J9 (q:Bool) (n0:Nat) (m:CN) (dst:bc Nat) (A:dB) (x:lB):Prop where
 d:x.d=dst
 b:∀k,(ad k x.bw).isSome->(m= .n/\∃d,dst=some d/\k= .loc (n0+d)/\A.b k=none/\A.e k=none)\/m= .w\/(m= .c/\(∃j,k= .obj j)/\q=false)\/(m= .k/\(∃j,k= .obj j)/\A.b k=none/\A.e k=none)
 e:∀k,(ad k x.ew).isSome->(m= .s/\∃d,dst=some d/\k= .loc (n0+d)/\A.b k=none/\A.e k=none)\/(m= .a/\(A.e k≠none\/ ∃d,dst=some d/\k= .loc (n0+d)/\A.b k=none/\A.e k=none))\/(m= .c/\(∃j,k= .obj j)/\q=false)\/(m= .r/\∃o,A.e k=some o/\o.xs≠none)
 r:∀k,x.rm=some k->(∃d,dst=some d/\k= .loc (n0+d))\/((m= .c\/m= .k)/\(∃j,k= .obj j)/\((ad k x.bw).isSome\/(ad k x.ew).isSome))
 ex:m= .a->∀k o,(ad k x.ew).isSome->A.e k=some o->o.xs=none
 xn:m= .a\/m= .s->∀k o,ad k x.ew=some o->o.xs=none
def uS{α:Type}{k bt:aA}{x:α}(h:(ad k [(bt,x)]).isSome):k=bt:=by
 simp only[ad]at h;split at h
 ·rename_i e;exact e.symm
 ·cases h
def NG{k bt:aA}{n el sz:Nat}{o:dT}(h:ad k [(bt,(⟨n,el,sz,none⟩:dT))]=some o):o.xs=none:=by
 simp only[ad]at h;split at h
 ·cases h;rfl
 ·cases h
def abu{P:cG}{q:Bool}{n0:Nat}{i:eO}{A:dB}{x:lB}(h:eW P q n0 i A x):J9 q n0 i.mode i.dst A x:=by
 cases i with
 |s i=>
  cases i with
  |v d i=>simp only[eW]at h;obtain⟨c,p,_,_,_,rfl⟩:=h;exact⟨rfl,fun k a=>by simp[ad]at a,fun k a=>by simp[ad]at a,fun k a=>by simp at a,fun _ k o a=>by simp[ad]at a,fun _ k o a=>by simp[ad]at a⟩
  |box d key v=>
   cases key with
   |some m=>simp only[eW]at h
   |none=>simp only[eW]at h;obtain⟨⟨_,U,b⟩,_,rfl⟩:=h;exact⟨rfl,fun k a=>by obtain rfl:=uS a;exact .inl ⟨rfl,d,rfl,rfl,U,b⟩,fun k a=>by simp[ad]at a,fun k a=>by simp at a;exact .inl ⟨d,rfl,a.symm⟩,fun _ k o a=>by simp[ad]at a,fun _ k o a=>by simp[ad]at a⟩
  |alloc d key z=>
   cases key with
   |some m=>simp only[eW]at h
   |none=>simp only[eW]at h;obtain⟨⟨_,U,b⟩,rfl⟩:=h;exact⟨rfl,fun k a=>by obtain rfl:=uS a;exact .inl ⟨rfl,d,rfl,rfl,U,b⟩,fun k a=>by simp[ad]at a,fun k a=>by simp at a;exact .inl ⟨d,rfl,a.symm⟩,fun _ k o a=>by simp[ad]at a,fun _ k o a=>by simp[ad]at a⟩
  |store sz u v=>simp only[eW]at h;obtain⟨k,off,cs,_,_,_,rfl⟩:=h;exact⟨rfl,fun k a=>.inr (.inl rfl),fun k a=>by simp[ad]at a,fun k a=>by simp at a,fun _ k o a=>by simp[ad]at a,fun _ k o a=>by simp[ad]at a⟩
  |bsl d sz el xs=>simp only[eW]at h;obtain⟨⟨_,U,b⟩,_,rfl⟩:=h;exact⟨rfl,fun k a=>by simp[ad]at a,fun k a=>by obtain rfl:=uS a;exact .inl ⟨rfl,d,rfl,rfl,U,b⟩,fun k a=>by simp at a;exact .inl ⟨d,rfl,a.symm⟩,fun e=>by simp[eO.mode]at e,fun _ k o a=>NG a⟩
  |app d sz el u v=>
   simp only[eW]at h;obtain⟨tag,xs,l,ys,_,_,h⟩:=h;rcases h with⟨k,o,_,J,⟨t,_⟩,rfl⟩|⟨_,_,⟨_,U,b⟩,rfl⟩
   ·exact⟨rfl,fun k a=>by simp[ad]at a,fun k a=>by obtain rfl:=uS a;exact .inr (.inl ⟨rfl,.inl (by rw[J];simp)⟩),fun k a=>by simp at a,fun _ bt o' a ar=>by obtain rfl:=uS a;rw[J]at ar;cases ar;exact t,fun _ k o a=>NG a⟩
   ·exact⟨rfl,fun k a=>by simp[ad]at a,fun k a=>by obtain rfl:=uS a;exact .inr (.inl ⟨rfl,.inr ⟨d,rfl,rfl,U,b⟩⟩),fun k a=>by simp at a;exact .inl ⟨d,rfl,a.symm⟩,fun _ bt o' a ar=>(by obtain rfl:=uS a;rw[b]at ar;cases ar),fun _ k o a=>NG a⟩
  |bslm d key sz el xs=>simp only[eW]at h
  |mks d key sz el z x=>simp only[eW]at h
  |appm d key sz el u v=>simp only[eW]at h;obtain⟨k,n,xs,l,ys,_,_,J,_,rfl⟩:=h;exact⟨rfl,fun k a=>by simp[ad]at a,fun k a=>by obtain rfl:=uS a;exact .inr (.inr (.inr ⟨rfl,_,J,Ψ⟩)),fun k a=>by simp at a,fun e=>by simp[eO.mode]at e,fun e=>by simp[eO.mode]at e⟩
  |storeE sz u v=>simp only[eW]at h;obtain⟨k,n,i,f,el,w,xs,q,_,J,_,_,rfl⟩:=h;exact⟨rfl,fun k a=>by simp[ad]at a,fun k a=>by obtain rfl:=uS a;exact .inr (.inr (.inr ⟨rfl,_,J,Ψ⟩)),fun k a=>by simp at a,fun e=>by simp[eO.mode]at e,fun e=>by simp[eO.mode]at e⟩
  |mkmap d key=>
   cases key with
   |none=>simp only[eW]at h
   |some m=>simp only[eW]at h;obtain⟨⟨_,U,b⟩,rfl⟩:=h;exact⟨rfl,fun k a=>by obtain rfl:=uS a;exact .inr (.inr (.inr ⟨rfl,⟨m,rfl⟩,U,b⟩)),fun k a=>by simp[ad]at a,fun k a=>by simp at a;subst a;exact .inr ⟨.inr rfl,⟨m,rfl⟩,.inl (by simp[ad])⟩,fun e=>by simp[eO.mode]at e,fun e=>by simp[eO.mode]at e⟩
  |mput y x k v=>simp only[eW]at h;obtain⟨m,cs,cs',_,_,_,rfl⟩:=h;exact⟨rfl,fun k a=>.inr (.inl rfl),fun k a=>by simp[ad]at a,fun k a=>by simp at a,fun e=>by simp[eO.mode]at e,fun e=>by simp[eO.mode]at e⟩
  |range d key x=>simp only[eW]at h
 |next d x=>simp only[eW]at h
 |call d f xs=>
  simp only[eW]at h;obtain⟨n,dE,_,h⟩:=h;rcases h with⟨⟨s,B,r,rm,_,_,_,ar,j,_,_,rfl⟩,g⟩|⟨cS,r,rfl,_,_,_,rfl⟩;rotate_left
  ·exact⟨rfl,fun k a=>by simp[ad]at a,fun k a=>by simp[ad]at a,fun k a=>by simp at a;exact .inl ⟨cS,rfl,a.symm⟩,fun _ k o a=>by simp[ad]at a,fun _ k o a=>by simp[ad]at a⟩
  refine⟨rfl,fun k a=>.inr (.inr (.inl ⟨rfl,?_,?_⟩)),fun k a=>.inr (.inr (.inl ⟨rfl,?_,?_⟩)),fun k a=>.inr ⟨.inl rfl,(j.2.2.2.2 k a).1,(j.2.2.2.2 k a).2.2.2.2⟩,fun e=>by simp[eO.mode]at e,fun e=>by simp[eO.mode]at e⟩
  ·cases k with
   |loc m=>rw[ar.1 m]at a;cases a
   |obj m=>exact⟨m,rfl⟩
  ·cases q with
   |false=>rfl
   |true=>rw[(g rfl).1]at a;simp[ad]at a
  ·cases k with
   |loc m=>rw[ar.2 m]at a;cases a
   |obj m=>exact⟨m,rfl⟩
  ·cases q with
   |false=>rfl
   |true=>rw[(g rfl).2]at a;simp[ad]at a
def Qy{P:cG}{q:Bool}{n0:Nat}{i:eO}{A b:dB}{x:lB}(h:eW P q n0 i A x)(a:rO i.looks A.t b.t)
  (av:i.mode= .l->∀k,(q=true\/ ∃m,k= .loc m)->A.b k≠none->b.b k=A.b k) (VM:i.mode= .m->∀k,A.b k≠none->b.b k=A.b k)
  (ld:i.mode= .l->q=true->∀k o,A.e k=some o->o.xs≠none->b.e k=some o)
  (H:∀d,i.dst=some d->(i.mode= .n\/i.mode= .s\/i.mode= .a\/i.mode= .c)->(A.F (.loc (n0+d))/\A.b (.loc (n0+d))=none/\A.e (.loc (n0+d))=none)->(b.F (.loc (n0+d))/\b.b (.loc (n0+d))=none/\b.e (.loc (n0+d))=none))
  (bR:i.mode= .a->∀k o,A.e k=some o->b.e k=some o) (hw:i.mode= .w->∀k,b.b k=A.b k) (Y:i.mode= .k->∀m,(A.F (.obj m)/\A.b (.obj m)=none/\A.e (.obj m)=none)->(b.F (.obj m)/\b.b (.obj m)=none/\b.e (.obj m)=none)) (D3:i.mode= .r->∀k o,A.e k=some o->o.xs≠none->b.e k=some o)
  (aw:i.mode= .c->∀m,b.b (.obj m)=A.b (.obj m)/\b.e (.obj m)=A.e (.obj m)/\(A.F (.obj m)->b.F (.obj m))):eW P q n0 i b x:=by
 cases i with
 |s i=>
  cases i with
  |v d i=>
   simp only[eW]at h⊢;obtain⟨c,p,J,U,t,E⟩:=h;by_cases L:∃agg sz y,i= .loadB agg sz y
   ·obtain⟨agg,sz,y,rfl⟩:=L;simp only[eO.looks,eT.looks,gL.looks]at a;have K:=hh a;refine⟨c,p,?_,U,fun _=>.inl rfl,E⟩;rw[<-J];simp only[qO,<-K];have hm:=VM (by simp[eO.mode]);simp only[qO]at J;cases B:dV A.t y<;>simp only[tl];rename_i key off;rw[B]at J;simp only[tl]at J;cases w:A.b key with
    |none=>simp[w]at J
    |some cs=>have:b.b key=A.b key:=hm key (by rw[w];simp);rw[this,w]
   by_cases N:∃M zero ok y z,i= .mgetB M zero ok y z
   ·obtain⟨M,zero,ok,y,z,rfl⟩:=N;simp only[eO.looks,eT.looks,gL.looks]at a;obtain⟨t1,t2⟩:=kZ a;refine⟨c,p,?_,U,fun _=>.inl rfl,E⟩;simp only[qO]at J⊢;rw[<-hh t1,<-hh t2];exact XQ (VM (by simp[eO.mode])) J
   replace t:i.isLoad=true->q=true\/zp (i.ptrOf A.t)=true:=fun g=>(t g).resolve_left (fun w=>by cases i<;>simp[gL.isB]at w;exact L ⟨_,_,_,rfl⟩;exact N ⟨_,_,_,_,_,rfl⟩);have ajF:i.isLoad=true->(eO.s (.v d i)).mode= .l:=by intro g;cases i<;>simp only[gL.isLoad]at g<;>first|(cases g;done)|(simp[eO.mode,gL.isLoad];done)|exact absurd ⟨_,_,_,rfl⟩ L|exact absurd ⟨_,_,_,_,_,rfl⟩ N
   by_cases g:i.isLoad=true
   ·have V:∀(B:zp (i.ptrOf A.t)=false),∀k,A.b k≠none->b.b k=A.b k:=fun B k l=>av (ajF g) k (.inl ((t g).resolve_right (by rw[B];simp))) l;cases i<;>simp only[gL.isLoad]at g<;>try(cases g;done)
    case mget M zero ok y z=>simp only[eO.looks,eT.looks,gL.looks]at a;obtain⟨t1,t2⟩:=kZ a;refine⟨c,p,?_,U,fun _=>.inr (t rfl),E⟩;simp only[qO]at J⊢;rw[<-hh t1,<-hh t2];exact XQ (V rfl) J
    case ment y=>simp only[eO.looks,eT.looks,gL.looks]at a;refine⟨c,p,?_,U,fun _=>.inr (t rfl),E⟩;simp only[qO]at J⊢;rw[<-hh a];exact alC (V rfl) J
    case mlen y=>simp only[eO.looks,eT.looks,gL.looks]at a;refine⟨c,p,?_,U,fun _=>.inr (t rfl),E⟩;simp only[qO]at J⊢;rw[<-hh a];exact al1 (V rfl) J
    case loadB agg sz y=>exact absurd ⟨_,_,_,rfl⟩ L
    case mgetB=>exact absurd ⟨_,_,_,_,_,rfl⟩ N
    rename_i agg sz y;simp only[eO.looks,eT.looks,gL.looks]at a;have K:=hh a;refine⟨c,p,?_,U,fun _=>.inr (by have:=t rfl;simpa only[gL.ptrOf,<-K]using this),E⟩;rw[<-J];simp only[qO,<-K];have hm:=av (by simp[eO.mode,gL.isLoad]);simp only[qO]at J;have F:=t rfl;simp only[gL.ptrOf]at F;cases B:dV A.t y<;>simp only[tl]
    ·rename_i key off;rw[B]at J F;simp only[tl]at J;cases w:A.b key with
     |none=>simp[w]at J
     |some cs=>have:b.b key=A.b key:=hm key (by rcases F with h|h;exact .inl h;cases key;exact .inr ⟨_,rfl⟩;simp[zp]at h) (by rw[w];simp);rw[this,w]
    ·rename_i ed key n i f;rw[B]at J F;simp only[tl]at J;have Z:q=true:=F.resolve_right (by simp[zp]);unfold zU at J;split at J
     ·rename_i n' el jZ xs he;rw[he,ld (by simp[eO.mode,gL.isLoad]) Z key _ he Ψ]
     ·cases J
   ·have g:i.isLoad=false:=by simpa using g
    refine⟨c,p,?_,U,(fun e=>by rw[g]at e;cases e),E⟩;rw[<-J];exact(aqQ (by simpa only[eO.looks,eT.looks]using a) g).symm
  |box d key v=>
   cases key with
   |some m=>simp only[eW]at h
   |none=>simp only[eW,eO.looks,eT.looks]at h a⊢;obtain⟨J,U,t⟩:=h;rw[<-hh a];exact⟨H d rfl (.inl rfl) J,U,t⟩
  |alloc d key z=>
   cases key with
   |some m=>simp only[eW]at h
   |none=>simp only[eW]at h⊢;exact⟨H d rfl (.inl rfl) h.1,h.2⟩
  |store sz u v=>simp only[eW,eO.looks,eT.looks]at h a⊢;obtain⟨J,U⟩:=kZ a;rw[<-hh J,<-hh U];obtain⟨k,off,cs,g1,g2,g3,g4⟩:=h;exact⟨k,off,cs,g1,by rw[hw rfl];exact g2,g3,g4⟩
  |bsl d sz el xs=>simp only[eW,eO.looks,eT.looks]at h a⊢;rw[<-Ic a];exact⟨H d rfl (.inr (.inl rfl)) h.1,h.2⟩
  |app d sz el u v=>
   simp only[eW,eO.looks,eT.looks]at h a⊢;obtain⟨J,U⟩:=kZ a;rw[<-hh J,<-hh U];obtain⟨tag,xs,O,ys,g1,g2,h⟩:=h;refine⟨tag,xs,O,ys,g1,g2,?_⟩;rcases h with⟨k,o,X,aC,S⟩|⟨X,aC,S,b2⟩
   ·exact .inl ⟨k,o,X,bR rfl k o aC,S⟩
   ·exact .inr ⟨X,aC,H d rfl (.inr (.inr (.inl rfl))) S,b2⟩
  |bslm d key sz el xs=>simp only[eW]at h
  |mks d key sz el z x=>simp only[eW]at h
  |appm d key sz el u v=>simp only[eW,eO.looks,eT.looks]at h a⊢;obtain⟨J,U⟩:=kZ a;rw[<-hh J,<-hh U];obtain⟨k,n,xs,O,ys,g1,g2,g3,g4,g5⟩:=h;exact⟨k,n,xs,O,ys,g1,g2,D3 rfl k _ g3 Ψ,g4,g5⟩
  |storeE sz u v=>simp only[eW,eO.looks,eT.looks]at h a⊢;obtain⟨J,U⟩:=kZ a;rw[<-hh J,<-hh U];obtain⟨k,n,i,f,el,ed,xs,q,g1,g2,g3⟩:=h;exact⟨k,n,i,f,el,ed,xs,q,g1,D3 rfl k _ g2 Ψ,g3⟩
  |mkmap d key=>
   cases key with
   |none=>simp only[eW]at h
   |some m=>simp only[eW]at h⊢;exact⟨Y rfl m h.1,h.2⟩
  |mput M u k v=>simp only[eW,eO.looks,eT.looks]at h a⊢;obtain⟨t1,t3⟩:=kZ a;obtain⟨t1,t2⟩:=kZ t1;obtain⟨m,cs,cs',g1,g2,g3,g4⟩:=h;rw[<-hh t1,<-hh t2,<-hh t3];exact⟨m,cs,cs',g1,by rw[hw rfl];exact g2,g3,g4⟩
  |range d key x=>simp only[eW]at h
 |next d x=>simp only[eW]at h
 |call d f xs=>
  simp only[eW,eO.looks]at h a⊢;obtain⟨J,U⟩:=kZ a;rw[<-hh J,<-Ic U];obtain⟨n,dE,g1,h⟩:=h;rcases h with⟨⟨s,ak,r,rm,W,R,Q,h3,G,qe⟩,g3⟩|⟨cS,r,rfl,W,R⟩;rotate_left
  ·exact⟨n,dE,g1,.inr ⟨cS,r,rfl,H cS rfl (.inr (.inr (.inr rfl))) W,R⟩⟩
  refine⟨n,dE,g1,.inl ⟨⟨s,ak,r,rm,fun k cs l=>?_,fun k o l=>?_,Q,h3,⟨G.1,G.2.1,G.2.2.1,G.2.2.2.1,fun k l=>?_⟩,qe⟩,g3⟩⟩
  ·cases k with
   |loc m=>rw[Q.1 m]at l;cases l
   |obj m=>rw[(aw rfl m).1];exact W _ _ l
  ·cases k with
   |loc m=>rw[Q.2 m]at l;cases l
   |obj m=>rw[(aw rfl m).2.1];exact R _ _ l
  ·obtain⟨⟨j,rfl⟩,d2,d3,d4,d5⟩:=G.2.2.2.2 k l;exact⟨⟨j,rfl⟩,(aw rfl j).2.2 d2,by rw[(aw rfl j).1];exact d3,by rw[(aw rfl j).2.1];exact d4,d5⟩
def l8(d:bc Nat):lB:=⟨d,.tuple [],[],[],none⟩
def lC(P:cG)(q:Bool)(n0:Nat)(g:ds)(A:dB)(x:lB):Prop:=
 match g.g with
 |none=>eW P q n0 g.i A x
 |some (s,w)=>match A.t s with
  | .bool b=>(b=w/\eW P q n0 g.i A x)\/(b= !w/\x=l8 g.i.dst)
  | .tuple []=>x=l8 g.i.dst
  |_=>et
def fT:CN->CN->Bool
 | .v,_=>true
 |_,.v=>true
 | .l,.l| .l,.n| .l,.s| .l,.a| .l,.c=>true
 | .n,.n| .n,.s| .n,.a| .n,.c=>true
 | .s,.l| .s,.n| .s,.s| .s,.c=>true
 | .a,.l| .a,.n| .a,.s=>true
 | .c,.l| .c,.n| .c,.s=>true
 | .l,.m| .m,.l| .m,.m| .m,.n| .m,.s| .m,.a| .s,.m| .a,.m=>true
 | .l,.k| .m,.k| .n,.k| .s,.k=>true
 | .m,.r| .r,.m| .r,.n| .r,.s| .n,.r| .s,.r| .r,.w| .w,.r=>true
 |_,_=>false
def AW(g h:ds):Bool:=(match g.i.dst with|some d=> !(h.looks.contains d)&&h.i.dst !=some d|none=>true)&&(match h.i.dst with|some d=> !(g.looks.contains d)|none=>true)&&fT g.i.mode h.i.mode
def abv(q:Bool)(n0:Nat)(m:CN)(d:bc Nat)(A:dB):J9 q n0 m d A (l8 d):=⟨rfl,fun k a=>by simp[l8,ad]at a,fun k a=>by simp[l8,ad]at a,fun k a=>by simp[l8]at a,fun _ k o a=>by simp[l8,ad]at a,fun _ k o a=>by simp[l8,ad]at a⟩
def P1{P:cG}{q:Bool}{n0:Nat}{g:ds}{A:dB}{x:lB}(h:lC P q n0 g A x):J9 q n0 g.i.mode g.i.dst A x:=by
 unfold lC at h;split at h
 ·exact abu h
 ·split at h
  ·rcases h with⟨_,h⟩|⟨_,rfl⟩
   ·exact abu h
   ·exact abv _ _ _ _ _
  ·subst h;exact abv _ _ _ _ _
  ·exact h.elim
def uh{A:dB}{x:lB}{k:aA}(h:ad k x.bw=none):(A.do x).b k=A.b k:=by simp[dB.do,jo,h]
def ui{A:dB}{x:lB}{k:aA}(h:ad k x.ew=none):(A.do x).e k=A.e k:=by simp[dB.do,jo,h]
def K7{A:dB}{x:lB}{k:aA}(h:(A.do x).b k=none):A.b k=none:=by
 simp only[dB.do,jo]at h;split at h
 ·cases h
 ·exact h
def K8{A:dB}{x:lB}{k:aA}(h:(A.do x).e k=none):A.e k=none:=by
 simp only[dB.do,jo]at h;split at h
 ·cases h
 ·exact h
def mA{α:Type}{o:bc α}(h:¬o.isSome):o=none:=by cases o<;>simp at h⊢
def QA{P:cG}{q:Bool}{n0:Nat}{g:ds}{A a:dB}{x:lB}(h:lC P q n0 g A x)(c:rO g.looks A.t a.t)(hm:eW P q n0 g.i A x->eW P q n0 g.i a x):lC P q n0 g a x:=by
 unfold lC at h⊢;cases be:g.g with
 |none=>simp only[be]at h⊢;exact hm h
 |some b=>
  obtain⟨s,w⟩:=b;have:A.t s=a.t s:=c s (by simp[ds.looks,be]);simp only[be,this]at h⊢;split at h
  ·rcases h with⟨J,U⟩|h
   ·exact .inl ⟨J,hm U⟩
   ·exact .inr h
  ·exact h
  ·exact h
def swap{P:cG}{q:Bool}{n0:Nat}{g h:ds}(V:AW g h=true){A:dB}{x y:lB}(Q:lC P q n0 g A x)(X:lC P q n0 h (A.do x) y):
  lC P q n0 h A y/\lC P q n0 g (A.do y) x/\x.apart y:=by
 simp only[AW,cP]at V;obtain⟨⟨H,O⟩,hm⟩:=V;have c2:=P1 Q;have w:∀d l,g.i.dst=some d->h.i.dst=some l->d≠l:=by intro d l a b e;simp only[a,cP,bne_iff_ne]at H;exact H.2 (by rw[b,e])
 have W:rO h.looks (A.do x).t A.t:=by intro i hi;simp only[dB.do];rw[if_neg];intro e;rw[c2.d]at e;simp only[e,cP,sv,List.contains_eq_mem,iL]at H;exact H.1 hi
 have F:∀k,(ad k x.bw).isSome->_:=c2.b;have hle:∀k,(ad k x.ew).isSome->_:=c2.e;have R:lC P q n0 h A y:=by
  refine QA X W fun J=>Qy J (fun i hi=>W i (by simp[ds.looks,hi])) (fun e k t B=>?_) (fun e k B=>?_) (fun e L k o ar z=>?_) (fun d G U f=>?_) (fun e k o ar=>?_) (fun e k=>?_) (fun e m f=>⟨f.1.1,K7 f.2.1,K8 f.2.2⟩) (fun e k o ar z=>?_) (fun e m=>?_)
  ·rw[uh (mA fun c=>?_)];rcases F k c with⟨a,_⟩|a|⟨a,⟨j,b⟩,r⟩|⟨a,_⟩;rotate_left 3
   ·rw[e,a]at hm;simp[fT]at hm
   ·rw[e,a]at hm;simp[fT]at hm
   ·rw[e,a]at hm;simp[fT]at hm
   ·rcases t with t|⟨m,t⟩
    ·rw[t]at r;cases r
    ·rw[t]at b;cases b
  ·rw[uh (mA fun c=>?_)];rcases F k c with⟨a,_⟩|a|⟨a,_⟩|⟨a,_⟩<;>(rw[e,a]at hm;simp[fT]at hm)
  ·rw[e]at hm;cases v:ad k x.ew with
   |none=>rw[ui v]at ar;exact ar
   |some o'=>
    exfalso;have M:(A.do x).e k=some o':=by simp[dB.do,jo,v]
    rw[M]at ar;cases ar;rcases hle k (by simp[v])with⟨a,_⟩|⟨a,_⟩|⟨a,_,r⟩|⟨a,_⟩
    ·exact z (c2.xn (.inr a) k _ v)
    ·exact z (c2.xn (.inl a) k _ v)
    ·rw[L]at r;cases r
    ·rw[a]at hm;simp[fT]at hm
  ·exact⟨f.1.1,K7 f.2.1,K8 f.2.2⟩
  ·rw[ui (mA fun c=>?_)]at ar
   ·exact ar
   ·rw[e]at hm;rcases hle k c with⟨a,_⟩|⟨a,_⟩|⟨a,_⟩|⟨a,_⟩<;>(rw[a]at hm;simp[fT]at hm)
  ·rw[uh (mA fun c=>?_)];rw[e]at hm;rcases F k c with⟨a,_⟩|a|⟨a,_⟩|⟨a,_⟩<;>(rw[a]at hm;simp[fT]at hm)
  ·rw[e]at hm;cases v:ad k x.ew with
   |none=>rw[ui v]at ar;exact ar
   |some o'=>
    exfalso;have M:(A.do x).e k=some o':=by simp[dB.do,jo,v]
    rw[M]at ar;cases ar;rcases hle k (by simp[v])with⟨a,_⟩|⟨a,_⟩|⟨a,_⟩|⟨a,_⟩
    ·exact z (c2.xn (.inr a) k _ v)
    ·rw[a]at hm;simp[fT]at hm
    ·rw[a]at hm;simp[fT]at hm
    ·rw[a]at hm;simp[fT]at hm
  ·rw[e]at hm;refine⟨?_,?_,fun K=>K.1⟩
   ·rw[uh (mA fun c=>?_)];rcases F _ c with⟨a,d,_,b,_⟩|a|⟨a,_⟩|⟨a,_⟩;rotate_left 3
    ·rw[a]at hm;simp[fT]at hm
    ·cases b
    ·rw[a]at hm;simp[fT]at hm
    ·rw[a]at hm;simp[fT]at hm
   ·rw[ui (mA fun c=>?_)];rcases hle _ c with⟨a,d,_,b,_⟩|⟨a,_⟩|⟨a,_⟩|⟨a,_⟩
    ·cases b
    ·rw[a]at hm;simp[fT]at hm
    ·rw[a]at hm;simp[fT]at hm
    ·rw[a]at hm;simp[fT]at hm
 have ty:=P1 R;have S:rO g.looks A.t (A.do y).t:=by intro i hi;simp only[dB.do];rw[if_neg];intro e;rw[ty.d]at e;simp only[e,sv,List.contains_eq_mem,iL]at O;exact O hi
 refine⟨R,?_,?_⟩
 ·refine QA Q S fun J=>Qy J (fun i hi=>S i (by simp[ds.looks,hi])) (fun e k t B=>?_) (fun e k B=>?_) (fun e L k o ar z=>?_) (fun d G U f=>?_) (fun e k o ar=>?_) (fun e k=>?_) (fun e m f=>?_) (fun e k o ar z=>?_) (fun e m=>?_)
  ·refine uh (mA fun c=>?_);rcases ty.b k c with⟨a,d,_,_,b,_⟩|a|⟨a,⟨j,b⟩,r⟩|⟨_,_,b,_⟩;rotate_left 3
   ·exact B b
   ·exact B b
   ·rw[e,a]at hm;simp[fT]at hm
   ·rcases t with t|⟨m,t⟩
    ·rw[t]at r;cases r
    ·rw[t]at b;cases b
  ·refine uh (mA fun c=>?_);rcases ty.b k c with⟨a,d,_,_,b,_⟩|a|⟨a,_⟩|⟨_,_,b,_⟩;rotate_left 3
   ·exact B b
   ·exact B b
   ·rw[e,a]at hm;simp[fT]at hm
   ·rw[e,a]at hm;simp[fT]at hm
  ·rw[ui (mA fun c=>?_)]
   ·exact ar
   ·rcases ty.e k c with⟨a,d,_,_,_,b⟩|⟨a,b⟩|⟨a,_,r⟩|⟨a,_⟩
    ·rw[b]at ar;cases ar
    ·exact z (ty.ex a k o c ar)
    ·rw[L]at r;cases r
    ·rw[e,a]at hm;simp[fT]at hm
  ·refine⟨⟨f.1,fun E=>?_⟩,?_,?_⟩
   ·rcases ty.r _ E with⟨l,a,b⟩|⟨_,⟨j,b⟩,_⟩
    ·simp only[aA.loc.injEq]at b;exact w d l G a Ω
    ·cases b
   ·rw[uh (mA fun c=>?_)]
    ·exact f.2.1
    ·rcases ty.b _ c with⟨a,l,b,r,_⟩|a|⟨a,⟨j,b⟩,_⟩|⟨a,⟨j,b⟩,_⟩;rotate_left 3
     ·cases b
     ·simp only[aA.loc.injEq]at r;exact w d l G b Ω
     ·rcases U with b|b|b|b<;>(rw[a,b]at hm;simp[fT]at hm)
     ·cases b
   ·rw[ui (mA fun c=>?_)]
    ·exact f.2.2
    ·rcases ty.e _ c with⟨a,l,b,r,_⟩|⟨a,b⟩|⟨a,⟨j,b⟩,_⟩|⟨a,o,b,_⟩
     ·simp only[aA.loc.injEq]at r;exact w d l G b Ω
     ·rcases b with b|⟨l,b,r,_⟩
      ·exact b f.2.2
      ·simp only[aA.loc.injEq]at r;exact w d l G b Ω
     ·cases b
     ·rw[f.2.2]at b;cases b
  ·rw[ui (mA fun c=>?_)]
   ·exact ar
   ·rw[e]at hm;rcases ty.e k c with⟨a,d,_,_,_,b⟩|⟨a,_⟩|⟨a,_⟩|⟨a,_⟩
    ·rw[b]at ar;cases ar
    ·rw[a]at hm;simp[fT]at hm
    ·rw[a]at hm;simp[fT]at hm
    ·rw[a]at hm;simp[fT]at hm
  ·refine uh (mA fun c=>?_);rw[e]at hm;rcases ty.b k c with⟨a,_⟩|a|⟨a,_⟩|⟨a,_⟩<;>(rw[a]at hm;simp[fT]at hm)
  ·rw[e]at hm;refine⟨⟨f.1,fun E=>?_⟩,?_,?_⟩
   ·rcases ty.r _ E with⟨l,a,b⟩|⟨a|a,_⟩
    ·cases b
    ·rw[a]at hm;simp[fT]at hm
    ·rw[a]at hm;simp[fT]at hm
   ·rw[uh (mA fun c=>?_)]
    ·exact f.2.1
    ·rcases ty.b _ c with⟨a,_⟩|a|⟨a,_⟩|⟨a,_⟩<;>(rw[a]at hm;simp[fT]at hm)
   ·rw[ui (mA fun c=>?_)]
    ·exact f.2.2
    ·rcases ty.e _ c with⟨a,_⟩|⟨a,_⟩|⟨a,_⟩|⟨a,o,b,_⟩
     ·rw[a]at hm;simp[fT]at hm
     ·rw[a]at hm;simp[fT]at hm
     ·rw[a]at hm;simp[fT]at hm
     ·rw[f.2.2]at b;cases b
  ·rw[ui (mA fun c=>?_)]
   ·exact ar
   ·rw[e]at hm;rcases ty.e k c with⟨a,d,_,_,_,b⟩|⟨a,_⟩|⟨a,_⟩|⟨a,_⟩
    ·rw[b]at ar;cases ar
    ·rw[a]at hm;simp[fT]at hm
    ·rw[a]at hm;simp[fT]at hm
    ·rw[a]at hm;simp[fT]at hm
  ·rw[e]at hm;refine⟨?_,?_,fun K=>⟨K,fun E=>?_⟩⟩;rotate_left 2
   ·rcases ty.r _ E with⟨l,_,b⟩|⟨b|b,_⟩
    ·cases b
    ·rw[b]at hm;simp[fT]at hm
    ·rw[b]at hm;simp[fT]at hm
   ·refine uh (mA fun c=>?_);rcases ty.b _ c with⟨a,d,_,b,_⟩|a|⟨a,_⟩|⟨a,_⟩;rotate_left 3
    ·rw[a]at hm;simp[fT]at hm
    ·cases b
    ·rw[a]at hm;simp[fT]at hm
    ·rw[a]at hm;simp[fT]at hm
   ·refine ui (mA fun c=>?_);rcases ty.e _ c with⟨a,d,_,b,_⟩|⟨a,_⟩|⟨a,_⟩|⟨a,_⟩
    ·cases b
    ·rw[a]at hm;simp[fT]at hm
    ·rw[a]at hm;simp[fT]at hm
    ·rw[a]at hm;simp[fT]at hm
 ·refine⟨fun i hi e=>?_,fun k t=>mA fun c=>?_,fun k t=>mA fun c=>?_⟩
  ·rw[c2.d]at hi;rw[ty.d]at e;exact w i i hi e rfl
  ·rcases F k t with⟨p,d,a2,a3,_⟩|p|⟨p,⟨j,a2⟩,_⟩|⟨p,_⟩<;>rcases ty.b k c with⟨n,l,s,u,_⟩|n|⟨n,⟨dg,s⟩,_⟩|⟨n,⟨dg,s⟩,_⟩;all_goals first|(rw[p,n]at hm;simp[fT]at hm;done)|skip
   ·rw[a3]at u;simp only[aA.loc.injEq]at u;exact w d l a2 s Ω
   ·rw[a3]at s;cases s
   ·rw[a3]at s;cases s
   ·rw[a2]at u;cases u
  ·rcases hle k t with⟨p,d,a2,a3,_,a4⟩|⟨p,a2⟩|⟨p,⟨j,a2⟩,_⟩|⟨p,Z,a2,_⟩<;>rcases ty.e k c with⟨n,l,s,u,_,N⟩|⟨n,s⟩|⟨n,⟨dg,s⟩,_⟩|⟨n,Y,s,_⟩
   ·rw[a3]at u;simp only[aA.loc.injEq]at u;exact w d l a2 s Ω
   ·rw[p,n]at hm;simp[fT]at hm
   ·rw[a3]at s;cases s
   ·rw[a4]at s;cases s
   ·rcases a2 with a2|⟨d,a2,a3,_⟩
    ·exact a2 N
    ·rw[a3]at u;simp only[aA.loc.injEq]at u;exact w d l a2 s Ω
   ·rw[p,n]at hm;simp[fT]at hm
   ·rw[p,n]at hm;simp[fT]at hm
   ·rw[p,n]at hm;simp[fT]at hm
   ·rw[a2]at u;cases u
   ·rw[p,n]at hm;simp[fT]at hm
   ·rw[p,n]at hm;simp[fT]at hm
   ·rw[p,n]at hm;simp[fT]at hm
   ·rw[N]at a2;cases a2
   ·rw[p,n]at hm;simp[fT]at hm
   ·rw[p,n]at hm;simp[fT]at hm
   ·rw[p,n]at hm;simp[fT]at hm
def yt(C:fh)(A:dB)(a:Act)(w:World):Prop:= ∃st ν,me st A/\(∀k,A.F k->fresh st.n st.o k)/\c5 C st a w ν
def NC{st:bo}{A:dB}(h:me st A)(d:Nat)(p:af):me {st with t:=put d p st.t} (A.do ⟨some d,p,[],[],none⟩):=by
 refine⟨fun i=>?_,fun k=>?_,fun k=>?_⟩
 ·simp only[dB.do,ql,dS,h.t]
 ·simpa[dB.do,jo,ad]using h.b k
 ·simpa[dB.do,jo,ad]using h.e k
def Xw{st:bo}{A:dB}(h:me st A)(d:Nat)(p:af)(o':List aA)(rm:bc aA):me {st with t:=put d p st.t,o:=o'} (A.do ⟨some d,p,[],[],rm⟩):=by have:=NC h d p;exact⟨this.t,this.b,this.e⟩
def aca{α:Type}{β:Type}:∀l:List (aA×α),cJ ([]:List (aA×β)) l=l
 |[]=>rfl
 |(k,x)::r=>by simp[cJ,ad,aca r]
def BJ{st:bo}{A:dB}(h:me st A)(d:Nat)(p:af)(κ:aA)(cs:List af)(n':Nat)(o':List aA)(rm:bc aA):me ⟨put d p st.t,cH κ cs st.b,st.e,n',o'⟩ (A.do ⟨some d,p,[(κ,cs)],[],rm⟩):=by
 refine⟨fun i=>?_,fun k=>?_,fun k=>?_⟩
 ·simp only[dB.do,ql,dS,h.t]
 ·simp only[dB.do,jo,ad,je,h.b];by_cases e:κ=k<;>simp[e]
 ·simpa[dB.do,jo,ad]using h.e k
def H6{st:bo}{A:dB}(h:me st A)(κ:aA)(cs:List af)(p:af):me {st with b:=cH κ cs st.b} (A.do ⟨none,p,[(κ,cs)],[],none⟩):=by
 refine⟨fun i=>?_,fun k=>?_,fun k=>?_⟩
 ·simpa[dB.do]using h.t i
 ·simp only[dB.do,jo,ad,je,h.b];by_cases e:κ=k<;>simp[e]
 ·simpa[dB.do,jo,ad]using h.e k
def xK{st:bo}{A:dB}(h:me st A)(d:Nat)(p:af)(κ:aA)(o:dT)(n':Nat)(o':List aA)(rm:bc aA):me ⟨put d p st.t,st.b,cH κ o st.e,n',o'⟩ (A.do ⟨some d,p,[],[(κ,o)],rm⟩):=by
 refine⟨fun i=>?_,fun k=>?_,fun k=>?_⟩
 ·simp only[dB.do,ql,dS,h.t]
 ·simpa[dB.do,jo,ad]using h.b k
 ·simp only[dB.do,jo,ad,je,h.e];by_cases e:κ=k<;>simp[e]
def Xv{st:bo}{A:dB}(h:me st A)(κ:aA)(o:dT)(p:af):me {st with e:=cH κ o st.e} (A.do ⟨none,p,[],[(κ,o)],none⟩):=by
 refine⟨fun i=>?_,fun k=>?_,fun k=>?_⟩
 ·simpa[dB.do]using h.t i
 ·simpa[dB.do,jo,ad]using h.b k
 ·simp only[dB.do,jo,ad,je];by_cases e:κ=k<;>simp[e,h.e]
def NS{α:Type}{k:aA}:∀{l:List (aA×α)},k∈l.map (·.1)->(ad k l).isSome
 |[],h=>by simp at h
 |(i,x)::r,h=>by
  simp only[ad];split
  ·rfl
  ·rename_i e;simp only[hc,gK]at h;rcases h with h|h
   ·exact absurd h.symm e
   ·exact NS h
def w4{n:Nat}{o:List aA}{κ:aA}:∀j,fresh n (κ::o) j->fresh n o j/\j≠κ:=by intro j a;simp only[fresh,gK,not_or]at a⊢;exact⟨⟨a.1,a.2.2⟩,a.2.1⟩
def ahy{n:Nat}{o:List aA}{κ j:aA}(h:fresh n o j)(a:some κ≠some j):fresh n (κ::o) j:=by simp only[fresh,gK,not_or]at h⊢;exact⟨h.1,fun e=>a (by rw[e]),h.2⟩
def Qz{P:cG}{aS:List (Nat×eu)}(N:hW P aS=true){C:fh}{q:Bool}{n0:Nat}{i:eO}{o:Oper}(ar:wv C.N aS i o=true){A:dB}{x:lB}(l:eW P q n0 i A x){a:Act}{w:World}(E:yt C A a w)
  {K:Act->World->Prop} {Q:Exit->Act->World->Prop} (H:∀bs w',yt C (A.do x) bs w'->K bs w'):o.wp P a w K Q:=by
 obtain⟨st,ν,g,F,E⟩:=E;have yW:∀(t:List (Nat×af)) (b:List (aA×List af)) (e:List (aA×dT)) (d:bc Nat) (p:af) (bw:List (aA×List af)) (ew:List (aA×dT)),∀k,(A.do ⟨d,p,bw,ew,none⟩).F k->fresh st.n st.o k:=fun t b e d p bw ew k j=>F k j.1;have V:∀(d:bc Nat) (p:af) (bw:List (aA×List af)) (ew:List (aA×dT)) (κ:aA),∀k,(A.do ⟨d,p,bw,ew,some κ⟩).F k->fresh st.n (κ::st.o) k:=fun d p bw ew κ k j=>ahy (F k j.1) j.2;cases i with
 |s i=>
  have L:Fh C.N aS i o=true:=by simpa only[wv]using ar
  cases i with
  |v d i=>simp only[eW]at l;obtain⟨c,p,J,U,_,rfl⟩:=l;rw[<-abA g]at J;refine ks (κ:= .loc 0) (n':=0) (o₁:=[]) N E L (fun h=>by simp[eT.makes]at h) (fun h=>by simp[eT.makes]at h) (st':={st with t:=put d p st.t}) (by simp only[fc,J]) U fun bs w' bm B=>H _ _ ⟨_,bm,NC g d p,fun k j=>F k j.1,B⟩
  |box d key v=>
   cases key with
   |some m=>simp only[eW]at l
   |none=>simp only[eW]at l;obtain⟨⟨J,_⟩,U,rfl⟩:=l;rw[<-jB g]at U;refine ks (κ:= .loc (n0+d)) (n':=st.n) (o₁:= .loc (n0+d)::st.o) N E L (fun _=>F _ J) (fun _=>w4) (st':=⟨put d (.ptr (.loc (n0+d)) 0) st.t,cH (.loc (n0+d)) (cells (cD st.t v)) st.b,st.e,st.n,.loc (n0+d)::st.o⟩) (by simp only[fc]) U fun bs w' bm B=>H _ _ ⟨_,bm,?_,V _ _ _ _ _,B⟩;rw[jB g];exact BJ g d _ _ _ _ _ _
  |alloc d key z=>
   cases key with
   |some m=>simp only[eW]at l
   |none=>simp only[eW]at l;obtain⟨⟨J,_⟩,rfl⟩:=l;refine ks (κ:= .loc (n0+d)) (n':=st.n) (o₁:= .loc (n0+d)::st.o) N E L (fun _=>F _ J) (fun _=>w4) (st':=⟨put d (.ptr (.loc (n0+d)) 0) st.t,cH (.loc (n0+d)) (cells z) st.b,st.e,st.n,.loc (n0+d)::st.o⟩) (by simp only[fc]) trivial fun bs w' bm B=>H _ _ ⟨_,bm,BJ g d _ _ _ _ _ _,V _ _ _ _ _,B⟩
  |store sz u v=>simp only[eW]at l;obtain⟨k,off,cs,J,U,G,rfl⟩:=l;rw[<-jB g]at J G;rw[<-g.b]at U;refine ks (κ:= .loc 0) (n':=0) (o₁:=[]) N E L (fun h=>by simp[eT.makes]at h) (fun h=>by simp[eT.makes]at h) (st':={st with b:=cH k (nq cs off (cells (cD st.t v))) st.b}) (by simp only[fc,J,U]) G fun bs w' bm B=>H _ _ ⟨{st with b:=cH k (nq cs off (cells (cD st.t v))) st.b},bm,by rw[jB g];exact H6 g k _ _,fun k j=>F k j.1,B⟩
  |bsl d sz el xs=>simp only[eW]at l;obtain⟨⟨J,_⟩,U,rfl⟩:=l;rw[<-vF g]at U;refine ks (κ:= .loc (n0+d)) (n':=st.n) (o₁:= .loc (n0+d)::st.o) N E L (fun _=>F _ J) (fun _=>w4) (st':=⟨put d (.slice sz (.own (.loc (n0+d))) (xs.map (cD st.t))) st.t,st.b,cH (.loc (n0+d)) ⟨xs.length,el,sz,none⟩ st.e,st.n,.loc (n0+d)::st.o⟩) (by simp only[fc]) U fun bs w' bm B=>H _ _ ⟨_,bm,?_,V _ _ _ _ _,B⟩;rw[vF g];exact xK g d _ _ _ _ _ _
  |app d sz el u v=>
   simp only[eW]at l;obtain⟨tag,xs,lR,ys,J,U,l⟩:=l;rw[<-jB g]at J U;rcases l with⟨k,ow,rfl,G,R,rfl⟩|⟨rfl,G,⟨R,_⟩,rfl⟩
   ·rw[<-g.e]at G;refine ks (κ:= .loc 0) (n':=0) (o₁:=[]) N E L (fun h=>by simp[eT.makes,J]at h) (fun h=>by simp[eT.makes,J]at h) (st':=⟨put d (.slice sz (.own k) (xs++ys)) st.t,st.b,cH k ⟨xs.length+ys.length,el,sz,none⟩ st.e,st.n,st.o⟩) (by simp only[fc,J,U,G,and_self,if_true]) R.2 fun bs w' bm B=>H _ _ ⟨_,bm,xK g d _ _ _ _ _ _,fun k j=>F k j.1,B⟩
   ·refine ks (κ:= .loc (n0+d)) (n':=st.n) (o₁:= .loc (n0+d)::st.o) N E L (fun _=>F _ R) (fun _=>w4) (st':=⟨put d (.slice sz (.own (.loc (n0+d))) ys) st.t,st.b,cH (.loc (n0+d)) ⟨ys.length,el,sz,none⟩ st.e,st.n,.loc (n0+d)::st.o⟩) (by simp only[fc,J,U,and_self,if_true]) G fun bs w' bm B=>H _ _ ⟨_,bm,xK g d _ _ _ _ _ _,V _ _ _ _ _,B⟩
  |bslm d key sz el xs=>simp only[eW]at l
  |mks d key sz el z x=>simp only[eW]at l
  |appm d key sz el u v=>simp only[eW]at l;obtain⟨k,n,xs,lR,ys,J,U,G,R,rfl⟩:=l;rw[<-jB g]at J U;rw[<-g.e]at G;refine ks (κ:= .loc 0) (n':=0) (o₁:=[]) N E L (fun h=>by simp[eT.makes,J]at h) (fun h=>by simp[eT.makes,J]at h) (st':=⟨put d (.row sz k (xs.length+ys.length)) st.t,st.b,cH k ⟨xs.length+ys.length,el,sz,some (xs++ys)⟩ st.e,st.n,st.o⟩) (by simp only[fc,uc,J,U,G,and_self,if_true]) R fun bs w' bm B=>H _ _ ⟨_,bm,xK g d _ _ _ _ _ _,fun k j=>F k j.1,B⟩
  |storeE sz u v=>simp only[eW]at l;obtain⟨k,n,i,f,el,ed,xs,q,J,U,G,R,rfl⟩:=l;rw[<-jB g]at J R;rw[<-g.e]at U;refine ks (κ:= .loc 0) (n':=0) (o₁:=[]) N E L (fun h=>by simp[eT.makes]at h) (fun h=>by simp[eT.makes]at h) (st':={st with e:=cH k ⟨n,el,ed,some (xs.set i (nY q f (cells (cD st.t v))))⟩ st.e}) (by simp only[fc,sk,J,U,G,and_self,if_true]) R fun bs w' bm B=>H _ _ ⟨{st with e:=cH k ⟨n,el,ed,some (xs.set i (nY q f (cells (cD st.t v))))⟩ st.e},bm,by rw[jB g];exact Xv g k _ _,fun k j=>F k j.1,B⟩
  |mkmap d key=>
   cases key with
   |none=>simp only[eW]at l
   |some m=>simp only[eW]at l;obtain⟨⟨J,_⟩,rfl⟩:=l;exact ks (κ:= .obj m) (n':=st.n) (o₁:= .obj m::st.o) N E L (fun _=>F _ J) (fun _=>w4) (st':=⟨put d (.gmap (.obj m)) st.t,cH (.obj m) [.hdm 0 []] st.b,st.e,st.n,.obj m::st.o⟩) (by simp only[fc]) trivial fun bs w' bm B=>H _ _ ⟨_,bm,BJ g d _ _ _ _ _ _,V _ _ _ _ _,B⟩
  |mput cv u k v=>simp only[eW]at l;obtain⟨m,cs,cs',J,U,G,rfl⟩:=l;rw[<-jB g]at J;rw[<-jB g,<-jB g]at G;rw[<-g.b]at U;exact ks (κ:= .loc 0) (n':=0) (o₁:=[]) N E L (fun h=>by simp[eT.makes]at h) (fun h=>by simp[eT.makes]at h) (st':={st with b:=cH m cs' st.b}) (by simp only[fc,J,U,G]) trivial fun bs w' bm B=>H _ _ ⟨{st with b:=cH m cs' st.b},bm,H6 g m _ _,fun k j=>F k j.1,B⟩
  |range d key x=>simp only[eW]at l
 |next d x=>simp only[eW]at l
 |call d f xs=>
  simp only[eW]at l;obtain⟨n,dE,J,l⟩:=l;rw[<-jB g]at J;rcases l with⟨⟨s,ak,r,rm,Y,W,dh,h3,mR,qe,C0,rfl⟩,_⟩|⟨cS,r,rfl,Y,W,dh,rfl⟩;rotate_left
  ·rw[<-vF g]at W dh;simp only[wv]at ar;split at ar
   ·rename_i pI args CA ou;simp only[cP,ey]at ar;obtain⟨⟨⟨al,aC⟩,bh⟩,b2⟩:=ar;have X:=e1 E bh;rw[J]at X;refine Th E ou al aC X (E9 E b2) (K:=fun st'=>st'={st with t:=put cS r st.t,o:= .loc (n0+cS)::st.o}) ⟨⟨[],[]⟩,_,some (n0+cS),st.n,fun _=>.loc (n0+cS)::st.o,fun k cs j=>by simp[ad]at j,fun k cs j=>by simp[ad]at j,⟨fun _=>rfl,fun _=>rfl⟩,jd (fun _ h=>h.elim) _ W,dh,fun m hm=>?_,fun k ea ak bP j=>?_,?_⟩ ?_
    ·cases hm;exact F _ Y.1
    ·obtain⟨_,rfl⟩:=bP;have:=w4 k j;exact⟨by simpa[cI]using this.1,fun m hm=>by cases hm;exact this.2⟩
    ·rintro ea pZ ⟨rfl,rfl⟩;refine⟨⟨fun m hm=>by simp[ad]at hm,fun m hm=>by simp[ad]at hm⟩,?_⟩;simp[after,aca,e3]
    ·rintro st' bs w' bm rfl B;exact H _ _ ⟨_,bm,Xw g cS r _ _,V _ _ _ _ _,B⟩
   ·cases ar
  rw[<-vF g]at qe C0;simp only[wv]at ar;split at ar
  ·rename_i pI args CA ou;simp only[cP,ey]at ar;obtain⟨⟨⟨al,aC⟩,bh⟩,b2⟩:=ar;have X:=e1 E bh;rw[J]at X;obtain⟨bj,bY,cE,fv,Z⟩:=mR;refine Tg E ou al aC X (E9 E b2) (K:=fun st'=>st'=after st s ak d r) (.inl ⟨s,_,fun k cs j=>⟨by rw[g.b];exact(Y k cs j).1,.inl (by simp[j]),(Y k cs j).2⟩,fun k o' j=>⟨by rw[g.e];exact(W k o' j).1,.inr (by simp[j]),(W k o' j).2⟩,dh,qe,C0,?_⟩) ?_
   ·rintro ea pZ ⟨rfl,rfl⟩;refine⟨⟨fun m hm=>?_,fun m hm=>?_⟩,rfl⟩
    ·rcases bj _ hm with h|h
     ·exact .inl h
     ·exact .inr (F _ (Z _ h).2.1).2
    ·rcases bY _ hm with h|h
     ·exact .inl h
     ·exact .inr (F _ (Z _ h).2.1).2
   ·rintro st' bs w' bm rfl B;refine H _ _ ⟨_,bm,⟨fun i=>?_,fun k=>?_,fun k=>?_⟩,fun k j=>?_,B⟩
    ·simp only[after,dB.do];cases d with
     |none=>simpa[e3]using g.t i
     |some d=>simp only[e3,ql,dS,g.t]
    ·simp only[after,dB.do,jo,nS,tp];by_cases M:(ad k s.b).isSome
     ·have:=cE k M;obtain⟨y,S⟩:=fA.1 this;simp[M,S]
     ·cases aB:ad k ak.b with
      |none=>simp only[M,g.b];cases A.b k<;>simp
      |some y=>
       rcases bj k (by simp[aB])with h|h
       ·exact absurd h M
       ·have:=Z k h;simp[M,g.b,this]
    ·simp only[after,dB.do,jo,nS,tp];by_cases M:(ad k s.e).isSome
     ·have:=fv k M;obtain⟨y,S⟩:=fA.1 this;simp[M,S]
     ·cases aB:ad k ak.e with
      |none=>simp only[M,g.e];cases A.e k<;>simp
      |some y=>
       rcases bY k (by simp[aB])with h|h
       ·exact absurd h M
       ·have:=Z k h;simp[M,g.e,this]
    ·have Mh:=F k j.1;have nI:=E.lookNone Mh;simp only[after];refine⟨Mh.1,fun O=>?_⟩;rcases j2.1 O with O|O
     ·exact Mh.2 O
     ·rcases j2.1 O with O|O
      ·rcases bj k (NS O)with h|h
       ·obtain⟨y,S⟩:=fA.1 h;have:=(Y k y S).1;rw[<-g.b,nI.1]at this;cases this
       ·exact j.2 h
      ·rcases bY k (NS O)with h|h
       ·obtain⟨y,S⟩:=fA.1 h;have:=(W k y S).1;rw[<-g.e,nI.2]at this;cases this
       ·exact j.2 h
  ·cases ar
def acv{P:cG}{aS:List (Nat×eu)}(B:hW P aS=true){C:fh}{q:Bool}{n0:Nat}{ops:Array Oper}{g:ds}{o:Oper}{j:Nat}(O:ops[j]? =some o)(ar:Du C.N aS ops.toList g o=true){A:dB}{x:lB}(c:lC P q n0 g A x){a:Act}{w:World}(v:yt C A a w)
  {K:Act->World->Prop} {Q:Exit->Act->World->Prop} (r:∀bs w',yt C (A.do x) bs w'->K bs w'):wpOp P ops Q j K a w:=by
 unfold wpOp;rw[O];simp only;simp only[Du,cP]at ar;obtain⟨m,y⟩:=ar;unfold lC at c;cases l:g.g with
 |none=>
  cases e:o.guard with
  |some x=>simp[e,l]at m
  |none=>
   have hw:p5 o (yielded ops a.tmps)=true:=by simp[p5,e]
   rw[if_pos hw];simp only[l]at c;exact .inl (Qz B y c v r)
 |some F=>
  obtain⟨s,want⟩:=F;cases e:o.guard with
  |none=>simp[e,l]at m
  |some t=>
   obtain⟨M,b7⟩:=t;simp only[e,l,cP,ey,gu]at m;obtain⟨⟨⟨⟨rfl,U⟩,N⟩,S⟩,L⟩:=m;obtain⟨st,ν,f,J,z⟩:=id v;obtain⟨H,G⟩:=aci z U N;simp only[l]at c;have E:∀(h:x=l8 g.i.dst),K (a.put o.dst undef) w:=by
    rintro rfl;rw[S];refine r _ _ ⟨_,ν,?_,fun k R=>?_,z.put L (p:= .tuple []) (by simp[aU,c1,undef])⟩
    ·refine⟨fun i=>?_,fun k=>?_,fun k=>?_⟩
     ·simp only[dB.do,l8];cases g.i.dst with
      |none=>simpa[e3]using f.t i
      |some d=>simp only[e3,ql,dS,f.t]
     ·simpa[dB.do,jo,ad,l8]using f.b k
     ·simpa[dB.do,jo,ad,l8]using f.e k
    ·exact J k R.1
   split at c
   ·rename_i b u;have n:=H b (by rw[f.t];exact u);rcases c with⟨rfl,c⟩|⟨rfl,c⟩
    ·have hw:p5 o (yielded ops a.tmps)=true:=by simp[p5,e,n]
     rw[if_pos hw];exact .inl (Qz B y c v r)
    ·have hw:¬(p5 o (yielded ops a.tmps)=true):=by simp[p5,e,n]
     rw[if_neg hw];exact E c
   ·rename_i u;have n:=G (by rw[f.t];exact u);have hw:¬(p5 o (yielded ops a.tmps)=true):=by simp[p5,e,n]
    rw[if_neg hw];exact E c
   ·exact c.elim
def wW(P:cG)(q:Bool)(n0:Nat)(K:dB->Prop):List (Nat×ds)->dB->Prop
 |[],A=>K A
 |(_,g)::r,A=> ∃x,lC P q n0 g A x/\wW P q n0 K r (A.do x)
def Q9{P:cG}{q:Bool}{n0:Nat}{K:dB->Prop}{i:Nat}{g:ds}:∀(a b:List (Nat×ds)) (A:dB),(∀x∈a,AW x.2 g=true)->wW P q n0 K (a++(i,g)::b) A->∃x,lC P q n0 g A x/\wW P q n0 K (a++b) (A.do x)
 |[],b,A,_,h=>h
 |(j,f)::a,b,A,aw,h=>by simp only[b3,wW]at h;obtain⟨y,e,h⟩:=h;obtain⟨x,d,h⟩:=Q9 a b (A.do y) (fun z c=>aw z (qR _ c)) h;obtain⟨s1,s2,s3⟩:=swap (aw _ (List.mem_cons_self ..)) e d;refine⟨x,s1,y,s2,?_⟩;rw[<-dB.do_comm A s3];exact h
def rem(a:Array Bool):Nat->List ds->List (Nat×ds)
 |_,[]=>[]
 |k,g::r=>if a.getD k false then rem a (k+1) r else(k,g)::rem a (k+1) r
def aaf{l a:Array Bool}:∀(gs:List ds) (k:Nat),(∀j,k<=j->l.getD j false=a.getD j false)->rem l k gs=rem a k gs
 |[],_,_=>rfl
 |g::r,k,h=>by simp only[rem,h k (dL _),aaf r (k+1) fun j b=>h j Ω]
def G2{l:Array Bool}{i j:Nat}(h:i<l.size):(l.setIfInBounds i true).getD j false=if i=j then true else l.getD j false:=by
 simp only[Array.getD_eq_getD_getElem?];by_cases e:i=j
 ·subst e;simp[h]
 ·simp[e]
def Pd{l:Array Bool}{i:Nat}(hi:i<l.size)(s:l.getD i false=false):∀(gs:List ds) (k:Nat),k<=i->i<k+gs.length->∃c d g,gs[i-k]? =some g/\rem l k gs=c++(i,g)::d/\rem (l.setIfInBounds i true) k gs=c++d/\
  ∀x∈c,gs[x.1-k]? =some x.2/\k<=x.1/\x.1<i/\l.getD x.1 false=false
 |[],k,J,U=>by simp at U;omega
 |g::r,k,J,U=>by
  by_cases e:k=i
  ·subst e;refine⟨[],rem l (k+1) r,g,Ψ,by simp[rem,s],?_,fun x a=>by simp at a⟩;simp only[rem,G2 hi,if_true,ca];exact aaf r (k+1) fun j t=>by rw[G2 hi,if_neg Ω]
  ·obtain⟨c,d,m,p,q,n,o⟩:=Pd hi s r (k+1) Ω (by simp at U;omega);have f:i-k=(i-(k+1))+1:=Ω
   have h:(l.setIfInBounds i true).getD k false=l.getD k false:=by rw[G2 hi,if_neg Ω]
   by_cases b:l.getD k false=true
   ·refine⟨c,d,m,by rw[f];simpa using p,by simp only[rem,b,if_true,q],by simp only[rem,h,b,if_true,n],fun x a=>?_⟩;obtain⟨f1,f2,f3,f4⟩:=o x a;refine⟨?_,Ω,f3,f4⟩;have:x.1-k=(x.1-(k+1))+1:=Ω
    rw[this];simpa using f1
   ·have b:l.getD k false=false:=by simpa using b
    refine⟨(k,g)::c,d,m,by rw[f];simpa using p,by simp[rem,b,q],by simp[rem,h,b,n],fun x a=>?_⟩;rcases gK.1 a with rfl|a
    ·exact⟨Ψ,dL _,by simp;omega,b⟩
    ·obtain⟨f1,f2,f3,f4⟩:=o x a;refine⟨?_,Ω,f3,f4⟩;have:x.1-k=(x.1-(k+1))+1:=Ω
     rw[this];simpa using f1
def wj(acc:List Nat):List Edge->Nat
 |[]=>0
 |e::r=>if Region.binds .any e then(2 ^ e.on)|||(acc.getD e.on 0)|||wj acc r else wj acc r
def ts(acc:List Nat):List Oper->List Nat
 |[]=>acc
 |o::os=>ts (acc++[wj acc o.after.toList]) os
def Fb(m:Nat)(h:ds):Nat->List ds->Bool
 |_,[]=>true
 |i,g::r=>(m.testBit i||AW g h)&&Fb m h (i+1) r
def EU:List ds->List ds->List Nat->Bool
 |_,[],_=>true
 |pre,h::r,m::ms=>Fb m h 0 pre&&EU (pre++[h]) r ms
 |_,_,[]=>false
def Db:Nat->List Oper->Bool
 |_,[]=>true
 |k,o::os=>o.after.toList.all (fun e=> !Region.binds .any e||decide (e.on<k))&&Db (k+1) os
def CU(gs:List ds)(ops:List Oper):Bool:=Db 0 ops&&EU [] gs (ts [] ops)
def NL{acc:List Nat}{j:Nat}:∀{es:List Edge},(wj acc es).testBit j=true->∃e∈es,Region.binds .any e=true/\(j=e.on\/(acc.getD e.on 0).testBit j=true)
 |[],h=>by simp[wj]at h
 |e::r,h=>by
  simp only[wj]at h;split at h
  ·rename_i b;simp only[Nat.testBit_or,n2]at h;rcases h with(h|h)|h
   ·refine⟨e,Ψ,b,.inl ?_⟩;rw[Nat.testBit_two_pow]at h;have c:e.on=j:=by simpa using h
    exact c.symm
   ·exact⟨e,Ψ,b,.inr h⟩
   ·obtain⟨a,J,U⟩:=NL h;exact⟨a,by simp[J],U⟩
  ·obtain⟨a,J,U⟩:=NL h;exact⟨a,by simp[J],U⟩
def NM:∀(os:List Oper) (acc:List Nat) (k:Nat),k<acc.length->(ts acc os)[k]? =acc[k]?
 |[],acc,k,_=>rfl
 |o::os,acc,k,h=>by simp only[ts];rw[NM os _ k d6,rE h]
def XG:∀(os:List Oper) (acc:List Nat) (k:Nat) (o:Oper),os[k]? =some o->∃a,(ts acc os)[acc.length+k]? =some (wj a o.after.toList)/\a.length=acc.length+k/\∀i,i<a.length->a[i]? =(ts acc os)[i]?
 |[],acc,k,o,h=>by simp at h
 |o'::os,acc,0,o,h=>by
  simp only[List.getElem?_cons_zero,dS]at h;subst h;refine⟨acc,?_,Ψ,fun i hi=>?_⟩
  ·simp only[ts,Nat.add_zero];rw[NM os _ _ Ψ];simp
  ·simp only[ts];rw[NM os _ i d6,rE hi]
 |o'::os,acc,k+1,o,h=>by simp only[List.getElem?_cons_succ]at h;obtain⟨a,J,U,b⟩:=XG os (acc++[wj acc o'.after.toList]) k o h;refine⟨a,?_,by rw[U];simp;omega,fun i hi=>by rw[b i hi];rfl⟩;simp only[ts];rw[show acc.length+(k+1)=(acc++[wj acc o'.after.toList]).length+k from by simp;omega];exact J
def Qw(ops:Array Oper)(a:Array Bool):Prop:= ∀k o,ops[k]? =some o->a.getD k false=true->∀e∈o.after.toList,Region.binds .any e=true->a.getD e.on false=true
def aly{ops:Array Oper}{b:Array Bool}(r:Qw ops b):∀(k:Nat) (o:Oper),ops[k]? =some o->(∀e∈o.after.toList,Region.binds .any e=true->b.getD e.on false=true)->∀j,((ts [] ops.toList).getD k 0).testBit j=true->b.getD j false=true:=by
 intro k;induction k using Nat.strongRecOn with
 |_ k n=>
  intro o ar f j g;obtain⟨c,J,U,q⟩:=XG ops.toList [] k o (by simpa using ar);simp only[List.length_nil,Nat.zero_add]at J U;rw[List.getD_eq_getElem?_getD,J]at g;obtain⟨e,he,h,a⟩:=NL g;rcases a with rfl|a
  ·exact f e he h
  ·by_cases p:e.on<c.length
   ·have hm:c.getD e.on 0=(ts [] ops.toList).getD e.on 0:=by rw[List.getD_eq_getElem?_getD,q _ p,List.getD_eq_getElem?_getD]
    have s:k<ops.size:=(Array.getElem?_eq_some_iff.1 ar).1;have d:ops[e.on]? =some ops[e.on]:=Array.getElem?_eq_getElem Ω;rw[hm]at a;exact n e.on Ω _ d (fun l i m=>r e.on _ d (f e he h) l i m) j a
   ·rw[List.getD_eq_getElem?_getD,qQ Ω]at a;simp at a
def aaw{m:Nat}{h:ds}:∀{gs:List ds} {i0:Nat},Fb m h i0 gs=true->∀i g,gs[i]? =some g->m.testBit (i0+i)=true\/AW g h=true
 |[],i0,_,i,g,be=>by simp at be
 |b::r,i0,a,0,g,be=>by simp only[Fb,cP,n2]at a;simp only[List.getElem?_cons_zero,dS]at be;subst be;simpa using a.1
 |b::r,i0,a,i+1,g,be=>by simp only[Fb,cP]at a;have:=aaw a.2 i g (by simpa using be);rwa[show i0+1+i=i0+(i+1)from by omega]at this
def YW:∀{gs pre:List ds} {ms:List Nat},EU pre gs ms=true->∀j h,gs[j]? =some h->∀i g,i<pre.length+j->(pre++gs)[i]? =some g->(ms.getD j 0).testBit i=true\/AW g h=true
 |[],pre,ms,_,j,h,a,_,_,_,_=>by simp at a
 |c::r,pre,[],b,j,h,a,_,_,_,_=>by simp[EU]at b
 |c::r,pre,m::ms,b,j,h,a,i,g,hi,be=>by
  simp only[EU,cP]at b;cases j with
  |zero=>simp only[List.getElem?_cons_zero,dS]at a;subst a;rw[rE Ω]at be;simpa using aaw b.1 i g be
  |succ j=>have:=YW b.2 j h (by simpa using a) i g d6 (by simpa using be);simpa using this
def TN:∀{os:List Oper} {k:Nat},Db k os=true->∀i o,os[i]? =some o->∀e∈o.after.toList,Region.binds .any e=true->e.on<k+i
 |[],k,_,i,o,ar,_,_,_=>by simp at ar
 |o'::os,k,h,0,o,ar,e,he,a=>by simp only[Db,cP,j7]at h;simp only[List.getElem?_cons_zero,dS]at ar;subst ar;have:=h.1 e he;simpa[a]using this
 |o'::os,k,h,i+1,o,ar,e,he,a=>by simp only[Db,cP]at h;have:=TN h.2 i o (by simpa using ar) e he a;omega
def Vb{N:Nat}{aS:List (Nat×eu)}{ops:List Oper}:∀{gs:List ds} {os:List Oper},k3 N aS ops gs os=true->∀(i:Nat) (g:ds),gs[i]? =some g->∃o,os[i]? =some o/\Du N aS ops g o=true
 |[],[],_,i,g,h=>by simp at h
 |[],_::_,h,_,_,_=>by simp[k3]at h
 |_::_,[],h,_,_,_=>by simp[k3]at h
 |a::gs,o::os,h,0,g,be=>by simp only[k3,cP]at h;simp only[List.getElem?_cons_zero,dS]at be;subst be;exact⟨o,Ψ,h.1⟩
 |a::gs,o::os,h,i+1,g,be=>by simp only[k3,cP]at h;obtain⟨o',J,U⟩:=Vb h.2 i g (by simpa using be);exact⟨o',by simpa using J,U⟩
def LU{N:Nat}{aS:List (Nat×eu)}{ops:List Oper}:∀{gs:List ds} {os:List Oper},k3 N aS ops gs os=true->gs.length=os.length
 |[],[],_=>rfl
 |[],_::_,h=>by simp[k3]at h
 |_::_,[],h=>by simp[k3]at h
 |g::gs,o::os,h=>by simp only[k3,cP]at h;simp[LU h.2]
def aag{l:Array Bool}:∀(gs:List ds) (k:Nat),rem l k gs=[]\/ ∃i g,i<gs.length/\gs[i]? =some g/\l.getD (k+i) false=false/\∀j,j<i->l.getD (k+j) false=true
 |[],_=>.inl rfl
 |g::r,k=>by
  by_cases h:l.getD k false=true
  ·rcases aag (l:=l) r (k+1)with J|⟨i,a,J,U,b,d⟩
   ·left;simp only[rem,h,if_true,J]
   ·refine .inr ⟨i+1,a,by simp;omega,by simpa using U,by rw[show k+(i+1)=k+1+i from by omega];exact b,fun j c=>?_⟩;cases j with
    |zero=>simpa using h
    |succ j=>rw[show k+(j+1)=k+1+j from by omega];exact d j Ω
  ·exact .inr ⟨0,g,Ψ,Ψ,by simpa using h,fun j c=>Ω⟩
def acV{P:cG}{aS:List (Nat×eu)}(aM:hW P aS=true){C:fh}{q:Bool}{n0:Nat}{ops:Array Oper}{gs:List ds}(M:k3 C.N aS ops.toList gs ops.toList=true)(V:CU gs ops.toList=true){K:dB->Prop}{Q:Exit->Act->World->Prop}
  (W:∀A a w,K A->yt C A a w->Q .normal a w):∀(fuel:Nat) (b:Array Bool) (A:dB) (a:Act) (w:World),b.size=ops.size->Qw ops b->(rem b 0 gs).length<=fuel->wW P q n0 K (rem b 0 gs) A->yt C A a w->wpAny P .any ops Q fuel b a w:=by
 simp only[CU,cP]at V;obtain⟨L4,t⟩:=V;have hlen:gs.length=ops.size:=by simpa using LU M
 have S:∀(b:Array Bool) (A:dB) (a:Act) (w:World),b.size=ops.size->wW P q n0 K (rem b 0 gs) A->yt C A a w->Region.ready .any ops b=[]->Q .normal a w:=by
  intro b A a w m d j p;rcases aag (l:=b) gs 0 with h|⟨i,g,J,U,c,aY⟩
  ·rw[h]at d;exact W A a w d j
  ·exfalso;have hi:i<ops.size:=Ω
   have L:i∈Region.ready .any ops b:=by
    unfold Region.ready;simp only[oL,List.mem_range,cP,sv];refine⟨hi,?_,?_⟩
    ·rw[Nat.zero_add]at c;simp only[Array.getD_eq_getD_getElem?]at c⊢;rw[Array.getElem?_eq_getElem Ω]at c⊢;simpa using c
    ·rw[Array.getElem?_eq_getElem hi];simp only[pn,mK];rw[<-Array.all_toList,j7];intro e he;by_cases f:Region.binds .any e=true
     ·have bN:=TN L4 i ops[i] (by simp[hi]) e he f;have:=aY e.on Ω;rw[Nat.zero_add]at this;simp[this]
     ·simp[f]
   rw[p]at L;simp at L
 intro fuel;induction fuel with
 |zero=>
  intro b A a w m z B d j;have Hp:rem b 0 gs=[]:=List.eq_nil_of_length_eq_zero Ω;have p:Region.ready .any ops b=[]:=by
   rw[List.eq_nil_iff_forall_not_mem];intro i hi;unfold Region.ready at hi;simp only[oL,List.mem_range,cP,sv]at hi;obtain⟨J,U,_⟩:=hi;have E:b.getD i false=false:=by simp only[Array.getD_eq_getD_getElem?]at U⊢;rw[Array.getElem?_eq_getElem Ω]at U⊢;simpa using U
   obtain⟨G,H,g,_,n,_⟩:=Pd Ω E gs 0 Ω Ω;rw[Hp]at n;simp at n
  exact⟨p,S b A a w m d j p⟩
 |succ fuel Y=>
  intro b A a w m z B d j;refine⟨S b A a w m d j,fun i hi=>?_⟩;unfold Region.ready at hi;simp only[oL,List.mem_range,cP,sv]at hi;obtain⟨J,U,c⟩:=hi;have E:b.getD i false=false:=by simp only[Array.getD_eq_getD_getElem?]at U⊢;rw[Array.getElem?_eq_getElem Ω]at U⊢;simpa using U
  have ar:ops[i]? =some ops[i]:=Array.getElem?_eq_getElem J;have R:∀e∈ops[i].after.toList,Region.binds .any e=true->b.getD e.on false=true:=by rw[ar]at c;simp only[pn,mK]at c;rw[<-Array.all_toList,j7]at c;intro e he f;simpa[f]using c e he
  obtain⟨G,H,g,s,n,N,O⟩:=Pd Ω E gs 0 Ω Ω;simp only[Nat.sub_zero]at s O;rw[n]at d;obtain⟨x,Z,u⟩:=Q9 G H A (fun y aL=>by
   obtain⟨f1,f2,f3,f4⟩:=O y aL;rcases YW t i g s y.1 y.2 (by simpa using f3) (by simpa using f1)with h|h
   ·have:=aly z i ops[i] ar R y.1 h;rw[f4]at this;cases this
   ·exact h) d
  obtain⟨o',g1,g2⟩:=Vb M i g s;have:o'=ops[i]:=by rw[ve,ar]at g1;exact(e7 g1).symm
  subst this;refine acv aM ar g2 Z j fun bs w' X=>?_;refine Y (b.setIfInBounds i true) (A.do x) bs w' (by simpa using m) ?_ ?_ (by rw[N];exact u) X
  ·intro k o v r e he f;rw[G2 Ω]at r⊢;split
   ·rfl
   ·by_cases F:i=k
    ·subst F;rw[ar]at v;cases v;exact R e he f
    ·rw[if_neg F]at r;exact z k o v r e he f
  ·rw[N];rw[n]at B;simp at B⊢;omega
def o0(n0 d:Nat)(st:bo):Prop:= .loc (n0+d)∉st.o/\ad (.loc (n0+d)) st.b=none/\ad (.loc (n0+d)) st.e=none
def gL.loadO(q:Bool)(t:List (Nat×af)):gL->Prop
 | .load _ _ x=>q=true\/zp (cD t x)=true
 | .loadB _ _ _=>True
 | .mgetB _ _ _ _ _=>True
 | .mget _ _ _ _ _=>q=true
 | .ment _=>q=true
 | .mlen _=>q=true
 |_=>True
def mU(q:Bool)(nw:List Nat)(n0:Nat)(st:bo):eT->Prop
 | .v _ i=>i.loadO q st.t
 | .box d none _=>o0 n0 d st
 | .alloc d none _=>o0 n0 d st
 | .box _ (some _) _=>et
 | .alloc _ (some _) _=>et
 | .store _ x _=>match cD st.t x with| .ptr _ _=>True|_=>et
 | .bslm _ _ _ _ _=>et
 | .mks _ _ _ _ _ _=>et
 | .appm _ _ _ _ x _=>match cD st.t x with| .row _ _ _=>True|_=>et
 | .storeE _ _ _=>True
 | .mkmap _ none=>et
 | .mkmap _ (some m)=>m∈nw/\ad (.obj m) st.b=none/\ad (.obj m) st.e=none
 | .mput _ _ _ _=>True
 | .range _ _ _=>et
 | .bsl d _ _ _=>o0 n0 d st
 | .app d _ _ x _=>match cD st.t x with
  | .slice _ .nil _=>o0 n0 d st
  | .slice _ (.own k) _=>(ad k st.e).bind (·.xs)=none
  |_=>True
def qf(n0:Nat):eT->aA
 | .mkmap _ (some m)=>.obj m
 | .v d _| .box d _ _| .alloc d _ _| .bsl d _ _ _| .app d _ _ _ _| .bslm d _ _ _ _| .appm d _ _ _ _ _| .mkmap d _| .range d _ _| .mks d _ _ _ _ _=>.loc (n0+d)
 | .store _ _ _| .mput _ _ _ _| .storeE _ _ _=>.loc n0
def ak1(nw:List Nat)(st:bo)(s a:cQ)(rm:bc aA):Prop:=(∀k,(ad k a.b).isSome->(ad k s.b).isSome\/rm=some k)/\(∀k,(ad k a.e).isSome->(ad k s.e).isSome\/rm=some k)/\(∀k,(ad k s.b).isSome->(ad k a.b).isSome)/\(∀k,(ad k s.e).isSome->(ad k a.e).isSome)/\
 (∀k,rm=some k->(∃j,j∈nw/\k= .obj j)/\ad k st.b=none/\ad k st.e=none/\((ad k a.b).isSome\/(ad k a.e).isSome))
def hn(P:cG)(q:Bool)(nw:List Nat)(n:Nat)(args:List af)(st:bo)(d:bc Nat)(K:bo->Prop):Prop:=
 (∃cS r,d=some cS/\o0 st.n cS st/\aH (fun _=>et) args/\tU P n (st.n+cS) args ⟨[],[]⟩ (fun b t'=>b=r/\t'=⟨[],[]⟩)/\K {st with t:=put cS r st.t,o:= .loc (st.n+cS)::st.o})\/
 ∃s a r rm,hx (aK s) s.b st.b/\p2 (aK s) s.e st.e/\hV s/\hV a/\ak1 nw st s a rm/\aH (aK s) args/\bD P n args s (fun b t'=>b=r/\t'=a)/\(q=true->a.b=[]/\a.e=[])/\K {after st s a d r with o:=st.o}
def k2(P:cG)(q:Bool)(nw:List Nat)(n0:Nat)(st:bo)(K:bo->Prop):eO->Prop
 | .s i=>match fc (qf n0 i) st.n (qf n0 i::st.o) st i with
  |some (c,st')=>mU q nw n0 st i/\c/\K st'
  |none=>et
 | .call d f xs=>match cD st.t f with
  | .func n dE=>hn P q nw n (cf (xs.map (cD st.t)++dE)) st d K
  |_=>et
 | .next _ _=>et
def iN(P:cG)(q:Bool)(nw:List Nat)(n0:Nat):List ds->bo->(bo->Prop)->Prop
 |[],st,K=>K st
 |⟨none,i⟩::r,st,K=>k2 P q nw n0 st (fun st'=>iN P q nw n0 r st' K) i
 |⟨some (s,want),i⟩::r,st,K=>match get s st.t with
  | .bool b=>(b=want->k2 P q nw n0 {st with t:=put s (.bool want) st.t} (fun st'=>iN P q nw n0 r st' K) i)/\(b= !want->iN P q nw n0 r {st with t:=e3 i.dst (.tuple []) (put s (.bool !want) st.t)} K)
  | .tuple []=>iN P q nw n0 r {st with t:=e3 i.dst (.tuple []) st.t} K
  |_=>et
structure tT (nw:List Nat) (n0 N:Nat) (qG:List aA) (st:bo) (A:dB):Prop where
 like:me st A
 n:st.n=n0
 F:∀k,fresh n0 st.o k->(∀j∈nw,k≠ .obj j)->A.F k
 o:∀k∈st.o,k∈qG\/(∃d,d<N/\k= .loc (n0+d))\/ ∃j∈nw,k= .obj j
def CO(nw:List Nat)(A:dB):Prop:= ∀j∈nw,A.b (.obj j)=none->A.e (.obj j)=none->A.F (.obj j)
def CO.do{P:cG}{q:Bool}{n0:Nat}{nw:List Nat}{A:dB}(h:CO nw A){g:ds}{x:lB}(k:lC P q n0 g A x):CO nw (A.do x):=by
 intro j i c he;refine⟨h j i (K7 c) (K8 he),fun f=>?_⟩;rcases(P1 k).r _ f with⟨d,_,e⟩|⟨_,_,a⟩
 ·cases e
 ·rcases a with a|a
  ·obtain⟨y,b⟩:=fA.1 a;simp[dB.do,jo,b]at c
  ·obtain⟨y,b⟩:=fA.1 a;simp[dB.do,jo,b]at he
def TX{P:cG}{q:Bool}{nw:List Nat}{n0 N:Nat}{qG:List aA}{i:eO}(F:∀d,i.dst=some d->d<N){st:bo}{A:dB}(h:tT nw n0 N qG st A)(mW:CO nw A){K:bo->Prop}(he:k2 P q nw n0 st K i):∃x st',eW P q n0 i A x/\K st'/\tT nw n0 N qG st' (A.do x):=by
 have a:=h.like;have Q:∀d,o0 n0 d st->(A.F (.loc (n0+d))/\A.b (.loc (n0+d))=none/\A.e (.loc (n0+d))=none):=fun d w=>⟨h.F _ ⟨Ψ,w.1⟩ (fun _ _ e=>by cases e),by rw[<-a.b];exact w.2.1,by rw[<-a.e];exact w.2.2⟩;have H:∀(d:bc Nat) (p:af) (bw:List (aA×List af)) (ew:List (aA×dT)) (κ:aA),∀k,fresh n0 (κ::st.o) k->(∀j∈nw,k≠ .obj j)->(A.do ⟨d,p,bw,ew,some κ⟩).F k:=fun d p bw ew κ k b B=>⟨h.F k (w4 k b).1 B,fun e=>(w4 k b).2 (e7 e).symm⟩;have G:∀(d:bc Nat) (p:af) (bw:List (aA×List af)) (ew:List (aA×dT)),∀k,fresh n0 st.o k->(∀j∈nw,k≠ .obj j)->(A.do ⟨d,p,bw,ew,none⟩).F k:=fun d p bw ew k b B=>⟨h.F k b B,Ψ⟩;have R:∀d,d<N->∀k∈aA.loc (n0+d)::st.o,k∈qG\/(∃d,d<N/\k= .loc (n0+d))\/ ∃j∈nw,k= .obj j:=fun d F k b=>by
  rcases gK.1 b with rfl|b
  ·exact .inr (.inl ⟨d,F,rfl⟩)
  ·exact h.o k b
 cases i with
 |s i=>
  cases i with
  |v d i=>
   simp only[k2,fc]at he;cases l:hX st i with
   |none=>simp[l]at he
   |some K4=>
    obtain⟨c,p⟩:=K4;simp only[l]at he;obtain⟨J,U,g⟩:=he;refine⟨⟨some d,p,[],[],none⟩,_,⟨c,p,by rw[<-abA a];exact l,U,fun o2=>?_,rfl⟩,g,NC a d p,h.n,G _ _ _ _,h.o⟩;cases i<;>simp only[gL.isLoad]at o2<;>try(cases o2;done)
    case mget=>exact .inr (.inl J)
    case ment=>exact .inr (.inl J)
    case mlen=>exact .inr (.inl J)
    case loadB=>exact .inl rfl
    case mgetB=>exact .inl rfl
    simp only[mU,gL.loadO,jB a]at J;exact .inr (by simpa only[gL.ptrOf]using J)
  |box d key v=>
   cases key with
   |some m=>simp only[k2,fc,mU,false_and]at he
   |none=>simp only[k2,fc,mU,qf]at he;obtain⟨J,U,g⟩:=he;rw[jB a]at U;refine⟨_,_,⟨Q d J,U,rfl⟩,g,?_,h.n,H _ _ _ _ _,R d (F d rfl)⟩;rw[jB a];exact BJ a d _ _ _ _ _ _
  |alloc d key z=>
   cases key with
   |some m=>simp only[k2,fc,mU,false_and]at he
   |none=>simp only[k2,fc,mU,qf]at he;obtain⟨J,U,g⟩:=he;exact⟨_,_,⟨Q d J,rfl⟩,g,BJ a d _ _ _ _ _ _,h.n,H _ _ _ _ _,R d (F d rfl)⟩
  |store sz u v=>
   simp only[k2,fc]at he;cases hu:cD st.t u with
   |ptr k off=>
    cases E:ad k st.b with
    |none=>simp[hu,E]at he
    |some cs=>simp only[hu,E]at he;obtain⟨J,U,g⟩:=he;rw[jB a]at U hu;refine⟨⟨none,.junk,[(k,nq cs off (cells (dV A.t v)))],[],none⟩,_,⟨k,off,cs,hu,by rw[<-a.b];exact E,U,rfl⟩,g,?_,h.n,G _ _ _ _,h.o⟩;rw[jB a];exact H6 a k _ _
   |_=>
    exfalso;simp only[hu]at he;split at he
    ·have:=he.1;simp[mU,hu]at this
    ·exact he
  |bsl d sz el xs=>simp only[k2,fc,mU,qf]at he;obtain⟨J,U,g⟩:=he;rw[vF a]at U;refine⟨_,_,⟨Q d J,U,rfl⟩,g,?_,h.n,H _ _ _ _ _,R d (F d rfl)⟩;rw[vF a];exact xK a d _ _ _ _ _ _
  |app d sz el u v=>
   simp only[k2,fc]at he;cases hu:cD st.t u with
   |slice L tag xs=>
    cases l:cD st.t v with
    |slice Z Y ys=>
     simp only[hu,l]at he;by_cases S:L=sz/\Z=sz
     ·obtain⟨rfl,rfl⟩:=S;rw[jB a]at hu l;cases tag with
      |no=>simp at he
      |tr k j=>simp at he
      |lo k=>simp at he
      |nil=>simp only[and_self,if_true,mU,jB a,hu,qf]at he;obtain⟨J,U,g⟩:=he;exact⟨_,_,⟨.nil,xs,Y,ys,hu,l,.inr ⟨rfl,U,Q d J,rfl⟩⟩,g,xK a d _ _ _ _ _ _,h.n,H _ _ _ _ _,R d (F d rfl)⟩
      |own k=>
       cases b:ad k st.e with
       |none=>simp[b]at he
       |some o=>simp only[and_self,if_true,b]at he;obtain⟨J,U,g⟩:=he;exact⟨_,_,⟨.own k,xs,Y,ys,hu,l,.inl ⟨k,o,rfl,by rw[<-a.e];exact b,⟨by simpa[mU,jB a,hu,b]using J,U⟩,rfl⟩⟩,g,xK a d _ _ _ _ _ _,h.n,G _ _ _ _,h.o⟩
     ·simp[S]at he
    |_=>simp[hu,l]at he
   |_=>simp[hu]at he
  |bslm d key sz el xs=>simp only[k2,fc,mU,false_and]at he
  |mks d key sz el z x=>simp only[k2,fc,mU,false_and]at he;split at he<;>simp at he
  |appm d key sz el u v=>
   simp only[k2,fc]at he;cases hu:cD st.t u with
   |row L k n=>
    cases l:cD st.t v with
    |slice Z Y ys=>
     simp only[hu,l,uc]at he;by_cases S:L=sz/\Z=sz
     ·obtain⟨rfl,rfl⟩:=S;rw[jB a]at hu l;simp only[and_self,if_true]at he;cases b:ad k st.e with
      |none=>simp[b]at he
      |some o=>
       obtain⟨n',gF,M,OC⟩:=o;cases OC with
       |none=>simp[b]at he
       |some xs=>
        simp only[b]at he;by_cases O:n'=n/\gF=el/\M=Z
        ·obtain⟨rfl,rfl,rfl⟩:=O;simp only[and_self,if_true]at he;obtain⟨J,U,g⟩:=he;exact⟨_,_,⟨k,n',xs,Y,ys,hu,l,by rw[<-a.e];exact b,U,rfl⟩,g,xK a d _ _ _ _ _ _,h.n,G _ _ _ _,h.o⟩
        ·simp[O]at he
     ·simp[S]at he
    |_=>simp[hu,l,uc]at he
   |slice L tag xs=>
    exfalso;simp only[hu]at he;split at he
    ·have:=he.1;simp[mU,hu]at this
    ·exact he
   |_=>simp[hu,uc]at he
  |storeE sz u v=>
   simp only[k2,fc]at he;cases hu:cD st.t u with
   |rptr L k n i f=>
    cases b:ad k st.e with
    |none=>simp[hu,sk,b]at he
    |some o=>
     obtain⟨n',el,M,OC⟩:=o;cases OC with
     |none=>simp[hu,sk,b]at he
     |some xs=>
      simp only[hu,sk,b]at he;by_cases O:n'=n/\M=L
      ·obtain⟨rfl,rfl⟩:=O;simp only[and_self,if_true]at he;cases bP:xs[i]? with
       |none=>simp[bP]at he
       |some q=>simp only[bP]at he;obtain⟨J,U,g⟩:=he;rw[jB a]at U hu;refine⟨⟨none,.junk,[],[(k,⟨n',el,M,some (xs.set i (nY q f (cells (dV A.t v))))⟩)],none⟩,_,⟨k,n',i,f,el,M,xs,q,hu,by rw[<-a.e];exact b,bP,U,rfl⟩,g,?_,h.n,G _ _ _ _,h.o⟩;rw[jB a];exact Xv a k _ _
      ·simp[O]at he
   |_=>simp[hu,sk]at he
  |mkmap d key=>
   cases key with
   |none=>simp only[k2,fc,mU,false_and]at he
   |some m=>
    simp only[k2,fc,mU,qf]at he;obtain⟨⟨bz,J,U⟩,_,g⟩:=he;rw[a.b]at J;rw[a.e]at U;refine⟨_,_,⟨⟨mW m bz J U,J,U⟩,rfl⟩,g,BJ a d _ _ _ _ _ _,h.n,H _ _ _ _ _,fun k b=>?_⟩;rcases gK.1 b with rfl|b
    ·exact .inr (.inr ⟨m,bz,rfl⟩)
    ·exact h.o k b
  |mput cv u k v=>
   simp only[k2,fc,mU]at he;cases hu:cD st.t u with
   |gmap m=>
    cases E:ad m st.b with
    |none=>simp[hu,E]at he
    |some cs=>
     cases hm:qF cv (cD st.t k) (cD st.t v) cs with
     |none=>simp[hu,E,hm]at he
     |some cs'=>simp only[hu,E,hm]at he;rw[jB a]at hu;rw[jB a,jB a]at hm;exact⟨⟨none,.junk,[(m,cs')],[],none⟩,_,⟨m,cs,cs',hu,by rw[<-a.b];exact E,hm,rfl⟩,he.2.2,H6 a m _ _,h.n,G _ _ _ _,h.o⟩
   |_=>simp[hu]at he
  |range d key x=>simp only[k2,mU,false_and]at he;split at he<;>exact he.elim
 |next d x=>simp only[k2]at he
 |call d f xs=>
  simp only[k2]at he;cases w:cD st.t f with
  |func n dE=>
   simp only[w]at he;rw[jB a]at w;rcases he with⟨cS,r,rfl,bO,V,dh,h3⟩|⟨s,W,r,rm,bO,V,dh,h3,mR,qe,C0,adq,adr⟩
   ·rw[vF a]at V dh;have X:=h.n;subst X;refine⟨⟨some cS,r,[],[],some (.loc (st.n+cS))⟩,_,⟨n,dE,w,.inr ⟨cS,r,rfl,Q cS bO,V,dh,rfl⟩⟩,h3,Xw a cS r _ _,rfl,H _ _ _ _ _,R cS (F cS rfl)⟩
   rw[vF a]at qe C0;obtain⟨bj,bY,cE,fv,dz⟩:=mR;refine⟨⟨d,r,W.b,W.e,rm⟩,_,⟨n,dE,w,.inl ⟨⟨s,W,r,rm,fun k cs b=>⟨by rw[<-a.b];exact(bO k cs b).1,(bO k cs b).2.2⟩,fun k o b=>⟨by rw[<-a.e];exact(V k o b).1,(V k o b).2.2⟩,dh,h3,⟨bj,bY,cE,fv,fun k b=>?_⟩,qe,C0,rfl⟩,adq⟩⟩,adr,⟨fun i=>?_,fun k=>?_,fun k=>?_⟩,h.n,fun k b B=>⟨h.F k b B,fun rW=>?_⟩,h.o⟩
   ·obtain⟨⟨j,B,rfl⟩,aC,bh,b2⟩:=dz k b;rw[a.b]at aC;rw[a.e]at bh;exact⟨⟨j,rfl⟩,mW j B aC bh,aC,bh,b2⟩
   ·simp only[after,dB.do];cases d with
    |none=>simpa[e3]using a.t i
    |some d=>simp only[e3,ql,dS,a.t]
   ·simp only[after,dB.do,jo,nS,tp];by_cases t:(ad k s.b).isSome
    ·have:=cE k t;obtain⟨y,aL⟩:=fA.1 this;simp[t,aL]
    ·cases X:ad k W.b with
     |none=>simp only[t,a.b];cases A.b k<;>simp
     |some y=>
      rcases bj k (by simp[X])with h|h
      ·exact absurd h t
      ·have:=dz k h;simp[t,this]
   ·simp only[after,dB.do,jo,nS,tp];by_cases t:(ad k s.e).isSome
    ·have:=fv k t;obtain⟨y,aL⟩:=fA.1 this;simp[t,aL]
    ·cases X:ad k W.e with
     |none=>simp only[t,a.e];cases A.e k<;>simp
     |some y=>
      rcases bY k (by simp[X])with h|h
      ·exact absurd h t
      ·have:=dz k h;simp[t,this]
   ·obtain⟨⟨j,kg,rfl⟩,_⟩:=dz k rW;exact B j kg rfl
  |_=>simp[w]at he
def AI(N:Nat):List ds->Bool
 |[]=>true
 |g::r=>j4 N g.i.dst&&AI N r
def Af:Nat->List ds->List (Nat×ds)
 |_,[]=>[]
 |k,g::r=>(k,g)::Af (k+1) r
def QO{nw:List Nat}{n0 N:Nat}{a:List aA}{st:bo}{A:dB}(h:tT nw n0 N a st A){s:Nat}{p:af}(b:get s st.t=p):tT nw n0 N a {st with t:=put s p st.t} A:=by
 refine⟨⟨fun i=>?_,h.like.b,h.like.e⟩,h.n,h.F,h.o⟩;simp only[ql];split
 ·rename_i e;subst e;rw[<-b];exact h.like.t _
 ·exact h.like.t i
def QP{nw:List Nat}{n0 N:Nat}{a:List aA}{st:bo}{A:dB}(h:tT nw n0 N a st A)(d:bc Nat):tT nw n0 N a {st with t:=e3 d (.tuple []) st.t} (A.do (l8 d)):=by
 refine⟨⟨fun i=>?_,fun k=>?_,fun k=>?_⟩,h.n,fun k c b=>⟨h.F k c b,by simp[l8]⟩,h.o⟩
 ·simp only[dB.do,l8];cases d with
  |none=>simpa[e3]using h.like.t i
  |some d=>simp only[e3,ql,dS,h.like.t]
 ·simpa[dB.do,jo,ad,l8]using h.like.b k
 ·simpa[dB.do,jo,ad,l8]using h.like.e k
def Df{P:cG}{q:Bool}{nw:List Nat}{n0 N:Nat}{l:List aA}{K:bo->Prop}:∀(gs:List ds) (k:Nat),AI N gs=true->∀(st:bo) (A:dB),tT nw n0 N l st A->CO nw A->iN P q nw n0 gs st K->wW P q n0 (fun o=> ∃st',K st'/\tT nw n0 N l st' o) (Af k gs) A
 |[],k,_,st,A,h,_,he=>⟨st,he,h⟩
 |⟨n,i⟩::r,k,f,st,A,h,a,he=>by
  simp only[AI,cP]at f;have j:∀d,i.dst=some d->d<N:=fun d e=>by have:=f.1;rw[e]at this;simpa[j4]using this
  simp only[Af,wW];cases n with
  |none=>simp only[iN]at he;obtain⟨x,st',J,U,g⟩:=TX j h a he;have be:lC P q n0 ⟨none,i⟩ A x:=J;exact⟨x,be,Df r (k+1) f.2 st' _ g (a.do be) U⟩
  |some m=>
   obtain⟨s,want⟩:=m;simp only[iN]at he;split at he
   ·rename_i b c;by_cases e:b=want
    ·subst e;obtain⟨x,st',J,U,g⟩:=TX j (QO h c) a (he.1 rfl);have be:lC P q n0 ⟨some (s,b),i⟩ A x:=by unfold lC;simp only[<-h.like.t,c];exact .inl ⟨trivial,J⟩
     exact⟨x,be,Df r (k+1) f.2 st' _ g (a.do be) U⟩
    ·have p:b= !want:=by cases b<;>cases want<;>simp at e⊢
     subst p;have be:lC P q n0 ⟨some (s,want),i⟩ A (l8 i.dst):=by unfold lC;simp only[<-h.like.t,c];exact .inr ⟨trivial,trivial⟩
     exact⟨l8 i.dst,be,Df r (k+1) f.2 _ _ (QP (QO h c) i.dst) (a.do be) (he.2 rfl)⟩
   ·rename_i c;have be:lC P q n0 ⟨some (s,want),i⟩ A (l8 i.dst):=by unfold lC;simp only[<-h.like.t,c]
    exact⟨l8 i.dst,be,Df r (k+1) f.2 _ _ (QP h i.dst) (a.do be) he⟩
   ·exact he.elim
def Pc:∀(gs:List ds) (l:Array Bool) (k:Nat),(∀j,l.getD j false=false)->rem l k gs=Af k gs
 |[],_,_,_=>rfl
 |g::r,l,k,h=>by simp only[rem,h k,Af,Pc r l (k+1) h];simp
def vk(n:Nat)(o:List aA)(K:bo->Prop)(st:bo):Prop:=K {st with n:=n,o:=o}
def Good.like{pr:Nat->Prop}{w:World}{ν:a8}{b b7:List (aA×List af)}{e d:List (aA×dT)}(h:Good pr w ν b e)(a:∀k,ad k b7=ad k b)(he:∀k,ad k d=ad k e):Good pr w ν b7 d:=
 ⟨h.alt,fun k cs i=>h.box k cs (by rw[<-a];exact i),fun k bt bl J U=>h.inj k bt bl (by rw[<-a];exact J) (by rw[<-a];exact U),fun g o be=>h.own g o (by rw[<-he];exact be),
  fun g f n n' v v' bl J U=>h.oinj g f n n' v v' bl (by rw[<-he];exact J) (by rw[<-he];exact U),fun g k n v bl J U=>h.obx g k n v bl (by rw[<-he];exact J) (by rw[<-a];exact U),h.one,
  fun bl j=>h.otr bl (j.imp (fun⟨k,c,a2⟩=>⟨k,by rw[<-a];exact c,a2⟩) (fun⟨g,n,v,c,a2⟩=>⟨g,n,v,by rw[<-he];exact c,a2⟩))⟩
def TZ{P:cG}(hm:P.follows .mixedOrders=true){aS:List (Nat×eu)}(J:hW P aS=true){C:fh}{q:Bool}{nw:List Nat}{id:Nat}{ops:Array Oper}{gs:List ds}(u:k3 C.N aS ops.toList gs ops.toList=true)(M:CU gs ops.toList=true)(E:AI C.N gs=true)
  {K:bo->Prop} {Q:Exit->Act->World->Prop} (B:∀st' bs w' bm,K st'->c5 C st' bs w' bm->Q .normal bs w') {st:bo} {a:Act} {w:World} {ν:a8} (s:∀j∈nw,.obj j∉st.o) (he:iN P q nw st.n gs st (vk (st.n+C.N) (nw.map aA.obj++st.o) K)) (L:c5 C st a w ν):(Code.region id ops true).wp P Q a w:=by
 refine wp_region_any hm ?_;have F:c5 C st a {w with drawn:=w.drawn+1} ν:=L.drawn _;let A:dB:=⟨fun i=>get i st.t,fun k=>ad k st.b,fun k=>ad k st.e,fresh st.n st.o⟩
 have t:tT nw st.n C.N st.o st A:=⟨⟨fun _=>rfl,fun _=>rfl,fun _=>rfl⟩,rfl,fun k b _=>b,fun k b=>.inl b⟩;have y:=Df gs 0 E st A t (fun j m _ _=>⟨trivial,s j m⟩) he;have p:∀j,(Array.replicate ops.size false).getD j false=false:=fun j=>by simp[Array.getD_eq_getD_getElem?,Array.getElem?_replicate];split<;>rfl
 refine acV J u M (q:=q) (n0:=st.n) (K:=fun v=> ∃st',vk (st.n+C.N) (nw.map aA.obj++st.o) K st'/\tT nw st.n C.N st.o st' v) ?_ ops.size _ A a _ Ψ ?_ ?_ (by rw[Pc gs _ 0 p];exact y) ⟨st,ν,t.like,fun k b=>b,F⟩
 ·rintro v bs w' ⟨st',b,l⟩ ⟨H,bm,n,N,c⟩;refine B _ bs w' bm b ⟨c.good.like (fun k=>by rw[n.b,<-l.like.b]) (fun k=>by rw[n.e,<-l.like.e]),c.fr,c.defers,c.size,fun i=>?_,fun k f=>?_⟩
  ·have:=c.slot i;rw[n.t,<-l.like.t]at this;exact this
  ·refine c.new k (N k (l.F k ?_ fun j m e=>f.2 (by subst e;exact List.mem_append_left _ (List.mem_map_of_mem m))));simp only at f;refine⟨(LI (Nat.le_add_right st.n C.N) (fun _ h=>h) f).1,fun z=>?_⟩;rcases l.o k z with h|⟨d,O,rfl⟩|⟨j,m,rfl⟩;rotate_left 2
   ·exact f.2 (List.mem_append_left _ (List.mem_map_of_mem m))
   ·exact f.2 (List.mem_append_right _ h)
   ·have:=f.1;simp at this;omega
 ·intro k o b x;rw[p]at x;cases x
 ·rw[Pc gs _ 0 p];have:∀(gs:List ds) k,(Af k gs).length=gs.length:=by
   intro gs;induction gs with
   |nil=>intro k;rfl
   |cons g r G=>intro k;simp[Af,G]
  rw[this];have:=LU u;simp at this;omega
def eQ:List af->Prop
 |[]=>True
 |p::a=>(match p with| .slice _ _ xs=>xs.length<=lim| .str s=>s.length<=lim|_=>True)/\eQ a
def eU:af->Prop
 | .slice _ _ xs=>xs.length<=lim
 | .str s=>s.length<=lim
 | .agg cs=>eQ cs
 |_=>True
def eP:List af->Prop
 |[]=>True
 |p::r=>eU p/\eP r
def Ph{w:World}{ν:a8}:∀{cs:List af} {us:List Value},cU w ν cs us->eQ cs
 |[],_,_=>trivial
 |c::cs,us,h=>by
  simp only[cU]at h;obtain⟨u,e,_,J,U⟩:=h;refine⟨?_,Ph U⟩;cases c<;>simp only<;>have b:=J.1<;>simp only[aU]at b
  ·exact b.2
  ·obtain⟨⟨a,cap,_,_,d,_⟩,_⟩:=b;exact d.2
def Pe{w:World}{ν:a8}{cs:List af}{us:List Value}(h:kW w ν cs us):gR cs=true->eQ cs:=fun a=>by rw[pa a]at h;exact Ph h
def aar{w:World}{ν:a8}{p:af}{v:Value}(h:aU w ν p v):eU p:=by
 cases p<;>simp only[eU]<;>simp only[aU]at h
 ·exact h.2
 ·obtain⟨⟨a,cap,_,_,b,_⟩,_⟩:=h;exact b.2
 ·obtain⟨us,_,U⟩:=h;exact Ph U
def Pj{w:World}{ν:a8}:∀{cs:List af} {us:List Value},c1 w ν cs us->eP cs
 |[],_,_=>trivial
 |c::cs,us,h=>by simp only[c1]at h;obtain⟨u,a,_,J,U⟩:=h;exact⟨aar J,Pj U⟩
inductive C where
 |skip
 |region (gs:List ds)
 |drawn (q:Bool) (N:Nat) (gs:List ds)
 |drawnW (nw:List Nat) (N:Nat) (gs:List ds)
 |seq (a b:C)
 |cond (x:dM) (t e:C)
 |block (id:Nat) (c:C)
 |loop (c:C)
 |exit (id:Nat)
 |ret
 |pub (s:Nat) (c:C)
 |pubB (s:Nat) (c:C)
 |fg (qz:Bool) (s:Nat) (c:C)
 |fz (agg:Bool) (s:Nat) (c:C)
 |no
def EY(st:bo):af->bc (af×List (aA×dT))
 | .row sz k n=>match ad k st.e with
  |some ⟨n',el,a,some xs⟩=>if n'=n/\a=sz then some (.slice sz (.own k) xs,cH k ⟨n,el,sz,none⟩ st.e)else none
  |_=>none
 |_=>none
def xY(st:bo)(s:Nat):bc bo:=
 match EY st (get s st.t)with
 |some (p,e)=>some {st with t:=put s p st.t,e:=e}
 |none=>none
def xX(st:bo)(s:Nat):bc bo:=
 match get (s%1000) st.t with
 | .ptr k off=>match ad k st.b with
  |some cs=>match cs[off+s/1000]? with
   |some p=>match EY st p with
    |some (a,e)=>if gR cs then some {st with b:=cH k (cs.set (off+s/1000) a) st.b,e:=e}else none
    |none=>none
   |none=>none
  |none=>none
 |_=>none
def I5{C:fh}{st:bo}{a:Act}{w:World}{ν:a8}(h:c5 C st a w ν){s:Nat}{p:af}(b:aU w ν p (a.tmps.getD s undef)):c5 C {st with t:=put s p st.t} a w ν:=by
 refine⟨h.good,h.fr,h.defers,h.size,fun i=>?_,h.new⟩;have:=h.slot i;simp only[ql];split
 ·rename_i e;subst e;exact b
 ·exact this
def Y2{C:fh}{st:bo}{a:Act}{w:World}{ν:a8}(h:c5 C st a w ν){p f:af}{e:List (aA×dT)}{v:Value}(l:aU w ν p v)(he:EY st p=some (f,e)):
  ∃bm,c5 C {st with e:=e} a w bm/\aU w bm f v/\mf w ν w bm:=by
 unfold EY at he;split at he
 ·rename_i sz k n;split at he
  ·rename_i n' el A xs m;split at he
   ·rename_i aw;obtain⟨rfl,rfl⟩:=aw;cases he;simp only[aU]at l;obtain⟨_,s,n0,u,J,U,t⟩:=l;obtain⟨v0,z,d,E,B,q⟩:=h.good.own k _ m;rw[J]at d;simp only[dS,jj]at d;obtain⟨rfl,rfl⟩:=d;have y:v=u:=t rfl;subst y;obtain⟨i,_,_⟩:=q xs rfl;simp only at i;obtain⟨g1,g2⟩:=h.publish m rfl J (by rw[i];exact s);refine⟨_,g1,g2,⟨fun b o r=>⟨.inl r,rfl⟩,fun j b _ x=>x,fun g n u _ c=>⟨n,u,?_,.inl ⟨rfl,rfl⟩⟩,fun _ _ _=>rfl,fun _ _ _ _ h=>h⟩⟩;simp only[a8.withRowOf];split
    ·rename_i e;subst e;rw[J]at c;exact c
    ·exact c
   ·cases he
  ·cases he
 ·cases he
def AT(a:Bool):af->af
 | .slice sz tag xs=>.slice sz (if a then tag else .no) (cf xs)
 |p=>b5 p
def ahp{w:World}{ν:a8}{a:Bool}{p:af}{v:Value}(h:aU w ν p v):aU w ν (AT a p) v:=by
 have J:=x4 p v h;cases p with
 |slice sz tag xs=>
  simp only[AT];cases a with
  |false=>simpa only[hN,if_false,b5]using J
  |true=>
   simp only[if_true];simp only[aU,b5]at h J⊢;refine⟨J.1,fun e=>h.2.1 e,fun g e=>?_,fun k j e=>?_,fun k e=>?_⟩
   ·obtain⟨n,u,c,d,b⟩:=h.2.2.1 g e;exact⟨n,u,c,by rw[nt];exact d,by rw[nt];exact b⟩
   ·exact Dt _ _ (h.2.2.2.1 k j e)
   ·exact Dt _ _ (h.2.2.2.2 k e)
 |_=>exact J
def aoD{C:fh}{st st':bo}{a:Act}{w:World}{ν:a8}(h:c5 C st a w ν){s:Nat}(he:xY st s=some st'):∃bm,c5 C st' a w bm:=by
 unfold xY at he;split at he
 ·rename_i p e b;cases he;obtain⟨bm,J,U,_⟩:=Y2 h (h.slot s) b;exact⟨_,I5 J U⟩
 ·cases he
def aam{w:World}{ν:a8}:∀{cs:List af} {us:List Value} {i:Nat} {p q:af} {v:Value},cU w ν cs us->cs[i]? =some p->us[i]? =some v->aU w ν q v->cU w ν (cs.set i q) us
 |[],_,_,_,_,_,_,h,_,_=>by simp at h
 |c::cs,us,0,p,q,v,h,_,a,b=>by simp only[cU]at h;obtain⟨u,e,rfl,J,U⟩:=h;simp only[List.getElem?_cons_zero,dS]at a;subst a;simp only[List.set_cons_zero,cU];exact⟨_,_,rfl,⟨b,J.2⟩,U⟩
 |c::cs,us,i+1,p,q,v,h,d,a,b=>by simp only[cU]at h;obtain⟨u,e,rfl,J,U⟩:=h;simp only[List.set_cons_succ,cU];exact⟨_,_,rfl,J,aam U (by simpa using d) (by simpa using a) b⟩
def aoC{C:fh}{st st':bo}{a:Act}{w:World}{ν:a8}(h:c5 C st a w ν){s:Nat}(he:xX st s=some st'):∃bm,c5 C st' a w bm:=by
 unfold xX at he;split at he
 ·rename_i k m N;generalize m+s/1000=off at he;split at he
  ·rename_i cs d;split at he
   ·rename_i p i;split at he
    ·rename_i E e K;split at he
     ·rename_i q;cases he;obtain⟨bl,us,el,g1,g2,g3,g4,g5⟩:=h.good.box k cs d;rw[pa q]at g5;have t:off<us.toList.length:=by rw[qI g5];exact(fM.1 i).1
      obtain⟨v,z⟩:∃v,us.toList[off]? =some v:=⟨_,cl t⟩;have L:aU w ν p v:=by have:=Cl off g5;rw[lA (fM.1 i).1,lA t]at this;simp only[cU]at this;obtain⟨u,G,y,A,_⟩:=this;rw[(fM.1 i).2]at A;rw[(fM.1 z).2]at y;cases y;exact A.1
      obtain⟨bm,J,U,x⟩:=Y2 h L K;have o:cU w bm (cs.set off E) us.toList:=aam (aal x g5) i z U;have B:=wB o;refine⟨bm,⟨J.good.alt,fun j F c=>?_,fun j dg b c f=>J.good.inj j dg b ?_ ?_,J.good.own,J.good.oinj,fun g j n v b be c=>J.good.obx g j n v b be ?_,J.good.one,fun bl H=>J.good.otr bl (H.imp (fun⟨bt,l,a2⟩=>⟨bt,by rw[je]at l;split at l;(rename_i e;subst e;simp[d]);exact l,a2⟩) id)⟩,J.fr,J.defers,J.size,J.slot,J.new⟩
      ·simp only at c;rw[je]at c;split at c
       ·rename_i e;subst e;cases c;obtain⟨r,G,M,f1,f2,f3,f4,f5⟩:=J.good.box k cs d;have:r=bl:=by have:=x.bx k bl trivial g1;rw[this]at f1;cases f1;rfl
        subst this;rw[o9 q]at g4 f4;rw[g4]at f4;injection f4 with f4;injection f4 with f4 f6 f7;refine⟨r,us,el,f1,f2,f3,by rw[o9 B];exact g4,by rw[pa B];exact o⟩
       ·exact J.good.box j F c
      ·simp only at c;rw[je]at c;split at c
       ·rename_i e;subst e;simp[d]
       ·exact c
      ·simp only at f;rw[je]at f;split at f
       ·rename_i e;subst e;simp[d]
       ·exact f
      ·simp only at c;rw[je]at c;split at c
       ·rename_i e;subst e;simp[d]
       ·exact c
     ·cases he
    ·cases he
   ·cases he
  ·cases he
 ·cases he
def uf{α:Type}(k:aA)(l:List (aA×α)):List (aA×α):=match l with
 |[]=>[]
 |(i,x)::r=>if i=k then uf k r else(i,x)::uf k r
def ND{α:Type}(k j:aA):∀l:List (aA×α),ad j (uf k l)=if j=k then none else ad j l
 |[]=>by simp[uf,ad]
 |(i,x)::r=>by
  simp only[uf];by_cases h:i=k
  ·subst h;rw[if_pos rfl,ND i j r];by_cases U:j=i
   ·simp[U]
   ·have:¬i=j:=fun e=>U e.symm;simp[ad,U,this]
  ·rw[if_neg h];simp only[ad];by_cases U:i=j
   ·subst U;simp[h]
   ·simp only[U,if_false];exact ND k j r
def LK(agg:Bool):List af->bc af
 |[p]=>if agg then some (.agg [p])else some p
 |cs=>if agg then some (.agg cs)else none
def w5(st:bo)(agg:Bool)(s:Nat):bc bo:=
 match get s st.t with
 | .ptr k 0=>match ad k st.b with
  |some cs=>if gR cs then match LK agg cs with
    |some x=>some {st with t:=put s (.eptr x) st.t,b:=uf k st.b}
    |none=>none
   else none
  |none=>none
 |_=>none
def aoo{u:Value}(h:u.oneCell'=true):u.cells.toList=[u]:=by cases u<;>first|rfl|(simp[Value.oneCell']at h)
def Xl{w:World}{A:Nat->Nat->Prop}{b:Nat}{us:Array Value}{el:gT}(d:w.heap[b]? =some (.cells us el))(c:∀o,o<us.size->A b o):∀(bk:List Value) (off:Nat),us.toList.drop off=bk->kR w A b off bk
 |[],_,_=>trivial
 |v::bk,off,h=>by
  have a:off<us.toList.length:=by
   rcases Nat.lt_or_ge off us.toList.length with J|J
   ·exact J
   ·rw[List.drop_eq_nil_of_le J]at h;cases h
  have U:=lA a;rw[h]at U;injection U with U f;refine⟨⟨c off (by simpa using a),?_⟩,Xl d c bk (off+1) f.symm⟩;have e:off<us.size:=by simpa using a
  simp only[World.cell?,d,mL,hN,if_false];rw[U];simp[e]
def ahC{C:fh}{st st':bo}{a:Act}{w:World}{ν:a8}(h:c5 C st a w ν){agg:Bool}{s:Nat}(he:w5 st agg s=some st'):∃bm,c5 C st' a w bm:=by
 unfold w5 at he;split at he
 ·rename_i k ab;split at he
  ·rename_i cs z;split at he
   ·rename_i H;split at he
    ·rename_i x l;cases he;obtain⟨bl,us,el,g1,g2,g3,g4,g5⟩:=h.good.box k cs z;rw[pa H]at g5;rw[o9 H]at g4;have Z:bl<w.heap.size:=by
      rcases Nat.lt_or_ge bl w.heap.size with J|J
      ·exact J
      ·rw[Array.getElem?_eq_none J]at g4;cases g4
     let bm:a8:={ν with A:=fun b o=>ν.A b o\/(b=bl/\o<us.size)}
     have ar:mf w ν w bm:=⟨fun b o c=>⟨.inl c,rfl⟩,fun j b _ d=>d,fun g n u _ Q=>⟨n,u,Q,.inl ⟨rfl,rfl⟩⟩,fun _ _ _=>rfl,fun _ _ _ _ h=>h⟩;have L:∀j f,ad j (uf k st.b)=some f->j≠k/\ad j st.b=some f:=fun j f d=>by
      rw[ND]at d;split at d
      ·cases d
      ·rename_i e;exact⟨e,d⟩
     have t:∀j,(ad j (uf k st.b)).isSome->(ad j st.b).isSome:=fun j d=>by obtain⟨f,R⟩:=fA.1 d;simp[(L j f R).2]
     have O:∀(g:aA) (n:Nat) (v:Value),(ad g st.e).isSome->ν.ow g=some (n,v)->v.ownBlock=some bl->et:=fun g n v J U ao=>h.good.obx g k n v bl J (by simp[z]) U ao g1;have P:aU w bm (.eptr x) (a.tmps.getD s undef):=by
      have F:=h.slot s;rw[ab]at F;simp only[aU]at F⊢;obtain⟨b7,N,B⟩:=F;rw[g1]at N;cases N;have E:kR w bm.A bl 0 us.toList:=Xl g4 (fun o ar=>.inr ⟨rfl,ar⟩) _ 0 rfl;have g6:cU w bm cs us.toList:=aal ar g5;unfold LK at l;split at l
      ·rename_i p;simp only[cU]at g6;obtain⟨u,M,m,r,y⟩:=g6;subst y;split at l
       ·cases l;exact⟨bl,0,.agg us,B,by simp only[aU];exact⟨us,rfl,by rw[m];simp only[cU];exact⟨u,[],rfl,r,rfl⟩⟩,by simpa[pg]using E⟩
       ·cases l;refine⟨bl,0,u,B,r.1,?_⟩;rw[aoo r.2,<-m];exact E
      ·split at l
       ·cases l;exact⟨bl,0,.agg us,B,by simp only[aU];exact⟨us,rfl,g6⟩,by simpa[pg]using E⟩
       ·cases l
     refine⟨bm,I5 (ν:=bm) (st:={st with b:=uf k st.b}) ⟨⟨fun b o c=>?_,fun j f d=>?_,fun j dg b J U=>h.good.inj j dg b (t j J) (t dg U),fun g o be=>?_,h.good.oinj,fun g j n v b J U=>h.good.obx g j n v b J (t j U),h.good.one,fun b aM=>h.good.otr b (aM.imp (fun⟨j,Y,a2⟩=>⟨j,t j Y,a2⟩) id)⟩,⟨h.fr.os,h.fr.tape,h.fr.output,h.fr.size,h.fr.block,fun b o c=>⟨.inl (h.fr.keep b o c).1,(h.fr.keep b o c).2⟩,fun b o c=>?_,h.fr.obj,h.fr.obn,h.fr.row,h.fr.obr,h.fr.trd,h.fr.trb,h.fr.trn,h.fr.sh⟩,h.defers,h.size,fun i=>zT ar (h.slot i),h.new⟩ P⟩
     ·rcases c with c|⟨rfl,_⟩
      ·exact h.good.alt b o c
      ·exact Z
     ·obtain⟨X,K⟩:=L j f d;obtain⟨S,M,W,f1,f2,f3,f4,f5⟩:=h.good.box j f K;refine⟨S,M,W,f1,f2,fun o c=>?_,f4,rq ar f5⟩;rcases c with c|⟨rfl,_⟩
      ·exact f3 o c
      ·exact X (h.good.inj j k _ (by simp[K]) (by simp[z]) f1 g1)
     ·obtain⟨v0,V,m,r,y,b2⟩:=h.good.own g o be;have G:∀b,v0.ownBlock=some b->∀j,bm.A b j->ν.A b j:=fun b q j c=>by
       rcases c with c|⟨rfl,_⟩
       ·exact c
       ·exact(O g _ v0 (by simp[be]) m q).elim
      exact⟨v0,V,m,r,fun b q=>⟨(y b q).1,fun j c=>(y b q).2 j (G b q j c)⟩,tF ar G b2⟩
     ·rcases c with c|⟨rfl,_⟩
      ·exact h.fr.fresh b o c
      ·exact .inr g2
    ·cases he
   ·cases he
  ·cases he
 ·cases he
def tE(st:bo)(x:dM)(b:Bool):bo:=match x with
 | .t i=>{st with t:=put i (.bool b) st.t}
 | .c _=>st
def dd(P:cG)(ob:List aA):C->(Exit->bo->Prop)->bo->Prop
 | .skip,Q,st=>Q .normal st
 | .region gs,Q,st=>iT P gs st (Q .normal)
 | .drawn q N gs,Q,st=>iN P q [] st.n gs st (vk (st.n+N) st.o (Q .normal))
 | .drawnW nw N gs,Q,st=>(∀j∈nw,.obj j∉st.o)/\iN P false nw st.n gs st (vk (st.n+N) (nw.map aA.obj++st.o) (Q .normal))
 | .seq a b,Q,st=>dd P ob a (fun e st'=>match e with| .normal=>dd P ob b Q st'|e=>Q e st') st
 | .cond x t e,Q,st=>match cD st.t x with
  | .bool b=>(b=true->dd P ob t Q (tE st x true))/\(b=false->dd P ob e Q (tE st x false))
  |_=>et
 | .block id c,Q,st=>dd P ob c (fun e st'=>match e with| .exit j=>if j=id then Q .normal st' else Q (.exit j) st'|e=>Q e st') st
 | .loop c,Q,st=> ∃(d:Nat->bo->Prop) (m:Nat) (f:bo),gk ob st f/\d m f/\
   ∀k s,d k s->(∀i,eU (get i s.t))->(∀j cs,ad j s.b=some cs->gR cs=true->eQ cs)->dd P ob c (fun e h=>match e with| .normal=> ∃bt g,bt<k/\gk ob h g/\d bt g|e=>Q e h) s
 | .exit id,Q,st=>Q (.exit id) st
 | .ret,Q,st=>Q .ret st
 | .pub s c,Q,st=>match xY st s with
  |some st'=>dd P ob c Q st'
  |none=>et
 | .pubB s c,Q,st=>match xX st s with
  |some st'=>dd P ob c Q st'
  |none=>et
 | .fg l s c,Q,st=>dd P ob c Q {st with t:=put s (AT l (get s st.t)) st.t}
 | .fz n s c,Q,st=>match w5 st n s with
  |some st'=>dd P ob c Q st'
  |none=>et
 | .no,_,_=>et
def hR(N:Nat)(aS:List (Nat×eu)):C->Code->Bool
 | .skip,.skip=>true
 | .region gs,.region _ ops false=>k3 N aS ops.toList gs ops.toList
 | .drawn _ N' gs,.region _ ops true=>N'==N&&k3 N aS ops.toList gs ops.toList&&CU gs ops.toList&&AI N gs
 | .drawnW _ N' gs,.region _ ops true=>N'==N&&k3 N aS ops.toList gs ops.toList&&CU gs ops.toList&&AI N gs
 | .seq a b,.seq x y=>hR N aS a x&&hR N aS b y
 | .cond x t e,.cond o t' g=>eN x o&&hR N aS t t'&&hR N aS e g
 | .block id c,.block f d=>id==f&&hR N aS c d
 | .loop c,.loop d=>hR N aS c d
 | .exit id,.exit f=>id==f
 | .ret,.ret=>true
 | .pub _ c,d=>hR N aS c d
 | .pubB _ c,d=>hR N aS c d
 | .fg _ _ c,d=>hR N aS c d
 | .fz _ _ c,d=>hR N aS c d
 | .no,_=>true
 |_,_=>false
def Vc{N:Nat}{aS:List (Nat×eu)}{ops:List Oper}:∀{gs:List ds} {os:List Oper},k3 N aS ops gs os=true->gs.length=os.length
 |[],[],_=>rfl
 |[],_::_,h=>by simp[k3]at h
 |_::_,[],h=>by simp[k3]at h
 |g::gs,o::os,h=>by simp only[k3,cP]at h;simp[Vc h.2]
def JX(P:cG)(C:fh)(c:Code)(Q:Exit->bo->Prop)(st:bo):Prop:= ∀a w ν,c5 C st a w ν->c.wp P (fun e bs w'=> ∃st' bm,Q e st'/\c5 C st' bs w' bm) a w
def qj{P:cG}(hm:P.follows .mixedOrders=true){aS:List (Nat×eu)}(f:hW P aS=true){X:fh}:∀(c:C) (code:Code) (Q:Exit->bo->Prop) (st:bo),hR X.N aS c code=true->dd P X.ob c Q st->JX P X code Q st
 | .skip,code,Q,st,ar,he=>by
  cases code<;>simp only[hR]at ar<;>try cases ar
  intro a w ν d;exact wp_skip ⟨st,ν,he,d⟩
 | .region gs,code,Q,st,ar,he=>by
  cases code<;>try(simp[hR]at ar;done)
  rename_i id ops draw;cases draw<;>simp only[hR]at ar
  ·intro a w ν d;refine wp_region ?_;have V:gs.length=ops.size:=by simpa using Vc ar
   rw[List.range_eq_range',<-V];exact T1 f (K:=Q .normal) (fun st' bs w' bm J U=>⟨st',bm,J,U⟩) gs ops.toList 0 Ψ ar st a w ν he d
  ·cases ar
 | .drawn q N gs,code,Q,st,ar,he=>by
  cases code<;>try(simp[hR]at ar;done)
  rename_i id ops draw;cases draw<;>simp only[hR]at ar
  ·cases ar
  ·simp only[cP,ey]at ar;obtain⟨⟨⟨rfl,J⟩,U⟩,v⟩:=ar;intro a w ν d;exact TZ hm f J U v (nw:=[]) (K:=Q .normal) (fun st' bs w' bm J U=>⟨st',bm,J,U⟩) Ψ he d
 | .drawnW nw N gs,code,Q,st,ar,he=>by
  cases code<;>try(simp[hR]at ar;done)
  rename_i id ops draw;cases draw<;>simp only[hR]at ar
  ·cases ar
  ·simp only[cP,ey]at ar;obtain⟨⟨⟨rfl,J⟩,U⟩,v⟩:=ar;intro a w ν d;exact TZ hm f J U v (nw:=nw) (K:=Q .normal) (fun st' bs w' bm J U=>⟨st',bm,J,U⟩) he.1 he.2 d
 | .seq x y,code,Q,st,ar,he=>by
  cases code<;>try(simp[hR]at ar;done)
  rename_i L M;simp only[hR,cP]at ar;intro a w ν d;refine wp_seq ?_;have J:=qj hm f x L _ st ar.1 he a w ν d;refine wp_mono J fun e bs w' l=>?_;obtain⟨st',bm,g,h⟩:=l;cases e with
  |normal=>exact qj hm f y M Q st' ar.2 g bs w' bm h
  |_=>exact⟨st',bm,g,h⟩
 | .cond x t e,code,Q,st,ar,he=>by
  cases code<;>try(simp[hR]at ar;done)
  rename_i o A ce;simp only[hR,cP]at ar;intro a w ν d;simp only[dd]at he;have B:=e1 d ar.1.1;split at he
  ·rename_i b E;rw[E]at B;simp only[aU]at B;have F:c5 X (tE st x b) a w ν:=by
    unfold tE;split
    ·exact Pb d (by simpa[cD]using E)
    ·exact d
   refine wp_cond B ?_;cases b
   ·exact qj hm f e ce Q _ ar.2 (he.2 rfl) a w ν F
   ·exact qj hm f t A Q _ ar.1.2 (he.1 rfl) a w ν F
  ·exact he.elim
 | .block id c,code,Q,st,ar,he=>by
  cases code<;>try(simp[hR]at ar;done)
  rename_i Z u;simp only[hR,cP,ey]at ar;obtain⟨rfl,ar⟩:=ar;intro a w ν d;refine wp_block ?_;refine wp_mono (qj hm f c u _ st ar he a w ν d) fun e bs w' l=>?_;obtain⟨st',bm,g,h⟩:=l;cases e with
  |exit j=>
   simp only[Exit.inBlock]at g⊢;by_cases p:j=id
   ·rw[if_pos p]at g⊢;exact⟨st',bm,g,h⟩
   ·rw[if_neg p]at g⊢;exact⟨st',bm,g,h⟩
  |_=>exact⟨st',bm,g,h⟩
 | .loop c,code,Q,st,ar,he=>by
  cases code<;>try(simp[hR]at ar;done)
  rename_i u;simp only[hR]at ar;intro a w ν d;simp only[dd]at he;obtain⟨R,m,G,hw,hi,O⟩:=he;refine wp_loop_ghost (fun k a w=> ∃s ν,R k s/\c5 X s a w ν) m ⟨G,_,hi,d.weaker hw⟩ ?_;intro k a w z;obtain⟨s,ν,n,r⟩:=z;have J:=O k s n (fun i=>aar (r.slot i)) (fun j cs p=>by obtain⟨bl,us,el,_,_,_,_,g5⟩:=r.good.box j cs p;exact Pe g5);refine wp_mono (qj hm f c u _ s ar J a w ν r) fun e bs w' l=>?_;obtain⟨st',bm,g,h⟩:=l;cases e with
  |normal=>obtain⟨bt,H,W,Y,S⟩:=g;exact⟨bt,W,H,_,S,h.weaker Y⟩
  |_=>exact⟨st',bm,g,h⟩
 | .exit id,code,Q,st,ar,he=>by
  cases code<;>try(simp[hR]at ar;done)
  rename_i Z;simp only[hR,ey]at ar;subst ar;intro a w ν d;exact wp_exit ⟨st,ν,he,d⟩
 | .ret,code,Q,st,ar,he=>by
  cases code<;>try(simp[hR]at ar;done)
  intro a w ν d;exact wp_ret ⟨st,ν,he,d⟩
 | .pub s c,code,Q,st,ar,he=>by
  simp only[hR]at ar;simp only[dd]at he;split at he
  ·rename_i st' n;intro a w ν d;obtain⟨bm,J⟩:=aoD d n;exact qj hm f c code Q st' ar he a w bm J
  ·exact he.elim
 | .pubB s c,code,Q,st,ar,he=>by
  simp only[hR]at ar;simp only[dd]at he;split at he
  ·rename_i st' n;intro a w ν d;obtain⟨bm,J⟩:=aoC d n;exact qj hm f c code Q st' ar he a w bm J
  ·exact he.elim
 | .fg qz s c,code,Q,st,ar,he=>by simp only[hR]at ar;simp only[dd]at he;intro a w ν d;exact qj hm f c code Q _ ar he a w ν (I5 d (ahp (d.slot s)))
 | .fz hg s c,code,Q,st,ar,he=>by
  simp only[hR]at ar;simp only[dd]at he;intro a w ν d;split at he
  ·rename_i st' du;obtain⟨bm,J⟩:=ahC d du;exact qj hm f c code Q st' ar he a w bm J
  ·exact he.elim
 | .no,code,Q,st,ar,he=>by simp only[dd]at he
inductive bU where
 |tmp (i:Nat)
 |cell (i:Nat) (agg:Bool) (sz:Nat)
def bd(st:bo):bU->bc (Prop×af)
 | .tmp i=>some (True,get i st.t)
 | .cell i agg sz=>nR st.b st.e agg sz (get i st.t)
def ba(st:bo):List bU->bc (Prop×List af)
 |[]=>some (True,[])
 |r::a=>match bd st r,ba st a with
  |some (c,p),some (b,d)=>some (c/\b,p::d)
  |_,_=>none
def pY(aS:List (Nat×eu)):List bU->List ResultVar->Bool
 |[],[]=>true
 | .tmp i::a,.tmp j::os=>i==j&&pY aS a os
 | .cell i agg sz::a,.cell j t::os=>i==j&&(match eD aS t with|some f=>f.size==sz&&f.kind.isAgg==agg|none=>false)&&pY aS a os
 |_,_=>false
def a1:List af->af
 |[p]=>p
 |a=>.tuple a
def Jj(tmps:Array Value):ResultVar->Sem Value
 | .tmp t=>pure (tmps.getD t undef)
 | .cell x t=>do loadVar t (<-asAddr (tmps.getD x undef))
def aat(fn:Func)(tmps:Array Value):results fn tmps=(do let bk<-fn.results.mapM (Jj tmps);pure (if h:bk.size=1 then bk[0]else .tuple bk)):=by unfold results;congr 2
def Jd{P:cG}{aS:List (Nat×eu)}(z:hW P aS=true){X:fh}{st:bo}{a:Act}{w:World}{ν:a8}(g:c5 X st a w ν):
  ∀(h:List bU) (os:List ResultVar) (c:Prop) (s:List af),pY aS h os=true->ba st h=some (c,s)->c->
  ∃bk,(os.mapM (Jj a.tmps)).run P w= .ok bk w/\c1 w ν s bk
 |[],[],c,s,_,he,_=>by simp only[ba]at he;cases he;exact⟨[],Ψ,by simp[c1]⟩
 |[],_::_,_,_,ar,_,_=>by simp[pY]at ar
 | .tmp _::_,[],_,_,ar,_,_=>by simp[pY]at ar
 | .cell _ _ _::_,[],_,_,ar,_,_=>by simp[pY]at ar
 |r::h,o::os,c,s,ar,he,aw=>by
  simp only[ba]at he;split at he
  ·rename_i M p A B J U;cases he;cases r with
   |tmp i=>
    cases o with
    |cell _ _=>simp[pY]at ar
    |tmp j=>simp only[pY,cP,ey]at ar;obtain⟨rfl,ar⟩:=ar;simp only[bd]at J;cases J;obtain⟨bk,g1,g2⟩:=Jd z g h os A B ar U aw.2;refine⟨a.tmps.getD i undef::bk,?_,by simp only[c1];exact⟨_,_,rfl,g.slot i,g2⟩⟩;simp only[List.mapM_cons,gr,Jj,hy,gy,g1]
   |cell i agg sz=>
    cases o with
    |tmp _=>simp[pY]at ar
    |cell j t=>
     simp only[pY,cP,ey]at ar;obtain⟨⟨rfl,x⟩,ar⟩:=ar;split at x
     ·rename_i f F;simp only[cP,ey]at x;obtain⟨rfl,rfl⟩:=x;simp only[bd]at J;obtain⟨bk,g1,g2⟩:=Jd z g h os A B ar U aw.2;obtain⟨v,f1,f2⟩:=H7 z g.good F (g.slot i) J aw.1;have G:∃m,a.tmps.getD i undef= .pointer (some m):=by
       have d:=g.slot i;unfold nR at J;split at J
       ·rename_i L k n K H l;rw[l]at d;simp only[aU]at d;obtain⟨⟨b,o,e⟩,_⟩:=d;exact⟨_,e⟩
       ·rename_i k off l;rw[l]at d;simp only[aU]at d;obtain⟨b,_,e⟩:=d;exact⟨_,e⟩
       ·rename_i q l;rw[l]at d;simp only[aU]at d;obtain⟨b,off,u,e,_⟩:=d;exact⟨_,e⟩
       ·cases J
      obtain⟨m,E⟩:=G;rw[E]at f1;simp only[Instr.loadAt,Instr.sureAddr,gr,hy,gy]at f1;refine⟨v::bk,?_,by simp only[c1];exact⟨_,_,rfl,f2,g2⟩⟩;have y:(asAddr (.pointer (some m)):Sem Addr).run P w= .ok m w:=rfl;simp only[List.mapM_cons,gr,Jj,hy,gy,g1,E,y,f1]
     ·cases x
  ·cases he
def zR{w:World}{ν:a8}:∀{a:List af} {bk:List Value},c1 w ν a bk->bk.length=a.length
 |[],bk,h=>by simp only[c1]at h;subst h;rfl
 |p::a,bk,h=>by simp only[c1]at h;obtain⟨u,b,rfl,_,U⟩:=h;simp[zR U]
def iX:Nat->List af->List (Nat×af)
 |_,[]=>[]
 |i,p::a=>(i,p)::iX (i+1) a
def G3:∀(a:List af) (i j:Nat),get j (iX i a)=if i<=j/\j<i+a.length then a.getD (j-i) .junk else .junk
 |[],i,j=>by simp[iX,get]
 |p::a,i,j=>by
  simp only[iX,get];by_cases h:i=j
  ·subst h;simp
  ·rw[if_neg h,G3 a (i+1) j];by_cases U:i<=j/\j<i+(p::a).length
   ·rw[if_pos U,if_pos (by simp at U⊢;omega)];have:j-i=(j-(i+1))+1:=Ω
    rw[this];simp
   ·rw[if_neg U,if_neg (by simp at U⊢;omega)]
def lN{α:Type}(a:cQ):List (aA×α)->Prop
 |[]=>True
 |(k,_)::r=>aK a k/\lN a r
def xG{α:Type}{b:cQ}:∀{l:List (aA×α)},lN b l->∀k,(ad k l).isSome->aK b k
 |[],_,k,h=>by simp[ad]at h
 |(i,x)::r,a,k,h=>by
  simp only[lN]at a;simp only[ad]at h;split at h
  ·rename_i e;subst e;exact a.1
  ·exact xG a.2 k h
def c3(d:List bU)(s:cQ)(Q:af->cQ->Prop)(e:Exit)(st:bo):Prop:=
 (e= .ret\/e= .normal)/\match ba st d with
  |some (c,b)=>c/\∃a,lN a s.b/\lN a s.e/\hx (aK a) a.b st.b/\p2 (aK a) a.e st.e/\hV a/\az (aK a) (b5 (a1 b))/\Q (b5 (a1 b)) a
  |none=>et
def bD.ofW{P:cG}{aS:List (Nat×eu)}(aM:hW P aS=true){f:FuncId}{fn:Func}(aG:P.funcs[f]? =some fn){code:Code}(ag:fn.body=some code)(vT:(fn.name== "runtime.NumGoroutine")=false){dY:List bU}(iI:pY aS dY fn.results.toList=true)
  {args:List af} (av:args.length<=fn.ntmps) {s:cQ} (kN:hV s) {Q:af->cQ->Prop} (he:∀X:fh,X.N=fn.ntmps->X.ob=cI s->(∀b o,X.ν0.A b o->b<X.w0.heap.size)->eP args->(∀j cs,ad j s.b=some cs->gR cs=true->eQ cs)->JX P X code (c3 dY s Q) ⟨iX 0 args,s.b,s.e,0,cI s⟩):bD P f args s Q:=by
 intro w ν bk be ae aI;refine .inl ⟨⟨fn,aG,by simp[ag],vT⟩,?_⟩;have pR:=zR aI;have lg:bk.size=args.length:=by simpa using pR
 let X:fh:=⟨w,ν,fB ν s,fn.ntmps,cI s⟩
 have nI:∀k,fresh 0 (cI s) k->ν.bx k=none/\ν.ow k=none/\∀j b,¬ν.tr k j b:=by
  intro k ab;cases k with
  |loc m=>exact⟨(ae _).1 (kN.1 m),(ae _).2.1 (kN.2 m),(ae _).2.2⟩
  |obj m=>
   simp only[fresh,true_and]at ab;refine⟨?_,?_,(ae _).2.2⟩
   ·refine(ae _).1 ?_;cases h:ad (.obj m) s.b with
    |none=>rfl
    |some x=>exact absurd (rl (.inl (by simp[h]))) ab
   ·refine(ae _).2.1 ?_;cases h:ad (.obj m) s.e with
    |none=>rfl
    |some x=>exact absurd (rl (.inr (by simp[h]))) ab
 have iV:∀m,(ν.bx (.obj m)≠none\/ν.ow (.obj m)≠none)-> .obj m∈cI s:=by
  intro m hm;refine Classical.byContradiction fun aw=>?_;obtain⟨J,U,_⟩:=nI (.obj m) ⟨trivial,aw⟩;rcases hm with hm|hm
  ·exact hm J
  ·exact hm U
 have pP:c5 X ⟨iX 0 args,s.b,s.e,0,cI s⟩ {tmps:=bk++Array.replicate (fn.ntmps-bk.size) undef,defers:=[]} w ν:=by
  refine⟨⟨be.alt,fun k cs ab=>?_,be.inj,fun g o fq=>?_,be.oinj,be.obx,be.one,be.otr⟩,⟨rfl,rfl,rfl,dL _,fun _ _ _=>rfl,fun b o h=>⟨h,rfl⟩,fun b o h=>.inl h,fun n b h=>h,fun n b h=>iV n (.inl (by rw[h];simp)),fun m n u h=>⟨n,u,h,.inl ⟨rfl,rfl⟩⟩,fun m n u h=>iV m (.inr (by rw[h];simp)),fun k j _ _ b h=>absurd h ((ae k).2.2 j b),fun k j b h=>absurd h ((ae k).2.2 j b),fun k j b h=>absurd h ((ae k).2.2 j b),fun _ _ _=>rfl⟩,rfl,?_,fun i=>?_,nI⟩
  ·obtain⟨bl,us,el,g1,g2,g3⟩:=be.box k cs ab;exact⟨bl,us,el,g1,.inl g2,g3⟩
  ·obtain⟨v,us,g1,g2,g3,g4⟩:=be.own g o fq;exact⟨v,us,g1,g2,fun bl gd=>⟨.inl (g3 bl gd).1,(g3 bl gd).2⟩,g4⟩
  ·show(bk++Array.replicate (fn.ntmps-bk.size) undef).size=fn.ntmps;simp;omega
  ·rw[G3];by_cases hi:i<args.length
   ·rw[if_pos Ω];have r2:args[i]? =some args[i]:=cl hi;obtain⟨v,al,aC⟩:=Fa i aI r2;have aN:(bk++Array.replicate (fn.ntmps-bk.size) undef).getD i undef=v:=by
     have oW:bk[i]? =some v:=by simpa using al
     rw[Array.getD_eq_getD_getElem?,Array.getElem?_append_left Ω,oW];rfl
    show aU w ν _ ((bk++Array.replicate (fn.ntmps-bk.size) undef).getD i undef);rw[aN];simpa[List.getD,r2]using aC
   ·rw[if_neg Ω];simp[aU]
 have MT:=he X rfl rfl be.alt (Pj aI) (fun j cs ah=>by obtain⟨bl,us,el,_,_,_,_,g5⟩:=be.box j cs ah;exact Pe g5) _ w ν pP;refine calls_of_wp aG ag (wp_mono MT fun e bs w' cK=>?_);obtain⟨st',bm,⟨q2,bP⟩,c8⟩:=cK;cases qs:ba st' dY with
 |none=>simp[qs]at bP
 |some x=>
  obtain⟨cA,bS⟩:=x;simp only[qs]at bP;obtain⟨h4,ak,kb,ke,a6,bB,bT,dp,dH⟩:=bP;obtain⟨oF,g1,g2⟩:=Jd aM c8 dY fn.results.toList cA bS iI qs h4;have MF:=zR g2;have ee:bs.defers=[]/\∃v,(results fn bs.tmps).run P w'= .ok v w'/\(fun(e:Ending) w'=> ∃v r ak bm,e= .returned v/\Q r ak/\aU w' bm r v/\Good (fun bl=>fB ν s bl\/w.heap.size<=bl) w' bm ak.b ak.e/\pH bm ak/\hV ak/\pq ⟨w,ν,fB ν s,0,cI s⟩ w' bm) (.returned v) w':=by
   refine⟨c8.defers,?_⟩;have jF:(results fn bs.tmps).run P w'= .ok (if h:oF.toArray.size=1 then oF.toArray[0]else .tuple oF.toArray) w':=by rw[aat];simp only[gr,Array.mapM_eq_mapM_toList,Sem.run_map,g1,gy,hy]
   refine⟨_,jF,_,b5 (a1 bS),ak,bm.cut (aK ak),rfl,dH,?_,c8.good.cut a6 bB (fun bl h _=>h),?_,bT,?_⟩
   ·have nK:aU w' bm (a1 bS) (if h:oF.toArray.size=1 then oF.toArray[0]else .tuple oF.toArray):=by
     match bS,oF,g2,MF with
     |[p],[v],g2,_=>simp only[c1]at g2;obtain⟨u,b1,al,aC,_⟩:=g2;cases al;simpa[a1]using aC
     |[],[],g2,_=>simp[a1,aU,c1]
     |p::dF::bS,v::v2::oF,g2,_=>rw[dif_neg Ψ];simp only[a1,aU];exact⟨_,rfl,by simpa using g2⟩
     |[_],[],_,h=>simp at h
     |[],_::_,_,h=>simp at h
     |[_],_::_::_,_,h=>simp at h
     |_::_::_,[],_,h=>simp at h
     |_::_::_,[_],_,h=>simp at h
    exact u2 (oN.cut _ w' bm) _ _ dp (x4 _ _ nK)
   ·intro k;refine⟨?_,?_,?_⟩;rotate_left 2
    ·rintro j b ⟨ai,ag⟩;obtain⟨t1,t2⟩:=c8.fr.trn k j b ag;rcases ai with ai|ai<;>obtain⟨x,jc⟩:=fA.1 ai
     ·obtain⟨bl,b1,el,al,_⟩:=c8.good.box k x (a6 k x jc).1;rw[t1]at al;cases al
     ·obtain⟨v',b1,al,_⟩:=c8.good.own k x (bB k x jc).1;rw[t2]at al;cases al
    ·intro ab;by_cases ai:aK ak k
     ·rw[a8.cut_bx ai];rcases ai with ai|ai
      ·rw[ab]at ai;cases ai
      ·obtain⟨x,jc⟩:=fA.1 ai;obtain⟨v',b1,al,_⟩:=c8.good.own k x (bB k x jc).1;rcases c8.good.one k with J|J
       ·exact J
       ·rw[J]at al;cases al
     ·exact(a8.cut_no ai).1
    ·intro ab;by_cases ai:aK ak k
     ·rw[a8.cut_ow ai];rcases ai with ai|ai
      ·obtain⟨x,jc⟩:=fA.1 ai;obtain⟨bl,b1,el,al,_⟩:=c8.good.box k x (a6 k x jc).1;rcases c8.good.one k with J|J
       ·rw[J]at al;cases al
       ·exact J
      ·rw[ab]at ai;cases ai
     ·exact(a8.cut_no ai).2.1
   ·refine⟨c8.fr.os,c8.fr.tape,c8.fr.output,c8.fr.size,c8.fr.block,c8.fr.keep,c8.fr.fresh,fun n b h=>?_,fun n b h=>iV n (.inl (by rw[h];simp)),fun m n u h=>?_,fun m n u h=>iV m (.inr (by rw[h];simp)),fun k j bt dg b J U=>c8.fr.trd k j bt dg b J.2 U.2,fun k j b ag=>c8.fr.trb k j b ag.2,fun k j b ag=>(by rw[a8.cut_bx ag.1,a8.cut_ow ag.1];exact c8.fr.trn k j b ag.2),c8.fr.sh⟩
    ·have ai:aK ak (.obj n):=by
      cases av:ad (.obj n) s.b with
      |none=>rw[(ae _).1 av]at h;cases h
      |some x=>exact xG kb _ (by simp[av])
     rw[a8.cut_bx ai];exact c8.fr.obj n b h
    ·have ai:aK ak (.obj m):=by
      cases av:ad (.obj m) s.e with
      |none=>rw[(ae _).2.1 av]at h;cases h
      |some x=>exact xG ke _ (by simp[av])
     rw[a8.cut_ow ai];exact c8.fr.row m n u h
  rcases q2 with rfl|rfl<;>exact ee
def bD.of{P:cG}(hm:P.follows .mixedOrders=true){aS:List (Nat×eu)}(aM:hW P aS=true){f:FuncId}{fn:Func}(aG:P.funcs[f]? =some fn){code:Code}(ag:fn.body=some code)(vT:(fn.name== "runtime.NumGoroutine")=false){c:C}(aw:hR fn.ntmps aS c code=true){dY:List bU}(iI:pY aS dY fn.results.toList=true)
  {args:List af} (av:args.length<=fn.ntmps) {s:cQ} (kN:hV s) {Q:af->cQ->Prop} (he:eP args->(∀j cs,ad j s.b=some cs->gR cs=true->eQ cs)->dd P (cI s) c (c3 dY s Q) ⟨iX 0 args,s.b,s.e,0,cI s⟩):bD P f args s Q:=
 bD.ofW aM aG ag vT iI av kN fun X mW q6 _ J U=>qj hm aM c code _ _ (by rw[mW];exact aw) (by rw[q6];exact he J U)
def b6(aS:List (Nat×eu))(c:C)(dY:List bU)(N2:Nat)(fn:Func):Bool:=
 match fn.body with
 |some code=>hR fn.ntmps aS c code&&pY aS dY fn.results.toList&& !(fn.name== "runtime.NumGoroutine")&&decide (N2<=fn.ntmps)
 |none=>false
def bD.mk{P:cG}(hm:P.follows .mixedOrders=true){aS:List (Nat×eu)}(k:hW P aS=true){f:FuncId}{fn:Func}(l:P.funcs[f]? =some fn){c:C}{b:List bU}{n:Nat}(a:b6 aS c b n fn=true)
  {args:List af} (e:args.length<=n) {s:cQ} (d:hV s) {Q:af->cQ->Prop} (he:eP args->(∀j cs,ad j s.b=some cs->gR cs=true->eQ cs)->dd P (cI s) c (c3 b s Q) ⟨iX 0 args,s.b,s.e,0,cI s⟩):bD P f args s Q:=by
 unfold b6 at a;split at a
 ·rename_i code h;simp only[cP,sv,gu]at a;obtain⟨⟨⟨J,U⟩,g⟩,i⟩:=a;exact bD.of hm k l h g J U (kx e i) d he
 ·cases a
def sc:hV ⟨[],[]⟩:=⟨fun _=>rfl,fun _=>rfl⟩
def b0(a:List bU)(r:af)(e:Exit)(st:bo):Prop:=
 (e= .ret\/e= .normal)/\match ba st a with
  |some (c,b)=>c/\b5 (a1 b)=r
  |none=>et
def QC{b:List bU}{r:af}(g:az (fun _=>et) r):b0 b r=c3 b ⟨[],[]⟩ (fun f d=>f=r/\d=⟨[],[]⟩):=by
 funext e st;unfold b0 c3;apply propext;refine and_congr_right fun _=>?_;cases ba st b with
 |none=>exact Iff.rfl
 |some x=>
  obtain⟨c,i⟩:=x;refine and_congr_right fun _=>?_;constructor
  ·intro h;refine⟨⟨[],[]⟩,trivial,trivial,fun k cs a=>by simp[ad]at a,fun k cs a=>by simp[ad]at a,sc,?_,h,rfl⟩;rw[h];exact uN (fun k a=>a.elim) r g
  ·rintro⟨d,_,_,_,_,_,_,h,_⟩;exact h
def bX.mk{P:cG}(hm:P.follows .mixedOrders=true){aS:List (Nat×eu)}(e:hW P aS=true){f:FuncId}{fn:Func}(h:P.funcs[f]? =some fn){c:C}{a:List bU}{n:Nat}(b:b6 aS c a n fn=true)
  {args:List af} (d:args.length<=n) {r:af} (g:az (fun _=>et) r) (he:eP args->dd P [] c (b0 a r) ⟨iX 0 args,[],[],0,[]⟩):bX P f args r:=by
 refine bD.mk hm e h b d sc fun J _=>?_;rw[<-QC g];exact he J
def CI{α:Type}{β:Type}:∀l:List (aA×α),cJ ([]:List (aA×β)) l=l
 |[]=>rfl
 |(k,x)::r=>by simp[cJ,ad,CI r]
def CallDo.val{P:cG}{n:Nat}{args:List af}{st:bo}{d:bc Nat}{K:bo->Prop}{r:af}(a:aH (fun _=>et) args)(c:bX P n args r)(h:K {st with t:=e3 d r st.t}):CallDo P n args st d K:=by
 refine .inl ⟨⟨[],[]⟩,_,fun k cs a=>by simp[ad]at a,fun k cs a=>by simp[ad]at a,sc,jd (fun _ h=>h.elim) _ a,c,?_⟩;rintro b e ⟨rfl,rfl⟩;refine⟨⟨fun m h=>by simp[ad]at h,fun m h=>by simp[ad]at h⟩,?_⟩;have:after st ⟨[],[]⟩ ⟨[],[]⟩ d b={st with t:=e3 d b st.t}:=by simp[after,CI,cI]
 rw[this];exact h
@[reducible,simp] def gP(n:Int):dM:= .c (.int .i64 n)
@[reducible,simp] def I(a b:Nat):ds:=⟨none,.s (.v a (.mov (.t b)))⟩
@[reducible,simp] def b9(a:Nat)(i:gL):ds:=⟨none,.s (.v a i)⟩
@[reducible,simp] def dr(i:eT):ds:=⟨none,.s i⟩
@[reducible,simp] def eg(a f:Nat)(l:List dM):ds:=⟨none,.call (some a) (.c (.func f [])) l⟩
@[reducible,simp] def cd(j:Nat)(w:Bool)(a b:Nat):ds:=⟨some (j,w),.s (.v a (.mov (.t b)))⟩
@[reducible,simp] def ym(j:Nat)(w:Bool)(a:Nat)(i:gL):ds:=⟨some (j,w),.s (.v a i)⟩
@[reducible,simp] def ys(j:Nat)(w:Bool)(i:eT):ds:=⟨some (j,w),.s i⟩
@[reducible,simp] def ck(d s a b:Nat):ds:=b9 d (.iaddr s (.t a) (.t b))
@[reducible,simp] def ay(d s a:Nat):ds:=b9 d (.load false s (.t a))
@[reducible,simp] def bq(d s a:Nat):ds:=b9 d (.load true s (.t a))
@[reducible,simp] def aF(d o s a:Nat):ds:=b9 d (.faddr o false s (.t a))
@[reducible,simp] def hk(d o s a:Nat):ds:=b9 d (.faddr o true s (.t a))
@[reducible,simp] def br(d:Nat)(o:BinOp)(a b:Nat):ds:=b9 d (.bin o false (.t a) (.t b))
@[reducible,simp] def aV(d:Nat)(o:BinOp)(a:Nat)(n:Int):ds:=b9 d (.bin o false (.t a) (gP n))
@[reducible,simp] def cw(d a:Nat):ds:=b9 d (.len (.t a))
@[reducible,simp] def cR(d a:Nat):ds:=b9 d (.notB (.t a))
@[reducible,simp] def dm(d i a:Nat):ds:=b9 d (.ext i (.t a))
@[reducible,simp] def dq(d a b:Nat):ds:=b9 d (.pick (.t a) (.c (.bool true)) (.t b))
@[reducible,simp] def ev(d a b:Nat):ds:=b9 d (.pick (.t a) (.t b) (.c (.bool false)))
@[reducible,simp] def bA(d:Nat)(b:Bool):ds:=b9 d (.mov (.c (.bool b)))
@[reducible,simp] def bQ(d:Nat)(n:Int):ds:=b9 d (.mov (gP n))
@[reducible,simp] def bW(s a b:Nat):ds:=dr (.store s (.t a) (.t b))
@[reducible,simp] def ax(j:Nat)(w:Bool)(x:ds):ds:=⟨some (j,w),x.i⟩
@[reducible,simp] def aa(l:List ds)(c:C):C:= .seq (.region l) c
@[reducible,simp] def aZ(n:Nat)(a b:C):C:= .cond (.t n) a b
@[reducible,simp] def hE(d a:Nat)(l:List dM):ds:=⟨none,.call (some d) (.t a) l⟩
@[reducible,simp] def da(d f a:Nat):ds:=eg d f [.t a]
@[reducible,simp] def cj(d f a b:Nat):ds:=eg d f [.t a,.t b]
@[reducible,simp] def eE:List af:=[.int .i64 0,.int .i64 0,.str [],.slice 4 .nil []]
@[reducible,simp] def kp:List af:=[.int .i64 0,.int .i64 0,.int .i64 0,.str [],.slice 4 .nil []]
@[reducible,simp] def jJ:List af:=[.int .i64 0,.slice 5 .nil [],.slice 1 .nil [],.slice 2 .nil [],.slice 2 .nil []]
@[reducible,simp] def dc(a b:Nat):ds:=dr (.box a none (.t b))
@[reducible,simp] def dR(a:Nat)(l:List af):ds:=dr (.alloc a none (.agg l))
@[reducible,simp] def fw(a n:Nat):ds:=b9 a (.mov (.c (.slice n .nil [])))
@[reducible,simp] def im(a b c d e:Nat):ds:=dr (.app a b c (.t d) (.t e))
@[reducible,simp] def fp(a b c:Nat)(l:List dM):ds:=dr (.bsl a b c l)
@[reducible,simp] def gp(a b:Nat):ds:=b9 a (.nck (.t b))
@[reducible,simp] def ku(d s a:Nat)(n:Int):ds:=b9 d (.iaddr s (.t a) (gP n))
@[reducible,simp] def j6(d:Nat)(l:List af)(m:List (Nat×Nat×dM)):ds:=b9 d (.build l m)
@[reducible,simp] def gq(a b c:Nat)(x:C):C:= .block 0 (.loop (aa [br a .lss b c] (.seq (aZ a .skip (.exit 0)) x)))
@[reducible,simp,match_pattern] def aj(n:Int):af:= .int .i64 n
@[reducible,simp,match_pattern] def cV(l:List af):af:= .slice 1 .no l
@[reducible,simp,match_pattern] def b4(l:List af):af:= .slice 2 .no l
@[reducible,simp,match_pattern] def eb(l:List af):af:= .slice 4 .no l
@[reducible,simp,match_pattern] def bK(l:List af):af:= .slice 5 .no l
def PY:List cW:=[0,1,2,2,3,3,3,3,4,4,4,4,4,4,4,4,5,5,5,5,5,5,5,5,5,5,5,5,5,5,5,5,6,6,6,6,6,6,6,6,6,6,6,6,6,6,6,6,6,6,6,6,6,6,6,6,6,6,6,6,6,6,6,6,7,7,7,7,7,7,7,7,7,7,7,7,7,7,7,7,7,7,7,7,7,7,7,7,7,7,7,7,7,7,7,7,7,7,7,7,7,7,7,7,7,7,7,7,7,7,7,7,7,7,7,7,7,7,7,7,7,7,7,7,7,7,7,7,8,8,8,8,8,8,8,8,8,8,8,8,8,8,8,8,8,8,8,8,8,8,8,8,8,8,8,8,8,8,8,8,8,8,8,8,8,8,8,8,8,8,8,8,8,8,8,8,8,8,8,8,8,8,8,8,8,8,8,8,8,8,8,8,8,8,8,8,8,8,8,8,8,8,8,8,8,8,8,8,8,8,8,8,8,8,8,8,8,8,8,8,8,8,8,8,8,8,8,8,8,8,8,8,8,8,8,8,8,8,8,8,8,8,8,8,8,8,8,8,8,8,8,8,8,8,8,8]
end
section
open Go Go.RowKit
def eX{α:Type}{l:List α}{i:Nat}(h:i<l.length):∃b,l[i]? =some b/\∀h,(l[i]'h)=b:=⟨l[i],cl h,fun _=>rfl⟩
def Pt(st:bo)(i:eT):Prop:=match np st i with|some (c,_)=>c|none=>et
def Pu(st:bo)(i:eT):bo:=match np st i with|some (_,s)=>s|none=>st
def FV(P:cG)(r:List ds)(K:bo->Prop)(st:bo):Prop:=iT P r st K
def Al(P:cG)(ob:List aA)(c:C)(Q:Exit->bo->Prop)(st:bo):Prop:=dd P ob c Q st
def qZ(P:cG)(v:af)(s:Nat)(w:Bool)(i:eO)(r:List ds)(st:bo)(K:bo->Prop):Prop:=
 match v with
 | .bool b=>(b=w->iT P (⟨none,i⟩::r) {st with t:=put s (.bool w) st.t} K)/\(b= !w->iT P r {st with t:=e3 i.dst (.tuple []) (put s (.bool !w) st.t)} K)
 | .tuple []=>iT P r {st with t:=e3 i.dst (.tuple []) st.t} K
 |_=>et
def vE(P:cG)(ob:List aA)(v:af)(x:dM)(t e:C)(Q:Exit->bo->Prop)(st:bo):Prop:=
 match v with
 | .bool b=>(b=true->dd P ob t Q (tE st x true))/\(b=false->dd P ob e Q (tE st x false))
 |_=>et
def Lo(P:cG)(v:af)(d:bc Nat)(xs:List af)(r:List ds)(st:bo)(K:bo->Prop):Prop:=
 match v with
 | .func n dE=>CallDo P n (cf (xs++dE)) st d (FV P r K)
 |_=>et
section
variable {P:cG} {ob:List aA} {st:bo} {K:bo->Prop} {r:List ds} {Q:Exit->bo->Prop} {a b c t e:C}
def afg:iT P [] st K=K st:=rfl
def afh{i:eT}:iT P (⟨none,.s i⟩::r) st K=(Pt st i/\iT P r (Pu st i) K):=by
 simp only[iT,vD,Pt,Pu];cases np st i with
 |none=>simp
 |some x=>rfl
def afd{d:bc Nat}{f:dM}{xs:List dM}:iT P (⟨none,.call d f xs⟩::r) st K=Lo P (cD st.t f) d (xs.map (cD st.t)) r st K:=by simp only[iT,vD,Lo];rfl
def aff{d:Nat}{x:dM}:iT P (⟨none,.next d x⟩::r) st K=uo st d (cD st.t x) (FV P r K):=by simp only[iT,vD];rfl
def yr(P:cG)(ob:List aA)(c:C)(Q:Exit->bo->Prop):bc bo->Prop
 |some st=>dd P ob c Q st
 |none=>et
def acC:yr P ob c Q (some st)=dd P ob c Q st:=rfl
def aeR{s:Nat}:dd P ob (.pub s c) Q st=yr P ob c Q (xY st s):=by simp only[dd];cases xY st s<;>rfl
def aeN{a:Bool}{s:Nat}:dd P ob (.fg a s c) Q st=dd P ob c Q {st with t:=put s (AT a (get s st.t)) st.t}:=rfl
def aeO{a:Bool}{s:Nat}{d:C}:dd P ob (.seq (.fg a s c) d) Q st=dd P ob (.seq c d) Q {st with t:=put s (AT a (get s st.t)) st.t}:=rfl
def aeP{a:Bool}{s:Nat}:dd P ob (.fz a s c) Q st=yr P ob c Q (w5 st a s):=by simp only[dd];cases w5 st a s<;>rfl
def aeQ{a:Bool}{s:Nat}{d:C}:dd P ob (.seq (.fz a s c) d) Q st=yr P ob (.seq c d) Q (w5 st a s):=by simp only[dd];cases w5 st a s<;>rfl
def aeS{s:Nat}:dd P ob (.pubB s c) Q st=yr P ob c Q (xX st s):=by simp only[dd];cases xX st s<;>rfl
def afc{n:Nat}{dE:List af}{d:bc Nat}{xs:List af}:Lo P (.func n dE) d xs r st K=CallDo P n (cf (xs++dE)) st d (FV P r K):=rfl
def afe{s:Nat}{w:Bool}{i:eO}:iT P (⟨some (s,w),i⟩::r) st K=qZ P (get s st.t) s w i r st K:=by simp only[iT,qZ];try rfl
def afm{s:Nat}{i:eO}:qZ P (.bool true) s true i r st K=iT P (⟨none,i⟩::r) {st with t:=put s (.bool true) st.t} K:=by simp[qZ]
def afi{s:Nat}{i:eO}:qZ P (.bool false) s false i r st K=iT P (⟨none,i⟩::r) {st with t:=put s (.bool false) st.t} K:=by simp[qZ]
def afl{s:Nat}{i:eO}:qZ P (.bool true) s false i r st K=iT P r {st with t:=e3 i.dst (.tuple []) (put s (.bool true) st.t)} K:=by simp[qZ]
def afj{s:Nat}{i:eO}:qZ P (.bool false) s true i r st K=iT P r {st with t:=e3 i.dst (.tuple []) (put s (.bool false) st.t)} K:=by simp[qZ]
def afk{s:Nat}{w:Bool}{i:eO}:qZ P (.tuple []) s w i r st K=iT P r {st with t:=e3 i.dst (.tuple []) st.t} K:=by simp[qZ]
def cy{x:Bool}{s:Nat}{w:Bool}{i:eO}(J:x=w->iT P (⟨none,i⟩::r) {st with t:=put s (.bool w) st.t} K)(U:x= !w->iT P r {st with t:=e3 i.dst (.tuple []) (put s (.bool !w) st.t)} K):qZ P (.bool x) s w i r st K:=⟨J,U⟩
def aeC:dd P ob (.seq (.seq a b) c) Q st=dd P ob (.seq a (.seq b c)) Q st:=by simp only[dd];congr 1;funext e st';cases e<;>rfl
def aeX:dd P ob (.seq .skip c) Q st=dd P ob c Q st:=rfl
def aeV:dd P ob (.seq .ret c) Q st=Q .ret st:=rfl
def aeL{n:Nat}:dd P ob (.seq (.exit n) c) Q st=Q (.exit n) st:=rfl
def aeY:dd P ob .skip Q st=Q .normal st:=rfl
def aeW:dd P ob .ret Q st=Q .ret st:=rfl
def aeM{n:Nat}:dd P ob (.exit n) Q st=Q (.exit n) st:=rfl
def aeT{gs:List ds}:dd P ob (.seq (.region gs) c) Q st=iT P gs st (Al P ob c Q):=rfl
def aeU{gs:List ds}:dd P ob (.region gs) Q st=iT P gs st (Q .normal):=rfl
def aeF{x:dM}:dd P ob (.seq (.cond x t e) c) Q st=vE P ob (cD st.t x) x (.seq t c) (.seq e c) Q st:=by simp only[dd,vE];try rfl
def aeG{x:dM}:dd P ob (.cond x t e) Q st=vE P ob (cD st.t x) x t e Q st:=by simp only[dd,vE];try rfl
def ae0{x:dM}:vE P ob (.bool true) x t e Q st=dd P ob t Q (tE st x true):=by simp[vE]
def aeZ{x:dM}:vE P ob (.bool false) x t e Q st=dd P ob e Q (tE st x false):=by simp[vE]
def cu{v:Bool}{x:dM}(J:v=true->dd P ob t Q (tE st x true))(U:v=false->dd P ob e Q (tE st x false)):vE P ob (.bool v) x t e Q st:=⟨J,U⟩
def Ag(P:cG)(ob:List aA)(id:Nat)(c:C)(Q:Exit->bo->Prop)(e:Exit)(st:bo):Prop:=
 match e with
 | .normal=>dd P ob c Q st
 | .exit j=>if j=id then dd P ob c Q st else Q (.exit j) st
 |e=>Q e st
def aeD{id:Nat}:dd P ob (.seq (.block id a) c) Q st=dd P ob a (Ag P ob id c Q) st:=by
 simp only[dd];congr 1;funext e st';cases e with
 |exit j=>rfl
 |_=>rfl
def aeE{id:Nat}:dd P ob (.block id a) Q st=dd P ob a (Ag P ob id .skip Q) st:=by
 simp only[dd];congr 1;funext e st';cases e with
 |exit j=>simp only[Ag];by_cases b:j=id<;>simp[b,dd]
 |_=>rfl
def acq{id:Nat}:Ag P ob id c Q .normal st=Al P ob c Q st:=rfl
def acp{id j:Nat}:Ag P ob id c Q (.exit j) st=if j=id then Al P ob c Q st else Q (.exit j) st:=rfl
def acr{id:Nat}:Ag P ob id c Q .ret st=Q .ret st:=rfl
def bV(ob:List aA)(b:Nat->bo->Prop)(k:Nat)(Q:Exit->bo->Prop)(e:Exit)(st:bo):Prop:=
 match e with
 | .normal=> ∃bt a,bt<k/\gk ob st a/\b bt a
 |e=>Q e st
def FP{b:Nat->bo->Prop}{k:Nat}:bV ob b k Q .normal st= ∃bt a,bt<k/\gk ob st a/\b bt a:=rfl
def acx{a:Nat->bo->Prop}{k n:Nat}:bV ob a k Q (.exit n) st=Q (.exit n) st:=rfl
def acy{a:Nat->bo->Prop}{k:Nat}:bV ob a k Q .ret st=Q .ret st:=rfl
def qi(b:Nat->bo->Prop)(m:Nat)(c:bo)(hw:gk ob st c)(g:b m c)(h:∀k s,b k s->(∀i,eU (get i s.t))->(∀j cs,ad j s.b=some cs->gR cs=true->eQ cs)->dd P ob a (bV ob b k Q) s):dd P ob (.loop a) Q st:=by
 simp only[dd];refine⟨b,m,c,hw,g,fun k s J U n=>?_⟩;have:=h k s J U n;have l:(bV ob b k Q)=(fun e d=>match e with| .normal=> ∃bt f,bt<k/\gk ob d f/\b bt f|e=>Q e d):=by funext e d;cases e<;>rfl
 rw[l]at this;exact this
end
/-Regions cT draw kt order. -/
def Pr(n0:Nat)(st:bo)(i:eT):Prop:=match fc (qf n0 i) st.n (qf n0 i::st.o) st i with|some (c,_)=>c|none=>et
def Ps(n0:Nat)(st:bo)(i:eT):bo:=match fc (qf n0 i) st.n (qf n0 i::st.o) st i with|some (_,s)=>s|none=>st
def JZ(P:cG)(q:Bool)(nw:List Nat)(n0:Nat)(r:List ds)(K:bo->Prop)(st:bo):Prop:=iN P q nw n0 r st K
def qY(P:cG)(q:Bool)(nw:List Nat)(n0:Nat)(v:af)(s:Nat)(w:Bool)(i:eO)(r:List ds)(st:bo)(K:bo->Prop):Prop:=
 match v with
 | .bool b=>(b=w->iN P q nw n0 (⟨none,i⟩::r) {st with t:=put s (.bool w) st.t} K)/\(b= !w->iN P q nw n0 r {st with t:=e3 i.dst (.tuple []) (put s (.bool !w) st.t)} K)
 | .tuple []=>iN P q nw n0 r {st with t:=e3 i.dst (.tuple []) st.t} K
 |_=>et
def Ln(P:cG)(q:Bool)(nw:List Nat)(n0:Nat)(v:af)(d:bc Nat)(xs:List af)(r:List ds)(st:bo)(K:bo->Prop):Prop:=
 match v with
 | .func n dE=>hn P q nw n (cf (xs++dE)) st d (JZ P q nw n0 r K)
 |_=>et
section
variable {P:cG} {ob:List aA} {st:bo} {K:bo->Prop} {r:List ds} {Q:Exit->bo->Prop} {c:C} {q:Bool} {nw:List Nat} {n0 N:Nat}
def ae4:iN P q nw n0 [] st K=K st:=rfl
def ae5{i:eT}:iN P q nw n0 (⟨none,.s i⟩::r) st K=(mU q nw n0 st i/\Pr n0 st i/\iN P q nw n0 r (Ps n0 st i) K):=by
 simp only[iN,k2,Pr,Ps];cases fc (qf n0 i) st.n (qf n0 i::st.o) st i with
 |none=>simp
 |some x=>rfl
def ae2{d:bc Nat}{f:dM}{xs:List dM}:iN P q nw n0 (⟨none,.call d f xs⟩::r) st K=Ln P q nw n0 (cD st.t f) d (xs.map (cD st.t)) r st K:=by simp only[iN,k2,Ln];rfl
def ae1{n:Nat}{dE:List af}{d:bc Nat}{xs:List af}:Ln P q nw n0 (.func n dE) d xs r st K=hn P q nw n (cf (xs++dE)) st d (JZ P q nw n0 r K):=rfl
def ae3{s:Nat}{w:Bool}{i:eO}:iN P q nw n0 (⟨some (s,w),i⟩::r) st K=qY P q nw n0 (get s st.t) s w i r st K:=by simp only[iN,qY];try rfl
def afa{s:Nat}{i:eO}:qY P q nw n0 (.bool true) s true i r st K=iN P q nw n0 (⟨none,i⟩::r) {st with t:=put s (.bool true) st.t} K:=by simp[qY]
def ae6{s:Nat}{i:eO}:qY P q nw n0 (.bool false) s false i r st K=iN P q nw n0 (⟨none,i⟩::r) {st with t:=put s (.bool false) st.t} K:=by simp[qY]
def ae9{s:Nat}{i:eO}:qY P q nw n0 (.bool true) s false i r st K=iN P q nw n0 r {st with t:=e3 i.dst (.tuple []) (put s (.bool true) st.t)} K:=by simp[qY]
def ae7{s:Nat}{i:eO}:qY P q nw n0 (.bool false) s true i r st K=iN P q nw n0 r {st with t:=e3 i.dst (.tuple []) (put s (.bool false) st.t)} K:=by simp[qY]
def ae8{s:Nat}{w:Bool}{i:eO}:qY P q nw n0 (.tuple []) s w i r st K=iN P q nw n0 r {st with t:=e3 i.dst (.tuple []) st.t} K:=by simp[qY]
def cx{x:Bool}{s:Nat}{w:Bool}{i:eO}(J:x=w->iN P q nw n0 (⟨none,i⟩::r) {st with t:=put s (.bool w) st.t} K)(U:x= !w->iN P q nw n0 r {st with t:=e3 i.dst (.tuple []) (put s (.bool !w) st.t)} K):qY P q nw n0 (.bool x) s w i r st K:=⟨J,U⟩
def aeH{gs:List ds}:dd P ob (.seq (.drawn q N gs) c) Q st=iN P q [] st.n gs st (vk (st.n+N) st.o (Al P ob c Q)):=rfl
def aeI{gs:List ds}:dd P ob (.drawn q N gs) Q st=iN P q [] st.n gs st (vk (st.n+N) st.o (Q .normal)):=rfl
def aeJ{gs:List ds}:dd P ob (.seq (.drawnW nw N gs) c) Q st=((∀j∈nw,.obj j∉st.o)/\iN P false nw st.n gs st (vk (st.n+N) (nw.map aA.obj++st.o) (Al P ob c Q))):=rfl
def aeK{gs:List ds}:dd P ob (.drawnW nw N gs) Q st=((∀j∈nw,.obj j∉st.o)/\iN P false nw st.n gs st (vk (st.n+N) (nw.map aA.obj++st.o) (Q .normal))):=rfl
def hn.val{n:Nat}{args:List af}{d:bc Nat}{r:af}(a:aH (fun _=>et) args)(b:bX P n args r)(h:K {st with t:=e3 d r st.t}):hn P q nw n args st d K:=by
 refine .inr ⟨⟨[],[]⟩,⟨[],[]⟩,r,none,fun k cs a=>by simp[ad]at a,fun k cs a=>by simp[ad]at a,sc,sc,⟨fun k h=>.inl h,fun k h=>.inl h,fun k h=>h,fun k h=>h,fun k h=>by cases h⟩,jd (fun _ h=>h.elim) _ a,b,fun _=>⟨rfl,rfl⟩,?_⟩;have:({after st ⟨[],[]⟩ ⟨[],[]⟩ d r with o:=st.o}:bo)={st with t:=e3 d r st.t}:=by simp[after,CI]
 rw[this];exact h
def aQ{n:Nat}{args:List af}{d:bc Nat}{r:af}(b:bX P n args r)(h:K {st with t:=e3 d r st.t})(a:aH (fun _=>et) args:=by simp):hn P q nw n args st d K:=hn.val a b h
end
section
variable {k:IntKind} {n:Int} {b:Bool} {s:List cW} {sz:Nat} {tag:jS} {xs:List af} {key:aA} {off f:Nat} {x:af}
@[simp]def awp:eS (.int k n)=true:=rfl
@[simp]def awc:eS (.bool b)=true:=rfl
@[simp]def awy:eS (.str s)=true:=rfl
@[simp]def awx:eS (.slice sz tag xs)=true:=rfl
@[simp]def av8:eS (.agg xs)=true:=rfl
@[simp]def awv:eS (.ptr key off)=true:=rfl
@[simp]def awl:eS (.eptr x)=true:=rfl
@[simp]def awo{t:Nat}:eS (.iface t x)=true:=rfl
@[simp]def as6{t:Nat}:cells (.iface t x)=[.iface t x]:=rfl
@[simp]def awe{a:bc Addr}{n c:Nat}:eS (.cst (.slice a n c))=true:=rfl
@[simp]def awf{s}:eS (.cst (.string s))=true:=rfl
@[simp]def awu:eS .nilp=true:=rfl
@[simp]def awm:eS (.func f xs)=true:=rfl
@[simp]def awn:eS (.gmap key)=true:=rfl
@[simp]def aww{n:Nat}:eS (.row sz key n)=true:=rfl
@[simp]def atf{n:Nat}:cells (.row sz key n)=[.row sz key n]:=rfl
@[simp]def as7:cells (.int k n)=[.int k n]:=rfl
@[simp]def asW:cells (.bool b)=[.bool b]:=rfl
@[simp]def ath:cells (.str s)=[.str s]:=rfl
@[simp]def atg:cells (.slice sz tag xs)=[.slice sz tag xs]:=rfl
@[simp]def asS:cells (.agg xs)=xs:=rfl
@[simp]def ate:cells (.ptr key off)=[.ptr key off]:=rfl
@[simp]def as3:cells (.eptr x)=[.eptr x]:=rfl
@[simp]def atd:cells .nilp=[.nilp]:=rfl
@[simp]def as4:cells (.func f xs)=[.func f xs]:=rfl
@[simp]def as5:cells (.gmap key)=[.gmap key]:=rfl
end
section
variable {b:List (aA×List af)} {e:List (aA×dT)} {agg:Bool} {sz off:Nat} {k:aA} {p:af} {cs xs bk:List af} {gi:IntKind} {n i:Int} {m j:Nat} {tag:jS} {s:List cW} {Q5:Bool} {lo hi:bc af}
@[simp]def ave{a:Nat}{f:Nat}:nR b e agg sz (.rptr a k m j f)=zU agg sz a m j f (ad k e):=rfl
@[simp]def avd:nR b e agg sz (.ptr k off)=(match ad k b with
  |some cs=>if agg then some (gR cs=true/\off+sz<=cs.length,.agg ((cs.drop off).take sz))else(cs[off]?).map fun p=>(gR cs=true,p)
  |none=>none):=rfl
@[simp]def avc:nR b e agg sz (.eptr p)=if agg then some (qA sz p,p)else some (eS p=true/\cells p=[p],p):=rfl
@[simp]def atO:Ds agg sz (.eptr p)=if agg then some (qA sz p,p)else some (eS p=true/\cells p=[p],p):=rfl
@[simp]def atG{o:Nat}:sG off agg sz (.ptr k o)=some (True,.ptr k (o+off)):=rfl
@[simp]def atH{a f:Nat}:sG off agg sz (.rptr a k m j f)=some (True,.rptr a k m j (f+off)):=rfl
@[simp]def atB:sG off agg sz (.eptr (.agg cs))=if agg then some (off+sz<=cs.length,.eptr (.agg ((cs.drop off).take sz)))else(cs[off]?).map fun p=>(eS p=true/\cells p=[p],.eptr p):=rfl
@[simp]def atJ:vH off agg sz (.agg cs)=if agg then some (off+sz<=cs.length,.agg ((cs.drop off).take sz))else(cs[off]?).map fun p=>(True,p):=rfl
@[simp]def aui{a:Nat}:Bx sz (.slice a tag xs) (.int gi i)=if a=sz then some (0<=i/\i<xs.length,.eptr (xs.getD i.toNat .junk))else none:=rfl
@[simp]def auh{a:Nat}:Bx sz (.row a k m) (.int gi i)=if a=sz then some (0<=i/\i<m,.rptr a k m i.toNat 0)else none:=rfl
@[simp]def avb{a:Nat}:BI (.slice a tag xs)=some (True,.int .i64 xs.length):=rfl
@[simp]def ava{a:Nat}:BI (.row a k m)=some (True,.int .i64 m):=rfl
@[simp]def au9{a:bc Addr}{n c:Nat}:BI (.cst (.slice a n c))=some (True,.int .i64 n):=rfl
@[simp]def av6{s}:Fm (.cst (.string s))=some (True,.int .i64 s.size):=rfl
@[simp]def av7:Fm (.str s)=some (True,.int .i64 s.length):=rfl
@[simp]def atA:AO j (.tuple bk)=(bk[j]?).map fun p=>(True,p):=rfl
@[simp]def avF:BW (.ptr k off)=some (True,.ptr k off):=rfl
@[simp]def avD:BW (.eptr p)=some (True,.eptr p):=rfl
@[simp]def avE:BW (.func j cs)=some (True,.func j cs):=rfl
@[simp]def avI:Ir (.bool Q5)=some (True,.bool (!Q5)):=rfl
@[simp]def av5:Jr (.str s) (.int gi i)=some (0<=i/\i<s.length,.int .u8 (s.getD i.toNat 0).toNat):=rfl
@[simp]def awA:Jw (.str s) lo hi=(match sd 0 lo,sd s.length hi with
  |some l,some h=>some (0<=l/\l<=h/\h<=s.length,.str ((s.take h.toNat).drop l.toNat))
  |_,_=>none):=rfl
@[simp]def avh{a:Nat}:H9 sz (.slice a tag xs) lo hi=(if a=sz then match sd 0 lo,sd xs.length hi with
  |some l,some h=>some (0<=l/\l<=h/\h<=xs.length,.slice sz .no ((xs.take h.toNat).drop l.toNat))
  |_,_=>none else none):=rfl
def XR{f:aA->bc (List af)}{a:ka}{z q:af}{ok:Bool}:o7 f a z ok (.gmap k) q=(match f k with
  |some (.hdm _ _::kvs)=>if xI a q=false then none else match xN a q kvs with
   |some (some v)=>some (True,if ok then .tuple [v,.bool true]else v)
   |some none=>some (True,if ok then .tuple [z,.bool false]else z)
   |none=>none
  |_=>none):=rfl
def XO{f:aA->bc (List af)}:qD f (.ptr k 0)=(match f k with
  |some [.hdi _ seen last,.gmap mk]=>match f mk with
   |some (.hdm clock borns::kvs)=>match seen.getLast? with
    |some n=>(nT n borns kvs).map fun p=>(clock=last,p)
    |none=>none
   |_=>none
  |_=>none):=rfl
@[simp]def av1{b f n' el a:Nat}:zU agg sz b m j f (some ⟨n',el,a,some xs⟩)=(if n'=m/\a=b then
   (match xs[j]? with
    |some p=>if agg then some (eS p=true/\f+sz<=(cells p).length,.agg (((cells p).drop f).take sz))else((cells p)[f]?).map fun q=>(eS p=true,q)
    |none=>none)else none):=rfl
end
attribute [simp] aeC aeT aeD aeF aeX aeV aeL aeY aeW aeM aeU aeE aeG Al acq acp acr acx acy afg afh afd afc afe
 afm afi afl afj afk ae0 aeZ Pt Pu np hX iX cD get put kq re oB oC cH sd CX HI Jy nq vA IF Im Gv Ij
 ad e3 eT.dst eO.dst tE FV ub cf b5 az aH
 aeH aeI aeJ aeK ae4 ae5 ae2 ae1 ae3 afa ae6 ae9 ae7 ae8 Pr Ps fc qf mU o0 gL.loadO vk JZ zp gR uc aff aeR aeS aeN aeO aeP aeQ w5 LK uf AT acC xY EY xX sk nY jm Ie F6 rQ
def aP{P:cG}{n:Nat}{args:List af}{st:bo}{d:bc Nat}{K:bo->Prop}{r:af}(b:bX P n args r)(h:K {st with t:=e3 d r st.t})(a:aH (fun _=>et) args:=by simp):CallDo P n args st d K:=CallDo.val a b h
def aq{a b:Prop}(d:b)(c:a:=by first|omega|(unfold te;omega)|(unfold lim;omega)):a/\b:=⟨c,d⟩
def c4{p:Prop}(h:et:=by first|contradiction|omega):p:=h.elim
def cB{p:Prop}(h:p:=by(try simp[*]);(repeat' first|with_reducible refine aq ?_|with_reducible refine aP (by assumption) ?_|with_reducible refine aQ (by assumption) ?_|simp[*]);(all_goals first|done|(simp[b0,ba,bd,a1, *];done))):p:=h
end
section
open Go Go.RowKit
structure eB (s:cQ):Prop where
 obj:hV s
 kb:∀k cs,ad k s.b=some cs->aH (aK s) cs
 ke:∀k o,ad k s.e=some o->dU (aK s) o
structure Same (s ak:cQ):Prop where
 b:∀k,(ad k s.b).isSome=(ad k ak.b).isSome
 e:∀k,(ad k s.e).isSome=(ad k ak.e).isSome
def Same.refl(s:cQ):Same s s:=⟨fun _=>rfl,fun _=>rfl⟩
def Same.inObs{s a:cQ}(h:Same s a)(k:aA):aK s k↔aK a k:=by unfold aK;rw[h.b,h.e]
def uR{α:Type}{k:aA}{x:α}:∀{l:List (aA×α)},(k,x)∈l->(ad k l).isSome
 |(i,y)::r,h=>by
  simp only[ad];split
  ·rfl
  ·rename_i a;rcases gK.1 h with h|h
   ·cases h;exact absurd rfl a
   ·exact uR h
def M0{s:cQ}{k:aA}(h:k∈cI s):aK s k:=by
 unfold cI at h;rcases j2.1 h with h|h
 ·obtain⟨⟨bt,x⟩,J,rfl⟩:=hz.1 h;exact .inl (uR J)
 ·obtain⟨⟨bt,x⟩,J,rfl⟩:=hz.1 h;exact .inr (uR J)
def kE{s:cQ}(h:hV s)(m:Nat):aA.loc m∉cI s:=fun hm=>by
 rcases M0 hm with J|J
 ·rw[h.1 m]at J;cases J
 ·rw[h.2 m]at J;cases J
def jt{α β:Type}(s:List (aA×β)):∀(a b:List (aA×α)),cJ s (a++b)=cJ s a++cJ s b
 |[],b=>rfl
 |(k,x)::r,b=>by
  simp only[b3,cJ];cases ad k s with
  |none=>simp[jt s r b]
  |some _=>exact jt s r b
def Qo{α β:Type}(s:List (aA×β)):∀(l:List (aA×α)),(∀k x,(k,x)∈l->(ad k s).isSome)->cJ s l=[]
 |[],_=>rfl
 |(k,x)::r,h=>by
  have J:=h k x Ψ;simp only[cJ];cases a:ad k s with
  |none=>rw[a]at J;cases J
  |some _=>exact Qo s r fun k x b=>h k x (by simp[b])
def hM{α:Type}(s:List (aA×α)):cJ s s=[]:=Qo s s fun k x h=>uR h
def kH{α:Type}{k:aA}{x:α}:∀{l:List (aA×α)},ad k l=none->cH k x l=l++[(k,x)]
 |[],_=>rfl
 |(i,y)::r,h=>by
  simp only[ad]at h;split at h
  ·cases h
  ·rename_i a;simp[cH,a,kH h]
def c0{α:Type}(k:aA):∀(a b:List (aA×α)),ad k (a++b)=match ad k a with|some x=>some x|none=>ad k b
 |[],b=>rfl
 |(i,y)::r,b=>by
  simp only[b3,ad];split
  ·rfl
  ·exact c0 k r b
def CallDo.ob{P:cG}{n:Nat}{args:List af}{st:bo}{d:bc Nat}{K:bo->Prop}{s:cQ}{Q:af->cQ->Prop}(g:bD P n args s Q)(b:eB s)(e:∀k cs,ad k s.b=some cs->ad k st.b=some cs)(he:∀k o,ad k s.e=some o->ad k st.e=some o)
  (f:aH (aK s) args) (h:∀r a,Q r a->Same s a/\K ⟨e3 d r st.t,cJ s.b st.b++a.b,cJ s.e st.e++a.e,st.n,st.o++cI a⟩):CallDo P n args st d K:=by
 refine .inl ⟨s,Q,fun k cs aw=>⟨e k cs aw,.inl (by simp[aw]),b.kb k cs aw⟩,fun k o ar=>⟨he k o ar,.inr (by simp[ar]),b.ke k o ar⟩,b.obj,f,g,fun r a c=>?_⟩;obtain⟨J,U⟩:=h r a c;exact⟨⟨fun m hm=>.inl (by rw[J.b];exact hm),fun m hm=>.inl (by rw[J.e];exact hm)⟩,U⟩
def c3.ob{j:List bU}{s a:cQ}{Q:af->cQ->Prop}{e:Exit}{st:bo}{c:Prop}{f:List af}(p:e= .ret\/e= .normal)(n:ba st j=some (c,f))(aw:c)(g:eB a)(i:Same s a)(v:∀k cs,ad k a.b=some cs->ad k st.b=some cs)(q:∀k o,ad k a.e=some o->ad k st.e=some o)
  (w:az (aK a) (b5 (a1 f))) (u:Q (b5 (a1 f)) a):c3 j s Q e st:=by
 refine⟨p,?_⟩;rw[n];have m:∀{α:Type} (l:List (aA×α)),(∀k x,(k,x)∈l->aK a k)->lN a l:=by
  intro α l;induction l with
  |nil=>intro _;trivial
  |cons x r t=>obtain⟨k,x⟩:=x;intro h;exact⟨h k x Ψ,t fun k x b=>h k x (by simp[b])⟩
 exact⟨aw,a,m _ fun k x b=>.inl (by rw[<-i.b];exact uR b),m _ fun k x b=>.inr (by rw[<-i.e];exact uR b),fun k cs d=>⟨v k cs d,.inl (by simp[d]),g.kb k cs d⟩,fun k o ar=>⟨q k o ar,.inr (by simp[ar]),g.ke k o ar⟩,g.obj,w,u⟩
def bD.mono{P:cG}{f:FuncId}{args:List af}{s:cQ}{Q b:af->cQ->Prop}(h:bD P f args s Q)(g:∀r a,Q r a->b r a):bD P f args s b:=by
 intro w ν bk J U i;have hm:∀(e:Ending) (w':World),(∃v r a bm,e= .returned v/\Q r a/\aU w' bm r v/\Good (fun bl=>fB ν s bl\/w.heap.size<=bl) w' bm a.b a.e/\pH bm a/\hV a/\pq ⟨w,ν,fB ν s,0,cI s⟩ w' bm)->(∃v r a bm,e= .returned v/\b r a/\aU w' bm r v/\Good (fun bl=>fB ν s bl\/w.heap.size<=bl) w' bm a.b a.e/\pH bm a/\hV a/\pq ⟨w,ν,fB ν s,0,cI s⟩ w' bm):=by rintro e w' ⟨v,r,a,bm,d,a2,a3⟩;exact⟨v,r,a,bm,d,g _ _ a2,a3⟩
 rcases h w ν bk J U i with⟨c,aw⟩|⟨v,w',aw,j⟩
 ·exact .inl ⟨c,aw.mono hm⟩
 ·exact .inr ⟨v,w',aw,hm _ _ j⟩
def ED{s:cQ}{k:aA}(h:aK s k):¬fresh 0 (cI s) k:=fun a=>a.2 (rl h)
def gk.ob{s:cQ}(c:eB s){st:bo}{t':List (Nat×af)}(d:∀x∈t',get x.1 st.t=x.2/\az (aK s) x.2)(e:∀k cs,ad k s.b=some cs->ad k st.b=some cs)(he:∀k o,ad k s.e=some o->ad k st.e=some o):
  gk (cI s) st ⟨t',s.b,s.e,0,cI s⟩:=
 ⟨fun x b=>⟨(d x b).1,uN (fun k a=>ED a) _ (d x b).2⟩,fun k cs aw=>⟨e k cs aw,ED (.inl (by simp[aw])),jd (fun k a=>ED a) _ (c.kb k cs aw)⟩,
  fun k o ar=>⟨he k o ar,ED (.inr (by simp[ar])),fun xs b=>jd (fun k a=>ED a) _ (c.ke k o ar xs b)⟩,fun m hm=>hm⟩
def c9(st:bo)(a:List bU)(R:af->Prop):Prop:=match ba st a with
 |some (c,b)=>c/\R (b5 (a1 b))
 |none=>et
def c3.at{b:List bU}{s:cQ}{Q:af->cQ->Prop}{e:Exit}{st:bo}(a:cQ)(d:e= .ret\/e= .normal)(i:eB a)(f:Same s a)(j:∀k cs,ad k a.b=some cs->ad k st.b=some cs)(g:∀k o,ad k a.e=some o->ad k st.e=some o)
  (h:c9 st b fun r=>az (aK a) r/\Q r a):c3 b s Q e st:=by
 unfold c9 at h;split at h
 ·rename_i c m l;exact c3.ob d l h.1 i f j g h.2.1 h.2.2
 ·exact h.elim
def hn.ob{P:cG}{nw:List Nat}{n:Nat}{args:List af}{st:bo}{d:bc Nat}{K:bo->Prop}{s b:cQ}{r:af}(l:bD P n args s fun i t'=>i=r/\t'=b)(f:eB s)(g:eB b)(c:Same s b)(j:∀k cs,ad k s.b=some cs->ad k st.b=some cs)(he:∀k o,ad k s.e=some o->ad k st.e=some o)
  (a:aH (aK s) args) (h:K ⟨e3 d r st.t,cJ s.b st.b++b.b,cJ s.e st.e++b.e,st.n,st.o⟩):hn P false nw n args st d K:=
 .inr ⟨s,b,r,none,fun k cs aw=>⟨j k cs aw,.inl (by simp[aw]),f.kb k cs aw⟩,fun k o ar=>⟨he k o ar,.inr (by simp[ar]),f.ke k o ar⟩,f.obj,g.obj,⟨fun k a=>.inl (by rw[c.b];exact a),fun k a=>.inl (by rw[c.e];exact a),fun k a=>by rw[<-c.b];exact a,fun k a=>by rw[<-c.e];exact a,fun k a=>by cases a⟩,a,l,(fun e=>by cases e),h⟩
def eB.of{s:cQ}(ar:hV s)(b:∀x∈s.b,aH (aK s) x.2)(he:∀x∈s.e,∀xs,x.2.xs=some xs->aH (aK s) xs):eB s:=⟨ar,fun k cs a=>b (k,cs) (uQ a),fun k o a xs c=>he (k,o) (uQ a) xs c⟩
@[simp]def avL(b:List (aA×List af))(e:List (aA×dT)):cI ⟨b,e⟩=b.map (·.1)++e.map (·.1):=rfl
def CC{α:Type}{k:aA}{p:α}:∀{a r:List (aA×α)},ad k a=none->cH k p (a++r)=a++cH k p r
 |[],_,_=>rfl
 |(i,y)::a,r,h=>by
  simp only[ad]at h;split at h
  ·cases h
  ·rename_i b;simp[cH,b,CC h]
def ale{α:Type}{s b:List (aA×α)}(h:∀p∈s,ad p.1 b=some p.2):∀k x,ad k s=some x->ad k b=some x:=fun k x a=>h (k,x) (uQ a)
def ep{S:aA->Prop}{b7 b:List (aA×List af)}(h:∀p∈b7,ad p.1 b=some p.2/\S p.1/\aH S p.2):hx S b7 b:=fun k x a=>h (k,x) (uQ a)
def er{S:aA->Prop}{b7 b:List (aA×dT)}(h:∀p∈b7,ad p.1 b=some p.2/\S p.1/\dU S p.2):p2 S b7 b:=fun k x a=>h (k,x) (uQ a)
def aW{α:Type}{s b:List (aA×α)}(h:∀k x,ad k s=some x->ad k b=some x:=by first|(refine ale ?_;simp;done)|(intro k x a;first|exact a|(simp[a,hM];done)|(simp[c0,hM,a];done)|(cases k<;>simp_all[c0];done))):∀k x,ad k s=some x->ad k b=some x:=h
def cc{ob:List aA}{st st':bo}(J:∀x∈st'.t,get x.1 st.t=x.2/\az (fun k=> ¬fresh st'.n st'.o k) x.2:=by simp[fresh,aH,az,cb,aK,ad])(U:∀p∈st'.b,ad p.1 st.b=some p.2/\(¬fresh st'.n st'.o p.1)/\aH (fun k=> ¬fresh st'.n st'.o k) p.2:=by simp[fresh,aH,az,cb,aK,ad])(a:∀p∈st'.e,ad p.1 st.e=some p.2/\(¬fresh st'.n st'.o p.1)/\dU (fun k=> ¬fresh st'.n st'.o k) p.2:=by simp[fresh,aH,az,dU,aK,ad])(b:∀m∈ob,m∈st'.o:=by simp):gk ob st st':=⟨J,ep U,er a,b⟩
def bV.next{ob:List aA}{b:Nat->bo->Prop}{k:Nat}{Q:Exit->bo->Prop}{st:bo}(bt:Nat){a:bo}(c:bt<k)(hi:b bt a)(hw:gk ob st a):bV ob b k Q .normal st:=⟨bt,a,c,hw,hi⟩
def flat:List (Int×af)->List af
 |[]=>[]
 |(k,v)::r=>.int .i64 k::v::flat r
def kT(l:List (Int×af)):List af:= .hdm l.length (List.range l.length)::flat l
def yz(k:Int):List (Int×af)->bc af
 |[]=>none
 |(i,v)::r=>if k=i then some v else yz k r
def qc(k:Int)(v:af):List (Int×af)->bc (List (Int×af))
 |[]=>none
 |(i,w)::r=>if k=i then some ((k,v)::r)else match qc k v r with|some a=>some ((i,w)::a)|none=>none
def F5(k:Int)(v:af)(l:List (Int×af)):List (Int×af):=match qc k v l with|some a=>a|none=>l++[(k,v)]
@[simp]def avr:[af.hdm 0 []]=kT []:=rfl
def Uy:∀a b,flat (a++b)=flat a++flat b
 |[],_=>rfl
 |(k,v)::r,b=>by simp[flat,Uy r b]
def XP(k:Int):∀l,xN .i (.int .i64 k) (flat l)=some (yz k l)
 |[]=>rfl
 |(i,v)::r=>by
  simp only[flat,xN,uJ,yz];by_cases h:k=i
  ·simp[h]
  ·have:(k==i)=false:=by simp[h]
   simp[h,XP k r,this]
def QW{k:Int}{v:af}:∀{l a},qc k v l=some a->a.length=l.length
 |[],_,h=>by simp[qc]at h
 |(i,w)::r,a,h=>by
  simp only[qc]at h;split at h
  ·cases h;rfl
  ·split at h
   ·rename_i c b;cases h;simp[QW b]
   ·cases h
def Yc(k:Int)(v:af):∀l,wm .i (.int .i64 k) v (flat l)=some ((qc k v l).map flat)
 |[]=>rfl
 |(i,w)::r=>by
  simp only[flat,wm,uJ,qc];by_cases h:k=i
  ·subst h;simp[flat]
  ·simp only[and_self,if_true,h,if_false,ey,Yc k v r];have:(k==i)=false:=by simp[h]
   rw[this];cases qc k v r<;>simp[flat]
@[simp]def Yb(k:Int)(v:af)(l:List (Int×af)):qF .i (.int .i64 k) v (kT l)=some (kT (F5 k v l)):=by
 simp only[kT,qF,WW,Bool.true_eq_false,reduceCtorEq,if_false,Yc,F5];cases h:qc k v l with
 |some a=>simp[QW h]
 |none=>simp[Uy,flat,List.range_succ]
@[simp]def alH(f:aA->bc (List af))(m:aA)(l:List (Int×af))(z:af)(ok:Bool)(k:Int)(hm:f m=some (kT l)):o7 f .i z ok (.gmap m) (.int .i64 k)=(match yz k l with
  |some v=>some (True,if ok then .tuple [v,.bool true]else v)
  |none=>some (True,if ok then .tuple [z,.bool false]else z)):=by
 simp only[XR,hm,kT,WW,Bool.true_eq_false,reduceCtorEq,if_false,XP];cases yz k l<;>rfl
def cb(n:Nat)(seen:List Nat)(m:aA):List af:=[.hdi n seen n,.gmap m]
@[simp]def av0(m:aA)(l:List (Int×af)):zO m (kT l)=some (cb l.length [] m):=rfl
@[simp]def avW(l:List (Int×af)):gR (kT l)=false:=rfl
def NN(b:Nat):∀(n:Nat) (l:List (Int×af)),nT b (List.range' n l.length) (flat l)=(if n<=b then(l[b-n]?).map fun x=>.tuple [.int .i64 x.1,x.2]else none)
 |n,[]=>by simp[nT,flat]
 |n,(k,v)::r=>by
  simp only[mI,List.range'_succ,flat,nT];by_cases h:n=b
  ·subst h;simp
  ·rw[if_neg h,NN b (n+1) r];by_cases U:n<=b
   ·rw[if_pos U,if_pos Ω];have:b-n=(b-(n+1))+1:=Ω
    rw[this];simp
   ·rw[if_neg U,if_neg Ω]
@[simp]def XN(f:aA->bc (List af))(gi mk:aA)(n:Nat)(seen:List Nat)(b:Nat)(l:List (Int×af))(hi:f gi=some (cb n (seen++[b]) mk))(hm:f mk=some (kT l))(a:n=l.length):qD f (.ptr gi 0)=(l[b]?).map fun x=>(True,.tuple [.int .i64 x.1,x.2]):=by subst a;simp only[XO,hi,hm,cb,kT,List.getLast?_append,List.getLast?_singleton,Option.some_or,List.range_eq_range',NN,Nat.zero_le,if_true,Nat.sub_zero,Option.map_map];cases l[b]?<;>simp
def TY{st:bo}{d:Nat}{K:bo->Prop}{gi mk:aA}{n:Nat}{seen:List Nat}{l:List (Int×af)}(hi:ad gi st.b=some (cb n seen mk))(hm:ad mk st.b=some (kT l))(i:n=l.length)
  (J:(∀b,b<n->b∈seen)->K {st with t:=put d (.tuple [.bool false]) st.t}) (U:∀b k v,l[b]? =some (k,v)->b∉seen->K {st with t:=put d (.tuple [.bool true,.int .i64 k,v]) st.t,b:=cH gi (cb n (seen++[b]) mk) st.b}):
  uo st d (.ptr gi 0) K:=by
 subst i;simp only[uo,hi,cb,hm,kT,N3,and_self,true_and];refine⟨fun h=>J fun b c=>h b (by simpa using c),fun b k v a c=>?_⟩;rw[List.range_eq_range',NN]at a;simp only[Nat.zero_le,if_true,Nat.sub_zero,hl,af.tuple.injEq,rD,jk]at a;obtain⟨⟨bt,v'⟩,g,f,e⟩:=a;simp only at f e;subst f e;exact U b bt v' g c
def aoz{n:Nat}{seen:List Nat}(d:seen.Nodup)(c:∀b∈seen,b<n)(a:∀b,b<n->b∈seen):seen.Perm (List.range n):=(List.perm_ext_iff_of_nodup d List.nodup_range).2 fun b=>⟨fun h=>by simpa using c b h,fun h=>a b (by simpa using h)⟩
def Jo{n:Nat}{seen:List Nat}(d:seen.Nodup)(a:∀b∈seen,b<n):seen.length<=n:=by have:=Qu d (l₂:=List.range n) (fun b c=>by simpa using a b c);simpa using this
def PA{n b:Nat}{seen:List Nat}(d:seen.Nodup)(a:∀b∈seen,b<n)(c:b<n)(e:b∉seen):seen.length<n:=by have J:(b::seen).Nodup:=List.nodup_cons.2 ⟨e,d⟩;have:=Jo J (n:=n) (by simp;exact⟨c,a⟩);simp at this;omega
def Z8{α:Type}:∀(l pre:List α),(List.range' pre.length l.length).filterMap (fun b=>(pre++l)[b]?)=l
 |[],_=>rfl
 |x::r,pre=>by have a:=Z8 r (pre++[x]);simp only[p6,List.length_singleton,List.append_assoc,List.singleton_append]at a;simp[List.range'_succ,a]
def Pz{α:Type}{l:List α}{seen:List Nat}(d:seen.Nodup)(c:∀b∈seen,b<l.length)(a:∀b,b<l.length->b∈seen):(seen.filterMap fun b=>l[b]?).Perm l:=by have J:=(aoz d c a).filterMap fun b=>l[b]?;have U:=Z8 l [];simp only[List.length_nil,ca,<-List.range_eq_range']at U;rwa[U]at J
def Oc{b:Nat}{seen:List Nat}(d:seen.Nodup)(f:b∉seen):(seen++[b]).Nodup:=by rw[rF];exact⟨d,Ψ,by simp;intro a c e;subst e;exact f c⟩
def c5.start{w:World}{ν:a8}{s:cQ}{args:List af}{bk:Array Value}(f:hV s)(be:Good (fB ν s) w ν s.b s.e)(a:pH ν s)(q:c1 w ν args bk.toList):
  c5 ⟨w,ν,fB ν s,bk.size,cI s⟩ ⟨iX 0 args,s.b,s.e,0,cI s⟩ {tmps:=bk,defers:=[]} w ν:=by
 have r:=zR q;have B:bk.size=args.length:=by simpa using r
 have e:∀k,fresh 0 (cI s) k->ν.bx k=none/\ν.ow k=none/\∀j b,¬ν.tr k j b:=by
  intro k c;cases k with
  |loc m=>exact⟨(a _).1 (f.1 m),(a _).2.1 (f.2 m),(a _).2.2⟩
  |obj m=>
   simp only[fresh,true_and]at c;refine⟨?_,?_,(a _).2.2⟩
   ·refine(a _).1 ?_;cases h:ad (.obj m) s.b with
    |none=>rfl
    |some x=>exact absurd (rl (.inl (by simp[h]))) c
   ·refine(a _).2.1 ?_;cases h:ad (.obj m) s.e with
    |none=>rfl
    |some x=>exact absurd (rl (.inr (by simp[h]))) c
 have l:∀m,(ν.bx (.obj m)≠none\/ν.ow (.obj m)≠none)-> .obj m∈cI s:=by
  intro m hm;refine Classical.byContradiction fun aw=>?_;obtain⟨J,U,_⟩:=e (.obj m) ⟨trivial,aw⟩;rcases hm with hm|hm
  ·exact hm J
  ·exact hm U
 refine⟨⟨be.alt,fun k cs c=>?_,be.inj,fun g o y=>?_,be.oinj,be.obx,be.one,be.otr⟩,⟨rfl,rfl,rfl,dL _,fun _ _ _=>rfl,fun b o h=>⟨h,rfl⟩,fun b o h=>.inl h,fun n b h=>h,fun n b h=>l n (.inl (by rw[h];simp)),fun m n u h=>⟨n,u,h,.inl ⟨rfl,rfl⟩⟩,fun m n u h=>l m (.inr (by rw[h];simp)),fun k j _ _ b h=>absurd h ((a k).2.2 j b),fun k j b h=>absurd h ((a k).2.2 j b),fun k j b h=>absurd h ((a k).2.2 j b),fun _ _ _=>rfl⟩,rfl,rfl,fun i=>?_,e⟩
 ·obtain⟨bl,us,el,g1,g2,g3⟩:=be.box k cs c;exact⟨bl,us,el,g1,.inl g2,g3⟩
 ·obtain⟨v,us,g1,g2,g3,g4⟩:=be.own g o y;exact⟨v,us,g1,g2,fun bl p=>⟨.inl (g3 bl p).1,(g3 bl p).2⟩,g4⟩
 ·rw[G3];by_cases hi:i<args.length
  ·rw[if_pos Ω];have d:args[i]? =some args[i]:=cl hi;obtain⟨v,z,A⟩:=Fa i q d;have t:bk[i]? =some v:=by simpa using z
   show aU w ν _ (bk.getD i undef);rw[Array.getD_eq_getD_getElem?,t];simpa[List.getD,d]using A
  ·rw[if_neg Ω];simp[aU]
def bD.sem{P:cG}{f:FuncId}{args:List af}{s:cQ}{Q:af->cQ->Prop}(K:hV s)
  (h:∀(w:World) (ν:a8) (bk:Array Value),bk.size=args.length->c5 ⟨w,ν,fB ν s,bk.size,cI s⟩ ⟨iX 0 args,s.b,s.e,0,cI s⟩ {tmps:=bk,defers:=[]} w ν->
   yn P f bk w fun e w'=> ∃v st' bs bm r a,e= .returned v/\c5 ⟨w,ν,fB ν s,bk.size,cI s⟩ st' bs w' bm/\aU w' bm r v/\lN a s.b/\lN a s.e/\hx (aK a) a.b st'.b/\p2 (aK a) a.e st'.e/\hV a/\az (aK a) r/\Q r a):bD P f args s Q:=by
 intro w ν bk be t A;have H:bk.size=args.length:=by simpa using zR A
 have F:=c5.start K be t A;have hm:∀(e:Ending) (w':World),(∃v st' bs bm r a,e= .returned v/\c5 ⟨w,ν,fB ν s,bk.size,cI s⟩ st' bs w' bm/\aU w' bm r v/\lN a s.b/\lN a s.e/\hx (aK a) a.b st'.b/\p2 (aK a) a.e st'.e/\hV a/\az (aK a) r/\Q r a)->
   ∃v r a bm,e= .returned v/\Q r a/\aU w' bm r v/\Good (fun bl=>fB ν s bl\/w.heap.size<=bl) w' bm a.b a.e/\pH bm a/\hV a/\pq ⟨w,ν,fB ν s,0,cI s⟩ w' bm:=by
  rintro e w' ⟨v,st',bs,bm,r,a,rfl,d,G,kb,ke,z,p,N,L,M⟩;refine⟨v,r,a,bm.cut (aK a),rfl,M,u2 (oN.cut _ w' bm) _ _ L G,d.good.cut z p (fun bl h _=>h),?_,N,?_⟩
  ·intro k;refine⟨?_,?_,?_⟩;rotate_left 2
   ·rintro j b ⟨c,i⟩;obtain⟨t1,t2⟩:=d.fr.trn k j b i;rcases c with c|c<;>obtain⟨x,l⟩:=fA.1 c
    ·obtain⟨bl,q,el,g,_⟩:=d.good.box k x (z k x l).1;rw[t1]at g;cases g
    ·obtain⟨v',q,g,_⟩:=d.good.own k x (p k x l).1;rw[t2]at g;cases g
   ·intro y;by_cases c:aK a k
    ·rw[a8.cut_bx c];rcases c with c|c
     ·rw[y]at c;cases c
     ·obtain⟨x,l⟩:=fA.1 c;obtain⟨v',q,g,_⟩:=d.good.own k x (p k x l).1;rcases d.good.one k with J|J
      ·exact J
      ·rw[J]at g;cases g
    ·exact(a8.cut_no c).1
   ·intro y;by_cases c:aK a k
    ·rw[a8.cut_ow c];rcases c with c|c
     ·obtain⟨x,l⟩:=fA.1 c;obtain⟨bl,q,el,g,_⟩:=d.good.box k x (z k x l).1;rcases d.good.one k with J|J
      ·rw[J]at g;cases g
      ·exact J
     ·rw[y]at c;cases c
    ·exact(a8.cut_no c).2.1
  ·refine⟨d.fr.os,d.fr.tape,d.fr.output,d.fr.size,d.fr.block,d.fr.keep,d.fr.fresh,fun n b h=>?_,d.fr.obn,fun m n u h=>?_,d.fr.obr,fun k j bt dg b J U=>d.fr.trd k j bt dg b J.2 U.2,fun k j b i=>d.fr.trb k j b i.2,fun k j b i=>(by rw[a8.cut_bx i.1,a8.cut_ow i.1];exact d.fr.trn k j b i.2),d.fr.sh⟩
   ·have c:aK a (.obj n):=by
     cases o:ad (.obj n) s.b with
     |none=>rw[(t _).1 o]at h;cases h
     |some x=>exact xG kb _ (by simp[o])
    rw[a8.cut_bx c];exact d.fr.obj n b h
   ·have c:aK a (.obj m):=by
     cases o:ad (.obj m) s.e with
     |none=>rw[(t _).2.1 o]at h;cases h
     |some x=>exact xG ke _ (by simp[o])
    rw[a8.cut_ow c];exact d.fr.row m n u h
 rcases h w ν bk H F with⟨E,aw⟩|⟨v,w',aw,B⟩
 ·exact .inl ⟨E,aw.mono hm⟩
 ·exact .inr ⟨v,w',aw,hm _ _ B⟩
def c5.grown{C:fh}{st:bo}{a:Act}{w w':World}{ν:a8}(h:c5 C st a w ν)(be:w.grownBy w' none):c5 C st a w' ν:=by
 have d:mf w ν w' ν:=⟨fun b o c=>⟨c,Gs be (h.good.alt b o c)⟩,fun _ _ _ h=>h,fun _ n u _ h=>⟨n,u,h,.inl ⟨rfl,rfl⟩⟩,fun b o c=>ya (be.block b (h.good.alt b o c) Ψ),fun _ _ _ _ h=>h⟩;refine h.over d rfl ⟨fun b o c=>Nat.lt_of_lt_of_le (h.good.alt b o c) be.size,fun k cs e=>?_,h.good.inj,fun g o l=>?_,h.good.oinj,h.good.obx,h.good.one,h.good.otr⟩
  ⟨be.os.trans h.fr.os,be.tape.trans h.fr.tape,be.output.trans h.fr.output,kx h.fr.size be.size,fun k e hm=>?_,fun b o c=>?_,h.fr.fresh,h.fr.obj,h.fr.obn,h.fr.row,h.fr.obr,h.fr.trd,fun k j b i=>⟨(h.fr.trb k j b i).1,Nat.lt_of_lt_of_le (h.fr.trb k j b i).2 be.size⟩,h.fr.trn,fun b o c=>(d.sh b o (h.fr.keep b o c).1).trans (h.fr.sh b o c)⟩ h.new
 ·obtain⟨bl,us,el,g1,g2,g3,g4,g5⟩:=h.good.box k cs e;exact⟨bl,us,el,g1,g2,g3,by rw[be.block bl (Array.getElem?_eq_some_iff.1 g4).1 Ψ];exact g4,rq d g5⟩
 ·obtain⟨v,us,g1,g2,g3,g4⟩:=h.good.own g o l;exact⟨v,us,g1,g2.kept be (by cases v.ownBlock<;>simp),g3,tF d (fun _ _ _ h=>h) g4⟩
 ·rw[be.block k (Nat.lt_of_lt_of_le e h.fr.size) Ψ];exact h.fr.block k e hm
 ·obtain⟨f,m⟩:=h.fr.keep b o c;exact⟨f,(d.A b o f).2.trans m⟩
def CallDo.new{P:cG}{n:Nat}{args:List af}{st:bo}{d:bc Nat}{K:bo->Prop}{s:cQ}{Q:af->cQ->Prop}(i:bD P n args s Q)(c:eB s)(f:∀k cs,ad k s.b=some cs->ad k st.b=some cs)(he:∀k o,ad k s.e=some o->ad k st.e=some o)
  (g:aH (aK s) args) (h:∀r a,Q r a->(∀m,aK a (.obj m)->aK s (.obj m)/\Same s a\/ .obj m∉st.o)/\K ⟨e3 d r st.t,cJ s.b st.b++a.b,cJ s.e st.e++a.e,st.n,st.o++cI a⟩):CallDo P n args st d K:=by
 refine .inl ⟨s,Q,fun k cs aw=>⟨f k cs aw,.inl (by simp[aw]),c.kb k cs aw⟩,fun k o ar=>⟨he k o ar,.inr (by simp[ar]),c.ke k o ar⟩,c.obj,g,i,fun r a e=>?_⟩;obtain⟨J,U⟩:=h r a e;refine⟨⟨fun m hm=>?_,fun m hm=>?_⟩,U⟩
 ·rcases J m (.inl hm)with⟨_,b⟩|b
  ·exact .inl (by rw[b.b];exact hm)
  ·exact .inr b
 ·rcases J m (.inr hm)with⟨_,b⟩|b
  ·exact .inl (by rw[b.e];exact hm)
  ·exact .inr b
def c3.new{g:List bU}{s:cQ}{Q:af->cQ->Prop}{e:Exit}{st:bo}(a:cQ)(i:e= .ret\/e= .normal)(d:eB a)(f:lN a s.b/\lN a s.e)(l:∀k cs,ad k a.b=some cs->ad k st.b=some cs)(j:∀k o,ad k a.e=some o->ad k st.e=some o)
  (h:c9 st g fun r=>az (aK a) r/\Q r a):c3 g s Q e st:=by
 unfold c9 at h;split at h
 ·rename_i c n m;refine⟨i,?_⟩;rw[m];exact⟨h.1,a,f.1,f.2,fun k cs b=>⟨l k cs b,.inl (by simp[b]),d.kb k cs b⟩,fun k o ar=>⟨j k o ar,.inr (by simp[ar]),d.ke k o ar⟩,d.obj,h.2.1,h.2.2⟩
 ·exact h.elim
@[simp]def atv{P:cG}{ob:List aA}{c d:C}{Q:Exit->bo->Prop}{st:bo}{s:Nat}:dd P ob (.seq (.pub s c) d) Q st=yr P ob (.seq c d) Q (xY st s):=by simp only[dd];cases xY st s<;>rfl
@[simp]def atu{P:cG}{ob:List aA}{c d:C}{Q:Exit->bo->Prop}{st:bo}{s:Nat}:dd P ob (.seq (.pubB s c) d) Q st=yr P ob (.seq c d) Q (xX st s):=by simp only[dd];cases xX st s<;>rfl
end
section
open Go Go.RowKit
def wb(t:List (Nat×af))(a:List Nat):List (Nat×af):=a.map fun k=>(k,get k t)
@[simp]def auy(t:List (Nat×af)):wb t []=[]:=rfl
@[simp]def auw(t:List (Nat×af))(k:Nat)(a:List Nat):wb t (k::a)=(k,get k t)::wb t a:=rfl
def qE(st:bo)(a:List Nat)(cs:List (Nat×af)):bo:=⟨wb st.t a++cs,st.b,st.e,st.n,st.o⟩
def alY(t:List (Nat×af))(b:List (aA×List af))(e:List (aA×dT))(n:Nat)(o:List aA)(a:List Nat)(cs:List (Nat×af)):qE ⟨t,b,e,n,o⟩ a cs=⟨wb t a++cs,b,e,n,o⟩:=rfl
def Ah{α:Type}(S:Nat->α->bo)(n:Nat)(b:Nat->α->Prop)(k:Nat)(st:bo):Prop:= ∃i a,i<=n/\k=n-i/\b i a/\st=S i a
section
variable {P:cG} {ob:List aA} {st:bo} {Q:Exit->bo->Prop} {c:C} {α:Type}
def fX(S:Nat->α->bo)(n:Nat)(b:Nat->α->Prop)(a0:α)(hw:gk ob st (S 0 a0))(l:b 0 a0)(f:∀a,b n a->(∀i,eU (get i (S n a).t))->dd P ob c (bV ob (Ah S n b) 0 Q) (S n a))
  (g:∀i a,i<n->b i a->(∀j,eU (get j (S i a).t))->dd P ob c (bV ob (Ah S n b) (n-i) Q) (S i a)):dd P ob (.loop c) Q st:=by
 refine qi (Ah S n b) n _ hw ⟨0,a0,Ω,Ω,l,rfl⟩ ?_;rintro k s ⟨i,a,hi,rfl,d,rfl⟩ e _;rcases Nat.lt_or_ge i n with h|h
 ·exact g i a h d e
 ·obtain rfl:i=n:=Ω
  rw[Nat.sub_self];exact f a d e
def bV.rng{S:Nat->α->bo}{n:Nat}{a:Nat->α->Prop}{i:Nat}(bs:α)(hi:i<n)(b:a (i+1) bs)(hw:gk ob st (S (i+1) bs)):bV ob (Ah S n a) (n-i) Q .normal st:=⟨n-(i+1),_,Ω,hw,i+1,bs,Ω,rfl,b,rfl⟩
def CM{α:Type}(S:α->bo)(μ:α->Nat)(b:α->Prop)(k:Nat)(st:bo):Prop:= ∃a,k=μ a/\b a/\st=S a
def oY(S:α->bo)(μ:α->Nat)(b:α->Prop)(a0:α)(hw:gk ob st (S a0))(e:b a0)
  (d:∀a,b a->(∀j,eU (get j (S a).t))->dd P ob c (bV ob (CM S μ b) (μ a) Q) (S a)):dd P ob (.loop c) Q st:=by
 refine qi (CM S μ b) (μ a0) _ hw ⟨a0,rfl,e,rfl⟩ ?_;rintro k s ⟨a,rfl,f,rfl⟩ g _;exact d a f g
def bV.whl{S:α->bo}{μ:α->Nat}{a:α->Prop}{k:Nat}(bs:α)(hm:μ bs<k)(b:a bs)(hw:gk ob st (S bs)):bV ob (CM S μ a) k Q .normal st:=⟨μ bs,_,hm,hw,bs,rfl,b,rfl⟩
end
def iW{p:Prop}(h:p:=by(try simp[*]);(repeat' first|with_reducible refine aq ?_|with_reducible refine aP (by assumption) ?_|with_reducible refine aQ (by assumption) ?_|simp[*]);(all_goals first|exact bV.rng () (by assumption) (by first|assumption|trivial) cc|exact bV.rng _ (by assumption) (by assumption) cc)):p:=h
end
section
open Go Go.RowKit
def nm(s:cQ)(n:Nat)(k:aA):Prop:=aK s k\/ ∃m,m<n/\k= .loc m
@[simp]def Ye(s:cQ)(n m:Nat)(hm:m<n):nm s n (.loc m):= .inr ⟨m,hm,rfl⟩
def BX{s:cQ}{n:Nat}{l:List af}(h:aH (aK s) l):aH (nm s n) l:=jd (fun _ h=>.inl h) l h
def zB{s b:cQ}(c:Same s b){n:Nat}{k:aA}(h:nm b n k):¬fresh n (cI s) k:=by
 rcases h with h|⟨m,hm,rfl⟩
 ·exact fun a=>a.2 (rl ((c.inObs k).2 h))
 ·intro a;have:=a.1;simp at this;omega
def gk.obL{s b:cQ}(f:eB b)(c:Same s b){st:bo}{t':List (Nat×af)}{L:List (aA×List af)}{n:Nat}(g:∀x∈t',get x.1 st.t=x.2/\az (nm b n) x.2)(h:∀x∈L,ad x.1 st.b=some x.2/\nm b n x.1/\aH (nm b n) x.2)
  (j:∀k cs,ad k b.b=some cs->ad k st.b=some cs) (he:∀k o,ad k b.e=some o->ad k st.e=some o):gk (cI s) st ⟨t',L++b.b,b.e,n,cI s⟩:=by
 refine⟨fun x d=>⟨(g x d).1,uN (fun k a=>zB c a) _ (g x d).2⟩,fun k cs a=>?_,fun k o ar=>?_,fun m hm=>hm⟩
 ·simp only at a;rw[c0]at a;cases e:ad k L with
  |some x=>rw[e]at a;simp only[dS]at a;subst a;obtain⟨J,U,i⟩:=h _ (uQ e);exact⟨J,zB c U,jd (fun k a=>zB c a) _ i⟩
  |none=>rw[e]at a;exact⟨j k cs a,zB c (.inl (.inl (by simp[a]))),jd (fun k a=>zB c (.inl a)) _ (f.kb k cs a)⟩
 ·exact⟨he k o ar,zB c (.inl (.inr (by simp at ar;simp[ar]))),fun xs d=>jd (fun k a=>zB c (.inl a)) _ (f.ke k o ar xs d)⟩
def h9{α:Type}(l:List α)(i j:Nat):List α:=match l[i]?,l[j]? with
 |some x,some y=>(l.set i y).set j x
 |_,_=>l
section
variable {α:Type}
@[simp]def alp(l:List α)(i j:Nat):(h9 l i j).length=l.length:=by unfold h9;split<;>simp
def BM(l:List α)(i j k:Nat)(hi:i<l.length)(a:j<l.length):(h9 l i j)[k]? =if k=i then l[j]? else if k=j then l[i]? else l[k]?:=by
 unfold h9;rw[cl hi,cl a];simp only[List.getElem?_set,List.length_set];by_cases J:j=k
 ·subst J;by_cases U:j=i
  ·subst U;simp[hi]
  ·simp[U,a]
 ·by_cases U:i=k
  ·subst U;simp[J,hi]
  ·simp[J,U,Ne.symm J,Ne.symm U]
def XA(l:List α)(i j:Nat):(h9 l i j).Perm l:=by
 unfold h9;split
 ·rename_i x y b c;obtain⟨hi,rfl⟩:=fM.1 b;obtain⟨a,rfl⟩:=fM.1 c;exact List.set_set_perm hi a
 ·exact .refl _
inductive hf (a b:Nat):List α->List α->Prop
 |refl (l:List α):hf a b l l
 |step {l m:List α} {i j:Nat}:hf a b l m->a<=i->i<b->a<=j->j<b->i<m.length->j<m.length->hf a b l (h9 m i j)
def hf.length{a b:Nat}{l m:List α}(h:hf a b l m):m.length=l.length:=by
 induction h with
 |refl=>rfl
 |step _ _ _ _ _ _ _ c=>rw[alp,c]
def hf.perm{a b:Nat}{l m:List α}(h:hf a b l m):m.Perm l:=by
 induction h with
 |refl=>exact .refl _
 |step _ _ _ _ _ _ _ c=>exact(XA _ _ _).trans c
def hf.out{a b:Nat}{l m:List α}(h:hf a b l m)(k:Nat)(g:k<a\/b<=k):m[k]? =l[k]?:=by
 induction h with
 |refl=>rfl
 |step _ J U f i e c d=>rw[BM _ _ _ _ e c,if_neg Ω,if_neg Ω];exact d
def hf.all{a b:Nat}{l m:List α}(h:hf a b l m)(p:α->Prop)(j:∀k x,a<=k->k<b->l[k]? =some x->p x):∀k x,a<=k->k<b->m[k]? =some x->p x:=by
 induction h with
 |refl=>exact j
 |step _ J U n o i g d=>
  intro k x f e c;rw[BM _ _ _ _ i g]at c;split at c
  ·exact d _ _ n o c
  ·split at c
   ·exact d _ _ J U c
   ·exact d _ _ f e c
def hf.trans{a b:Nat}{l m r:List α}(h:hf a b l m)(d:hf a b m r):hf a b l r:=by
 induction d with
 |refl=>exact h
 |step _ J U g i f c e=>exact .step e J U g i f c
def hf.mono{a b bs b7:Nat}{l m:List α}(h:hf a b l m)(f:bs<=a)(i:b<=b7):hf bs b7 l m:=by
 induction h with
 |refl=>exact .refl _
 |step _ J U g j e c d=>exact .step d Ω Ω Ω Ω e c
def fW(lt:α->α->Bool)(a b:Nat)(l:List α):Prop:= ∀i j x y,a<=i->i<j->j<b->l[i]? =some x->l[j]? =some y->lt y x=false
structure rI (lt:α->α->Bool):Prop where
 asym:∀x y,lt x y=true->lt y x=false
 ntr:∀x y z,lt y x=false->lt z y=false->lt z x=false
def fW.pairwise{lt:α->α->Bool}{l:List α}(h:fW lt 0 l.length l):l.Pairwise fun x y=>lt y x=false:=by rw[qS];intro i j hi a b;exact h i j _ _ Ω b a (cl hi) (cl a)
def iR(a m b k:Nat):Nat:=if k<a then k else if k<a+(b-m)then k+(m-a)else if k<b then k-(b-m)else k
def tH(a b c k:Nat):Nat:=if a<=k/\k<a+c then b+(k-a)else if b<=k/\k<b+c then a+(k-b)else k
end
def Ha(i j:Nat)(h:i+j<=1099511627776):vf.wrap (Int.fdiv (ig.wrap ((i:Int)+j)) (2 ^ (min 1 ig.bits)))=((i+j)/2:Nat):=by
 have hw:ig.wrap ((i:Int)+j)=i+j:=by simp[tQ,pe,tP];omega
 have a:ig.bits=64:=rfl;rw[hw,a,show(2:Int) ^ (min 1 64)=2 from by decide,Int.fdiv_eq_ediv_of_nonneg _ Ω,pf]
 ·omega
 ·omega
end
section
open Go
inductive Tm where
 |mk (kind n:Int) (name:List cW) (args:List Tm)
def Tm.kind:Tm->Int| .mk k _ _ _=>k
def Tm.num:Tm->Int| .mk _ n _ _=>n
def Tm.name:Tm->List cW| .mk _ _ s _=>s
def Tm.args:Tm->List Tm| .mk _ _ _ a=>a
mutual
def enc:Tm->af
 | .mk k n s a=>.agg [.int .i64 k,.int .i64 n,.str s,.slice 4 .no (l0 a)]
def l0:List Tm->List af
 |[]=>[]
 |x::xs=>enc x::l0 xs
end
def AM:∀l,l0 l=l.map enc
 |[]=>rfl
 |x::xs=>by simp[l0,AM xs]
def yL(t:Tm):enc t= .agg [.int .i64 t.kind,.int .i64 t.num,.str t.name,.slice 4 .no (t.args.map enc)]:=by cases t;simp[enc,AM,Tm.kind,Tm.num,Tm.name,Tm.args]
mutual
def Xg(S:aA->Prop):∀t:Tm,az S (enc t)
 | .mk k n s a=>by simp[enc,az,aH,Np S a]
def Np(S:aA->Prop):∀l:List Tm,aH S (l0 l)
 |[]=>by simp[l0,aH]
 |x::xs=>by simp[l0,aH,Xg S x,Np S xs]
end
mutual
def aaZ:∀t:Tm,b5 (enc t)=enc t
 | .mk k n s a=>by simp[enc,b5,cf,PK a]
def PK:∀l:List Tm,cf (l0 l)=l0 l
 |[]=>by simp[l0,cf]
 |x::xs=>by simp[l0,cf,aaZ x,PK xs]
end
@[simp]def auX(S:aA->Prop)(t:Tm):az S (enc t)=True:=h0 (Xg S t)
@[simp]def auI(S:aA->Prop)(l:List Tm):aH S (l.map enc)=True:=by rw[<-AM];exact h0 (Np S l)
def aaY(l:List Tm):cf (l.map enc)=l.map enc:=by rw[<-AM];exact PK l
attribute [simp] aaZ aaY
@[simp]def awk(t:Tm):eS (enc t)=true:=by rw[yL];rfl
@[simp]def as2(t:Tm):cells (enc t)=[.int .i64 t.kind,.int .i64 t.num,.str t.name,.slice 4 .no (t.args.map enc)]:=by rw[yL];rfl
@[simp]def asH(t:Tm):af.agg [.int .i64 t.kind,.int .i64 t.num,.str t.name,.slice 4 .no (t.args.map enc)]=enc t:=(yL t).symm
@[simp]def auq(t:Tm):qA 4 (enc t):=by rw[yL];exact⟨_,rfl,rfl⟩
inductive T where
 |nil
 |var (n:Int)
 |sym (s:List cW)
 |num (n:Int)
 |pair (a b:T)
 deriving DecidableEq,Inhabited
def T.tm:T->Tm
 | .nil=>.mk 0 0 [] []
 | .var n=>.mk 1 n [] []
 | .sym s=>.mk 2 0 s []
 | .num n=>.mk 3 n [] []
 | .pair a b=>.mk 4 0 [] [a.tm,b.tm]
def T.e:T->af
 | .nil=>.agg [.int .i64 0,.int .i64 0,.str [],.slice 4 .no []]
 | .var n=>.agg [.int .i64 1,.int .i64 n,.str [],.slice 4 .no []]
 | .sym s=>.agg [.int .i64 2,.int .i64 0,.str s,.slice 4 .no []]
 | .num n=>.agg [.int .i64 3,.int .i64 n,.str [],.slice 4 .no []]
 | .pair a b=>.agg [.int .i64 4,.int .i64 0,.str [],.slice 4 .no [a.e,b.e]]
def um:∀t:T,enc t.tm=t.e
 | .nil| .var _| .sym _| .num _=>rfl
 | .pair a b=>by simp[T.tm,enc,l0,T.e,um a,um b]
def T.kind:T->Int
 | .nil=>0| .var _=>1| .sym _=>2| .num _=>3| .pair _ _=>4
def T.int:T->Int
 | .var n=>n| .num n=>n|_=>0
def T.name:T->List cW
 | .sym s=>s|_=>[]
def T.args:T->List T
 | .pair a b=>[a,b]|_=>[]
def T.e_eq(t:T):t.e= .agg [.int .i64 t.kind,.int .i64 t.int,.str t.name,.slice 4 .no (t.args.map T.e)]:=by cases t<;>rfl
@[simp]def asG(t:T):af.agg [.int .i64 t.kind,.int .i64 t.int,.str t.name,.slice 4 .no (t.args.map T.e)]=t.e:=(T.e_eq t).symm
@[simp]def asI:af.agg [.int .i64 0,.int .i64 0,.str [],.slice 4 .no []]=T.nil.e:=rfl
@[simp]def asM(n:Int):af.agg [.int .i64 1,.int .i64 n,.str [],.slice 4 .no []]=(T.var n).e:=rfl
@[simp]def asL(s:List cW):af.agg [.int .i64 2,.int .i64 0,.str s,.slice 4 .no []]=(T.sym s).e:=rfl
@[simp]def asJ(n:Int):af.agg [.int .i64 3,.int .i64 n,.str [],.slice 4 .no []]=(T.num n).e:=rfl
@[simp]def asK(a b:T):af.agg [.int .i64 4,.int .i64 0,.str [],.slice 4 .no [a.e,b.e]]=(T.pair a b).e:=rfl
@[simp]def ak6:(T.nil).kind=0:=rfl
@[simp]def akx:(T.nil).int=0:=rfl
@[simp]def al3:(T.nil).name=[]:=rfl
@[simp]def acZ:(T.nil).args=[]:=rfl
@[simp]def alb(n:Int):(T.var n).kind=1:=rfl
@[simp]def akB(n:Int):(T.var n).int=n:=rfl
@[simp]def al8(n:Int):(T.var n).name=[]:=rfl
@[simp]def ac3(n:Int):(T.var n).args=[]:=rfl
@[simp]def ala(s:List cW):(T.sym s).kind=2:=rfl
@[simp]def akA(s:List cW):(T.sym s).int=0:=rfl
@[simp]def al7(s:List cW):(T.sym s).name=s:=rfl
@[simp]def ac2(s:List cW):(T.sym s).args=[]:=rfl
@[simp]def ak7(n:Int):(T.num n).kind=3:=rfl
@[simp]def aky(n:Int):(T.num n).int=n:=rfl
@[simp]def al4(n:Int):(T.num n).name=[]:=rfl
@[simp]def ac0(n:Int):(T.num n).args=[]:=rfl
@[simp]def ak8(a b:T):(T.pair a b).kind=4:=rfl
@[simp]def akz(a b:T):(T.pair a b).int=0:=rfl
@[simp]def al5(a b:T):(T.pair a b).name=[]:=rfl
@[simp]def ac1(a b:T):(T.pair a b).args=[a,b]:=rfl
@[simp]def auW(S:aA->Prop)(t:T):az S t.e=True:=by rw[<-um];simp
@[simp]def awK(t:T):b5 t.e=t.e:=by rw[<-um];simp
def W7(S:aA->Prop):∀l:List T,aH S (l.map T.e)
 |[]=>by simp[aH]
 |x::xs=>by simp[aH,W7 S xs]
@[simp]def W6(S:aA->Prop)(l:List T):aH S (l.map T.e)=True:=h0 (W7 S l)
@[simp]def aqr:∀l:List T,cf (l.map T.e)=l.map T.e
 |[]=>rfl
 |x::xs=>by simp[cf,aqr xs]
@[simp]def awj(t:T):eS t.e=true:=by rw[T.e_eq];rfl
@[simp]def as1(t:T):cells t.e=[.int .i64 t.kind,.int .i64 t.int,.str t.name,.slice 4 .no (t.args.map T.e)]:=by rw[T.e_eq];rfl
@[simp]def aup(t:T):qA 4 t.e:=by rw[T.e_eq];exact⟨_,rfl,rfl⟩
def T.size:T->Nat
 | .pair a b=>1+a.size+b.size
 |_=>1
def T.size_pos(t:T):1<=t.size:=by cases t<;>simp[T.size]<;>omega
def low(b:cW):Bool:=decide (97<=b.toNat/\b.toNat<=122)
def nM(b:cW):Bool:=low b||decide (48<=b.toNat/\b.toNat<=57)||b.toNat==45
def kn(s:List cW):Bool:=decide (1<=s.length/\s.length<=12)&&low (s.getD 0 0)&&(s.drop 1).all nM
def T.ok:T->Bool
 | .nil=>true
 | .var n=>decide (0<=n/\n<=100000)
 | .sym s=>kn s
 | .num n=>decide (-1000000000<=n/\n<=1000000000)
 | .pair a b=>a.ok&&b.ok
def l6(k n:Int)(s:List cW):Bool:=if k=0 then n==0&&s==[]else if k=1 then decide (0<=n/\n<=100000)&&s==[]else if k=2 then n==0&&kn s else if k=3 then decide (-1000000000<=n/\n<=1000000000)&&s==[]else false
def gm:Tm->Int->Int
 | .mk k n s [a,b],room=>if room<1\/k≠4\/n≠0\/s≠[]then-1 else if gm a (room-1)<0 then-1 else if gm b (room-1-gm a (room-1))<0 then-1 else 1+gm a (room-1)+gm b (room-1-gm a (room-1))
 | .mk k n s args,room=>if room<1\/k=4\/args≠[]\/l6 k n s=false then-1 else 1
def N9(k n:Int)(s:List cW)(args:List Tm)(room:Int):gm (.mk k n s args) room=if room<1 then-1 else if k≠4 then(if args≠[]then-1 else if l6 k n s then 1 else-1)else if n≠0\/s≠[]then-1 else match args with
  |[a,b]=>if gm a (room-1)<0 then-1 else if gm b (room-1-gm a (room-1))<0 then-1 else 1+gm a (room-1)+gm b (room-1-gm a (room-1))
  |_=> -1:=by
 match args with
 |[]=>simp only[gm];by_cases J:room<1<;>by_cases U:k=4<;>by_cases d:l6 k n s=true<;>simp[J,U,d]
 |[a]=>simp[gm]
 |[a,b]=>simp only[gm];by_cases J:room<1<;>by_cases U:k=4<;>simp[J,U]
 |a::b::c::r=>simp[gm]
def Iq:∀(t:T) (room:Int),gm t.tm room=if t.ok=true/\(t.size:Int)<=room then(t.size:Int)else-1
 | .nil,room=>by simp[T.tm,gm,T.ok,T.size,l6];split<;>rename_i h<;>simp_all<;>omega
 | .var n,room=>by simp[T.tm,gm,T.ok,T.size,l6];split<;>split<;>simp_all<;>omega
 | .sym s,room=>by simp[T.tm,gm,T.ok,T.size,l6];by_cases J:room<1<;>by_cases U:kn s=true<;>simp[J,U]<;>omega
 | .num n,room=>by simp[T.tm,gm,T.ok,T.size,l6];split<;>split<;>simp_all<;>omega
 | .pair a b,room=>by
  have f:=a.size_pos;have g:=b.size_pos;simp only[T.tm,gm,Iq a,Iq b,T.ok,T.size,cP];by_cases J:room<1
  ·simp[J];omega
  ·by_cases U:a.ok=true/\(a.size:Int)<=room-1
   ·rw[if_pos U];by_cases c:b.ok=true/\(b.size:Int)<=room-1-a.size
    ·rw[if_pos c];simp[J,U.1,c.1];split<;>omega
    ·rw[if_neg c];simp[J,U.1];intro d;have:=c;simp[d]at this;omega
   ·rw[if_neg U];simp[J];intro e;have:=U;simp[e]at this;omega
def EC:∀(t:Tm) (room:Int),gm t room= -1\/1<=gm t room
 | .mk k n s [a,b],room=>by
  simp only[gm];split
  ·exact .inl rfl
  ·split
   ·exact .inl rfl
   ·split
    ·exact .inl rfl
    ·right;omega
 | .mk k n s [],room=>by simp only[gm];split<;>simp
 | .mk k n s [a],room=>by simp[gm]
 | .mk k n s (a::b::c::r),room=>by simp[gm]
def Ob:∀(t:Tm) (room:Int),0<gm t room->∃x:T,x.tm=t
 | .mk k n s [a,b],room,h=>by
  simp only[gm]at h;split at h
  ·omega
  ·rename_i J;simp only[not_or,Int.not_lt,ne_eq,aw5]at J;obtain⟨J,rfl,rfl,rfl⟩:=J;split at h
   ·omega
   ·split at h
    ·omega
    ·obtain⟨x,rfl⟩:=Ob a (room-1) (by rcases EC a (room-1)with h|h<;>omega);obtain⟨y,rfl⟩:=Ob b (room-1-gm x.tm (room-1)) (by rcases EC b (room-1-gm x.tm (room-1))with h|h<;>omega);exact⟨.pair x y,rfl⟩
 | .mk k n s [],room,h=>by
  simp only[gm]at h;split at h
  ·omega
  ·rename_i J;simp only[not_or,ne_eq,not_true_eq_false,not_false_eq_true,true_and,Bool.not_eq_false]at J;obtain⟨_,_,J⟩:=J;unfold l6 at J;split at J
   ·rename_i e;subst e;simp at J;obtain⟨rfl,rfl⟩:=J;exact⟨.nil,rfl⟩
   ·split at J
    ·rename_i e;subst e;simp at J;obtain⟨_,rfl⟩:=J;exact⟨.var n,rfl⟩
    ·split at J
     ·rename_i e;subst e;simp at J;obtain⟨rfl,_⟩:=J;exact⟨.sym s,rfl⟩
     ·split at J
      ·rename_i e;subst e;simp at J;obtain⟨_,rfl⟩:=J;exact⟨.num n,rfl⟩
      ·cases J
 | .mk k n s [a],room,h=>by simp[gm]at h
 | .mk k n s (a::b::c::r),room,h=>by simp[gm]at h
def Oa:∀(t:Tm) (room:Int),gm t room<=room\/gm t room= -1
 | .mk k n s [a,b],room=>by
  simp only[gm];split
  ·exact .inr rfl
  ·split
   ·exact .inr rfl
   ·split
    ·exact .inr rfl
    ·rcases Oa b (room-1-gm a (room-1))with h|h<;>omega
 | .mk k n s [],room=>by simp only[gm];split<;>simp;rename_i h;omega
 | .mk k n s [a],room=>by simp[gm]
 | .mk k n s (a::b::c::r),room=>by simp[gm]
mutual
def Tm.sz:Tm->Nat
 | .mk _ _ _ a=>1+Tm.szL a
def Tm.szL:List Tm->Nat
 |[]=>0
 |x::xs=>x.sz+Tm.szL xs
end
def szL_mem:∀{l:List Tm} {x:Tm},x∈l->x.sz<=Tm.szL l
 |y::l,x,h=>by
  rcases gK.1 h with rfl|h
  ·simp[Tm.szL]
  ·have:=szL_mem h;simp[Tm.szL];omega
def PW{t x:Tm}(h:x∈t.args):x.sz<t.sz:=by cases t;simp[Tm.args]at h;have:=szL_mem h;simp[Tm.sz];omega
def T.fit(t:T):Bool:=t.ok&&decide (t.size<=5000)
def Tm.fits(t:Tm):Bool:=decide (0<gm t 5000)
def Tm.fits_T(t:T):t.tm.fits=t.fit:=by
 unfold Tm.fits T.fit;rw[Iq];have:=t.size_pos;by_cases J:t.ok=true<;>by_cases U:t.size<=5000
 ·rw[if_pos ⟨J,Ω⟩];simp[J,U];omega
 ·rw[if_neg Ω];simp[U]
 ·rw[if_neg (by simp[J])];simp[J]
 ·rw[if_neg (by simp[J])];simp[J]
def Tm.fits_ex{t:Tm}(h:t.fits=true):∃x:T,x.tm=t/\x.fit=true:=by obtain⟨x,rfl⟩:=Ob t 5000 (by simpa[Tm.fits]using h);exact⟨x,rfl,by rw[<-Tm.fits_T];exact h⟩
structure Bd where
 v:Int
 t:T
 deriving DecidableEq,Inhabited
def Bd.e(b:Bd):af:= .agg [.int .i64 b.v,.int .i64 b.t.kind,.int .i64 b.t.int,.str b.t.name,.slice 4 .no (b.t.args.map T.e)]
@[simp]def Bd.eta(b:Bd):Bd.mk b.v b.t=b:=rfl
@[simp]def QL(v:Int)(t:T):af.agg [.int .i64 v,.int .i64 t.kind,.int .i64 t.int,.str t.name,.slice 4 .no (t.args.map T.e)]=(Bd.mk v t).e:=rfl
@[simp]def asB(v:Int):af.agg [.int .i64 v,.int .i64 0,.int .i64 0,.str [],.slice 4 .no []]=(Bd.mk v .nil).e:=rfl
@[simp]def asF(v n:Int):af.agg [.int .i64 v,.int .i64 1,.int .i64 n,.str [],.slice 4 .no []]=(Bd.mk v (.var n)).e:=rfl
@[simp]def asE(v:Int)(s:List cW):af.agg [.int .i64 v,.int .i64 2,.int .i64 0,.str s,.slice 4 .no []]=(Bd.mk v (.sym s)).e:=rfl
@[simp]def asC(v n:Int):af.agg [.int .i64 v,.int .i64 3,.int .i64 n,.str [],.slice 4 .no []]=(Bd.mk v (.num n)).e:=rfl
@[simp]def asD(v:Int)(a b:T):af.agg [.int .i64 v,.int .i64 4,.int .i64 0,.str [],.slice 4 .no [a.e,b.e]]=(Bd.mk v (.pair a b)).e:=rfl
@[simp]def auP(S:aA->Prop)(b:Bd):az S b.e=True:=by simp[Bd.e,-QL]
@[simp]def awD(b:Bd):b5 b.e=b.e:=by simp[Bd.e,-QL]
def W3(S:aA->Prop):∀l:List Bd,aH S (l.map Bd.e)
 |[]=>by simp[aH]
 |x::xs=>by simp[aH,W3 S xs]
@[simp]def auE(S:aA->Prop)(l:List Bd):aH S (l.map Bd.e)=True:=h0 (W3 S l)
@[simp]def aaX:∀l:List Bd,cf (l.map Bd.e)=l.map Bd.e
 |[]=>rfl
 |x::xs=>by simp[cf,aaX xs]
@[simp]def awa(b:Bd):eS b.e=true:=rfl
@[simp]def asU(b:Bd):cells b.e=[.int .i64 b.v,.int .i64 b.t.kind,.int .i64 b.t.int,.str b.t.name,.slice 4 .no (b.t.args.map T.e)]:=rfl
@[simp]def aum(b:Bd):qA 5 b.e:=⟨_,rfl,rfl⟩
@[simp]def atK(off:Nat)(a:Bool)(sz:Nat)(b:Bd):vH off a sz b.e=if a then some (off+sz<=5,.agg (([.int .i64 b.v,.int .i64 b.t.kind,.int .i64 b.t.int,.str b.t.name,.slice 4 .no (b.t.args.map T.e)].drop off).take sz))else(([.int .i64 b.v,.int .i64 b.t.kind,.int .i64 b.t.int,.str b.t.name,.slice 4 .no (b.t.args.map T.e)]:List af)[off]?).map fun p=>(True,p):=rfl
@[simp]def atC(off:Nat)(a:Bool)(sz:Nat)(b:Bd):sG off a sz (.eptr b.e)=if a then some (off+sz<=5,.eptr (.agg (([.int .i64 b.v,.int .i64 b.t.kind,.int .i64 b.t.int,.str b.t.name,.slice 4 .no (b.t.args.map T.e)].drop off).take sz)))else(([.int .i64 b.v,.int .i64 b.t.kind,.int .i64 b.t.int,.str b.t.name,.slice 4 .no (b.t.args.map T.e)]:List af)[off]?).map fun p=>(eS p=true/\cells p=[p],.eptr p):=rfl
def T.occ(v:Int):T->Bool
 | .var n=>n==v
 | .pair a b=>a.occ v||b.occ v
 |_=>false
def e6(a b:Int):Int:=if a<b then-1 else if b<a then 1 else 0
def lr(a b:List cW):Int:=if a=b then 0 else if iq a b then-1 else 1
def e2:T->T->Int
 | .pair a b,.pair c d=>if e2 a c=0 then e2 b d else e2 a c
 |x,y=>if x.kind≠y.kind then e6 x.kind y.kind else if x.int≠y.int then e6 x.int y.int else lr x.name y.name
structure Bt where
 v:Int
 t:Tm
def Bt.e(b:Bt):af:= .agg [.int .i64 b.v,.int .i64 b.t.kind,.int .i64 b.t.num,.str b.t.name,.slice 4 .no (b.t.args.map enc)]
def Bd.b(b:Bd):Bt:=⟨b.v,b.t.tm⟩
def Bd.b_e(b:Bd):b.b.e=b.e:=by obtain⟨v,t⟩:=b;cases t<;>simp only[Bd.b,Bt.e,Bd.e,T.tm,Tm.kind,Tm.num,Tm.name,Tm.args,um,ak6,alb,ala,ak7,ak8,akx,akB,akA,aky,akz,al3,al8,al7,al4,al5,acZ,ac3,ac2,ac0,ac1,hc,List.map_nil]
@[simp]def Bt.eta(b:Bt):Bt.mk b.v b.t=b:=rfl
@[simp]def QM(v:Int)(t:Tm):af.agg [.int .i64 v,.int .i64 t.kind,.int .i64 t.num,.str t.name,.slice 4 .no (t.args.map enc)]=(Bt.mk v t).e:=rfl
@[simp]def auR(S:aA->Prop)(b:Bt):az S b.e=True:=by simp[Bt.e,-QM]
@[simp]def awF(b:Bt):b5 b.e=b.e:=by simp[Bt.e,-QM]
def W5(S:aA->Prop):∀l:List Bt,aH S (l.map Bt.e)
 |[]=>by simp[aH]
 |x::xs=>by simp[aH,W5 S xs]
@[simp]def auG(S:aA->Prop)(l:List Bt):aH S (l.map Bt.e)=True:=h0 (W5 S l)
@[simp]def aqq:∀l:List Bt,cf (l.map Bt.e)=l.map Bt.e
 |[]=>rfl
 |x::xs=>by simp[cf,aqq xs]
@[simp]def awd(b:Bt):eS b.e=true:=rfl
@[simp]def asX(b:Bt):cells b.e=[.int .i64 b.v,.int .i64 b.t.kind,.int .i64 b.t.num,.str b.t.name,.slice 4 .no (b.t.args.map enc)]:=rfl
@[simp]def auo(b:Bt):qA 5 b.e:=⟨_,rfl,rfl⟩
@[simp]def atL(off:Nat)(a:Bool)(sz:Nat)(b:Bt):vH off a sz b.e=if a then some (off+sz<=5,.agg (([.int .i64 b.v,.int .i64 b.t.kind,.int .i64 b.t.num,.str b.t.name,.slice 4 .no (b.t.args.map enc)].drop off).take sz))else(([.int .i64 b.v,.int .i64 b.t.kind,.int .i64 b.t.num,.str b.t.name,.slice 4 .no (b.t.args.map enc)]:List af)[off]?).map fun p=>(True,p):=rfl
@[simp]def atD(off:Nat)(a:Bool)(sz:Nat)(b:Bt):sG off a sz (.eptr b.e)=if a then some (off+sz<=5,.eptr (.agg (([.int .i64 b.v,.int .i64 b.t.kind,.int .i64 b.t.num,.str b.t.name,.slice 4 .no (b.t.args.map enc)].drop off).take sz)))else(([.int .i64 b.v,.int .i64 b.t.kind,.int .i64 b.t.num,.str b.t.name,.slice 4 .no (b.t.args.map enc)]:List af)[off]?).map fun p=>(eS p=true/\cells p=[p],.eptr p):=rfl
def B1(l:List Bt)(i:Nat):Prop:= ∀b,l[i]? =some b->(0<=b.v/\b.v<=100000)/\(∀c,0<i->l[i-1]? =some c->c.v<b.v)/\b.t.fits=true
def Am(l:List Bt):Prop:=l.length<=400/\∀i,i<l.length->B1 l i
def se:∀a b:T,e2 a b=0↔a=b
 | .pair a b,.pair c d=>by
  simp only[e2,T.pair.injEq];split
  ·rename_i h;rw[se b d,<-se a c];simp[h]
  ·rename_i h;simp[h,<-se a c]
 | .nil,y=>by cases y<;>simp[e2,e6,lr]
 | .var n,y=>by cases y<;>simp[e2,e6,lr]<;>omega
 | .sym s,y=>by cases y<;>simp[e2,e6,lr];rename_i e;by_cases h:s=e<;>simp[h];by_cases U:iq s e=true<;>simp[U]
 | .num n,y=>by cases y<;>simp[e2,e6,lr]<;>omega
 | .pair a b,.nil| .pair a b,.var _| .pair a b,.sym _| .pair a b,.num _=>by simp[e2,e6]
def T.sub(f:Int->bc T):T->T
 | .var n=>match f n with|some x=>x|none=>.var n
 | .pair a b=>.pair (a.sub f) (b.sub f)
 |t=>t
def l7(f:Int->Int):T->Int
 | .var n=>if 5001<f n then 5001 else f n
 | .pair a b=>if 5000<l7 f a then l7 f a else if 5001<1+l7 f a+l7 f b then 5001 else 1+l7 f a+l7 f b
 |_=>1
def Js(f:Int->Int)(c:∀v,-1<=f v):∀t,-1<=l7 f t/\l7 f t<=5001
 | .var n=>by have:=c n;simp only[l7];split<;>omega
 | .pair a b=>by have:=Js f c a;have:=Js f c b;simp only[l7];split<;>(try split)<;>omega
 | .nil| .sym _| .num _=>by simp[l7]
def dD(l:List Bd)(v:Int):bc T:=(l.find? fun b=>b.v==v).map (·.t)
end
section
open Go
structure j8 {α:Type} (c:α->α->Int):Prop where
 neg:∀a b,c b a= -c a b
 tr:∀a b d,c a b<=0->c b d<=0->c a d<=0
 zero:∀a b,c a b=0↔a=b
section
variable {α:Type} {c:α->α->Int}
def iJ(c:α->α->Int)(a b:α):Bool:=decide (c a b<0)
def j8.ltOk(h:j8 c):rI (iJ c):=by
 refine⟨fun x y a=>?_,fun x y z J U=>?_⟩
 ·simp only[iJ,gu,iL]at a⊢;rw[h.neg x y];omega
 ·simp only[iJ,iL]at J U⊢;have d:=h.neg x y;have e:=h.neg y z;have b:=h.neg x z;have:=h.tr x y z Ω Ω;omega
def j8.refl(h:j8 c)(a:α):c a a=0:=(h.zero a a).2 rfl
def j8.ltr(h:j8 c){a b d:α}(J:c a b<0)(U:c b d<=0):c a d<0:=by
 have f:=h.tr a b d Ω U;rcases(by omega:c a d<0\/c a d=0)with e|e
 ·exact e
 ·obtain rfl:=(h.zero a d).1 e;have:=h.neg a b;omega
def p1(c:α->α->Int)(l:List α):List α:=l.mergeSort fun x y=>decide (c x y<=0)
def z1(c:α->α->Int)(l:List α):(p1 c l).Perm l:=List.mergeSort_perm l _
def PG(h:j8 c)(l:List α):(p1 c l).Pairwise fun x y=>c x y<=0:=by have:=List.pairwise_mergeSort (le:=fun x y=>decide (c x y<=0)) (fun a b d J U=>by simp at J U⊢;exact h.tr a b d J U) (fun a b=>by simp;have:=h.neg a b;omega) l;exact this.imp Ψ
def aaT(h:j8 c){l a:List α}(d:a.Perm l)(e:a.Pairwise fun x y=>iJ c y x=false):a=p1 c l:=by refine Qv (le:=fun x y=>c x y<=0) (fun x y _ _ J U=>(h.zero x y).1 (by have:=h.neg x y;omega)) (e.imp fun{x y} b=>?_) (PG h l) (d.trans (z1 c l).symm);simp only[iJ,iL]at b;have:=h.neg x y;omega
def cS[DecidableEq α](p:bc α):List α->List α
 |[]=>[]
 |x::r=>if p=some x then cS (some x) r else x::cS (some x) r
def asc[DecidableEq α](c:α->α->Int)(l:List α):List α:=cS none (p1 c l)
def iM(c:α->α->Int)(l:List α):Prop:=l.Pairwise fun x y=>c x y<0
variable [DecidableEq α]
def K6:∀(l:List α) (p:bc α) (x:α),x∈cS p l->x∈l
 |[],_,_,h=>by simp[cS]at h
 |y::r,p,x,h=>by
  simp only[cS]at h;split at h
  ·exact qR _ (K6 r _ x h)
  ·rcases gK.1 h with rfl|h
   ·simp
   ·exact qR _ (K6 r _ x h)
def NP:∀(l:List α) (p:bc α) (x:α),x∈l->x∈cS p l\/p=some x
 |y::r,p,x,h=>by
  simp only[cS];rcases gK.1 h with rfl|h
  ·split
   ·rename_i U;exact .inr U
   ·simp
  ·split
   ·rename_i U;rcases NP r (some y) x h with a|a
    ·exact .inl a
    ·cases a;exact .inr U
   ·rcases NP r (some y) x h with a|a
    ·exact .inl (qR _ a)
    ·cases a;simp
def TH(aw:j8 c):∀(l:List α) (p:bc α),l.Pairwise (fun x y=>c x y<=0)->(∀y,p=some y->∀x∈l,c y x<=0)->iM c (cS p l)/\∀y,p=some y->∀x∈cS p l,c y x<0
 |[],p,_,_=>⟨axe,fun y _ x a=>by simp[cS]at a⟩
 |z::r,p,h,i=>by
  obtain⟨J,U⟩:=n3.1 h;have b:=TH aw r (some z) U (fun y f x a=>by cases f;exact J x a);simp only[cS];split
  ·rename_i e;subst e;exact b
  ·rename_i e;refine⟨n3.2 ⟨fun x a=>b.2 z rfl x a,b.1⟩,fun y f x a=>?_⟩;subst f;have g:c y z<0:=by
    have j:=i y rfl z Ψ;rcases(by omega:c y z<0\/c y z=0)with d|d
    ·exact d
    ·exact absurd (ff some ((aw.zero y z).1 d)) e
   rcases gK.1 a with rfl|a
   ·exact g
   ·exact aw.ltr g (by have:=b.2 z rfl x a;omega)
def Kj(aw:j8 c)(l:List α):iM c (asc c l):=(TH aw _ none (PG aw l) (fun y h=>by cases h)).1
def XK(l:List α)(x:α):x∈asc c l↔x∈l:=by
 constructor
 ·intro h;exact(z1 c l).mem_iff.1 (K6 _ _ _ h)
 ·intro h;rcases NP (p1 c l) none x ((z1 c l).mem_iff.2 h)with h|h
  ·exact h
  ·cases h
omit [DecidableEq α]in
def iM.ext(aw:j8 c){l d:List α}(h:iM c l)(f:iM c d)(hm:∀x,x∈l↔x∈d):l=d:=by
 have g:∀{l:List α},iM c l->l.Nodup:=fun{l} h=>h.imp fun{a b} h e=>by subst e;have:=aw.refl a;omega
 refine Qv (le:=fun x y=>c x y<=0) (fun x y _ _ J U=>(aw.zero x y).1 (by have:=aw.neg x y;omega)) (h.imp fun h=>Ω) (f.imp fun h=>Ω) ?_;exact(List.perm_ext_iff_of_nodup (g h) (g f)).2 hm
omit [DecidableEq α]in
def iM.nodup(aw:j8 c){l:List α}(h:iM c l):l.Nodup:=h.imp fun{a b} h e=>by subst e;have:=aw.refl a;omega
end
def Kq:∀a b:List cW,iq a b=true->iq b a=false
 |_,[],h=>by simp[iq]at h
 |[],_::_,_=>by simp[iq]
 |x::a,y::b,h=>by
  simp only[iq,n2,gu,cP,ey]at h;simp only[iq,Bool.or_eq_false_iff,iL,Bool.and_eq_false_iff];rcases h with h|⟨rfl,h⟩
  ·refine⟨fun U=>?_,.inl ?_⟩
   ·rw[UInt8.lt_iff_toNat_lt]at h U;omega
   ·simp;intro e;subst e;rw[UInt8.lt_iff_toNat_lt]at h;omega
  ·exact⟨fun U=>by rw[UInt8.lt_iff_toNat_lt]at U;omega,.inr (Kq a b h)⟩
def Q4:∀a b:List cW,a≠b->iq a b=false->iq b a=true
 |[],[],h,_=>absurd rfl h
 |x::a,[],_,_=>by simp[iq]
 |[],_::_,_,h=>by simp[iq]at h
 |x::a,y::b,c,h=>by
  simp only[iq,Bool.or_eq_false_iff,iL,Bool.and_eq_false_iff]at h;simp only[iq,n2,gu,cP,ey];by_cases e:x=y
  ·subst e;right;refine⟨rfl,Q4 a b (fun e=>c (by rw[e])) ?_⟩;rcases h.2 with U|U
   ·simp at U
   ·exact U
  ·left;have J:=h.1;rw[UInt8.lt_iff_toNat_lt]at J⊢;have:x.toNat≠y.toNat:=fun h=>e (UInt8.toNat_inj.1 h);omega
def Q3:∀a b d:List cW,iq a b=true->iq b d=true->iq a d=true
 |_,[],_,h,_=>by simp[iq]at h
 |_,_::_,[],_,h=>by simp[iq]at h
 |[],_::_,_::_,_,_=>by simp[iq]
 |x::a,y::b,z::d,J,U=>by
  simp only[iq,n2,gu,cP,ey,UInt8.lt_iff_toNat_lt]at J U⊢;rcases J with J|⟨rfl,J⟩<;>rcases U with U|⟨rfl,U⟩
  ·left;omega
  ·left;exact J
  ·left;exact U
  ·exact .inr ⟨rfl,Q3 a b d J U⟩
def kV:j8 e6:=by
 refine⟨fun a b=>?_,fun a b d=>?_,fun a b=>?_⟩
 ·simp only[e6];repeat' split
  all_goals omega
 ·simp only[e6];repeat' split
  all_goals omega
 ·simp only[e6];repeat' split
  all_goals omega
def ER:j8 lr:=by
 have g:∀a b,lr b a= -lr a b:=fun a b=>by
  simp only[lr];by_cases e:a=b
  ·subst e;simp
  ·rw[if_neg e,if_neg (Ne.symm e)];cases h:iq a b with
   |true=>simp[Kq a b h]
   |false=>simp[Q4 a b e h]
 refine⟨g,fun a b d J U=>?_,fun a b=>?_⟩
 ·simp only[lr]at J U⊢;by_cases c:a=b
  ·subst c;exact U
  ·by_cases f:b=d
   ·subst f;exact J
   ·rw[if_neg c]at J;rw[if_neg f]at U;have g1:iq a b=true:=by cases h:iq a b<;>simp[h]at J⊢
    have g2:iq b d=true:=by cases h:iq b d<;>simp[h]at U⊢
    rw[Q3 a b d g1 g2];split<;>simp
 ·simp only[lr];by_cases e:a=b
  ·simp[e]
  ·rw[if_neg e];simp[e];split<;>omega
def tw{a b:T}(h:a.kind≠b.kind):e2 a b=e6 a.kind b.kind:=by cases a<;>cases b<;>simp at h<;>simp[e2]
def IC:∀a b:T,e2 b a= -e2 a b
 | .pair a b,.pair c d=>by
  simp only[e2];have J:=IC a c;have U:=IC b d;by_cases e:e2 a c=0
  ·rw[if_pos e,if_pos Ω,U]
  ·rw[if_neg e,if_neg Ω,J]
 | .nil,y=>by
  by_cases f:T.nil.kind=y.kind
  ·cases y<;>simp at f;simp[e2,lr]
  ·rw[tw f,tw (Ne.symm f),kV.neg]
 | .var n,y=>by
  by_cases f:(T.var n).kind=y.kind
  ·cases y<;>simp at f;rename_i m;by_cases e:n=m
   ·subst e;simp[e2,lr]
   ·simp[e2,e,Ne.symm e,kV.neg n m]
  ·rw[tw f,tw (Ne.symm f),kV.neg]
 | .sym s,y=>by
  by_cases f:(T.sym s).kind=y.kind
  ·cases y<;>simp at f;rename_i m;simp[e2,ER.neg s m]
  ·rw[tw f,tw (Ne.symm f),kV.neg]
 | .num n,y=>by
  by_cases f:(T.num n).kind=y.kind
  ·cases y<;>simp at f;rename_i m;by_cases e:n=m
   ·subst e;simp[e2,lr]
   ·simp[e2,e,Ne.symm e,kV.neg n m]
  ·rw[tw f,tw (Ne.symm f),kV.neg]
 | .pair a b,.nil| .pair a b,.var _| .pair a b,.sym _| .pair a b,.num _=>by simp[e2,e6]
def IB{a b:T}(h:e2 a b<=0):a.kind<=b.kind:=by
 by_cases c:a.kind=b.kind
 ·omega
 ·rw[tw c]at h;simp only[e6]at h;repeat' split at h
  all_goals omega
def YT(n m:Int):e2 (.var n) (.var m)=e6 n m:=by
 simp only[e2,T.kind,T.int,T.name,lr];by_cases e:n=m
 ·subst e;simp[e6]
 ·simp[e]
def YS(n m:Int):e2 (.num n) (.num m)=e6 n m:=by
 simp only[e2,T.kind,T.int,T.name,lr];by_cases e:n=m
 ·subst e;simp[e6]
 ·simp[e]
def aor(n m:List cW):e2 (.sym n) (.sym m)=lr n m:=by simp[e2]
def ID(a b d:T)(g:a.kind≠4)(J:e2 a b<=0)(U:e2 b d<=0):e2 a d<=0:=by
 have e:=IB J;have f:=IB U;by_cases c:a.kind=d.kind
 ·cases a<;>cases d<;>simp at c g;all_goals(cases b<;>simp at e f)
  ·simp[e2,lr]
  ·rw[YT]at J U⊢;exact kV.tr _ _ _ J U
  ·rw[aor]at J U⊢;exact ER.tr _ _ _ J U
  ·rw[YS]at J U⊢;exact kV.tr _ _ _ J U
 ·rw[tw c];simp only[e6];repeat' split
  all_goals omega
def aos:∀a b d:T,e2 a b<=0->e2 b d<=0->e2 a d<=0:=by
 intro a;induction a with
 |pair e a2 o m=>
  intro b d J U;have i:=IB J;have j:=IB U;cases b<;>simp at i;all_goals(cases d<;>simp at j)
  rename_i c k d1 d2;simp only[e2]at J U⊢;by_cases g:e2 e c=0
  ·obtain rfl:=(se e c).1 g;rw[if_pos g]at J;by_cases f:e2 e d1=0
   ·rw[if_pos f]at U⊢;exact m k d2 J U
   ·rw[if_neg f]at U⊢;exact U
  ·rw[if_neg g]at J;by_cases f:e2 c d1=0
   ·obtain rfl:=(se c d1).1 f;rw[if_neg g];exact J
   ·rw[if_neg f]at U;have l:=o c d1 J U;by_cases h:e2 e d1=0
    ·obtain rfl:=(se e d1).1 h;have:=IC e c;omega
    ·rw[if_neg h];exact l
 |nil=>exact fun b d=>ID _ b d Ψ
 |var n=>exact fun b d=>ID _ b d Ψ
 |sym n=>exact fun b d=>ID _ b d Ψ
 |num n=>exact fun b d=>ID _ b d Ψ
def OB:j8 e2:=⟨IC,aos,se⟩
end
section
open Go
section
variable {α:Type} {c:α->α->Int}
def kD(c:α->α->Int):List α->List α->Int
 |[],[]=>0
 |[],_::_=> -1
 |_::_,[]=>1
 |x::xs,y::ys=>if c x y=0 then kD c xs ys else c x y
def Xr(h:j8 c):∀a b:List α,kD c b a= -kD c a b
 |[],[]=>rfl
 |[],_::_=>rfl
 |_::_,[]=>rfl
 |x::xs,y::ys=>by
  simp only[kD];have J:=h.neg x y;by_cases e:c x y=0
  ·rw[if_pos e,if_pos Ω,Xr h xs ys]
  ·rw[if_neg e,if_neg Ω,J]
def Xt(h:j8 c):∀a b:List α,kD c a b=0↔a=b
 |[],[]=>by simp[kD]
 |[],_::_=>by simp[kD]
 |_::_,[]=>by simp[kD]
 |x::xs,y::ys=>by
  simp only[kD,rD];by_cases e:c x y=0
  ·rw[if_pos e,Xt h xs ys];simp[(h.zero x y).1 e]
  ·rw[if_neg e];exact⟨fun d=>absurd d e,fun d=>absurd ((h.zero x y).2 d.1) e⟩
def Xs(h:j8 c):∀a b d:List α,kD c a b<=0->kD c b d<=0->kD c a d<=0
 |[],_,[],_,_=>by simp[kD]
 |[],_,_::_,_,_=>by simp[kD]
 |_::_,[],_,J,_=>by simp[kD]at J
 |_::_,_::_,[],_,U=>by simp[kD]at U
 |x::xs,y::ys,z::dr,J,U=>by
  simp only[kD]at J U⊢;by_cases f:c x y=0
  ·have:=(h.zero x y).1 f;subst this;rw[if_pos f]at J;by_cases e:c x z=0
   ·rw[if_pos e]at U⊢;exact Xs h xs ys dr J U
   ·rw[if_neg e]at U⊢;exact U
  ·rw[if_neg f]at J;have g:c x y<0:=Ω
   by_cases e:c y z=0
   ·have:=(h.zero y z).1 e;subst this;rw[if_neg f];omega
   ·rw[if_neg e]at U;have:=h.ltr g U;rw[if_neg Ω];omega
def ali(h:j8 c):j8 (kD c):=⟨Xr h,Xs h,Xt h⟩
end
def zI(x y:Bd):Int:=if e6 x.v y.v=0 then e2 x.t y.t else e6 x.v y.v
def aop:j8 zI:=by
 refine⟨fun x y=>?_,fun x y z J U=>?_,fun x y=>?_⟩
 ·unfold zI;have:=kV.neg x.v y.v;have:=OB.neg x.t y.t;by_cases e:e6 x.v y.v=0
  ·rw[if_pos e,if_pos Ω];omega
  ·rw[if_neg e,if_neg Ω];omega
 ·unfold zI at J U⊢;by_cases b:e6 x.v y.v=0
  ·rw[if_pos b]at J;rw[(kV.zero _ _).1 b];by_cases a:e6 y.v z.v=0
   ·rw[if_pos a]at U⊢;exact OB.tr _ _ _ J U
   ·rw[if_neg a]at U⊢;exact U
  ·rw[if_neg b]at J;have c:e6 x.v y.v<0:=Ω
   by_cases a:e6 y.v z.v=0
   ·rw[<-(kV.zero _ _).1 a,if_neg b];exact J
   ·rw[if_neg a]at U;have:=kV.ltr c U;rw[if_neg Ω];omega
 ·unfold zI;by_cases e:e6 x.v y.v=0
  ·rw[if_pos e,OB.zero];have:=(kV.zero _ _).1 e;cases x;cases y;simp_all
  ·rw[if_neg e];exact⟨fun h=>absurd h e,fun h=>by rw[h]at e;exact absurd (kV.refl _) e⟩
def e5:List Bd->List Bd->Int:=kD zI
def mB:j8 e5:=ali aop
end
section
open Go
def T.ap(c:Int->T):T->T
 | .var n=>c n
 | .pair a b=>.pair (a.ap c) (b.ap c)
 |t=>t
def CV(f g:Int->T)(t:T):(t.ap f).ap g=t.ap fun v=>(f v).ap g:=by
 induction t with
 |pair a b d c=>simp[T.ap,d,c]
 |_=>simp[T.ap]
def vu{f g:Int->T}{t:T}(h:∀v,t.occ v=true->f v=g v):t.ap f=t.ap g:=by
 induction t with
 |var n=>exact h n (by simp[T.occ])
 |pair a b e d=>simp only[T.ap];rw[e fun v c=>h v (by simp[T.occ,c]),d fun v c=>h v (by simp[T.occ,c])]
 |_=>rfl
def acX(t:T):t.ap .var=t:=by induction t<;>simp_all[T.ap]
def QR{f:Int->T}{t:T}(h:∀v,t.occ v=true->f v= .var v):t.ap f=t:=(vu h).trans (acX t)
def aa1(f:Int->bc T)(t:T):t.sub f=t.ap fun v=>(f v).getD (.var v):=by
 induction t with
 |var n=>simp only[T.sub,T.ap];cases f n<;>rfl
 |pair a b d c=>simp[T.sub,T.ap,d,c]
 |_=>rfl
def acW(c:Int->T)(t:T):t.size<=(t.ap c).size:=by
 induction t with
 |var n=>exact T.size_pos _
 |pair a b e d=>simp only[T.ap,T.size];omega
 |_=>exact dL _
def B0(c:Int->T){v:Int}{t:T}(h:t.occ v=true):(c v).size<=(t.ap c).size/\(t.kind≠1->(c v).size<(t.ap c).size):=by
 induction t with
 |var n=>simp[T.occ]at h;subst h;simp[T.ap,T.kind]
 |pair a b e d=>
  simp only[T.occ,n2]at h;simp only[T.ap,T.size];rcases h with h|h
  ·have:=(e h).1;exact⟨Ω,fun _=>Ω⟩
  ·have:=(d h).1;exact⟨Ω,fun _=>Ω⟩
 |_=>simp[T.occ]at h
def EG{c:Int->T}{v:Int}{t:T}:(t.ap c).occ v=true↔∃w,t.occ w=true/\(c w).occ v=true:=by
 induction t with
 |var n=>simp[T.ap,T.occ]
 |pair a b e d=>
  simp only[T.ap,T.occ,n2,e,d];constructor
  ·rintro(⟨w,J,U⟩|⟨w,J,U⟩)
   ·exact⟨w,.inl J,U⟩
   ·exact⟨w,.inr J,U⟩
  ·rintro⟨w,J|J,U⟩
   ·exact .inl ⟨w,J,U⟩
   ·exact .inr ⟨w,J,U⟩
 |_=>simp[T.ap,T.occ]
def cO(s:List Bd)(v:Int):T:=(dD s v).getD (.var v)
abbrev jw(s:List Bd):Prop:=s.Pairwise fun x y=>x.v<y.v
def hQ(s:List Bd)(a:Int->T):Prop:= ∀b∈s,a b.v=b.t.ap a
structure gz (s:List Bd):Prop where
 asc:jw s
 free:∀b∈s,∀w,b.t.occ w=true->dD s w=none
 ori:∀b∈s,∀w,b.t= .var w->w<b.v
def vx(b:Bd)(s:List Bd)(v:Int):dD (b::s) v=if b.v=v then some b.t else dD s v:=by
 unfold dD;by_cases h:b.v=v
 ·simp[h]
 ·have:(b.v==v)=false:=by simp[h]
  simp[this,h,List.find?_cons]
def kJ{v:Int}{t:T}:∀{s:List Bd},dD s v=some t->(⟨v,t⟩:Bd)∈s
 |[],h=>by simp[dD]at h
 |b::s,h=>by
  rw[vx]at h;split at h
  ·rename_i e;cases h;subst e;simp
  ·exact qR _ (kJ h)
def wQ{v:Int}:∀{s:List Bd},dD s v=none↔∀b∈s,b.v≠v
 |[]=>by simp[dD]
 |b::s=>by
  rw[vx];by_cases h:b.v=v
  ·simp[h]
  ·simp[h,wQ (s:=s)]
def wP{b:Bd}:∀{s:List Bd},jw s->b∈s->dD s b.v=some b.t
 |[],_,h=>by simp at h
 |c::s,d,h=>by
  rw[vx];have a:=n3.1 d;rcases gK.1 h with rfl|h
  ·simp
  ·have:=a.1 b h;rw[if_neg Ω];exact wP a.2 h
def QT:∀{s a:List Bd},jw s->jw a->(∀v,dD s v=dD a v)->s=a
 |[],[],_,_,_=>rfl
 |[],c::a,_,_,h=>by have:=h c.v;rw[vx]at this;simp[dD]at this
 |c::s,[],_,_,h=>by have:=h c.v;rw[vx]at this;simp[dD]at this
 |b::s,c::a,k,m,h=>by
  have f:=n3.1 m;have d:=n3.1 k;have J:(⟨b.v,b.t⟩:Bd)∈c::a:=kJ (by rw[<-h b.v,vx];simp);have U:(⟨c.v,c.t⟩:Bd)∈b::s:=kJ (by rw[h c.v,vx];simp);have o:b=c:=by
   rcases gK.1 J with e|e
   ·exact e
   ·rcases gK.1 U with i|i
    ·exact i.symm
    ·have n:=f.1 _ e;have l:=d.1 _ i;simp only at n l;omega
  subst o;rw[QT d.2 f.2 fun v=>?_];have:=h v;rw[vx,vx]at this;by_cases e:b.v=v
  ·have j:dD s v=none:=wQ.2 fun x g=>by have:=d.1 x g;omega
   have z2:dD a v=none:=wQ.2 fun x g=>by have:=f.1 x g;omega
   rw[j,z2]
  ·simpa[e]using this
def aqf{s:List Bd}(c:jw s){a:Int->T}:hQ s a↔∀v,a v=(cO s v).ap a:=by
 constructor
 ·intro h v;unfold cO;cases e:dD s v with
  |none=>rfl
  |some t=>exact h _ (kJ e)
 ·intro h b d;have:=h b.v;rw[cO,wP c d]at this;exact this
def PE{s:List Bd}{a:Int->T}(h:hQ s a)(t:T):t.ap a=(t.ap (cO s)).ap a:=by
 rw[CV];refine vu fun v _=>?_;unfold cO;cases e:dD s v with
 |none=>rfl
 |some t=>exact h _ (kJ e)
def apW{s:List Bd}(b:gz s){t:T}(h:∀w,t.occ w=true->dD s w=none):t.ap (cO s)=t:=QR fun v a=>by simp[cO,h v a]
def zZ{s:List Bd}(a:gz s):hQ s (cO s):=fun b c=>by rw[apW a (a.free b c),cO,wP a.asc c];rfl
def NY{s a:List Bd}(f:gz s)(c:gz a)(h:∀d,hQ a d->hQ s d){v:Int}(g:dD a v=none):dD s v=none:=by
 cases e:dD s v with
 |none=>rfl
 |some t=>
  have J:=h _ (zZ c) _ (kJ e);simp only[cO,g,oM]at J;cases t with
  |var w=>
   have U:w<v:=f.ori _ (kJ e) w rfl;simp only[T.ap,cO]at J;cases b:dD a w with
   |none=>rw[b]at J;simp at J;omega
   |some u=>rw[b]at J;simp only[mK]at J;subst J;have:=c.ori _ (kJ b) v rfl;simp only at this;omega
  |_=>simp[T.ap]at J
def al2{s a:List Bd}(c:gz a)(h:∀b,hQ a b->hQ s b){v:Int}:(cO s v).size<=(cO a v).size:=by
 have J:=h _ (zZ c);unfold cO;cases e:dD s v with
 |none=>exact T.size_pos _
 |some t=>have:=J _ (kJ e);show t.size<=(cO a v).size;simp only at this;rw[this];exact acW _ _
def aqi{s b:List Bd}(d:gz s)(c:gz b)(h:∀a,hQ s a↔hQ b a):s=b:=by
 refine QT d.asc c.asc fun v=>?_;have d1:∀w,dD s w=none↔dD b w=none:=fun w=>⟨NY c d (fun a=>(h a).1),NY d c fun a=>(h a).2⟩;cases e:dD s v with
 |none=>exact((d1 v).1 e).symm
 |some t=>
  cases f:dD b v with
  |none=>rw[(d1 v).2 f]at e;cases e
  |some t'=>have J:=(h _).2 (zZ c) _ (kJ e);simp only[cO,f,mK]at J;rw[J];exact ff some (QR fun w hw=>by have:=(d1 w).1 (d.free _ (kJ e) w hw);simp[cO,this]).symm
def ir(s:List Bd):Prop:=s.length<=400/\∀b∈s,b.t.size<=5000
def ac6{s:List Bd}(h:jw s):(s.map (·.v)).Nodup:=by rw[List.nodup_iff_pairwise_ne,List.pairwise_map];exact h.imp fun h=>Ω
def Uu{s a:List Bd}(d:gz s)(g:gz a)(h:∀j,hQ a j->hQ s j)(l:ir a):ir s:=by
 have k:∀x∈s.map (·.v),x∈a.map (·.v):=by
  intro x m;obtain⟨b,f,rfl⟩:=hz.1 m;cases e:dD a b.v with
  |none=>have:=NY d g h e;rw[wP d.asc f]at this;cases this
  |some t=>exact hz.2 ⟨_,kJ e,rfl⟩
 have i:=Qu (ac6 d.asc) k;simp only[List.length_map]at i;refine⟨kx i l.1,fun b f=>?_⟩;have J:=al2 (s:=s) g h (v:=b.v);rw[cO,wP d.asc f]at J;obtain⟨c,aw,e⟩:=hz.1 (k b.v (hz.2 ⟨b,f,rfl⟩));have U:=l.2 c aw;rw[cO,<-e,wP g.asc aw]at J;exact kx J U
def kd(E:List (T×T))(a:Int->T):Prop:= ∀e∈E,e.1.ap a=e.2.ap a
def Fs(a:Int->T):kd [] a:=fun _ h=>by simp at h
def sg{e:T×T}{E:List (T×T)}{a:Int->T}:kd (e::E) a↔e.1.ap a=e.2.ap a/\kd E a:=by simp[kd]
def Fq{E b:List (T×T)}{a:Int->T}:kd (E++b) a↔kd E a/\kd b a:=by simp only[kd,j2];exact⟨fun h=>⟨fun e he=>h e (.inl he),fun e he=>h e (.inr he)⟩,fun h e he=>he.elim (h.1 e) (h.2 e)⟩
def jz(s:List Bd)(E:List (T×T)):bc (List Bd)->Prop
 |some a=>(gz a/\ir a)/\∀b,hQ a b↔hQ s b/\kd E b
 |none=> ∀a,gz a->(∀b,hQ a b->hQ s b/\kd E b)->¬ir a
def acN{s:List Bd}{E:List (T×T)}:∀{o o':bc (List Bd)},jz s E o->jz s E o'->o=o'
 |none,none,_,_=>rfl
 |some s1,none,h,a=>absurd h.1.2 (a s1 h.1.1 fun b=>(h.2 b).1)
 |none,some s1,a,h=>absurd h.1.2 (a s1 h.1.1 fun b=>(h.2 b).1)
 |some s1,some s2,h,a=>by rw[aqi h.1.1 a.1.1 fun b=>(h.2 b).trans (a.2 b).symm]
def CT{s s2:List Bd}{E c:List (T×T)}(h:∀a,(hQ s a/\kd E a)↔(hQ s2 a/\kd c a)):∀{o:bc (List Bd)},jz s E o->jz s2 c o
 |none,b=>fun e J U=>b e J fun a d=>(h a).2 (U a d)
 |some s1,b=>⟨b.1,fun a=>(b.2 a).trans (h a)⟩
def QG{s s1:List Bd}{E d:List (T×T)}(h:jz s E (some s1)):∀{o:bc (List Bd)},jz s1 d o->jz s (E++d) o
 |none,b=>fun e J U=>b e J fun a c=>⟨(h.2 a).2 ⟨(U a c).1,(Fq.1 (U a c).2).1⟩,(Fq.1 (U a c).2).2⟩
 |some s2,b=>⟨b.1,fun a=>by rw[b.2 a,h.2 a,Fq,and_assoc]⟩
def Ka{s:List Bd}{E:List (T×T)}(c:List (T×T))(h:jz s E none):jz s (E++c) none:=fun d J U=>h d J fun b a=>⟨(U b a).1,(Fq.1 (U b a).2).1⟩
def F3{s:List Bd}{E:List (T×T)}(h:∀a,hQ s a->¬kd E a):jz s E none:=fun b J U=>absurd (U _ (zZ J)).2 (h _ (U _ (zZ J)).1)
def Kb{s:List Bd}(a:gz s)(c:ir s):jz s [] (some s):=⟨⟨a,c⟩,fun b=>⟨fun h=>⟨h,Fs b⟩,fun h=>h.1⟩⟩
def one(v:Int)(x:T)(w:Int):T:=if w=v then x else .var w
def pT(b:Bd):List Bd->List Bd
 |[]=>[b]
 |c::s=>if b.v<c.v then b::c::s else c::pT b s
def nz(s:List Bd)(v:Int)(x:T):List Bd:=pT ⟨v,x⟩ (s.map fun b=>⟨b.v,b.t.ap (one v x)⟩)
def NQ{b x:Bd}:∀{s:List Bd},x∈pT b s↔x=b\/x∈s
 |[]=>by simp[pT]
 |c::s=>by
  simp only[pT];split
  ·simp
  ·simp only[gK,NQ (s:=s)];constructor
   ·rintro(h|h|h)
    ·exact .inr (.inl h)
    ·exact .inl h
    ·exact .inr (.inr h)
   ·rintro(h|h|h)
    ·exact .inr (.inl h)
    ·exact .inl h
    ·exact .inr (.inr h)
def Xq{b:Bd}:∀{s:List Bd},(pT b s).length=s.length+1
 |[]=>rfl
 |c::s=>by simp only[pT];split<;>simp[Xq]
def QU{b:Bd}:∀{s:List Bd},jw s->(∀c∈s,c.v≠b.v)->jw (pT b s)
 |[],_,_=>by simp[pT]
 |c::s,e,f=>by
  have d:=n3.1 e;simp only[pT];split
  ·rename_i g;refine n3.2 ⟨fun x a=>?_,e⟩;rcases gK.1 a with rfl|a
   ·exact g
   ·have:=d.1 x a;omega
  ·rename_i h;refine n3.2 ⟨fun x a=>?_,QU d.2 fun c aw=>f c (by simp[aw])⟩;rcases NQ.1 a with rfl|a
   ·have:=f c Ψ;omega
   ·exact d.1 x a
def ri{s:List Bd}{v:Int}{x:T}{b:Bd}:b∈nz s v x↔b=⟨v,x⟩\/ ∃c∈s,b=⟨c.v,c.t.ap (one v x)⟩:=by unfold nz;rw[NQ,hz];refine or_congr Iff.rfl ⟨fun⟨c,J,U⟩=>⟨c,J,U.symm⟩,fun⟨c,J,U⟩=>⟨c,J,U.symm⟩⟩
def YO{v:Int}{x:T}{a:Int->T}(h:a v=x.ap a)(t:T):(t.ap (one v x)).ap a=t.ap a:=by
 rw[CV];refine vu fun w _=>?_;unfold one;split
 ·rename_i e;subst e;exact h.symm
 ·rfl
def F7{s:List Bd}{v w:Int}{x:T}:dD (nz s v x) w=none↔w≠v/\dD s w=none:=by
 rw[wQ,wQ];constructor
 ·intro h;exact⟨fun e=>h ⟨v,x⟩ (ri.2 (.inl rfl)) e.symm,fun b a=>h ⟨b.v,b.t.ap (one v x)⟩ (ri.2 (.inr ⟨b,a,rfl⟩))⟩
 ·rintro⟨J,U⟩ b a;rcases ri.1 a with rfl|⟨c,aw,rfl⟩
  ·exact fun e=>J e.symm
  ·exact U c aw
def PC{s:List Bd}(a:gz s){t:T}{w:Int}(h:(t.ap (cO s)).occ w=true):dD s w=none:=by
 obtain⟨u,_,U⟩:=EG.1 h;unfold cO at U;cases e:dD s u with
 |none=>rw[e]at U;simp[T.occ]at U;subst U;exact e
 |some t=>rw[e]at U;exact a.free _ (kJ e) w U
def aqh{s:List Bd}(d:gz s){v:Int}{t:T}(i:dD s v=none)(ar:(t.ap (cO s)).occ v=false)(f:∀w,t.ap (cO s)= .var w->w<v):gz (nz s v (t.ap (cO s))):=by
 have g:∀w,(t.ap (cO s)).occ w=true->dD (nz s v (t.ap (cO s))) w=none:=fun w hw=>F7.2 ⟨fun e=>(by subst e;rw[ar]at hw;cases hw),PC d hw⟩;refine⟨QU ?_ ?_,fun b a w hw=>?_,fun b a w hw=>?_⟩
 ·rw[jw,List.pairwise_map];exact d.asc
 ·intro c aw;obtain⟨b,a,rfl⟩:=hz.1 aw;exact wQ.1 i b a
 ·rcases ri.1 a with rfl|⟨c,aw,rfl⟩
  ·exact g w hw
  ·obtain⟨u,J,U⟩:=EG.1 hw;unfold one at U;split at U
   ·exact g w U
   ·rename_i h;simp[T.occ]at U;subst U;exact F7.2 ⟨h,d.free c aw _ J⟩
 ·rcases ri.1 a with rfl|⟨c,aw,rfl⟩
  ·exact f w hw
  ·simp only at hw⊢;cases e:c.t with
   |var u=>
    have:=d.ori c aw u e;rw[e]at hw;simp only[T.ap,one]at hw;split at hw
    ·rename_i j;subst j;have:=f w hw;omega
    ·cases hw;exact this
   |_=>rw[e]at hw;simp[T.ap]at hw
def aaN{s:List Bd}{v:Int}{t:T}(a:Int->T):hQ (nz s v (t.ap (cO s))) a↔hQ s a/\kd [(.var v,t)] a:=by
 have f:kd [(.var v,t)] a↔a v=t.ap a:=by simp[kd,T.ap]
 rw[f];constructor
 ·intro h;have d:a v=(t.ap (cO s)).ap a:=h _ (ri.2 (.inl rfl));have J:hQ s a:=fun b e=>by have:=h _ (ri.2 (.inr ⟨b,e,rfl⟩));simp only at this;rw[YO d]at this;exact this
  exact⟨J,by rw[PE J t];exact d⟩
 ·rintro⟨J,U⟩ b e;have d:a v=(t.ap (cO s)).ap a:=by rw[<-PE J t];exact U
  rcases ri.1 e with rfl|⟨c,aw,rfl⟩
  ·exact d
  ·simp only;rw[YO d];exact J c aw
open Classical in
def acK{s:List Bd}(f:gz s){v:Int}{t:T}(h:dD s v=none)(ar:(t.ap (cO s)).occ v=false)(c:∀w,t.ap (cO s)= .var w->w<v):jz s [(.var v,t)] (if ir (nz s v (t.ap (cO s)))then some (nz s v (t.ap (cO s)))else none):=by
 have J:=aqh f h ar c;split
 ·rename_i a;exact⟨⟨J,a⟩,aaN⟩
 ·rename_i a;exact fun i U e g=>a (Uu J U (fun b d=>(aaN b).2 (e b d)) g)
def ie(s:List Bd):T->T
 | .var n=>cO s n
 |t=>t
def oT(s:List Bd)(v:Int)(t:T):bc (List Bd):=if(t.ap (cO s)).size<=5000/\(t.ap (cO s)).occ v=false/\s.length<400/\∀b∈s,(b.t.ap (one v (t.ap (cO s)))).size<=5000 then some (nz s v (t.ap (cO s)))else none
def kG(rec:List Bd->T->T->bc (bc (List Bd)))(s:List Bd):T->T->bc (bc (List Bd))
 | .var i,.var j=>some (if i<j then oT s j (.var i)else if i=j then some s else oT s i (.var j))
 | .var i,y=>some (oT s i y)
 |x,.var j=>some (oT s j x)
 | .pair b a2,.pair a c=>match rec s b a with
  |none=>none
  |some none=>some none
  |some (some s1)=>rec s1 a2 c
 |x,y=>some (if x=y then some s else none)
def lx:Nat->List Bd->T->T->bc (bc (List Bd))
 |0,_,_,_=>none
 |n+1,s,a,b=>kG (lx n) s (ie s a) (ie s b)
def aqN{rec c:List Bd->T->T->bc (bc (List Bd))}(h:∀s a b o,rec s a b=some o->c s a b=some o){s:List Bd}{x y:T}{o:bc (List Bd)}(he:kG rec s x y=some o):kG c s x y=some o:=by
 cases x<;>cases y<;>simp only[kG]at he⊢ <;>try exact he
 rename_i g a2 f i;cases e:rec s g f with
 |none=>rw[e]at he;cases he
 |some d=>
  rw[e]at he;rw[h _ _ _ _ e];cases d with
  |none=>exact he
  |some s1=>exact h _ _ _ _ he
def FA:∀{n m:Nat} {s:List Bd} {a b:T} {o:bc (List Bd)},n<=m->lx n s a b=some o->lx m s a b=some o
 |0,_,_,_,_,_,_,h=>by simp[lx]at h
 |n+1,0,_,_,_,_,hm,_=>Ω
 |n+1,m+1,s,a,b,o,hm,h=>by simp only[lx]at h⊢;exact aqN (fun s a b o h=>FA Ω h) h
def LF{s:List Bd}{v:Int}{x:T}:ir (nz s v x)↔(x.size<=5000/\s.length<400/\∀b∈s,(b.t.ap (one v x)).size<=5000):=by
 have d:(nz s v x).length=s.length+1:=by simp[nz,Xq]
 unfold ir;rw[d];constructor
 ·rintro⟨J,U⟩;exact⟨U _ (ri.2 (.inl rfl)),Ω,fun b a=>U _ (ri.2 (.inr ⟨b,a,rfl⟩))⟩
 ·rintro⟨J,U,e⟩;refine⟨Ω,fun b a=>?_⟩;rcases ri.1 a with rfl|⟨c,aw,rfl⟩
  ·exact J
  ·exact e c aw
def acL{s:List Bd}(g:gz s){v:Int}{t:T}(j:dD s v=none)(f:t.ap (cO s)≠ .var v)(d:∀w,t.ap (cO s)= .var w->w<v):jz s [(.var v,t)] (oT s v t):=by
 unfold oT;cases ar:(t.ap (cO s)).occ v with
 |true=>
  rw[if_neg Ψ];refine F3 fun i J U=>?_;have c:=(sg.1 U).1;simp only[T.ap]at c;rw[PE J t]at c;have b:(t.ap (cO s)).kind≠1:=by
   intro b;cases e:t.ap (cO s)with
   |var w=>rw[e]at ar;simp[T.occ]at ar;subst ar;exact f e
   |_=>rw[e]at b;simp[T.kind]at b
  have:=(B0 i ar).2 b;rw[<-c]at this;omega
 |false=>
  have J:=acK g j ar d;by_cases a:ir (nz s v (t.ap (cO s)))
  ·rw[if_pos a]at J;rw[if_pos ⟨(LF.1 a).1,rfl,(LF.1 a).2⟩];exact J
  ·rw[if_neg a]at J;rw[if_neg fun h=>a (LF.2 ⟨h.1,h.2.2⟩)];exact J
def ab4{s:List Bd}(a:gz s){t:T}{i:Int}(h:ie s t= .var i):dD s i=none:=by
 cases t with
 |var n=>
  simp only[ie,cO]at h;cases e:dD s n with
  |none=>rw[e]at h;simp at h;subst h;exact e
  |some u=>rw[e]at h;simp at h;subst h;exact a.free _ (kJ e) i (by simp[T.occ])
 |_=>simp[ie]at h
def Qm{s:List Bd}{a:Int->T}(h:hQ s a)(t:T):(ie s t).ap a=t.ap a:=by
 cases t with
 |var n=>
  simp only[ie,T.ap,cO];cases e:dD s n with
  |none=>rfl
  |some u=>exact(h _ (kJ e)).symm
 |_=>rfl
def ab6{s:List Bd}(a:gz s)(t:T):(ie s t).ap (cO s)=t.ap (cO s):=Qm (zZ a) t
def q8(V:List Int)(t:T):Prop:= ∀w,t.occ w=true->w∈V
def zn(V:List Int)(s:List Bd):Prop:= ∀b∈s,b.v∈V/\q8 V b.t
def AF(V:List Int)(s:List Bd):Nat:=(V.filter fun v=>(dD s v).isNone).length
def Ut{α:Type}{p q:α->Bool}{v:α}:∀{V:List α},(∀x∈V,q x=true->p x=true)->v∈V->p v=true->q v=false->(V.filter q).length<(V.filter p).length
 |[],_,h,_,_=>by simp at h
 |x::V,h,b,d,c=>by
  have hle:∀W:List α,(∀x∈W,q x=true->p x=true)->(W.filter q).length<=(W.filter p).length:=by
   intro W;induction W with
   |nil=>intro _;simp
   |cons y W g=>intro f;have:=g fun x a=>f x (by simp[a]);have j:=f y Ψ;simp only[List.filter_cons];cases e:q y<;>cases i:p y<;>simp_all<;>omega
  simp only[List.filter_cons];rcases gK.1 b with rfl|b
  ·have:=hle V fun x a=>h x (by simp[a]);simp[d,c];omega
  ·have:=Ut (fun x a=>h x (qR _ a)) b d c;have a:=h x Ψ;cases e:q x<;>cases i:p x<;>simp_all<;>omega
def aeb{V:List Int}{s:List Bd}{v:Int}{x:T}(a:v∈V)(b:dD s v=none):AF V (nz s v x)<AF V s:=by
 unfold AF;refine Ut (v:=v) (fun w _ h=>?_) a (by simp[b]) ?_
 ·rw[Option.isNone_iff_eq_none,F7]at h;simp[h.2]
 ·cases e:dD (nz s v x) v with
  |none=>exact absurd rfl (F7.1 e).1
  |some _=>rfl
def Wp{V:List Int}{s:List Bd}(h:zn V s){t:T}(a:q8 V t):q8 V (t.ap (cO s)):=fun w hw=>by
 obtain⟨u,J,U⟩:=EG.1 hw;unfold cO at U;cases e:dD s u with
 |none=>rw[e]at U;simp[T.occ]at U;subst U;exact a _ J
 |some x=>rw[e]at U;exact(h _ (kJ e)).2 w U
def akv{V:List Int}{s:List Bd}(h:zn V s){v:Int}{x:T}(e:v∈V)(a:q8 V x):zn V (nz s v x):=fun b d=>by
 rcases ri.1 d with rfl|⟨c,aw,rfl⟩
 ·exact⟨e,a⟩
 ·refine⟨(h c aw).1,fun w hw=>?_⟩;obtain⟨u,J,U⟩:=EG.1 hw;unfold one at U;split at U
  ·exact a w U
  ·simp[T.occ]at U;subst U;exact(h c aw).2 _ J
def Wq{V:List Int}{s:List Bd}(h:zn V s){t:T}(a:q8 V t):q8 V (ie s t):=by
 cases t with
 |var n=>have:=Wp h a;simpa[ie,T.ap]using this
 |_=>exact a
def CS(V:List Int)(s:List Bd)(a b:T)(o:bc (List Bd)):Prop:=jz s [(a,b)] o/\∀c,o=some c->zn V c/\(c=s\/AF V c<AF V s)
def FB{V:List Int}{s:List Bd}(j:gz s)(d:zn V s){v:Int}{t a b:T}(e:v∈V)(k:q8 V t)(f:dD s v=none)(i:t.ap (cO s)≠ .var v)(g:∀w,t.ap (cO s)= .var w->w<v)(aw:∀c,hQ s c->(c v=t.ap c↔a.ap c=b.ap c)):CS V s a b (oT s v t):=by
 refine⟨CT (fun c=>?_) (acL j f i g),fun l h=>?_⟩
 ·refine and_congr_right fun h=>?_;rw[sg,sg];simp only[T.ap,aw c h]
 ·unfold oT at h;split at h
  ·cases h;exact⟨akv d e (Wp d k),.inr (aeb e f)⟩
  ·cases h
def Cr{s:List Bd}{i:Int}(h:dD s i=none):cO s i= .var i:=by simp[cO,h]
def aby(V:List Int)(k:Nat):∀(m:Nat) (s:List Bd) (a b:T),gz s->ir s->zn V s->q8 V a->q8 V b->AF V s=k->(a.ap (cO s)).size+(b.ap (cO s)).size=m->
  ∃n o,lx n s a b=some o/\CS V s a b o:=by
 induction k using Nat.strongRecOn with
 |ind k MZ=>
 intro m;induction m using Nat.strongRecOn with
 |ind m By=>
 intro s a b v L y bR ag Z hm;have r:=Wq y bR;have u:=Wq y ag;have P:=ab6 v a;have O:=ab6 v b;have E:=fun c (h:hQ s c)=>Qm h a;have A:=fun c (h:hQ s c)=>Qm h b;have rY:=fun i=>ab4 v (t:=a) (i:=i);have Q:=fun i=>ab4 v (t:=b) (i:=i);have key:∀(rec:List Bd->T->T->bc (bc (List Bd))) (o:bc (List Bd)),kG rec s (ie s a) (ie s b)=some o->(∀l a2 g f,ie s a= .pair l a2->ie s b= .pair g f->CS V s a b o)->CS V s a b o:=by
  intro rec o he bI;cases ex:ie s a with
  |var i=>
   have M:=rY i ex;have x:=fun c h=>(E c h).symm.trans (by rw[ex]);cases d:ie s b with
   |var j=>
    have z:=Q j d;have p:=fun c h=>(A c h).symm.trans (by rw[d]);rw[ex,d]at he;simp only[kG]at he;have hi:i∈V:=by rw[ex]at r;exact r i (by simp[T.occ])
    have ah:j∈V:=by rw[d]at u;exact u j (by simp[T.occ])
    rcases Int.lt_trichotomy i j with h|h|h
    ·rw[if_pos h]at he;cases he;refine FB v y ah (by rw[ex]at r;exact r) z (by simp[T.ap,Cr M];omega) (fun w hw=>by simp[T.ap,Cr M]at hw;omega) fun c q=>?_;rw[x c q,p c q];simp only[T.ap];exact⟨Eq.symm,Eq.symm⟩
    ·subst h;rw[if_neg Ω,if_pos rfl]at he;cases he;refine⟨⟨⟨v,L⟩,fun c=>⟨fun h=>⟨h,sg.2 ⟨?_,Fs c⟩⟩,fun h=>h.1⟩⟩,fun B e=>by cases e;exact⟨y,.inl rfl⟩⟩;simp only;rw[x c h,p c h]
    ·rw[if_neg Ω,if_neg Ω]at he;cases he;refine FB v y hi (by rw[d]at u;exact u) M (by simp[T.ap,Cr z];omega) (fun w hw=>by simp[T.ap,Cr z]at hw;omega) fun c q=>?_;rw[x c q,p c q];simp only[T.ap]
   |_=>have p:=fun c h=>(A c h).symm.trans (by rw[d]);rw[ex,d]at he;simp only[kG]at he;cases he;refine FB v y (by rw[ex]at r;exact r i (by simp[T.occ])) (by rw[d]at u;exact u) M (by simp[T.ap]) (fun w hw=>by simp[T.ap]at hw) fun c q=>?_;rw[x c q,p c q];simp only[T.ap]
  |pair l a2=>
   cases d:ie s b with
   |pair g f=>exact bI l a2 g f ex d
   |var j=>have z:=Q j d;have x:=fun c h=>(E c h).symm.trans (by rw[ex]);have p:=fun c h=>(A c h).symm.trans (by rw[d]);rw[ex,d]at he;simp only[kG]at he;cases he;refine FB v y (by rw[d]at u;exact u j (by simp[T.occ])) (by rw[ex]at r;exact r) z (by simp[T.ap]) (fun w hw=>by simp[T.ap]at hw) fun c q=>?_;rw[x c q,p c q];simp only[T.ap];exact⟨Eq.symm,Eq.symm⟩
   |_=>have x:=fun c h=>(E c h).symm.trans (by rw[ex]);have p:=fun c h=>(A c h).symm.trans (by rw[d]);rw[ex,d]at he;simp only[kG]at he;simp at he;subst he;refine⟨F3 fun c J U=>?_,fun B e=>by cases e⟩;have:=(sg.1 U).1;simp only at this;rw[x c J,p c J]at this;simp[T.ap]at this
  |_=>
   have x:=fun c h=>(E c h).symm.trans (by rw[ex]);cases d:ie s b with
   |var j=>have z:=Q j d;have p:=fun c h=>(A c h).symm.trans (by rw[d]);rw[ex,d]at he;simp only[kG]at he;cases he;refine FB v y (by rw[d]at u;exact u j (by simp[T.occ])) (by rw[ex]at r;exact r) z (by simp[T.ap]) (fun w hw=>by simp[T.ap]at hw) fun c q=>?_;rw[x c q,p c q];simp only[T.ap];exact⟨Eq.symm,Eq.symm⟩
   |_=>
    have p:=fun c h=>(A c h).symm.trans (by rw[d]);rw[ex,d]at he;simp only[kG,dS]at he;split at he
    ·rename_i e;subst he;refine⟨⟨⟨v,L⟩,fun c=>⟨fun h=>⟨h,sg.2 ⟨?_,Fs c⟩⟩,fun h=>h.1⟩⟩,fun B e=>by cases e;exact⟨y,.inl rfl⟩⟩;simp only;rw[x c h,p c h];try rw[e]
    ·rename_i e;subst he;refine⟨F3 fun c J U=>?_,fun B e=>by cases e⟩;have:=(sg.1 U).1;simp only at this;rw[x c J,p c J]at this;simp[T.ap]at this e;try exact e this
 by_cases Hw:∃l a2 g f,ie s a= .pair l a2/\ie s b= .pair g f
 ·obtain⟨l,a2,g,f,ex,d⟩:=Hw;have W:(l.ap (cO s)).size+(g.ap (cO s)).size<m/\(a2.ap (cO s)).size+(f.ap (cO s)).size<m:=by rw[ex]at P;rw[d]at O;simp only[T.ap]at P O;rw[<-hm,<-P,<-O];simp only[T.size];omega
  have l2:q8 V l:=fun w hw=>by rw[ex]at r;exact r w (by simp[T.occ,hw])
  have S:q8 V a2:=fun w hw=>by rw[ex]at r;exact r w (by simp[T.occ,hw])
  have ml:q8 V g:=fun w hw=>by rw[d]at u;exact u w (by simp[T.occ,hw])
  have R:q8 V f:=fun w hw=>by rw[d]at u;exact u w (by simp[T.occ,hw])
  have Vr:∀c,(hQ s c/\kd ([(l,g)]++[(a2,f)]) c)↔(hQ s c/\kd [(a,b)] c):=fun c=>and_congr_right fun h=>by simp only[List.singleton_append,sg,Fs,jk];rw[<-E c h,<-A c h,ex,d];simp[T.ap]
  obtain⟨K,gZ,Y,G⟩:=By _ W.1 s l g v L y l2 ml Z rfl;cases gZ with
  |none=>refine⟨K+1,none,?_,CT Vr (Ka _ G.1),fun B e=>by cases e⟩;simp only[lx,ex,d,kG,Y]
  |some s1=>
   obtain⟨v1,v2⟩:=G.2 s1 rfl;have D2:∃F H,lx F s1 a2 f=some H/\CS V s1 a2 f H:=by
    rcases v2 with rfl|v2
    ·exact By _ W.2 _ a2 f v L y S R Z rfl
    ·exact MZ _ Ω _ s1 a2 f G.1.1.1 G.1.1.2 v1 S R rfl rfl
   obtain⟨F,H,aC,X⟩:=D2;refine⟨max K F+1,H,?_,CT Vr (QG G.1 X.1),fun B e=>?_⟩
   ·simp only[lx,ex,d,kG,FA (Nat.le_max_left K F) Y];exact FA (Nat.le_max_right K F) aC
   ·obtain⟨fe,N⟩:=X.2 B e;refine⟨fe,?_⟩;rcases v2 with rfl|v2
    ·exact N
    ·rcases N with rfl|N
     ·exact .inr v2
     ·exact .inr Ω
 ·have VZ:∀l a2 g f,ie s a= .pair l a2->ie s b= .pair g f->et:=fun l a2 g f J U=>Hw ⟨l,a2,g,f,J,U⟩;have:∃o,kG (lx 0) s (ie s a) (ie s b)=some o:=by cases ex:ie s a<;>cases d:ie s b<;>simp only[kG]<;>first|exact⟨_,rfl⟩|exact(VZ _ _ _ _ ex d).elim
  obtain⟨o,ar⟩:=this;exact⟨1,o,ar,key _ o ar fun l a2 g f J U=>(VZ l a2 g f J U).elim⟩
def dn{α:Type}(k:Int):List (Int×α)->bc α
 |[]=>none
 |(i,v)::r=>if k=i then some v else dn k r
def fy{α:Type}(k:Int)(v:α):List (Int×α)->List (Int×α)
 |[]=>[(k,v)]
 |(i,w)::r=>if k=i then(i,v)::r else(i,w)::fy k v r
def cF{α:Type}(m:List (Int×α)):List Int:=m.map (·.1)
def oH{α:Type}(k:Int)(v:α)(j:Int):∀m:List (Int×α),dn j (fy k v m)=if j=k then some v else dn j m
 |[]=>by simp only[fy,dn]
 |(i,w)::r=>by
  simp only[fy];by_cases h:k=i
  ·subst h;by_cases U:j=k<;>simp[dn,U]
  ·by_cases U:j=i
   ·subst U;have:¬j=k:=fun e=>h e.symm;simp[dn,h,this]
   ·simp[dn,h,U,oH k v j r]
def JE{α:Type}{k:Int}:∀{m:List (Int×α)},(dn k m).isSome=true↔k∈cF m
 |[]=>by simp[dn,cF]
 |(i,w)::r=>by
  simp only[dn,cF,hc,gK];by_cases h:k=i
  ·simp[h]
  ·simp only[h,if_false,false_or];exact JE
def aqG{α:Type}{k:Int}{m:List (Int×α)}:dn k m=none↔k∉cF m:=by rw[<-JE];cases dn k m<;>simp
def Ek{α:Type}{k:Int}{v:α}:∀{m:List (Int×α)},k∈cF m->cF (fy k v m)=cF m
 |[],h=>by simp[cF]at h
 |(i,w)::r,h=>by
  simp only[fy];by_cases e:k=i
  ·simp[e,cF]
  ·rw[if_neg e];have a:k∈cF r:=by simpa[cF,e]using h
   have:=Ek (v:=v) a;simp only[cF]at this⊢;simp[this]
def WZ{α:Type}{k:Int}{v:α}:∀{m:List (Int×α)},k∉cF m->cF (fy k v m)=cF m++[k]
 |[],h=>by simp[cF,fy]
 |(i,w)::r,h=>by have e:¬k=i:=fun e=>h (by simp[cF,e]);have b:k∉cF r:=fun a=>h (by simp[cF]at a⊢;exact .inr a);have:=WZ (v:=v) b;simp only[fy,if_neg e];simp only[cF]at this⊢;simp[this]
structure bH where
 up:List (Int×Int)
 shape:List (Int×T)
 shaped:List (Int×Bool)
 color:List (Int×Int)
 size:List (Int×Int)
 full:List (Int×T)
def bH.shd(c:bH)(x:Int):Bool:=(dn x c.shaped).getD false
def bH.shp(c:bH)(x:Int):T:=(dn x c.shape).getD .nil
def bH.col(c:bH)(x:Int):Int:=(dn x c.color).getD 0
def bH.sz(c:bH)(x:Int):Int:=(dn x c.size).getD 0
def jO(m:List (Int×Int))(v:Int):Int:=(dn v m).getD 0
def x6:Nat->List (Int×Int)->Int->bc (Int×List (Int×Int))
 |0,_,_=>none
 |n+1,m,v=>if jO m v=v then some (v,m)else x6 n (fy v (jO m (jO m v)) m) (jO (fy v (jO m (jO m v)) m) v)
def Ao(v:Int)(m:List (Int×Int)):List (Int×Int):=if(dn v m).isSome then m else fy v v m
def rt(c:bH)(v:Int):bc (Int×bH):=(x6 (v.toNat+1) (Ao v c.up) v).map fun p=>(p.1,{c with up:=p.2})
def T.foldO{α:Type}(f:Int->α->bc α):T->α->bc α
 | .var n,a=>f n a
 | .pair x y,a=>(x.foldO f a).bind (y.foldO f)
 |_,a=>some a
def T.mapO{α:Type}(f:Int->α->bc (T×α)):T->α->bc (T×α)
 | .var n,a=>f n a
 | .pair x y,a=>(x.mapO f a).bind fun p=>(y.mapO f p.2).map fun q=>(.pair p.1 q.1,q.2)
 |t,a=>some (t,a)
def T.sizeO{α:Type}(f:Int->α->bc (Int×α)):T->α->bc (Int×α)
 | .var n,a=>(f n a).map fun p=>(if 5001<p.1 then 5001 else p.1,p.2)
 | .pair x y,a=>(x.sizeO f a).bind fun p=>if 5000<p.1 then some p else(y.sizeO f p.2).map fun q=>(if 5001<1+p.1+q.1 then 5001 else 1+p.1+q.1,q.2)
 |_,a=>some (1,a)
def BN(t:T)(c:bH):bc bH:=t.foldO (fun v c=>(rt c v).map (·.2)) c
structure vn where
 c:bH
 seen:List (Int×Bool)
 found:Bool
def x3(rec:T->bH->List (Int×Bool)->bc vn)(x:Int)(v:Int)(a:vn):bc vn:=
 (rt a.c v).bind fun p=>if a.found=true\/p.1=x then some ⟨p.2,a.seen,true⟩
  else if(dn p.1 a.seen).getD false=false/\p.2.shd p.1=true then rec (p.2.shp p.1) p.2 (fy p.1 true a.seen)
  else some ⟨p.2,a.seen,a.found⟩
def qH:Nat->Int->T->bH->List (Int×Bool)->bc vn
 |0,_,_,_,_=>none
 |n+1,x,t,c,seen=>t.foldO (x3 (qH n x) x) ⟨c,seen,false⟩
def bH.know(c:bH)(x:Int)(t:T):bH:={c with shape:=fy x t c.shape,shaped:=fy x true c.shaped}
def wg(n:Nat)(x:Int)(t:T)(c:bH):bc (Bool×bH):=(qH n x t (c.know x t) []).map fun a=>(!a.found,a.c)
def bH.join(c:bH)(x y:Int):bH:={c with up:=fy y x c.up}
def sF(rec:T->T->bH->bc (Bool×bH))(n:Nat)(x y:Int)(c:bH):bc (Bool×bH):=
 if c.shd y=false then
  (if c.shd x=false then some (true,c)else(qH n x (c.shp x) c []).map fun a=>(!a.found,a.c))
 else if c.shd x=false then wg n x (c.shp y) c
 else(qH n x (c.shp y) c []).bind fun a=>if a.found=true then some (false,a.c)else
  (qH n x (a.c.shp x) a.c []).bind fun b=>if b.found=true then some (false,b.c)else rec (b.c.shp x) (c.shp y) b.c
def hp:Nat->T->T->bH->bc (Bool×bH)
 |0,_,_,_=>none
 |n+1,.var i,.var j,c=>(rt c i).bind fun p=>(rt p.2 j).bind fun q=>if p.1=q.1 then some (true,q.2)else if q.1<p.1 then sF (hp n) n q.1 p.1 (q.2.join q.1 p.1)else sF (hp n) n p.1 q.1 (q.2.join p.1 q.1)
 |n+1,.var i,b,c=>(rt c i).bind fun p=>if p.2.shd p.1=false then wg n p.1 b p.2 else hp n (p.2.shp p.1) b p.2
 |n+1,a,.var j,c=>hp n (.var j) a c
 |n+1,.pair e a2,.pair d f,c=>(hp n e d c).bind fun p=>if p.1=true then hp n a2 f p.2 else some (false,p.2)
 |_+1,a,b,c=>some (decide (a=b),c)
structure kc (m:List (Int×Int)) (ρ:Int->Int):Prop where
 up:∀v u,dn v m=some u->(0<=u/\u<=v/\u∈cF m)/\ρ u=ρ v/\(ρ v=v↔u=v)
 no:∀v,v∉cF m->ρ v=v
def kc.get{m:List (Int×Int)}{ρ:Int->Int}(h:kc m ρ){v:Int}(a:v∈cF m):∃u,dn v m=some u/\jO m v=u:=by have:=JE.2 a;obtain⟨u,hu⟩:=fA.1 this;exact⟨u,hu,by simp[jO,hu]⟩
def kc.root{m:List (Int×Int)}{ρ:Int->Int}(h:kc m ρ):∀(n:Nat) (v:Int),v.toNat<=n->(ρ v<=v/\ρ (ρ v)=ρ v/\(v∈cF m->ρ v∈cF m/\0<=ρ v)):=by
 intro n;induction n using Nat.strongRecOn with
 |ind n d=>
 intro v i;by_cases a:v∈cF m
 ·obtain⟨u,J,_⟩:=h.get a;obtain⟨⟨c,a2,a3⟩,a4,a5⟩:=h.up v u J;by_cases e:u=v
  ·have:=a5.2 e;subst e;rw[this];exact⟨Ω,this,fun _=>⟨a3,c⟩⟩
  ·obtain⟨g,f,b⟩:=d (u.toNat) Ω u Ω;rw[<-a4];exact⟨Ω,f,fun _=>b a3⟩
 ·have:=h.no v a;rw[this];exact⟨Ω,this,fun h=>absurd h a⟩
def kc.le{m:List (Int×Int)}{ρ:Int->Int}(h:kc m ρ)(v:Int):ρ v<=v:=(h.root v.toNat v (dL _)).1
def kc.idem{m:List (Int×Int)}{ρ:Int->Int}(h:kc m ρ)(v:Int):ρ (ρ v)=ρ v:=(h.root v.toNat v (dL _)).2.1
def kc.mem{m:List (Int×Int)}{ρ:Int->Int}(h:kc m ρ){v:Int}(a:v∈cF m):ρ v∈cF m/\0<=ρ v:=(h.root v.toNat v (dL _)).2.2 a
def aaz{ρ:Int->Int}:∀(n:Nat) (m:List (Int×Int)) (v:Int),kc m ρ->v∈cF m->v.toNat<n->∃a,x6 n m v=some (ρ v,a)/\kc a ρ/\cF a=cF m
 |0,_,_,_,_,q=>Ω
 |n+1,m,v,h,g,q=>by
  obtain⟨u,J,U⟩:=h.get g;obtain⟨⟨r,a2,a3⟩,a4,a5⟩:=h.up v u J;simp only[x6,U];by_cases e:u=v
  ·rw[if_pos e];have:=a5.2 e;exact⟨m,by rw[this],h,rfl⟩
  ·rw[if_neg e];obtain⟨x,g1,g2⟩:=h.get a3;obtain⟨⟨l,s,f⟩,d,z⟩:=h.up u x g1;rw[g2];have b:=Ek (v:=x) g;have i:kc (fy v x m) ρ:=by
    refine⟨fun w y hw=>?_,fun w hw=>h.no w (by rw[b]at hw;exact hw)⟩;rw[oH]at hw;rw[b];by_cases ew:w=v
    ·subst ew;rw[if_pos rfl]at hw;cases hw;refine⟨⟨l,Ω,f⟩,by rw[d,a4],⟨fun p=>absurd (a5.1 p) e,fun t=>?_⟩⟩;have:u=w:=Ω
     exact absurd this e
    ·rw[if_neg ew]at hw;exact h.up w y hw
   have c:jO (fy v x m) v=x:=by simp[jO,oH]
   rw[c];obtain⟨a,o,k,j⟩:=aaz n (fy v x m) x i (by rw[b];exact f) Ω;exact⟨a,by rw[o,d,a4],k,by rw[j,b]⟩
structure hF (ρ:Int->Int) (c cA:bH):Prop where
 ru:kc cA.up ρ
 keys:cF cA.up=cF c.up
 eq:cA={c with up:=cA.up}
def hF.refl{ρ:Int->Int}{c:bH}(h:kc c.up ρ):hF ρ c c:=⟨h,rfl,rfl⟩
def hF.trans{ρ:Int->Int}{a b c:bH}(h:hF ρ a b)(k:hF ρ b c):hF ρ a c:=⟨k.ru,k.keys.trans h.keys,by rw[k.eq,h.eq]⟩
def hF.shd{ρ:Int->Int}{c a:bH}(h:hF ρ c a)(x:Int):a.shd x=c.shd x:=by rw[h.eq];rfl
def hF.shp{ρ:Int->Int}{c a:bH}(h:hF ρ c a)(x:Int):a.shp x=c.shp x:=by rw[h.eq];rfl
def u3{ρ:Int->Int}{c:bH}{v:Int}(h:kc c.up ρ)(b:v∈cF c.up):∃a,rt c v=some (ρ v,a)/\hF ρ c a:=by
 have e:Ao v c.up=c.up:=by simp[Ao,JE.2 b]
 obtain⟨d,J,U,f⟩:=aaz (v.toNat+1) c.up v h b Ω;exact⟨{c with up:=d},by simp[rt,e,J],⟨U,f,rfl⟩⟩
def apJ{ρ:Int->Int}{c:bH}{v:Int}(h:kc c.up ρ)(d:0<=v)(b:v∉cF c.up):rt c v=some (v,{c with up:=fy v v c.up})/\kc (fy v v c.up) ρ/\cF (fy v v c.up)=cF c.up++[v]:=by
 have g:=aqG.2 b;have a:=WZ (v:=v) b;refine⟨?_,⟨fun w u hw=>?_,fun w hw=>h.no w fun hm=>hw (by rw[a];simp[hm])⟩,a⟩
 ·simp[rt,Ao,g,x6,jO,oH]
 ·rw[oH]at hw;rw[a];by_cases e:w=v
  ·subst e;rw[if_pos rfl]at hw;cases hw;exact⟨⟨d,Ω,Ψ⟩,rfl,⟨fun _=>rfl,fun _=>h.no _ b⟩⟩
  ·rw[if_neg e]at hw;obtain⟨⟨f,a2,a3⟩,a4⟩:=h.up w u hw;exact⟨⟨f,a2,by simp[a3]⟩,a4⟩
def bH.ph(c:bH)(x:Int):bc T:=if c.shd x then some (c.shp x)else none
def hF.ph{ρ:Int->Int}{c a:bH}(h:hF ρ c a):a.ph=c.ph:=by funext x;simp only[bH.ph,h.shd,h.shp]
def kI(ph:Int->bc T)(ρ:Int->Int)(a:Int->T):Prop:=(∀v,a v=a (ρ v))/\∀x t,ρ x=x->ph x=some t->a x=t.ap a
def jP(ph:Int->bc T)(ρ:Int->Int)(z u:Int):Prop:=ρ z=z/\∃t w,ph z=some t/\t.occ w=true/\ρ w=u
inductive n7 (E:Int->Int->Prop):Int->Int->Prop
 |refl (a:Int):n7 E a a
 |step {a b c:Int}:E a b->n7 E b c->n7 E a c
def pA(V:List Int)(ph:Int->bc T):Prop:= ∀x t,ph x=some t->t.kind≠1/\(∀w,t.occ w=true->w∈V)/\x∈V
def JH(V:List Int)(ph:Int->bc T)(seen:List (Int×Bool)):Nat:=(V.filter fun v=>(ph v).isSome&& !((dn v seen).getD false)).length
def nN(seen:List (Int×Bool))(z:Int):Prop:=(dn z seen).getD false=true
structure acD (V:List Int) (ph:Int->bc T) (ρ:Int->Int) (x:Int) (occ:Int->Prop) (a bs:vn):Prop where
 sm:hF ρ a.c bs.c
 sub:∀z,nN a.seen z->nN bs.seen z
 yes:bs.found=true->a.found=true\/ ∃w,occ w/\n7 (jP ph ρ) (ρ w) x
 kept:a.found=true->bs.found=true
 no:bs.found=false->(∀w,occ w->ρ w≠x/\((ph (ρ w)).isSome=true->nN bs.seen (ρ w)))/\∀r,nN bs.seen r->¬nN a.seen r->∀u,jP ph ρ r u->u≠x/\((ph u).isSome=true->nN bs.seen u)
def GQ{α:Type}{p q:α->Bool}:∀{V:List α},(∀x∈V,q x=true->p x=true)->(V.filter q).length<=(V.filter p).length
 |[],_=>by simp
 |y::V,h=>by have:=GQ (p:=p) (q:=q) (V:=V) fun x a=>h x (by simp[a]);have b:=h y Ψ;simp only[List.filter_cons];cases e:q y<;>cases c:p y<;>simp_all<;>omega
def GR{α:Type}{p q:α->Bool}{v:α}:∀{V:List α},(∀x∈V,q x=true->p x=true)->v∈V->p v=true->q v=false->(V.filter q).length<(V.filter p).length
 |[],_,h,_,_=>by simp at h
 |x::V,h,b,d,c=>by
  have hle:=GQ (p:=p) (q:=q) (V:=V) fun x a=>h x (qR _ a);simp only[List.filter_cons];rcases gK.1 b with rfl|b
  ·simp[d,c];omega
  ·have:=GR (fun x a=>h x (qR _ a)) b d c;have a:=h x Ψ;cases e:q x<;>cases f:p x<;>simp_all<;>omega
def aqP{V:List Int}{ph:Int->bc T}{s b:List (Int×Bool)}(h:∀z,nN s z->nN b z):JH V ph b<=JH V ph s:=
 GQ fun x _ a=>by
  simp only[cP,sv]at a⊢;refine⟨a.1,?_⟩;cases e:(dn x s).getD false with
  |false=>rfl
  |true=>have:=h x e;unfold nN at this;rw[a.2]at this;cases this
def M1{s:List (Int×Bool)}{r z:Int}:nN (fy r true s) z↔z=r\/nN s z:=by unfold nN;rw[oH];by_cases h:z=r<;>simp[h]
def apB{V:List Int}{ph:Int->bc T}{ρ:Int->Int}{x:Int}(gH:pA V ph)(k:Nat):∀(t:T) (a:vn),kc a.c.up ρ->cF a.c.up=V->a.c.ph=ph->(∀w,t.occ w=true->w∈V)->JH V ph a.seen<=k->
  ∃N bs,(∀n,N<=n->t.foldO (x3 (qH n x) x) a=some bs)/\acD V ph ρ x (fun w=>t.occ w=true) a bs:=by
 induction k using Nat.strongRecOn with
 |ind k MZ=>
 intro t;induction t with
 |var v=>
  intro a m s g y A;obtain⟨i,J,U⟩:=u3 m (by rw[s];exact y v (by simp[T.occ]));have X:i.shd (ρ v)=(ph (ρ v)).isSome:=by rw[U.shd,<-g];simp only[bH.ph];split<;>simp_all
  by_cases d:a.found=true\/ρ v=x
  ·refine⟨0,⟨i,a.seen,true⟩,fun n _=>by simp[T.foldO,x3,J,d],U,fun z c=>c,fun _=>?_,fun _=>rfl,fun h=>by cases h⟩;rcases d with d|d
   ·exact .inl d
   ·exact .inr ⟨v,by simp[T.occ],by rw[d];exact .refl _⟩
  ·by_cases o:(dn (ρ v) a.seen).getD false=false/\i.shd (ρ v)=true
   ·have G:ph (ρ v)=some (i.shp (ρ v)):=by rw[<-g];simp only[bH.ph,U.shp];rw[if_pos (by rw[<-U.shd];exact o.2)]
    obtain⟨g1,g2,g3⟩:=gH _ _ G;have bN:JH V ph (fy (ρ v) true a.seen)<k:=by
     refine Nat.lt_of_lt_of_le (GR (v:=ρ v) (fun z _ c=>?_) g3 ?_ ?_) A
     ·simp only[cP,sv]at c⊢;refine⟨c.1,?_⟩;rw[oH]at c;by_cases e:z=ρ v
      ·subst e;exact o.1
      ·rw[if_neg e]at c;exact c.2
     ·simp[G,o.1]
     ·simp[oH]
    obtain⟨N,bs,H,b⟩:=MZ _ bN (i.shp (ρ v)) ⟨i,fy (ρ v) true a.seen,false⟩ U.ru (by rw[U.keys];exact s) (by rw[U.ph];exact g) g2 (dL _);refine⟨N+1,bs,fun n aB=>?_,U.trans b.sm,fun z c=>b.sub z (M1.2 (.inr c)),fun O=>?_,fun h=>absurd (.inl h) d,fun B=>?_⟩
    ·obtain⟨n',rfl⟩:∃n',n=n'+1:=⟨n-1,Ω⟩;simp only[T.foldO,x3,J,lX,if_neg d,if_pos o,qH];exact H n' Ω
    ·rcases b.yes O with h|⟨w,l,j⟩
     ·cases h
     ·exact .inr ⟨v,by simp[T.occ],.step ⟨by rw[kc.idem m],_,w,G,l,rfl⟩ j⟩
    ·obtain⟨l,j⟩:=b.no B;have Z:nN bs.seen (ρ v):=b.sub _ (M1.2 (.inl rfl));refine⟨fun w hw=>?_,fun r P E u hu=>?_⟩
     ·simp[T.occ]at hw;subst hw;exact⟨fun e=>d (.inr e),fun _=>Z⟩
     ·by_cases Q:r=ρ v
      ·subst Q;obtain⟨_,t',w,R,z2,rfl⟩:=hu;rw[G]at R;cases R;exact l w z2
      ·exact j r P (fun h=>(M1.1 h).elim Q E) u hu
   ·have DK:a.found=false:=by cases e:a.found with
     |false=>rfl
     |true=>exact absurd (.inl e) d
    refine⟨0,⟨i,a.seen,a.found⟩,fun n _=>by simp only[T.foldO,x3,J,lX,if_neg d,if_neg o],U,fun z c=>c,fun h=>.inl h,fun h=>h,fun _=>⟨fun w hw=>?_,fun r J U=>absurd J U⟩⟩;simp[T.occ]at hw;subst hw;refine⟨fun e=>d (.inr e),fun bI=>?_⟩;unfold nN;cases e:(dn (ρ v) a.seen).getD false with
    |true=>rfl
    |false=>exact absurd ⟨e,by rw[X];exact bI⟩ o
 |pair p q L K=>
  intro a m s g y A;obtain⟨iF,F,H,b⟩:=L a m s g (fun w hw=>y w (by simp[T.occ,hw])) A;obtain⟨Y,a2,aC,f⟩:=K F b.sm.ru (by rw[b.sm.keys];exact s) (by rw[b.sm.ph];exact g) (fun w hw=>y w (by simp[T.occ,hw])) (kx (aqP b.sub) A);refine⟨max iF Y,a2,fun n aB=>by simp only[T.foldO];rw[H n Ω];exact aC n Ω,b.sm.trans f.sm,fun z c=>f.sub z (b.sub z c),fun O=>?_,fun h=>f.kept (b.kept h),fun B=>?_⟩
  ·rcases f.yes O with h|⟨w,l,j⟩
   ·rcases b.yes h with h|⟨w,l,j⟩
    ·exact .inl h
    ·exact .inr ⟨w,by simp[T.occ,l],j⟩
   ·exact .inr ⟨w,by simp[T.occ,l],j⟩
  ·have M:F.found=false:=by cases e:F.found with
    |false=>rfl
    |true=>have:=f.kept e;rw[B]at this;cases this
   obtain⟨W,S⟩:=b.no M;obtain⟨s1,s2⟩:=f.no B;refine⟨fun w hw=>?_,fun r P E u hu=>?_⟩
   ·simp only[T.occ,n2]at hw;rcases hw with hw|hw
    ·exact⟨(W w hw).1,fun h=>f.sub _ ((W w hw).2 h)⟩
    ·exact s1 w hw
   ·by_cases h:nN F.seen r
    ·exact⟨(S r h E u hu).1,fun cK=>f.sub _ ((S r h E u hu).2 cK)⟩
    ·exact s2 r P h u hu
 |_=>intro a m s g y A;exact⟨0,a,fun n _=>rfl,hF.refl m,fun z c=>c,fun h=>.inl h,fun h=>h,fun _=>⟨fun w hw=>by simp[T.occ]at hw,fun r J U=>absurd J U⟩⟩
def I2{ρ:Int->Int}{x:Int}{c:bH}{t:T}(f:kc c.up ρ)(j:pA (cF c.up) c.ph)(r:∀w,t.occ w=true->w∈cF c.up):
  ∃N a,(∀n,N<=n->qH n x t c []=some a)/\hF ρ c a.c/\(a.found=true↔∃w,t.occ w=true/\n7 (jP c.ph ρ) (ρ w) x):=by
 obtain⟨N,a,J,U⟩:=apB (x:=x) j _ t ⟨c,[],false⟩ f rfl rfl r (dL _);refine⟨N+1,a,fun n B=>?_,U.sm,fun h=>?_,fun⟨w,hw,u⟩=>?_⟩
 ·obtain⟨n',rfl⟩:∃n',n=n'+1:=⟨n-1,Ω⟩;exact J n' Ω
 ·rcases U.yes h with h|h
  ·cases h
  ·exact h
 ·cases e:a.found with
  |true=>rfl
  |false=>
   obtain⟨d,o⟩:=U.no e;have key:∀z,n7 (jP c.ph ρ) z x->z≠x->((c.ph z).isSome=true->nN a.seen z)->et:=by
    have:∀z y,n7 (jP c.ph ρ) z y->y=x->z≠x->((c.ph z).isSome=true->nN a.seen z)->et:=by
     intro z y s;induction s with
     |refl z=>intro h k;exact absurd h k
     | @step z b A he _ l=>intro q v i;obtain⟨_,t',w',g,_,_⟩:=id he;have p:=i (by simp[g]);obtain⟨g1,g2⟩:=o z p (by simp[nN,dn]) b he;exact l q g1 g2
    exact fun z m=>this z x m rfl
   exact(key _ u (d w hw).1 (d w hw).2).elim
end
section
open Go
def acP{E:Int->Int->Prop}{x:Int}{r:Int->Nat}{M:Nat}(h:∀z u,z≠x->E z u->r u<r z)(c:∀u,E x u->r u<M)(d:∀u,E x u->¬n7 E u x):∃a:Int->Nat,∀z u,E z u->a u<a z:=by
 classical
 refine⟨fun z=>if n7 E z x then r z+M else r z,fun z u he=>?_⟩;show(if n7 E u x then r u+M else r u)<(if n7 E z x then r z+M else r z);by_cases b:z=x
 ·subst b;have J:=d u he;have U:=c u he;rw[if_neg J,if_pos (n7.refl z)];omega
 ·have J:=h z u b he;by_cases hu:n7 E u x
  ·rw[if_pos hu,if_pos (n7.step he hu)];omega
  ·rw[if_neg hu];split<;>omega
def oe(ph:Int->bc T)(ρ:Int->Int):Nat->Int->T
 |0,v=>.var (ρ v)
 |n+1,v=>match ph (ρ v)with
  |none=>.var (ρ v)
  |some t=>t.ap (oe ph ρ n)
section
variable {ph:Int->bc T} {ρ:Int->Int} {r:Int->Nat}
def afp(a:∀v,ρ (ρ v)=ρ v):∀(n:Nat) (v:Int),oe ph ρ n v=oe ph ρ n (ρ v)
 |0,v=>by simp[oe,a]
 |n+1,v=>by simp[oe,a]
def T3(a:∀v,ρ (ρ v)=ρ v)(b:∀z u,jP ph ρ z u->r u<r z):∀(n:Nat) (v:Int),r (ρ v)<n->oe ph ρ n v=oe ph ρ (n+1) v
 |0,_,h=>Ω
 |n+1,v,h=>by
  show(match ph (ρ v)with|none=>T.var (ρ v)|some t=>t.ap (oe ph ρ n))=(match ph (ρ v)with|none=>T.var (ρ v)|some t=>t.ap (oe ph ρ (n+1)));cases e:ph (ρ v)with
  |none=>rfl
  |some t=>refine vu fun w hw=>T3 a b n w ?_;have:=b (ρ v) (ρ w) ⟨a v,t,w,e,hw,rfl⟩;omega
def T2(a:∀v,ρ (ρ v)=ρ v)(b:∀z u,jP ph ρ z u->r u<r z){n:Nat}{v:Int}(h:r (ρ v)<n):∀k,oe ph ρ (n+k) v=oe ph ρ n v
 |0=>rfl
 |k+1=>by rw[<-T2 a b h k];exact(T3 a b (n+k) v Ω).symm
def hS(ph:Int->bc T)(ρ:Int->Int)(r:Int->Nat)(v:Int):T:=oe ph ρ (r (ρ v)+1) v
def AY(a:∀v,ρ (ρ v)=ρ v)(v:Int):hS ph ρ r v=hS ph ρ r (ρ v):=by unfold hS;rw[afp a,a]
def Dv{v:Int}(h:ph (ρ v)=none):hS ph ρ r v= .var (ρ v):=by simp[hS,oe,h]
def AZ(a:∀v,ρ (ρ v)=ρ v)(b:∀z u,jP ph ρ z u->r u<r z){v:Int}{t:T}(h:ph (ρ v)=some t):hS ph ρ r v=t.ap (hS ph ρ r):=by show oe ph ρ (r (ρ v)+1) v=_;simp only[oe,h];refine vu fun w hw=>?_;have J:=b (ρ v) (ρ w) ⟨a v,t,w,h,hw,rfl⟩;have:=T2 a b (n:=r (ρ w)+1) (v:=w) Ω (r (ρ v)-(r (ρ w)+1));rw[show r (ρ w)+1+(r (ρ v)-(r (ρ w)+1))=r (ρ v)from by omega]at this;exact this
def aiD(a:∀v,ρ (ρ v)=ρ v)(c:∀z u,jP ph ρ z u->r u<r z):kI ph ρ (hS ph ρ r):=⟨AY a,fun x t b h=>AZ a c (by rw[b];exact h)⟩
def Ju{V:List Int}(b:pA V ph){a:Int->T}(h:kI ph ρ a){z u:Int}(he:jP ph ρ z u):(a u).size<(a z).size:=by obtain⟨J,t,w,U,c,rfl⟩:=he;rw[h.2 z t J U,<-h.1 w];exact(B0 a c).2 (b z t U).1
def Jv{V:List Int}(b:pA V ph){a:Int->T}(h:kI ph ρ a){z u:Int}(he:n7 (jP ph ρ) z u):(a u).size<=(a z).size:=by
 induction he with
 |refl=>exact dL _
 |step J _ c=>have:=Ju b h J;omega
end
def adm(r:Int->Nat)(t:T):∃M,∀w,t.occ w=true->r w<M:=by
 induction t with
 |var n=>exact⟨r n+1,fun w hw=>by simp[T.occ]at hw;subst hw;omega⟩
 |pair a b f e=>
  obtain⟨c,J⟩:=f;obtain⟨d,U⟩:=e;refine⟨c+d,fun w hw=>?_⟩;simp only[T.occ,n2]at hw;rcases hw with hw|hw
  ·have:=J w hw;omega
  ·have:=U w hw;omega
 |_=>exact⟨0,fun w hw=>by simp[T.occ]at hw⟩
def Fi{ph:Int->bc T}{ρ:Int->Int}(b:∀v,ρ (ρ v)=ρ v){x:Int}{r:Int->Nat}(h:∀z u,z≠x->jP ph ρ z u->r u<r z)(g:∀u,jP ph ρ x u->¬n7 (jP ph ρ) u x):∃f,kI ph ρ f:=by
 have a:∃M,∀u,jP ph ρ x u->r u<M:=by
  cases e:ph x with
  |none=>exact⟨0,fun u ⟨_,t,w,J,_⟩=>by rw[e]at J;cases J⟩
  |some t=>obtain⟨M,a⟩:=adm (fun w=>r (ρ w)) t;refine⟨M,fun u ⟨_,t',w,J,U,d⟩=>?_⟩;rw[e]at J;cases J;subst d;exact a w U
 obtain⟨M,a⟩:=a;obtain⟨i,c⟩:=acP h a g;exact⟨_,aiD b c⟩
structure mM (c:bH) (ρ:Int->Int):Prop where
 ru:kc c.up ρ
 sh:pA (cF c.up) c.ph
 sat:∃aR,kI c.ph ρ aR
def mM.sm{c a:bH}{ρ:Int->Int}(h:mM c ρ)(k:hF ρ c a):mM a ρ:=⟨k.ru,by rw[k.keys,k.ph];exact h.sh,by rw[k.ph];exact h.sat⟩
def jl(c:bH)(ρ:Int->Int):Nat:=((cF c.up).filter fun v=>decide (ρ v=v)).length+((cF c.up).filter fun v=>decide (ρ v=v)&& !(c.ph v).isSome).length
def yp{c a:bH}{ρ:Int->Int}(k:hF ρ c a):jl a ρ=jl c ρ:=by unfold jl;rw[k.keys,k.ph]
structure jQ (c:bH) (ρ:Int->Int) (p:(Int->T)->Prop) (o:Bool×bH):Prop where
 keys:cF o.2.up=cF c.up
 rest:o.2.color=c.color/\o.2.size=c.size/\o.2.full=c.full
 yes:o.1=true->∃ρ',mM o.2 ρ'/\(∀aR,kI o.2.ph ρ' aR↔kI c.ph ρ aR/\p aR)/\((ρ'=ρ/\o.2.ph=c.ph)\/jl o.2 ρ'<jl c ρ)
 no:o.1=false->∀aR,kI c.ph ρ aR->¬p aR
def hF.rest{ρ:Int->Int}{c a:bH}(h:hF ρ c a):a.color=c.color/\a.size=c.size/\a.full=c.full:=by rw[h.eq];exact⟨rfl,rfl,rfl⟩
def jQ.sm{c a:bH}{ρ:Int->Int}{p:(Int->T)->Prop}{o:Bool×bH}(k:hF ρ c a)(h:jQ a ρ p o):jQ c ρ p o:=⟨h.keys.trans k.keys,by rw[h.rest.1,h.rest.2.1,h.rest.2.2];exact k.rest,fun e=>by rw[<-yp k,<-k.ph];exact h.yes e,by rw[<-k.ph];exact h.no⟩
def jQ.congr{c:bH}{ρ:Int->Int}{p q:(Int->T)->Prop}{o:Bool×bH}(d:∀a,kI c.ph ρ a->(p a↔q a))(h:jQ c ρ p o):jQ c ρ q o:=⟨h.keys,h.rest,fun e=>by obtain⟨ρ',J,U,g⟩:=h.yes e;exact⟨ρ',J,fun a=>(U a).trans (and_congr_right fun b=>d a b),g⟩,fun e a b f=>h.no e a b ((d a b).2 f)⟩
def xW(c:bH)(x:Int)(t:T)(z:Int):(c.know x t).ph z=if z=x then some t else c.ph z:=by
 simp only[bH.ph,bH.know,bH.shd,bH.shp,oH];by_cases h:z=x
 ·simp[h]
 ·simp only[if_neg h];exact ite_congr rfl (fun _=>rfl) fun _=>rfl
def Xi{c:bH}{ρ:Int->Int}(hi:mM c ρ){x:Int}(B:ρ x=x)(E:x∈cF c.up)(y:c.ph x=none){t:T}(G:t.kind≠1)(F:∀w,t.occ w=true->w∈cF c.up):
  ∃N o,(∀n,N<=n->wg n x t c=some o)/\jQ c ρ (fun d=>d x=t.ap d) o:=by
 have i:pA (cF (c.know x t).up) (c.know x t).ph:=by
  intro z u b;rw[xW]at b;split at b
  ·rename_i e;cases b;subst e;exact⟨G,F,E⟩
  ·exact hi.sh z u b
 have s:∀d,kI (c.know x t).ph ρ d↔kI c.ph ρ d/\d x=t.ap d:=by
  intro d;constructor
  ·rintro⟨J,U⟩;refine⟨⟨J,fun z u b hu=>U z u b ?_⟩,U x t B (by rw[xW];simp)⟩;rw[xW];split
   ·rename_i e;subst e;rw[y]at hu;cases hu
   ·exact hu
  ·rintro⟨⟨J,U⟩,g⟩;refine⟨J,fun z u b hu=>?_⟩;rw[xW]at hu;split at hu
   ·rename_i e;subst e;cases hu;exact g
   ·exact U z u b hu
 obtain⟨N,a,J,U,g⟩:=I2 (x:=x) (c:=c.know x t) (t:=t) hi.ru i F;refine⟨N,(!a.found,a.c),fun n R=>by simp[wg,J n R],U.keys,U.rest,fun f=>?_,fun f d A he=>?_⟩
 ·simp only[sv]at f;have l:∀u,jP (c.know x t).ph ρ x u->¬n7 (jP (c.know x t).ph ρ) u x:=by rintro u ⟨_,t',w,h,j,rfl⟩ Q;rw[xW,if_pos rfl]at h;cases h;have:=g.2 ⟨w,j,Q⟩;rw[f]at this;cases this
  obtain⟨L,K⟩:=hi.sat
  have m:=Fi (ph:=(c.know x t).ph) (ρ:=ρ) hi.ru.idem (x:=x) (r:=fun z=>(L z).size) (fun z u b he=>by refine Ju hi.sh K ?_;obtain⟨k,t',w,H,O⟩:=he;rw[xW,if_neg b]at H;exact⟨k,t',w,H,O⟩) l
  refine⟨ρ,⟨U.ru,?_,?_⟩,fun d=>?_,.inr ?_⟩
  ·simp only[U.keys,U.ph];exact i
  ·simp only[U.ph];exact m
  ·simp only[U.ph];exact s d
  ·simp only[yp U];unfold jl;have k:cF (c.know x t).up=cF c.up:=rfl;rw[k];have:=GR (V:=cF c.up) (v:=x) (p:=fun v=>decide (ρ v=v)&& !(c.ph v).isSome) (q:=fun v=>decide (ρ v=v)&& !((c.know x t).ph v).isSome) (fun z _ b=>by
    rw[xW]at b;split at b
    ·simp at b
    ·exact b) E (by simp[B,y]) (by simp[xW])
   omega
 ·simp only[Bool.not_eq_false']at f;obtain⟨w,h,j⟩:=g.1 f;have M:=(s d).2 ⟨A,he⟩;have:=Jv i M j;have P:=(B0 d h).2 G;rw[<-he]at P;rw[<-A.1 w]at this;omega
def jW(ρ:Int->Int)(x y:Int)(v:Int):Int:=if ρ v=y then x else ρ v
section
variable {c:bH} {ρ:Int->Int} {x y:Int}
def rb(b:ρ x=x)(c:ρ y=y)(a:x≠y){z:Int}:jW ρ x y z=z↔ρ z=z/\z≠y:=by
 unfold jW;split
 ·rename_i e;constructor
  ·intro h;subst h;rw[b]at e;exact absurd e a
  ·rintro⟨J,U⟩;rw[J]at e;exact absurd e U
 ·rename_i e;constructor
  ·intro h;exact⟨h,fun d=>e (by rw[d,c])⟩
  ·exact fun h=>h.1
def kc.join(h:kc c.up ρ)(d:ρ x=x)(f:ρ y=y)(m:x<y)(k:x∈cF c.up)(g:y∈cF c.up):kc (c.join x y).up (jW ρ x y):=by
 have j:cF (c.join x y).up=cF c.up:=Ek g;refine⟨fun v u b=>?_,fun v b=>?_⟩
 ·rw[j];have a:dn v (fy y x c.up)=some u:=b;rw[oH]at a;by_cases e:v=y
  ·subst e;rw[if_pos rfl]at a;cases a;have i:=(h.mem k).2;rw[d]at i;refine⟨⟨i,Ω,k⟩,?_,⟨fun e=>?_,fun e=>Ω⟩⟩
   ·unfold jW;rw[d,f,if_pos rfl,if_neg Ω]
   ·have:=((rb d f Ω).1 e).2;exact absurd rfl this
  ·rw[if_neg e]at a;obtain⟨l,a2,a3⟩:=h.up v u a;refine⟨l,by unfold jW;rw[a2],?_⟩;rw[rb d f Ω,a3];exact⟨fun h=>h.1,fun h=>⟨h,e⟩⟩
 ·rw[j]at b;have:=h.no v b;unfold jW;rw[this,if_neg fun e=>b (by rw[e];exact g)]
def aqd{ph:Int->bc T}(i:ρ x=x)(d:ρ y=y)(h:x≠y)(a:Int->T):(kI ph (jW ρ x y) a/\∀t,ph y=some t->a x=t.ap a)↔(kI ph ρ a/\a x=a y):=by
 constructor
 ·rintro⟨⟨J,U⟩,c⟩;have g:a y=a x:=by have:=J y;simpa[jW,d]using this
  refine⟨⟨fun v=>?_,fun z t f b=>?_⟩,g.symm⟩
  ·have:=J v;unfold jW at this;split at this
   ·rename_i e;rw[e,this,g]
   ·exact this
  ·by_cases e:z=y
   ·subst e;rw[g];exact c t b
   ·exact U z t ((rb i d h).2 ⟨f,e⟩) b
 ·rintro⟨⟨J,U⟩,c⟩;refine⟨⟨fun v=>?_,fun z t f b=>U z t ((rb i d h).1 f).1 b⟩,fun t b=>by rw[c];exact U y t d b⟩;unfold jW;split
  ·rename_i e;rw[J v,e,c]
  ·exact J v
def apA{V:List Int}{ph:Int->bc T}(d:pA V ph)(i:ρ x=x)(j:ρ y=y)(c:x≠y){b:Int->T}(h:kI ph ρ b){z u:Int}(f:z≠x)(he:jP ph (jW ρ x y) z u):(if u=x then 0 else(b u).size)<(if z=x then 0 else(b z).size):=by
 obtain⟨J,t,w,U,g,rfl⟩:=he;have k:=(rb i j c).1 J;rw[if_neg f];split
 ·exact T.size_pos _
 ·rename_i a;have:jW ρ x y w=ρ w:=by
   unfold jW at a⊢;split
   ·rename_i e;rw[if_pos e]at a;exact absurd rfl a
   ·rfl
  rw[this];exact Ju d h ⟨k.1,t,w,U,g,rfl⟩
def acw(e:ρ x=x)(b:ρ y=y)(d:x≠y)(f:y∈cF c.up):jl (c.join x y) (jW ρ x y)<jl c ρ:=by have i:cF (c.join x y).up=cF c.up:=Ek f;have g:(c.join x y).ph=c.ph:=rfl;unfold jl;rw[i,g];have J:=GR (V:=cF c.up) (v:=y) (p:=fun v=>decide (ρ v=v)) (q:=fun v=>decide (jW ρ x y v=v)) (fun z _ a=>by simp only[gu]at a⊢;exact((rb e b d).1 a).1) f (by simp[b]) (by simp only[iL];exact fun h=>((rb e b d).1 h).2 rfl);have U:=GQ (V:=cF c.up) (p:=fun v=>decide (ρ v=v)&& !(c.ph v).isSome) (q:=fun v=>decide (jW ρ x y v=v)&& !(c.ph v).isSome) (fun z _ a=>by simp only[cP,gu]at a⊢;exact⟨((rb e b d).1 a.1).1,a.2⟩);omega
end
def B8{c:bH}{x:Int}(h:c.shd x=false):c.ph x=none:=by simp[bH.ph,h]
def B9{c:bH}{x:Int}(h:¬c.shd x=false):c.ph x=some (c.shp x):=by simp[bH.ph];simpa using h
def TU{c:bH}{ρ:Int->Int}(hi:mM c ρ){x y:Int}(g:ρ x=x)(B:ρ y=y)(iO:x<y)(En:x∈cF c.up)(X:y∈cF c.up)
  (rec:∀(O:bH) (Y:Int->Int),mM O Y->cF O.up=cF c.up->jl O Y<jl c ρ->∀a b:T,(∀w,a.occ w=true->w∈cF c.up)->(∀w,b.occ w=true->w∈cF c.up)->∃N o,(∀n,N<=n->hp n a b O=some o)/\jQ O Y (fun d=>a.ap d=b.ap d) o):
  ∃N o,(∀n,N<=n->sF (hp n) n x y (c.join x y)=some o)/\jQ c ρ (fun d=>d x=d y) o:=by
 have i:x≠y:=Ω
 have j:cF (c.join x y).up=cF c.up:=Ek X;have P:(c.join x y).ph=c.ph:=rfl;have F:=hi.ru.join g B iO En X;have di:=acw (c:=c) g B i X;have M:pA (cF (c.join x y).up) (c.join x y).ph:=by rw[j,P];exact hi.sh
 obtain⟨lW,v7⟩:=hi.sat
 have V:∀z u,z≠x->jP c.ph (jW ρ x y) z u->(fun z=>if z=x then 0 else(lW z).size) u<(fun z=>if z=x then 0 else(lW z).size) z:=fun z u bC he=>apA hi.sh g B i v7 bC he;have G:=fun d=>aqd (ph:=c.ph) g B i d;have Wd:∀{cA:bH},hF (jW ρ x y) (c.join x y) cA->(∃d,kI c.ph (jW ρ x y) d)->c.ph y=none->jQ c ρ (fun d=>d x=d y) (true,cA):=by intro cA k s E;refine⟨k.keys.trans j,k.rest,fun _=>⟨jW ρ x y,⟨k.ru,by simp only[k.keys,k.ph];exact M,by simp only[k.ph];exact s⟩,fun d=>?_,.inr (by simp only[yp k];exact di)⟩,fun e=>by cases e⟩;simp only[k.ph,P];rw[<-G d];exact⟨fun h=>⟨h,fun t K=>by rw[E]at K;cases K⟩,fun h=>h.1⟩
 by_cases J:(c.join x y).shd y=false
 ·have V1:c.ph y=none:=B8 J;by_cases U:(c.join x y).shd x=false
  ·have W:c.ph x=none:=B8 U;refine⟨0,(true,c.join x y),fun n _=>by simp only[sF,if_pos J,if_pos U],Wd (hF.refl F) ?_ V1⟩;exact Fi F.idem (x:=x) V fun u ⟨_,t,w,q,_⟩=>by rw[W]at q;cases q
  ·have p:c.ph x=some ((c.join x y).shp x):=B9 U;obtain⟨N,a,L,f,S⟩:=I2 (x:=x) (c:=c.join x y) (t:=(c.join x y).shp x) F M (by rw[j];exact(hi.sh _ _ p).2.1);refine⟨N,(!a.found,a.c),fun n E=>by simp only[sF,if_pos J,if_neg U,L n E,pn],?_⟩;cases v:a.found with
   |false=>refine Wd f (Fi F.idem (x:=x) V fun u ⟨_,t,w,l,r,H⟩ aI=>?_) V1;rw[p]at l;cases l;subst H;have:=S.2 ⟨w,r,aI⟩;rw[v]at this;cases this
   |true=>refine⟨f.keys.trans j,f.rest,(fun e=>by cases e),fun _ d s he=>?_⟩;obtain⟨w,l,r⟩:=S.1 v;have A:=((G d).2 ⟨s,he⟩).1;have Q:=Jv hi.sh A r;have R:=(B0 d l).2 (hi.sh _ _ p).1;rw[<-A.2 x _ ((rb g B i).2 ⟨g,i⟩) p]at R;rw[<-A.1 w]at Q;omega
 ·have m:c.ph y=some ((c.join x y).shp y):=B9 J;by_cases U:(c.join x y).shd x=false
  ·have W:c.ph x=none:=B8 U;have mZ:mM (c.join x y) (jW ρ x y):=⟨F,M,Fi F.idem (x:=x) V fun u ⟨_,t,w,q,_⟩=>by rw[P,W]at q;cases q⟩;obtain⟨N,o,L,f⟩:=Xi mZ (x:=x) ((rb g B i).2 ⟨g,i⟩) (by rw[j];exact En) W (t:=(c.join x y).shp y) (hi.sh _ _ m).1 (by rw[j];exact(hi.sh _ _ m).2.1);refine⟨N,o,fun n E=>by simp only[sF,if_neg J,if_pos U,L n E],f.keys.trans j,f.rest,fun v=>?_,fun v d s he=>?_⟩
   ·obtain⟨ρ',g1,g2,g3⟩:=f.yes v;refine⟨ρ',g1,fun d=>?_,.inr ?_⟩
    ·rw[g2 d,<-G d];refine and_congr_right fun _=>⟨fun h t K=>by rw[m]at K;cases K;exact h,fun h=>h _ m⟩
    ·rcases g3 with⟨rfl,g3⟩|g3
     ·have:jl o.2 (jW ρ x y)=jl (c.join x y) (jW ρ x y):=by unfold jl;rw[f.keys,g3]
      omega
     ·omega
   ·obtain⟨s1,s2⟩:=(G d).2 ⟨s,he⟩;exact f.no v d s1 (s2 _ m)
  ·have p:c.ph x=some ((c.join x y).shp x):=B9 U;obtain⟨Z,a,L,f,S⟩:=I2 (x:=x) (c:=c.join x y) (t:=(c.join x y).shp y) F M (by rw[j];exact(hi.sh _ _ m).2.1);cases v:a.found with
   |true=>refine⟨Z,(false,a.c),fun n E=>by simp only[sF,if_neg J,if_neg U,L n E,lX,v,if_true],f.keys.trans j,f.rest,(fun e=>by cases e),fun _ d s he=>?_⟩;obtain⟨w,l,r⟩:=S.1 v;obtain⟨A,qt⟩:=(G d).2 ⟨s,he⟩;have Q:=Jv hi.sh A r;have R:=(B0 d l).2 (hi.sh _ _ m).1;rw[<-qt _ m]at R;rw[<-A.1 w]at Q;omega
   |false=>
    have Wg:a.c.shp x=(c.join x y).shp x:=f.shp x;obtain⟨jR,b,f1,f2,f3⟩:=I2 (x:=x) (c:=a.c) (t:=(c.join x y).shp x) f.ru (by rw[f.keys,f.ph];exact M) (by rw[f.keys,j];exact(hi.sh _ _ p).2.1);have e9:=f.trans f2;cases be:b.found with
    |true=>refine⟨max Z jR,(false,b.c),fun n E=>by simp only[sF,if_neg J,if_neg U,L n Ω,lX,v,Wg,f1 n Ω,be,if_true,hN,if_false],e9.keys.trans j,e9.rest,(fun e=>by cases e),fun _ d s he=>?_⟩;obtain⟨w,l,r⟩:=f3.1 be;obtain⟨A,_⟩:=(G d).2 ⟨s,he⟩;rw[f.ph]at r;have Q:=Jv hi.sh A r;have R:=(B0 d l).2 (hi.sh _ _ p).1;rw[<-A.2 x _ ((rb g B i).2 ⟨g,i⟩) p]at R;rw[<-A.1 w]at Q;omega
    |false=>
     have Bc:mM b.c (jW ρ x y):=by refine⟨e9.ru,by rw[e9.keys,e9.ph];exact M,?_⟩;rw[e9.ph];refine Fi F.idem (x:=x) V fun u ⟨_,t,w,l,r,H⟩ aI=>?_;rw[P,p]at l;cases l;subst H;have:=f3.2 ⟨w,r,by rw[f.ph];exact aI⟩;rw[be]at this;cases this
     obtain⟨Ai,o,g1,g2⟩:=rec b.c (jW ρ x y) Bc (e9.keys.trans j) (by rw[yp e9];exact di) ((c.join x y).shp x) ((c.join x y).shp y) (hi.sh _ _ p).2.1 (hi.sh _ _ m).2.1;refine⟨max (max Z jR) Ai,o,fun n E=>?_,g2.keys.trans (e9.keys.trans j),?_,fun cK=>?_,fun cK d s he=>?_⟩
     ·simp only[sF,if_neg J,if_neg U,L n Ω,lX,v,Wg,f1 n Ω,be,hN,if_false,e9.shp];exact g1 n Ω
     ·rw[g2.rest.1,g2.rest.2.1,g2.rest.2.2];exact e9.rest
     ·obtain⟨ρ',l,r,H⟩:=g2.yes cK;refine⟨ρ',l,fun d=>?_,.inr ?_⟩
      ·rw[r d,e9.ph,P,<-G d];refine and_congr_right fun h=>?_;have:=h.2 x _ ((rb g B i).2 ⟨g,i⟩) p;rw[<-this];exact⟨fun h t K=>by rw[m]at K;cases K;exact h,fun h=>h _ m⟩
      ·have:jl b.c (jW ρ x y)<jl c ρ:=by rw[yp e9];exact di
       rcases H with⟨rfl,H⟩|H
       ·have:jl o.2 (jW ρ x y)=jl b.c (jW ρ x y):=by unfold jl;rw[g2.keys,H]
        omega
       ·omega
     ·obtain⟨s1,s2⟩:=(G d).2 ⟨s,he⟩;refine g2.no cK d (by rw[e9.ph];exact s1) ?_;have:=s1.2 x _ ((rb g B i).2 ⟨g,i⟩) p;rw[<-this];exact s2 _ m
def vC:T->T->Nat
 | .var _,_=>1
 |_,.var _=>2
 |_,_=>0
def aev(K:Nat):∀(m:Nat) (c:bH) (ρ:Int->Int) (a b:T) (k:Int->T),mM c ρ->kI c.ph ρ k->(∀w,a.occ w=true->w∈cF c.up)->(∀w,b.occ w=true->w∈cF c.up)->jl c ρ=K->((a.ap k).size+(b.ap k).size)*3+vC a b=m->
  ∃N o,(∀n,N<=n->hp n a b c=some o)/\jQ c ρ (fun d=>a.ap d=b.ap d) o:=by
 induction K using Nat.strongRecOn with
 |ind K aks=>
 have Wo:∀(f:bH) (g:Int->Int),mM f g->jl f g<K->∀a b:T,(∀w,a.occ w=true->w∈cF f.up)->(∀w,b.occ w=true->w∈cF f.up)->∃N o,(∀n,N<=n->hp n a b f=some o)/\jQ f g (fun d=>a.ap d=b.ap d) o:=by
  intro f g J U a b v r;obtain⟨d,ij⟩:=J.sat
  exact aks _ U _ f g a b d J ij v r rfl rfl
 intro m;induction m using Nat.strongRecOn with
 |ind m By=>
 intro c ρ a b k hi R v r P hm;have ajy:∀{a b:T},(∀n,hp (n+1) a b c=some (decide (a=b),c))->(∀d,a.ap d=a)->(∀d,b.ap d=b)->∃N o,(∀n,N<=n->hp n a b c=some o)/\jQ c ρ (fun d=>a.ap d=b.ap d) o:=by
  intro a b J U F;refine⟨1,(decide (a=b),c),fun n B=>?_,rfl,⟨rfl,rfl,rfl⟩,fun h=>?_,fun h d _ he=>?_⟩
  ·obtain⟨n',rfl⟩:∃n',n=n'+1:=⟨n-1,Ω⟩;exact J n'
  ·simp only[gu]at h;subst h;exact⟨ρ,hi,fun d=>⟨fun h=>⟨h,rfl⟩,fun h=>h.1⟩,.inl ⟨rfl,rfl⟩⟩
  ·simp only[iL]at h;rw[U,F]at he;exact h he
 have Vp:∀{a b:T},(∀n,hp (n+1) a b c=some (decide (a=b),c))->(∀d,a.ap d≠b.ap d)->a≠b->∃N o,(∀n,N<=n->hp n a b c=some o)/\jQ c ρ (fun d=>a.ap d=b.ap d) o:=by intro a b J U F;refine⟨1,(false,c),fun n B=>?_,rfl,⟨rfl,rfl,rfl⟩,(fun h=>by cases h),fun _ d _ he=>U d he⟩;obtain⟨n',rfl⟩:∃n',n=n'+1:=⟨n-1,Ω⟩;rw[J n',po F]
 have xC:∀(i:Int) (b:T),b.kind≠1->(∀n,hp (n+1) (.var i) b c=(rt c i).bind fun p=>if p.2.shd p.1=false then wg n p.1 b p.2 else hp n (p.2.shp p.1) b p.2)->i∈cF c.up->(∀w,b.occ w=true->w∈cF c.up)->((k i).size+(b.ap k).size)*3<m->∃N o,(∀n,N<=n->hp n (.var i) b c=some o)/\jQ c ρ (fun d=>d i=b.ap d) o:=by
  intro i b xb Vs ki r bN;obtain⟨f,y,s⟩:=u3 hi.ru ki;have O:=hi.sm s;by_cases l:f.shd (ρ i)=false
  ·obtain⟨N,o,A,t⟩:=Xi O (x:=ρ i) (hi.ru.idem i) (by rw[s.keys];exact(hi.ru.mem ki).1) (B8 l) xb (by rw[s.keys];exact r);refine⟨N+1,o,fun n B=>?_,jQ.sm s (jQ.congr (fun d h=>?_) t)⟩
   ·obtain⟨n',rfl⟩:∃n',n=n'+1:=⟨n-1,Ω⟩;rw[Vs,y];simp only[lX,if_pos l];exact A n' Ω
   ·rw[<-h.1 i]
  ·have S:f.ph (ρ i)=some (f.shp (ρ i)):=B9 l;have l3:∀d,kI f.ph ρ d->d i=(f.shp (ρ i)).ap d:=fun d h=>by rw[h.1 i];exact h.2 _ _ (hi.ru.idem i) S
   have DS:=(O.sh _ _ S).1;have ajb:vC (f.shp (ρ i)) b=0:=by cases e:f.shp (ρ i)<;>cases b<;>simp_all[vC,T.kind]
   have Wl:kI f.ph ρ k:=by rw[s.ph];exact R
   obtain⟨N,o,A,t⟩:=By (((f.shp (ρ i)).ap k).size*3+(b.ap k).size*3) (by rw[<-l3 k Wl];omega) f ρ (f.shp (ρ i)) b k O Wl (O.sh _ _ S).2.1 (by rw[s.keys];exact r) (by rw[yp s];exact P) (by rw[ajb];omega);refine⟨N+1,o,fun n B=>?_,jQ.sm s (jQ.congr (fun d h=>?_) t)⟩
   ·obtain⟨n',rfl⟩:∃n',n=n'+1:=⟨n-1,Ω⟩;rw[Vs,y];simp only[lX,if_neg l];exact A n' Ω
   ·rw[l3 d h]
 have D9:∀(i j:Int),i∈cF c.up->j∈cF c.up->∃N o,(∀n,N<=n->hp n (.var i) (.var j) c=some o)/\jQ c ρ (fun d=>d i=d j) o:=by
  intro i j ki Q;obtain⟨f,y,s⟩:=u3 hi.ru ki;obtain⟨H,A,bY⟩:=u3 s.ru (by rw[s.keys];exact Q:j∈cF f.up);have z:=s.trans bY;have W:=hi.sm z;have fs:ρ i∈cF H.up:=by rw[z.keys];exact(hi.ru.mem ki).1
  have VH:ρ j∈cF H.up:=by rw[z.keys];exact(hi.ru.mem Q).1
  have xw:∀(f:bH) (g:Int->Int),mM f g->cF f.up=cF H.up->jl f g<jl H ρ->∀a b:T,(∀w,a.occ w=true->w∈cF H.up)->(∀w,b.occ w=true->w∈cF H.up)->∃N o,(∀n,N<=n->hp n a b f=some o)/\jQ f g (fun d=>a.ap d=b.ap d) o:=fun dh ρ3 J U F a b v r=>Wo dh ρ3 J (by rw[yp z,P]at F;exact F) a b (by rw[U];exact v) (by rw[U];exact r);rcases Int.lt_trichotomy (ρ i) (ρ j)with h|h|h
  ·obtain⟨N,o,bh,X⟩:=TU W (hi.ru.idem i) (hi.ru.idem j) h fs VH xw;refine⟨N+1,o,fun n B=>?_,jQ.sm z (jQ.congr (fun d h=>?_) X)⟩
   ·obtain⟨n',rfl⟩:∃n',n=n'+1:=⟨n-1,Ω⟩;simp only[hp,y,A,lX];rw[if_neg Ω,if_neg Ω];exact bh n' Ω
   ·rw[h.1 i,h.1 j]
  ·refine⟨1,(true,H),fun n B=>?_,z.keys,z.rest,fun _=>⟨ρ,W,fun d=>?_,.inl ⟨rfl,z.ph⟩⟩,fun e=>by cases e⟩
   ·obtain⟨n',rfl⟩:∃n',n=n'+1:=⟨n-1,Ω⟩;simp only[hp,y,A,lX,if_pos h]
   ·simp only[z.ph];exact⟨fun l=>⟨l,by rw[l.1 i,l.1 j,h]⟩,fun l=>l.1⟩
  ·obtain⟨N,o,bh,X⟩:=TU W (hi.ru.idem j) (hi.ru.idem i) h VH fs xw;refine⟨N+1,o,fun n B=>?_,jQ.sm z (jQ.congr (fun d h=>?_) X)⟩
   ·obtain⟨n',rfl⟩:∃n',n=n'+1:=⟨n-1,Ω⟩;simp only[hp,y,A,lX];rw[if_neg Ω,if_pos h];exact bh n' Ω
   ·rw[h.1 i,h.1 j];exact⟨Eq.symm,Eq.symm⟩
 have Br:∀(a:T) (j:Int),a.kind≠1->(∀n,hp (n+1) a (.var j) c=hp n (.var j) a c)->(∀n,hp (n+1) (.var j) a c=(rt c j).bind fun p=>if p.2.shd p.1=false then wg n p.1 a p.2 else hp n (p.2.shp p.1) a p.2)->j∈cF c.up->(∀w,a.occ w=true->w∈cF c.up)->((k j).size+(a.ap k).size)*3<m->∃N o,(∀n,N<=n->hp n a (.var j) c=some o)/\jQ c ρ (fun d=>a.ap d=d j) o:=by intro a j J U F Q v bN;obtain⟨N,o,y,E⟩:=xC j a J F Q v bN;refine⟨N+1,o,fun n B=>?_,jQ.congr (fun d _=>⟨Eq.symm,Eq.symm⟩) E⟩;obtain⟨n',rfl⟩:∃n',n=n'+1:=⟨n-1,Ω⟩;rw[U];exact y n' Ω
 cases a with
 |var i=>
  have ki:i∈cF c.up:=v i (by simp[T.occ]);cases b with
  |var j=>exact D9 i j ki (r j (by simp[T.occ]))
  |_=>exact xC i _ (by simp[T.kind]) (fun n=>rfl) ki r (by simp only[T.ap,vC]at hm⊢;omega)
 |pair Z a2=>
  cases b with
  |var j=>exact Br _ j (by simp[T.kind]) (fun n=>rfl) (fun n=>rfl) (r j (by simp[T.occ])) v (by simp only[T.ap,vC]at hm⊢;omega)
  |pair Y L=>
   have uz:∀p q:T,vC p q<=2:=fun p q=>by cases p<;>cases q<;>simp[vC]
   have l2:∀w,Z.occ w=true->w∈cF c.up:=fun w hw=>v w (by simp[T.occ,hw]);have q0:∀w,a2.occ w=true->w∈cF c.up:=fun w hw=>v w (by simp[T.occ,hw]);have ml:∀w,Y.occ w=true->w∈cF c.up:=fun w hw=>r w (by simp[T.occ,hw]);have qn:∀w,L.occ w=true->w∈cF c.up:=fun w hw=>r w (by simp[T.occ,hw]);simp only[T.ap,T.size,vC]at hm;have f1:=uz Z Y;have f2:=uz a2 L;obtain⟨iF,gZ,y,E⟩:=By _ (by rw[<-hm];omega) c ρ Z Y k hi R l2 ml P rfl;obtain⟨amd,f⟩:=gZ;cases amd with
   |false=>refine⟨iF+1,(false,f),fun n B=>?_,E.keys,E.rest,(fun e=>by cases e),fun _ d l he=>E.no rfl d l (by simp only[T.ap,T.pair.injEq]at he;exact he.1)⟩;obtain⟨n',rfl⟩:∃n',n=n'+1:=⟨n-1,Ω⟩;simp only[hp,y n' Ω,lX,hN,if_false]
   |true=>
    obtain⟨g,a6,bB,u⟩:=E.yes rfl;simp only at a6 bB u;have G:cF f.up=cF c.up:=E.keys;have D2:∃V M,(∀n,V<=n->hp n a2 L f=some M)/\jQ f g (fun d=>a2.ap d=L.ap d) M:=by
     rcases u with⟨rfl,u⟩|u
     ·exact By _ (by rw[<-hm];omega) f g a2 L k a6 (by rw[u];exact R) (by rw[G];exact q0) (by rw[G];exact qn) (by unfold jl;rw[G,u];exact P) rfl
     ·exact Wo f g a6 Ω a2 L (by rw[G];exact q0) (by rw[G];exact qn)
    obtain⟨V,M,A,t⟩:=D2;refine⟨max iF V+1,M,fun n B=>?_,t.keys.trans G,?_,fun aG=>?_,fun aG d l he=>?_⟩
    ·obtain⟨n',rfl⟩:∃n',n=n'+1:=⟨n-1,Ω⟩;simp only[hp,y n' Ω,lX,if_true];exact A n' Ω
    ·rw[t.rest.1,t.rest.2.1,t.rest.2.2];exact E.rest
    ·obtain⟨ρ2,s1,s2,s3⟩:=t.yes aG;refine⟨ρ2,s1,fun d=>?_,?_⟩
     ·rw[s2 d,bB d];simp only[T.ap,T.pair.injEq,and_assoc]
     ·rcases u with⟨rfl,u⟩|u
      ·rcases s3 with⟨rfl,s3⟩|s3
       ·exact .inl ⟨rfl,s3.trans u⟩
       ·have:jl f g=jl c g:=by unfold jl;rw[G,u]
        exact .inr Ω
      ·rcases s3 with⟨rfl,s3⟩|s3
       ·have:jl M.2 ρ2=jl f ρ2:=by unfold jl;rw[t.keys,s3]
        exact .inr Ω
       ·exact .inr Ω
    ·simp only[T.ap,T.pair.injEq]at he;exact t.no aG d ((bB d).2 ⟨l,he.1⟩) he.2
  |_=>exact Vp (fun n=>rfl) (fun d=>by simp[T.ap]) Ψ
 |_=>
  cases b with
  |var j=>exact Br _ j (by simp[T.kind]) (fun n=>rfl) (fun n=>rfl) (r j (by simp[T.occ])) v (by simp only[T.ap,vC]at hm⊢;omega)
  |_=>first|exact ajy (fun n=>rfl) (fun d=>rfl) (fun d=>rfl)|exact Vp (fun n=>rfl) (fun d=>by simp[T.ap]) Ψ
end
section
open Go
def Ab(rec:Int->bH->bc (Bool×bH))(v:Int)(a:bH×Bool):bc (bH×Bool):=if a.2=true then(rt a.1 v).bind fun p=>(rec p.1 p.2).map fun q=>(q.2,q.1)else some a
def zX(v:Int)(c:bH):bc (Int×bH):=(rt c v).map fun p=>(p.2.sz p.1,p.2)
def bH.grey(c:bH)(x:Int):bH:={c with color:=fy x 1 c.color,size:=fy x 1 c.size}
def bH.black(c:bH)(x:Int):bH:={c with color:=fy x 2 c.color}
def rB:Nat->Int->bH->bc (Bool×bH)
 |0,_,_=>none
 |n+1,x,c=>if c.col x=2 then some (true,c)else if c.col x=1 then some (false,c)else
   if(c.grey x).shd x=false then some (true,(c.grey x).black x)else
   (((c.grey x).shp x).foldO (Ab (rB n)) (c.grey x,true)).bind fun a=>if a.2=false then some (false,a.1)else
   (((a.1.shp x).sizeO zX a.1).map fun p=>(true,{p.2 with size:=fy x p.1 p.2.size}.black x))
def CH(rec:Int->bH->bc (T×bH))(v:Int)(c:bH):bc (T×bH):=(rt c v).bind fun p=>rec p.1 p.2
def rA:Nat->Int->bH->bc (T×bH)
 |0,_,_=>none
 |n+1,x,c=>match dn x c.full with
  |some t=>some (t,c)
  |none=>if c.shd x=false then some (.var x,{c with full:=fy x (.var x) c.full})else
   ((c.shp x).mapO (CH (rA n)) c).map fun p=>(p.1,{p.2 with full:=fy x p.1 p.2.full})
def tG(n:Nat):List Int->bH->List Int->bc (bc (List Int)×bH)
 |[],c,out=>some (some out,c)
 |v::bk,c,out=>(rt c v).bind fun p=>(rB n p.1 p.2).bind fun q=>if q.1=false then some (none,q.2)else
   if p.1=v/\q.2.shd p.1=false then tG n bk q.2 out else
   if 5000<q.2.sz p.1\/400<out.length+1 then some (none,q.2)else tG n bk q.2 (out++[v])
def zY(n:Nat):List Int->bH->bc (List Bd×bH)
 |[],c=>some ([],c)
 |v::bk,c=>(rt c v).bind fun p=>(rA n p.1 p.2).bind fun q=>(zY n bk q.2).map fun r=>(⟨v,q.1⟩::r.1,r.2)
def Fp(n:Nat)(bk:List Int)(c:bH):bc (bc (List Bd)):=(tG n bk c []).bind fun a=>match a.1 with
 |none=>some none
 |some out=>(zY n out a.2).map fun r=>some r.1
def qX(n:Nat):List (T×T)->bH->bc (Bool×bH)
 |[],c=>some (true,c)
 |e::es,c=>(BN e.1 c).bind fun b=>(BN e.2 b).bind fun a=>(hp n e.1 e.2 a).bind fun p=>if p.1=true then qX n es p.2 else some (false,p.2)
def mM.rank{c:bH}{ρ:Int->Int}(h:mM c ρ):∃r:Int->Nat,∀z u,jP c.ph ρ z u->r u<r z:=by
 obtain⟨b,a⟩:=h.sat
 exact⟨fun z=>(b z).size,fun z u he=>Ju h.sh a he⟩
structure vl (V:List Int) (ph:Int->bc T) (ρ:Int->Int) (c:bH):Prop where
 ru:kc c.up ρ
 keys:cF c.up=V
 ph:c.ph=ph
def vl.sm{V:List Int}{ph:Int->bc T}{ρ:Int->Int}{c a:bH}(h:vl V ph ρ c)(k:hF ρ c a):vl V ph ρ a:=⟨k.ru,k.keys.trans h.keys,k.ph.trans h.ph⟩
def cut(n:Nat):Int:=if 5001<(n:Int)then 5001 else n
section
variable {V:List Int} {ph:Int->bc T} {ρ:Int->Int} {r:Int->Nat}
def ap3(f:Int->T):∀(t:T) (c:bH),vl V ph ρ c->(∀w,t.occ w=true->w∈V/\c.sz (ρ w)=cut (f w).size)->∃i,t.sizeO zX c=some (cut (t.ap f).size,i)/\hF ρ c i:=by
 intro t;induction t with
 |var v=>
  intro c h d;obtain⟨o,n⟩:=d v (by simp[T.occ]);obtain⟨e,J,U⟩:=u3 h.ru (by rw[h.keys];exact o:v∈cF c.up);refine⟨e,?_,U⟩;have:e.sz (ρ v)=cut (f v).size:=by rw[<-n,U.eq];rfl
  simp only[T.sizeO,zX,J,pn,this,T.ap,dS,jj,jk];unfold cut;split<;>omega
 |pair a b k j=>
  intro c h d;obtain⟨e,J,g⟩:=k c h fun w hw=>d w (by simp[T.occ,hw]);obtain⟨l,U,m⟩:=j e (h.sm g) fun w hw=>⟨(d w (by simp[T.occ,hw])).1,by rw[<-(d w (by simp[T.occ,hw])).2,g.eq];rfl⟩;have p:=T.size_pos (b.ap f);simp only[T.sizeO,J,lX,T.ap,T.size];by_cases aw:5000<cut (a.ap f).size
  ·rw[if_pos aw];refine⟨e,?_,g⟩;simp only[dS,jj,jk];unfold cut at aw⊢;split at aw<;>split<;>(try split)<;>omega
  ·rw[if_neg aw,U];refine⟨l,?_,g.trans m⟩;simp only[pn,dS,jj,jk];unfold cut at aw⊢;split at aw<;>(repeat' split)<;>omega
 |_=>intro c h d;exact⟨c,by simp[T.sizeO,T.ap,T.size,cut],hF.refl h.ru⟩
structure rN (V:List Int) (ph:Int->bc T) (ρ:Int->Int) (r:Int->Nat) (d:Nat) (c:bH):Prop where
 fin:vl V ph ρ c
 col:∀z,r z<d->c.col z=0\/(c.col z=2/\c.sz z=cut (hS ph ρ r z).size)
structure oc (ph:Int->bc T) (ρ:Int->Int) (r:Int->Nat) (d:Nat) (c cA:bH):Prop where
 full:cA.full=c.full
 hi:∀z,d<=r z->cA.col z=c.col z/\cA.sz z=c.sz z
 lo:∀z,c.col z=2->cA.col z=2/\cA.sz z=c.sz z
def oc.refl{c:bH}{d:Nat}:oc ph ρ r d c c:=⟨rfl,fun _ _=>⟨rfl,rfl⟩,fun _ h=>⟨h,rfl⟩⟩
def oc.trans{a b c:bH}{d:Nat}(h:oc ph ρ r d a b)(k:oc ph ρ r d b c):oc ph ρ r d a c:=⟨k.full.trans h.full,fun z e=>⟨(k.hi z e).1.trans (h.hi z e).1,(k.hi z e).2.trans (h.hi z e).2⟩,fun z e=>⟨(k.lo z (h.lo z e).1).1,(k.lo z (h.lo z e).1).2.trans (h.lo z e).2⟩⟩
def oc.mono{a b:bH}{d c:Nat}(f:d<=c)(h:oc ph ρ r d a b):oc ph ρ r c a b:=⟨h.full,fun z e=>h.hi z Ω,h.lo⟩
def oc.sm{c a:bH}{d:Nat}(k:hF ρ c a):oc ph ρ r d c a:=by
 have b:∀z,a.col z=c.col z:=fun z=>by rw[k.eq];rfl
 have e:∀z,a.sz z=c.sz z:=fun z=>by rw[k.eq];rfl
 exact⟨k.rest.2.2,fun z _=>⟨b z,e z⟩,fun z h=>⟨by rw[b];exact h,e z⟩⟩
def rN.sm{c a:bH}{d:Nat}(h:rN V ph ρ r d c)(k:hF ρ c a):rN V ph ρ r d a:=by
 have e:∀z,a.col z=c.col z:=fun z=>by rw[k.eq];rfl
 have f:∀z,a.sz z=c.sz z:=fun z=>by rw[k.eq];rfl
 exact⟨h.fin.sm k,fun z b=>by rw[e,f];exact h.col z b⟩
def ase(gH:pA V ph)(R:∀v,ρ (ρ v)=ρ v)(aI:∀z u,jP ph ρ z u->r u<r z)(d:Nat):∀(x:Int) (c:bH),r x<d->ρ x=x->x∈V->rN V ph ρ r d c->
  ∃N A,(∀n,N<=n->rB n x c=some (true,A))/\rN V ph ρ r d A/\oc ph ρ r (r x+1) c A/\A.col x=2/\A.sz x=cut (hS ph ρ r x).size:=by
 induction d using Nat.strongRecOn with
 |ind d bZ=>
 intro x c aJ P kL hw;rcases hw.col x aJ with bz|⟨U,ao⟩;rotate_left
 ·refine⟨1,c,fun n F=>?_,hw,oc.refl,U,ao⟩;obtain⟨n',rfl⟩:∃n',n=n'+1:=⟨n-1,Ω⟩;simp only[rB,if_pos U]
 have k:∀z,(c.grey x).col z=if z=x then 1 else c.col z:=fun z=>by simp only[bH.grey,bH.col,oH];split<;>rfl
 have H:∀z,(c.grey x).sz z=if z=x then 1 else c.sz z:=fun z=>by simp only[bH.grey,bH.sz,oH];split<;>rfl
 have m:vl V ph ρ (c.grey x):=⟨hw.fin.ru,hw.fin.keys,hw.fin.ph⟩;have X:rN V ph ρ r (r x) (c.grey x):=⟨m,fun z g=>by
  have cr:z≠x:=fun e=>by subst e;omega
  rw[k,H,if_neg cr,if_neg cr];exact hw.col z Ω⟩
 have DV:¬c.col x=2:=Ω
 have sZ:¬c.col x=1:=Ω
 have p:∀(e:bH) (z:Int),(e.black x).col z=(if z=x then 2 else e.col z):=fun e z=>by simp only[bH.black,bH.col,oH];split<;>rfl
 by_cases O:(c.grey x).shd x=false
 ·have l:ph x=none:=by rw[<-m.ph];exact B8 O
  have be:hS ph ρ r x= .var x:=by rw[Dv (by rw[P];exact l),P]
  have K:∀z,((c.grey x).black x).sz z=if z=x then 1 else c.sz z:=H
  refine⟨1,(c.grey x).black x,fun n F=>?_,⟨⟨m.ru,m.keys,m.ph⟩,fun z g=>?_⟩,⟨rfl,fun z g=>?_,fun z g=>?_⟩,?_,?_⟩
  ·obtain⟨n',rfl⟩:∃n',n=n'+1:=⟨n-1,Ω⟩;simp only[rB,if_neg DV,if_neg sZ,if_pos O]
  ·rw[p,K,k];by_cases e:z=x
   ·subst e;simp only[if_true,be];exact .inr ⟨trivial,by simp[T.size,cut]⟩
   ·simp only[if_neg e];exact hw.col z g
  ·have e:z≠x:=fun e=>by subst e;omega
   rw[p,K,k];simp only[if_neg e];exact⟨trivial,trivial⟩
  ·have e:z≠x:=fun e=>by subst e;omega
   rw[p,K,k];simp only[if_neg e];exact⟨g,trivial⟩
  ·rw[p,if_pos rfl]
  ·rw[K,if_pos rfl,be];simp[T.size,cut]
 ·have l:ph x=some ((c.grey x).shp x):=by rw[<-m.ph];exact B9 O
  obtain⟨g1,g2,g3⟩:=gH _ _ l;have Y:∀(t:T) (e:bH),(∀w,t.occ w=true->((c.grey x).shp x).occ w=true)->rN V ph ρ r (r x) e->∃N s,(∀n,N<=n->t.foldO (Ab (rB n)) (e,true)=some (s,true))/\rN V ph ρ r (r x) s/\oc ph ρ r (r x) e s/\∀w,t.occ w=true->s.col (ρ w)=2/\s.sz (ρ w)=cut (hS ph ρ r w).size:=by
   intro t;induction t with
   |var v=>intro e o he;have aN:=g2 v (o v (by simp[T.occ]));have xx:r (ρ v)<r x:=aI x (ρ v) ⟨P,_,v,l,o v (by simp[T.occ]),rfl⟩;obtain⟨W,G,bj⟩:=u3 he.fin.ru (by rw[he.fin.keys];exact aN:v∈cF e.up);obtain⟨N,i,E,j,y,cn,s2⟩:=bZ (r x) aJ (ρ v) W xx (R v) (by rw[<-he.fin.keys];exact(he.fin.ru.mem (by rw[he.fin.keys];exact aN)).1) (he.sm bj);refine⟨N,i,fun n F=>by simp[T.foldO,Ab,G,E n F],j,(oc.sm bj).trans (y.mono Ω),fun w hw=>?_⟩;simp[T.occ]at hw;subst hw;exact⟨cn,by rw[s2,<-AY R]⟩
   |pair a b ek en=>
    intro e o he;obtain⟨iF,W,G,q,S,s1⟩:=ek e (fun w hw=>o w (by simp[T.occ,hw])) he;obtain⟨jR,i,E,j,y,s2⟩:=en W (fun w hw=>o w (by simp[T.occ,hw])) q;refine⟨max iF jR,i,fun n F=>by simp only[T.foldO];rw[G n Ω];exact E n Ω,j,S.trans y,fun w hw=>?_⟩;simp only[T.occ,n2]at hw;rcases hw with hw|hw
    ·obtain⟨lV,z2⟩:=s1 w hw;exact⟨(y.lo _ lV).1,by rw[(y.lo _ lV).2];exact z2⟩
    ·exact s2 w hw
   |_=>intro e _ he;exact⟨0,e,fun n _=>rfl,he,oc.refl,fun w hw=>by simp[T.occ]at hw⟩
  obtain⟨N,e,G,q,S,s1⟩:=Y ((c.grey x).shp x) (c.grey x) (fun w h=>h) X;have Z:e.shp x=(c.grey x).shp x:=by
   have J:e.ph x=some ((c.grey x).shp x):=by rw[q.fin.ph];exact l
   unfold bH.ph at J;split at J
   ·exact e7 J
   ·cases J
  obtain⟨i,E,bY⟩:=ap3 (V:=V) (ph:=ph) (ρ:=ρ) (hS ph ρ r) ((c.grey x).shp x) e q.fin (fun w hw=>⟨g2 w hw,(s1 w hw).2⟩);have nL:hS ph ρ r x=((c.grey x).shp x).ap (hS ph ρ r):=AZ R aI (by rw[P];exact l);have Q:=S.trans (oc.sm (ph:=ph) (r:=r) (d:=r x) bY);have j:=q.sm bY;let M:bH:={i with size:=fy x (cut (hS ph ρ r x).size) i.size}.black x
  have L:∀z,M.col z=if z=x then 2 else i.col z:=fun z=>p _ z
  have s3:∀z,M.sz z=if z=x then cut (hS ph ρ r x).size else i.sz z:=fun z=>by show(dn z (fy x _ i.size)).getD 0=_;rw[oH];split<;>rfl
  refine⟨N+1,M,fun n F=>?_,⟨⟨j.fin.ru,j.fin.keys,j.fin.ph⟩,fun z g=>?_⟩,⟨Q.full,fun z g=>?_,fun z g=>?_⟩,by rw[L,if_pos rfl],by rw[s3,if_pos rfl]⟩
  ·obtain⟨n',rfl⟩:∃n',n=n'+1:=⟨n-1,Ω⟩;simp only[rB,if_neg DV,if_neg sZ,if_neg O,G n' Ω,lX,Bool.true_eq_false,if_false,Z,E,pn,nL,M]
  ·rw[L,s3];by_cases f:z=x
   ·subst f;simp only[if_true];exact .inr ⟨trivial,trivial⟩
   ·simp only[if_neg f];by_cases bN:r z<r x
    ·exact j.col z bN
    ·obtain⟨B,a2⟩:=Q.hi z Ω;rw[B,a2,k,H,if_neg f,if_neg f];exact hw.col z g
  ·have f:z≠x:=fun e=>by subst e;omega
   obtain⟨B,a2⟩:=Q.hi z Ω;rw[L,s3,if_neg f,if_neg f,B,a2,k,H,if_neg f,if_neg f];exact⟨rfl,rfl⟩
  ·have f:z≠x:=fun e=>by subst e;omega
   obtain⟨B,a2⟩:=Q.lo z (by rw[k,if_neg f];exact g);rw[L,s3,if_neg f,if_neg f,B,a2,H,if_neg f];exact⟨rfl,rfl⟩
structure sA (V:List Int) (ph:Int->bc T) (ρ:Int->Int) (r:Int->Nat) (c:bH):Prop where
 fin:vl V ph ρ c
 full:∀x t,dn x c.full=some t->t=hS ph ρ r x
def sA.sm{c a:bH}(h:sA V ph ρ r c)(k:hF ρ c a):sA V ph ρ r a:=⟨h.fin.sm k,by rw[k.rest.2.2];exact h.full⟩
def asb(Q:pA V ph)(s:∀v,ρ (ρ v)=ρ v)(K:∀z u,jP ph ρ z u->r u<r z)(d:Nat):∀(x:Int) (c:bH),r x<d->ρ x=x->x∈V->sA V ph ρ r c->
  ∃N J,(∀n,N<=n->rA n x c=some (hS ph ρ r x,J))/\sA V ph ρ r J:=by
 induction d with
 |zero=>intro x c h;omega
 |succ d W=>
 intro x c aJ o Z f;cases p:dn x c.full with
 |some t=>refine⟨1,c,fun n j=>?_,f⟩;obtain⟨n',rfl⟩:∃n',n=n'+1:=⟨n-1,Ω⟩;simp only[rA,p,f.full x t p]
 |none=>
  have L:∀(e:bH),sA V ph ρ r e->sA V ph ρ r {e with full:=fy x (hS ph ρ r x) e.full}:=fun e he=>⟨⟨he.fin.ru,he.fin.keys,he.fin.ph⟩,fun z t X=>by
   have l:dn z (fy x (hS ph ρ r x) e.full)=some t:=X;rw[oH]at l;split at l
   ·rename_i e;subst e;cases l;rfl
   ·exact he.full z t l⟩
  by_cases m:c.shd x=false
  ·have i:ph x=none:=by rw[<-f.fin.ph];exact B8 m
   have be:hS ph ρ r x= .var x:=by rw[Dv (by rw[o];exact i),o]
   refine⟨1,_,fun n j=>?_,L c f⟩;obtain⟨n',rfl⟩:∃n',n=n'+1:=⟨n-1,Ω⟩;simp only[rA,p,if_pos m,be]
  ·have i:ph x=some (c.shp x):=by rw[<-f.fin.ph];exact B9 m
   obtain⟨g1,g2,g3⟩:=Q _ _ i;have E:∀(t:T) (e:bH),(∀w,t.occ w=true->(c.shp x).occ w=true)->sA V ph ρ r e->∃N H,(∀n,N<=n->t.mapO (CH (rA n)) e=some (t.ap (hS ph ρ r),H))/\sA V ph ρ r H:=by
    intro t;induction t with
    |var v=>intro e g he;have G:=g2 v (g v (by simp[T.occ]));have Y:r (ρ v)<r x:=K x (ρ v) ⟨o,_,v,i,g v (by simp[T.occ]),rfl⟩;obtain⟨B,k,U⟩:=u3 he.fin.ru (by rw[he.fin.keys];exact G:v∈cF e.up);obtain⟨N,F,A,y⟩:=W (ρ v) B Ω (s v) (by rw[<-he.fin.keys];exact(he.fin.ru.mem (by rw[he.fin.keys];exact G)).1) (he.sm U);exact⟨N,F,fun n j=>by simp only[T.mapO,CH,k,lX,A n j,T.ap];rw[<-AY s],y⟩
    |pair a b S R=>intro e g he;obtain⟨P,B,k,q⟩:=S e (fun w hw=>g w (by simp[T.occ,hw])) he;obtain⟨O,F,A,y⟩:=R B (fun w hw=>g w (by simp[T.occ,hw])) q;exact⟨max P O,F,fun n j=>by simp only[T.mapO,k n Ω,lX,A n Ω,pn,T.ap],y⟩
    |_=>intro e _ he;exact⟨0,e,fun n _=>rfl,he⟩
   obtain⟨N,e,k,q⟩:=E (c.shp x) c (fun w h=>h) f;have M:hS ph ρ r x=(c.shp x).ap (hS ph ρ r):=AZ s K (by rw[o];exact i);refine⟨N+1,_,fun n j=>?_,L e q⟩;obtain⟨n',rfl⟩:∃n',n=n'+1:=⟨n-1,Ω⟩;simp only[rA,p,if_neg m,k n' Ω,pn,M]
def oU(ph:Int->bc T)(ρ:Int->Int)(v:Int):Bool:= !(decide (ρ v=v)&&(ph v).isNone)
def ap6(Y:pA V ph)(s:∀v,ρ (ρ v)=ρ v)(aI:∀z u,jP ph ρ z u->r u<r z)(X:∀v∈V,ρ v∈V):∀(bk:List Int) (c:bH) (out:List Int),(∀v∈bk,v∈V)->(∀d,rN V ph ρ r d c)->out.length<=400->(∀v∈out,(hS ph ρ r v).size<=5000)->
  ∃N x o,(∀n,N<=n->tG n bk c out=some (o,x))/\vl V ph ρ x/\x.full=c.full/\(∀l,o=some l->l=out++bk.filter (oU ph ρ)/\l.length<=400/\∀v∈l,(hS ph ρ r v).size<=5000)/\(o=none->¬((out++bk.filter (oU ph ρ)).length<=400/\∀v∈out++bk.filter (oU ph ρ),(hS ph ρ r v).size<=5000)):=by
 intro bk;induction bk with
 |nil=>intro c out _ hw J U;exact⟨0,c,some out,fun n _=>rfl,(hw 0).fin,rfl,fun l e=>by cases e;simp;exact⟨J,U⟩,fun e=>by cases e⟩
 |cons v bk P=>
  intro c out F hw J U;have K:=F v Ψ;obtain⟨Q,a6,O⟩:=u3 (hw 0).fin.ru (by rw[(hw 0).fin.keys];exact K:v∈cF c.up);have W:∀d,rN V ph ρ r d Q:=fun d=>(hw d).sm O;obtain⟨i,a,bB,j,M,aC,s2⟩:=ase Y s aI (r (ρ v)+1) (ρ v) Q Ω (s v) (X v K) (W _);have L:∀d,rN V ph ρ r d a:=fun d=>⟨j.fin,fun z B=>by
   by_cases Z:r z<r (ρ v)+1
   ·exact j.col z Z
   ·obtain⟨y,a2⟩:=M.hi z Ω;rw[y,a2];exact(W d).col z B⟩
  have G:a.full=c.full:=M.full.trans O.rest.2.2;have R:(a.shd (ρ v)=false)=((ph (ρ v)).isNone=true):=by rw[<-j.fin.ph];unfold bH.ph;cases a.shd (ρ v)<;>simp
  have m:∀n,i<=n->tG n (v::bk) c out=(if ρ v=v/\a.shd (ρ v)=false then tG n bk a out else if 5000<a.sz (ρ v)\/400<out.length+1 then some (none,a)else tG n bk a (out++[v])):=fun n g=>by simp only[tG,a6,lX,bB n g,Bool.true_eq_false,if_false]
  have S:hS ph ρ r (ρ v)=hS ph ρ r v:=(AY s v).symm;by_cases aw:ρ v=v/\a.shd (ρ v)=false
  ·have f:oU ph ρ v=false:=by have E:=aw.2;rw[R]at E;rw[aw.1]at E;simp[oU,aw.1,E]
   obtain⟨p,t,o,A,f3,k,H,q⟩:=P a out (fun w hw=>F w (by simp[hw])) L J U;refine⟨max i p,t,o,fun n g=>by rw[m n Ω,if_pos aw];exact A n Ω,f3,k.trans G,?_,?_⟩
   ·simp only[List.filter_cons,f,hN,if_false];exact H
   ·simp only[List.filter_cons,f,hN,if_false];exact q
  ·have f:oU ph ρ v=true:=by
    cases e:oU ph ρ v with
    |true=>rfl
    |false=>simp only[oU,Bool.not_eq_false',cP,gu]at e;exact absurd ⟨e.1,by rw[R,e.1];exact e.2⟩ aw
   by_cases b:5000<a.sz (ρ v)\/400<out.length+1
   ·refine⟨i,a,none,fun n g=>by rw[m n g,if_neg aw,if_pos b],j.fin,G,(fun l e=>by cases e),fun _=>?_⟩;simp only[List.filter_cons,f,if_true];rintro⟨y,a2⟩;rcases b with b|b
    ·rw[s2,S]at b;have:=a2 v Ψ;unfold cut at b;split at b<;>omega
    ·simp at y;omega
   ·have B:(hS ph ρ r v).size<=5000:=by have:¬5000<a.sz (ρ v):=fun h=>b (.inl h);rw[s2,S]at this;unfold cut at this;split at this<;>omega
    obtain⟨p,t,o,A,f3,k,H,q⟩:=P a (out++[v]) (fun w hw=>F w (by simp[hw])) L d6 (fun w hw=>by
     rcases j2.1 hw with hw|hw
     ·exact U w hw
     ·simp at hw;subst hw;exact B)
    refine⟨max i p,t,o,fun n g=>by rw[m n Ω,if_neg aw,if_neg b];exact A n Ω,f3,k.trans G,?_,?_⟩
    ·simp only[List.filter_cons,f,if_true];simpa using H
    ·simp only[List.filter_cons,f,if_true];simpa using q
def ap7(h:pA V ph)(a:∀v,ρ (ρ v)=ρ v)(t:∀z u,jP ph ρ z u->r u<r z)(e:∀v∈V,ρ v∈V):∀(bk:List Int) (c:bH),(∀v∈bk,v∈V)->sA V ph ρ r c->∃N l,∀n,N<=n->zY n bk c=some (bk.map fun v=>⟨v,hS ph ρ r v⟩,l):=by
 intro bk;induction bk with
 |nil=>intro c _ _;exact⟨0,c,fun n _=>rfl⟩
 |cons v bk o=>intro c d hw;have b:=d v Ψ;obtain⟨q,x,m⟩:=u3 hw.fin.ru (by rw[hw.fin.keys];exact b:v∈cF c.up);obtain⟨g,k,s,j⟩:=asb h a t (r (ρ v)+1) (ρ v) q Ω (a v) (e v b) (hw.sm m);obtain⟨f,i,p⟩:=o k (fun w hw=>d w (by simp[hw])) j;refine⟨max g f,i,fun n y=>?_⟩;simp only[zY,x,lX,s n Ω,p n Ω,pn,hc];rw[<-AY a]
end
end
section
open Go
def bH.new:bH:=⟨[],[],[],[],[],[]⟩
def sj(l:List Int):List Int:=l.mergeSort fun x y=>decide (x<=y)
def Cv(n:Nat)(E:List (T×T)):bc (bc (List Bd)):=(qX n E bH.new).bind fun p=>if p.1=false then some none else Fp n (sj (cF p.2.up)) p.2
def Ft(l:List Int):(sj l).Perm l:=List.mergeSort_perm l _
def aql{l:List Int}(h:l.Nodup):(sj l).Pairwise (· < ·):=by have J:(sj l).Pairwise fun x y=>decide (x<=y)=true:=List.pairwise_mergeSort (fun a b c=>by simp;omega) (fun a b=>by simp;omega) l;have U:(sj l).Pairwise (· ≠ ·):=List.nodup_iff_pairwise_ne.1 ((Ft l).nodup_iff.2 h);exact(J.and U).imp fun h=>by simp at h;omega
structure acB (c:bH) (ρ:Int->Int) (cA:bH) (Yk:Int->Prop):Prop where
 inv:mM cA ρ
 ph:cA.ph=c.ph
 nd:(cF cA.up).Nodup
 sub:∀v∈cF c.up,v∈cF cA.up
 occ:∀v,Yk v->v∈cF cA.up
 rest:cA.color=c.color/\cA.size=c.size/\cA.full=c.full
 new:∀v∈cF cA.up,v∈cF c.up\/Yk v
def XJ{ρ:Int->Int}(t:T):∀(c:bH),mM c ρ->(cF c.up).Nodup->(∀v,t.occ v=true->0<=v)->∃n,BN t c=some n/\acB c ρ n fun v=>t.occ v=true:=by
 unfold BN;induction t with
 |var v=>
  intro c hi i j;by_cases d:v∈cF c.up
  ·obtain⟨l,k,f⟩:=u3 hi.ru d;refine⟨l,by simp[T.foldO,k],hi.sm f,f.ph,by rw[f.keys];exact i,fun w hw=>by rw[f.keys];exact hw,fun w hw=>?_,f.rest,fun w hw=>.inl (by rw[f.keys]at hw;exact hw)⟩;simp[T.occ]at hw;subst hw;rw[f.keys];exact d
  ·obtain⟨k,m,g⟩:=apJ hi.ru (j v (by simp[T.occ])) d;refine⟨{c with up:=fy v v c.up},by simp only[T.foldO,k,pn],⟨m,?_,hi.sat⟩,rfl,?_,fun w hw=>by rw[g];simp[hw],fun w hw=>?_,⟨rfl,rfl,rfl⟩,fun w hw=>?_⟩
   ·intro x u z;obtain⟨s,a2,a3⟩:=hi.sh x u z;refine⟨s,fun w hw=>?_,?_⟩
    ·show w∈cF (fy v v c.up);rw[g];simp[a2 w hw]
    ·show x∈cF (fy v v c.up);rw[g];simp[a3]
   ·rw[g];rw[rF];exact⟨i,Ψ,fun a y b o e=>by simp at o;subst o;subst e;exact d y⟩
   ·simp[T.occ]at hw;subst hw;rw[g];simp
   ·rw[g]at hw;simp at hw;rcases hw with hw|rfl;exact .inl hw;exact .inr (by simp[T.occ])
 |pair a b q p=>
  intro c hi i j;obtain⟨l,k,m1⟩:=q c hi i fun v d=>j v (by simp[T.occ,d]);obtain⟨r,m,m2⟩:=p l m1.inv m1.nd fun v d=>j v (by simp[T.occ,d]);refine⟨r,by simp only[T.foldO,k,lX,m],m2.inv,m2.ph.trans m1.ph,m2.nd,fun v d=>m2.sub v (m1.sub v d),fun v d=>?_,?_,fun v d=>?_⟩
  ·simp only[T.occ,n2]at d;rcases d with d|d
   ·exact m2.sub v (m1.occ v d)
   ·exact m2.occ v d
  ·rw[m2.rest.1,m2.rest.2.1,m2.rest.2.2];exact m1.rest
  ·rcases m2.new v d with h|h
   ·rcases m1.new v h with h|h
    ·exact .inl h
    ·exact .inr (by simp[T.occ,h])
   ·exact .inr (by simp[T.occ,h])
 |_=>intro c hi i j;exact⟨c,rfl,hi,rfl,i,fun v d=>d,fun v d=>by simp[T.occ]at d,⟨rfl,rfl,rfl⟩,fun v d=>.inl d⟩
def Od(E:List (T×T)):Prop:= ∀e∈E,∀v,(e.1.occ v=true\/e.2.occ v=true)->0<=v
def De:∀(E:List (T×T)) (c:bH) (ρ:Int->Int),mM c ρ->(cF c.up).Nodup->Od E->∃N o,(∀n,N<=n->qX n E c=some o)/\((o.2.color=c.color/\o.2.size=c.size/\o.2.full=c.full)/\∀v∈cF o.2.up,v∈cF c.up\/ ∃e∈E,e.1.occ v=true\/e.2.occ v=true)/\(o.1=true->∃ρ',mM o.2 ρ'/\(cF o.2.up).Nodup/\∀a,kI o.2.ph ρ' a↔kI c.ph ρ a/\kd E a)/\(o.1=false->∀a,kI c.ph ρ a->¬kd E a):=by
 intro E;induction E with
 |nil=>intro c ρ hi g _;exact⟨0,(true,c),fun n _=>rfl,⟨⟨rfl,rfl,rfl⟩,fun v b=>.inl b⟩,fun _=>⟨ρ,hi,g,fun a=>⟨fun h=>⟨h,Fs a⟩,fun h=>h.1⟩⟩,fun e=>by cases e⟩
 |cons e E Q=>
  intro c ρ hi g m;obtain⟨R,B,m1⟩:=XJ e.1 c hi g fun v b=>m e Ψ v (.inl b);obtain⟨x,A,m2⟩:=XJ e.2 R m1.inv m1.nd fun v b=>m e Ψ v (.inr b);obtain⟨K,F⟩:=m2.inv.sat
  obtain⟨t,i,z,d⟩:=aev _ _ x ρ e.1 e.2 K m2.inv F (fun w hw=>m2.sub w (m1.occ w hw)) (fun w hw=>m2.occ w hw) rfl rfl;have k:x.ph=c.ph:=m2.ph.trans m1.ph;have s:i.2.color=c.color/\i.2.size=c.size/\i.2.full=c.full:=by rw[d.rest.1,d.rest.2.1,d.rest.2.2,m2.rest.1,m2.rest.2.1,m2.rest.2.2];exact m1.rest
  have r:∀v∈cF i.2.up,v∈cF c.up\/e.1.occ v=true\/e.2.occ v=true:=fun v b=>by
   rw[d.keys]at b;rcases m2.new v b with h|h
   ·rcases m1.new v h with h|h
    ·exact .inl h
    ·exact .inr (.inl h)
   ·exact .inr (.inr h)
  obtain⟨f,u⟩:=i;cases f with
  |false=>refine⟨t,(false,u),fun n g=>?_,⟨s,fun v b=>(r v b).imp id fun h=>⟨e,Ψ,h⟩⟩,(fun e=>by cases e),fun _ a p he=>d.no rfl a (by rw[k];exact p) (sg.1 he).1⟩;simp only[qX,B,A,lX,z n g,hN,if_false]
  |true=>
   obtain⟨G,y,a2,_⟩:=d.yes rfl;simp only at y a2;obtain⟨M,L,P,j,O,H⟩:=Q u G y (by have:=d.keys;simp only at this;rw[this];exact m2.nd) fun l he=>m l (by simp[he]);refine⟨max t M,L,fun n g=>?_,?_,fun q=>?_,fun q a p he=>?_⟩
   ·simp only[qX,B,A,lX,z n Ω,if_true];exact P n Ω
   ·refine⟨by rw[j.1.1,j.1.2.1,j.1.2.2];exact s,fun v b=>?_⟩;rcases j.2 v b with h|⟨l,J,U⟩
    ·exact(r v h).imp id fun h=>⟨e,Ψ,h⟩
    ·exact .inr ⟨l,by simp[J],U⟩
   ·obtain⟨ρ2,d1,d2,d3⟩:=O q;exact⟨ρ2,d1,d2,fun a=>by rw[d3 a,a2 a,k,sg,and_assoc]⟩
   ·exact H q a ((a2 a).2 ⟨by rw[k];exact p,(sg.1 he).1⟩) (sg.1 he).2
def F8{ph:Int->bc T}{ρ:Int->Int}{v:Int}:oU ph ρ v=false↔ρ v=v/\ph v=none:=by simp[oU]
def Vd{ph:Int->bc T}{ρ:Int->Int}{r:Int->Nat}(a:∀v,ρ (ρ v)=ρ v):∀(n:Nat) (v w:Int),(oe ph ρ n v).occ w=true->(∀z u,jP ph ρ z u->r u<r z)->r (ρ v)<n->ρ w=w/\ph w=none
 |0,v,w,_,_,h=>Ω
 |n+1,v,w,h,b,c=>by
  simp only[oe]at h;cases e:ph (ρ v)with
  |none=>rw[e]at h;simp[T.occ]at h;subst h;exact⟨a v,e⟩
  |some t=>rw[e]at h;obtain⟨u,J,U⟩:=EG.1 h;have:=b (ρ v) (ρ u) ⟨a v,t,u,e,J,rfl⟩;exact Vd a n u w U b Ω
section
variable {V:List Int} {ph:Int->bc T} {ρ:Int->Int} {r:Int->Nat}
def u4(ph:Int->bc T)(ρ:Int->Int)(r:Int->Nat)(V:List Int):List Bd:=((sj V).filter (oU ph ρ)).map fun v=>⟨v,hS ph ρ r v⟩
def PD(a:V.Nodup):jw (u4 ph ρ r V):=by unfold u4;rw[jw,List.pairwise_map];exact((aql a).filter _)
def aaL(i:V.Nodup)(c:pA V ph)(d:∀v,v∉V->ρ v=v)(v:Int):dD (u4 ph ρ r V) v=if oU ph ρ v then some (hS ph ρ r v)else none:=by
 by_cases a:oU ph ρ v=true
 ·rw[if_pos a];have g:v∈V:=by
   refine Classical.byContradiction fun h=>?_;have J:=d v h;have U:ph v=none:=by cases e:ph v with
    |none=>rfl
    |some t=>exact absurd (c v t e).2.2 h
   rw[F8.2 ⟨J,U⟩]at a;cases a
  have:(⟨v,hS ph ρ r v⟩:Bd)∈u4 ph ρ r V:=hz.2 ⟨v,oL.2 ⟨(Ft V).mem_iff.2 g,a⟩,rfl⟩;exact wP (PD i) this
 ·rw[if_neg a];refine wQ.2 fun b f e=>?_;obtain⟨u,J,rfl⟩:=hz.1 f;simp only at e;subst e;exact a (oL.1 J).2
def ap9(i:V.Nodup)(d:pA V ph)(j:∀v,v∉V->ρ v=v)(f:∀v,ρ (ρ v)=ρ v)(hle:∀v,ρ v<=v)(g:∀z u,jP ph ρ z u->r u<r z):gz (u4 ph ρ r V):=by
 refine⟨PD i,fun b a w hw=>?_,fun b a w hw=>?_⟩
 ·obtain⟨u,J,rfl⟩:=hz.1 a;rw[aaL i d j];have:=Vd f _ u w hw g Ω;rw[F8.2 this];rfl
 ·obtain⟨u,J,rfl⟩:=hz.1 a;have c:=(oL.1 J).2;simp only at hw⊢;cases e:ph (ρ u)with
  |none=>
   rw[Dv e]at hw;cases hw;have U:=hle u;have k:ρ u≠u:=fun h=>by rw[F8.2 ⟨h,by rw[h]at e;exact e⟩]at c;cases c
   omega
  |some t=>rw[AZ f g e]at hw;have:=(d _ _ e).1;cases t<;>simp[T.ap,T.kind]at hw this
def aiC(a:∀v,ρ (ρ v)=ρ v)(c:∀z u,jP ph ρ z u->r u<r z)(b:Int->T):kI ph ρ b↔∀v,b v=(hS ph ρ r v).ap b:=by
 constructor
 ·intro h;have:∀(n:Nat) (v:Int),r (ρ v)<n->b v=(hS ph ρ r v).ap b:=by
   intro n;induction n with
   |zero=>intro v h;omega
   |succ n d=>
    intro v i;cases e:ph (ρ v)with
    |none=>rw[Dv e];exact h.1 v
    |some t=>rw[AZ a c e,CV,h.1 v,h.2 _ t (a v) e];refine vu fun w hw=>d w ?_;have:=c (ρ v) (ρ w) ⟨a v,t,w,e,hw,rfl⟩;omega
  exact fun v=>this _ v (Nat.lt_succ_self _)
 ·intro h;refine⟨fun v=>by rw[h v,h (ρ v),<-AY a],fun x t f g=>?_⟩;rw[h x,AZ a c (by rw[f];exact g),CV];exact vu fun w _=>(h w).symm
def ap8(b:V.Nodup)(c:pA V ph)(f:∀v,v∉V->ρ v=v)(d:∀v,ρ (ρ v)=ρ v)(g:∀z u,jP ph ρ z u->r u<r z)(a:Int->T):hQ (u4 ph ρ r V) a↔kI ph ρ a:=by
 rw[aiC d g,aqf (PD b)];refine forall_congr' fun v=>?_;rw[cO,aaL b c f];cases e:oU ph ρ v with
 |true=>simp
 |false=>obtain⟨J,U⟩:=F8.1 e;rw[Dv (by rw[J];exact U),J];simp
end
def aqg(E:List (T×T))(Y:Od E):∃n o,Cv n E=some o/\jz [] E o/\∀c,qX n E bH.new=some (true,c)->(cF c.up).Nodup/\(∀v∈cF c.up,∃e∈E,e.1.occ v=true\/e.2.occ v=true)/\c.size=[]:=by
 have hi:mM bH.new id:=⟨⟨fun v u h=>by simp[bH.new,dn]at h,fun v _=>rfl⟩,fun x t h=>by simp[bH.new,bH.ph,bH.shd,dn]at h,⟨.var,fun v=>rfl,fun x t _ h=>by simp[bH.new,bH.ph,bH.shd,dn]at h⟩⟩;have F:∀a,kI bH.new.ph id a:=fun a=>⟨fun v=>rfl,fun x t _ h=>by simp[bH.new,bH.ph,bH.shd,dn]at h⟩;obtain⟨i,S,q,m,X,R⟩:=De E bH.new id hi (by simp[bH.new,cF]) Y;obtain⟨m,M⟩:=m;obtain⟨f,c⟩:=S;cases f with
 |false=>refine⟨i,none,by simp[Cv,q i (dL _)],F3 fun a _ he=>R rfl a (F a) he,fun c h=>?_⟩;rw[q i (dL _)]at h;cases h
 |true=>
  obtain⟨ρ,g,a2,a3⟩:=X rfl;simp only at g a2 a3 m M;have O:∀n,i<=n->∀p,qX n E bH.new=some (true,p)->(cF p.up).Nodup/\(∀v∈cF p.up,∃e∈E,e.1.occ v=true\/e.2.occ v=true)/\p.size=[]:=fun n aB p h=>by rw[q n aB]at h;cases h;exact⟨a2,fun v j=>(M v j).resolve_left (by simp[bH.new,cF]),m.2.1⟩
  obtain⟨r,y⟩:=g.rank;have s:=g.ru.idem;have H:∀v∈cF c.up,ρ v∈cF c.up:=fun v j=>(g.ru.mem j).1;have W:vl (cF c.up) c.ph ρ c:=⟨g.ru,rfl,rfl⟩;have hw:∀d,rN (cF c.up) c.ph ρ r d c:=fun d=>⟨W,fun z _=>.inl (by simp[bH.col,m.1,bH.new,dn])⟩;obtain⟨k,K,o,L,b8,V,P,QZ⟩:=ap6 g.sh s y H (sj (cF c.up)) c [] (fun v j=>(Ft _).mem_iff.1 j) hw Ψ (fun v j=>by simp at j);have dC:=ap9 (r:=r) a2 g.sh g.ru.no s g.ru.le y;have G:∀a,hQ (u4 c.ph ρ r (cF c.up)) a↔hQ [] a/\kd E a:=fun a=>by rw[ap8 a2 g.sh g.ru.no s y,a3 a];exact⟨fun h=>⟨fun b ag=>by simp at ag,h.2⟩,fun h=>⟨F a,h.2⟩⟩
  have N:ir (u4 c.ph ρ r (cF c.up))↔(([]++(sj (cF c.up)).filter (oU c.ph ρ)).length<=400/\∀v∈[]++(sj (cF c.up)).filter (oU c.ph ρ),(hS c.ph ρ r v).size<=5000):=by unfold ir u4;simp only[List.length_map,ca,hz,forall_exists_index,and_imp,forall_apply_eq_imp_iff₂]
  cases o with
  |none=>refine⟨max i k,none,by simp[Cv,q (max i k) Ω,Fp,L (max i k) Ω],?_,O _ Ω⟩;exact fun ak J U ao=>QZ rfl (N.1 (Uu dC J (fun a Q=>(G a).2 (U a Q)) ao))
  |some l=>
   obtain⟨w,aC,Z⟩:=P l rfl;have B:sA (cF c.up) c.ph ρ r K:=⟨b8,fun x t h=>by rw[V,m.2.2]at h;simp[bH.new,dn]at h⟩;simp only[ca]at w;obtain⟨A,dh,d1⟩:=ap7 g.sh s y H l K (fun v j=>by rw[w]at j;exact(Ft _).mem_iff.1 (oL.1 j).1) B;refine⟨max (max i k) A,some (u4 c.ph ρ r (cF c.up)),?_,⟨⟨dC,N.2 ?_⟩,G⟩,O _ Ω⟩
   ·simp only[Cv,q (max (max i k) A) Ω,lX,Bool.true_eq_false,if_false,Fp,L (max (max i k) A) Ω,d1 (max (max i k) A) Ω,pn];rw[w];rfl
   ·rw[ca,<-w];exact⟨aC,Z⟩
def iG(s:List Bd):List (T×T):=s.map fun b=>(.var b.v,b.t)
def aqe{s:List Bd}{a:Int->T}:kd (iG s) a↔hQ s a:=by simp[kd,iG,hQ,T.ap]
def acM{s:List Bd}{E:List (T×T)}{o:bc (List Bd)}:jz [] (iG s++E) o↔jz s E o:=by
 have h:∀a,(hQ [] a/\kd (iG s++E) a)↔(hQ s a/\kd E a):=fun a=>by rw[Fq,aqe];exact⟨fun h=>h.2,fun h=>⟨fun b c=>by simp at c,h⟩⟩
 exact⟨CT h,CT fun a=>(h a).symm⟩
end
section
open Go
open Classical in
noncomputable def mgu(s:List Bd)(E:List (T×T)):bc (List Bd):=if h:∃o,jz s E o then h.choose else none
def tu{s:List Bd}{E:List (T×T)}{o:bc (List Bd)}(h:jz s E o):mgu s E=o:=by have a:∃o,jz s E o:=⟨o,h⟩;unfold mgu;rw[dif_pos a];exact acN a.choose_spec h
def rn(s:List Bd):Prop:= ∀b∈s,(0<=b.v/\b.v<=100000)/\b.t.ok=true
def QS{e:Int->T}{t:T}(c:t.ok=true)(h:∀v,t.occ v=true->(e v).ok=true):(t.ap e).ok=true:=by
 induction t with
 |var n=>exact h n (by simp[T.occ])
 |pair a b g f=>simp only[T.ok,cP]at c;simp only[T.ap,T.ok,cP];exact⟨g c.1 fun v d=>h v (by simp[T.occ,d]),f c.2 fun v d=>h v (by simp[T.occ,d])⟩
 |_=>exact c
def yk{t:T}(c:t.ok=true){v:Int}(h:t.occ v=true):0<=v/\v<=100000:=by
 induction t with
 |var n=>simp[T.occ]at h;subst h;simpa[T.ok]using c
 |pair a b e d=>
  simp only[T.ok,cP]at c;simp only[T.occ,n2]at h;rcases h with h|h
  ·exact e c.1 h
  ·exact d c.2 h
 |_=>simp[T.occ]at h
def Jp{s:List Bd}(b:rn s){t:T}(a:t.ok=true):(t.ap (cO s)).ok=true:=QS a fun v c=>by
 unfold cO;cases e:dD s v with
 |none=>have:=yk a c;simpa[T.ok]using this
 |some x=>exact(b _ (kJ e)).2
def CY{s:List Bd}(a:rn s){v:Int}{t:T}(g:0<=v/\v<=100000)(e:t.ok=true){d:List Bd}(h:oT s v t=some d):rn d:=by
 unfold oT at h;split at h
 ·cases h;intro b f;rcases ri.1 f with rfl|⟨c,aw,rfl⟩
  ·exact⟨g,Jp a e⟩
  ·refine⟨(a c aw).1,QS (a c aw).2 fun w hw=>?_⟩;unfold one;split
   ·exact Jp a e
   ·have:=yk (a c aw).2 hw;simpa[T.ok]using this
 ·cases h
def ab5{s:List Bd}(b:rn s){t:T}(a:t.ok=true):(ie s t).ok=true:=by
 cases t with
 |var n=>have:=Jp b a;simpa[ie,T.ap]using this
 |_=>exact a
def P4:∀(n:Nat) (s:List Bd) (a b:T) (g:List Bd),rn s->a.ok=true->b.ok=true->lx n s a b=some (some g)->rn g
 |0,_,_,_,_,_,_,_,h=>by simp[lx]at h
 |n+1,s,a,b,g,c,m,q,h=>by
  have d:=ab5 c m;have e:=ab5 c q;simp only[lx]at h;generalize ie s a=x at h d;generalize ie s b=y at h e;have f:∀{i:Int},(T.var i).ok=true->0<=i/\i<=100000:=fun h=>yk h (by simp[T.occ]);cases x with
  |var i=>
   cases y with
   |var j=>
    simp only[kG,dS]at h;split at h
    ·exact CY c (f e) d h
    ·split at h
     ·cases h;exact c
     ·exact CY c (f d) e h
   |_=>simp only[kG,dS]at h;exact CY c (f d) e h
  |pair l a2=>
   cases y with
   |var j=>simp only[kG,dS]at h;exact CY c (f e) d h
   |pair k o=>
    simp only[T.ok,cP]at d e;simp only[kG]at h;split at h
    ·cases h
    ·cases h
    ·rename_i s1 p;exact P4 n s1 a2 o g (P4 n s l k s1 c d.1 e.1 p) d.2 e.2 h
   |_=>simp[kG]at h
  |_=>
   cases y with
   |var j=>simp only[kG,dS]at h;exact CY c (f e) d h
   |_=>
    simp only[kG,dS]at h;split at h
    ·cases h;exact c
    ·cases h
def oI:T->List Int
 | .var n=>[n]
 | .pair a b=>oI a++oI b
 |_=>[]
def zz{t:T}{v:Int}(h:t.occ v=true):v∈oI t:=by
 induction t with
 |var n=>simp[T.occ]at h;subst h;simp[oI]
 |pair a b d c=>simp only[T.occ,n2]at h;simp only[oI,j2];exact h.imp d c
 |_=>simp[T.occ]at h
def JG{s:List Bd}(d:gz s)(e:ir s)(a b:T):∃n o,lx n s a b=some o/\jz s [(a,b)] o:=by obtain⟨n,o,J,U⟩:=aby (s.flatMap (fun b=>b.v::oI b.t)++oI a++oI b) _ _ s a b d e (fun c aw=>⟨by simp only[j2,List.mem_flatMap];exact .inl (.inl ⟨c,aw,Ψ⟩),fun w hw=>by simp only[j2,List.mem_flatMap];exact .inl (.inl ⟨c,aw,by simp[zz hw]⟩)⟩) (fun w hw=>by simp[zz hw]) (fun w hw=>by simp[zz hw]) rfl rfl;exact⟨n,o,J,U.1⟩
def QH{s:List Bd}{e:T×T}{E:List (T×T)}{s1:List Bd}(h:jz s [e] (some s1)){o:bc (List Bd)}(U:jz s1 E o):jz s (e::E) o:=QG (E:=[e]) h U
def Ii{s:List Bd}(b:gz s)(c:ir s)(E:List (T×T)):jz s E (mgu s E):=by
 induction E generalizing s with
 |nil=>rw[tu (Kb b c)];exact Kb b c
 |cons e E d=>
  obtain⟨n,o,_,U⟩:=JG b c e.1 e.2;cases o with
  |none=>have a:jz s (e::E) none:=Ka E U;rw[tu a];exact a
  |some s1=>have a:=QH U (d U.1.1 U.1.2);rw[tu a];exact a
def NW{s:List Bd}(a:gz s)(b:ir s):mgu s []=some s:=tu (Kb a b)
def NV{s:List Bd}(b:gz s)(c:ir s)(e:T×T)(E:List (T×T)):mgu s (e::E)=match mgu s [e]with|some s1=>mgu s1 E|none=>none:=by
 have J:=Ii b c [e];cases h:mgu s [e]with
 |none=>rw[h]at J;have a:jz s (e::E) none:=Ka E J;exact tu a
 |some s1=>rw[h]at J;exact tu (QH J (Ii J.1.1 J.1.2 E))
def BO{s:List Bd}(b:gz s)(c:ir s){E:List (T×T)}{a:List Bd}(h:mgu s E=some a):gz a/\ir a:=by have J:=Ii b c E;rw[h]at J;exact J.1
def alM{s:List Bd}(c:gz s)(d:ir s)(ar:rn s){E:List (T×T)}(a:∀e∈E,e.1.ok=true/\e.2.ok=true){f:List Bd}(h:mgu s E=some f):rn f:=by
 induction E generalizing s with
 |nil=>rw[NW c d]at h;cases h;exact ar
 |cons e E j=>
  rw[NV c d]at h;split at h
  ·rename_i s1 J;obtain⟨n,o,U,b⟩:=JG c d e.1 e.2;have g:=tu b;rw[J]at g;subst g;exact j b.1.1 b.1.2 (P4 n s e.1 e.2 s1 ar (a e Ψ).1 (a e Ψ).2 U) (fun i he=>a i (by simp[he])) h
  ·cases h
def WY{l:List Int}(j:l.Nodup)(h:∀v∈l,0<=v/\v<=100000):l.length<=100001:=by
 have J:(l.map Int.toNat).Nodup:=by rw[List.nodup_iff_pairwise_ne,List.pairwise_map];exact asv (fun{a b} d f c e=>c (by have:=h a d;have:=h b f;omega)) j
 have:=Qu J (l₂:=List.range 100001) (fun x g=>by obtain⟨v,i,rfl⟩:=hz.1 g;have:=h v i;simp;omega)
 simpa using this
end
end Go.Pv
