/- The symmetric merge, plainly; its contract; the stable sort's. -/
import Derived.Deep.LoopGhost
import Derived.Test.YtahlgcidhnjlbaaGreatProg
import Derived.Shelf.Sort.Plain
import Derived.Ground.NamesProg
import Derived.Sort.OwnSortedInts
import Derived.Lib.OwnBridge
import Derived.Sort.AssemblyPlain
import Derived.Sort.LotD5
import Derived.Test.YtahlgcidhnjlbaaGreatP1
set_option linter.all false
set_option maxHeartbeats 4000000
set_option maxRecDepth 4000
open Array renaming getElem?_toList->nV
open Bool renaming and_eq_true->bN,false_eq_true->hX
open Decidable renaming not_not->XU
open Go renaming Program->bp,TypeId->ey
open Go.IntKind renaming i64->nW
open Go.Op renaming bytesLess->fX
open Go.Proofs.Tryz renaming prog->aG
open Go.Region renaming wanted->kr
open Go.Result renaming andThen_ok->dV
open Go.Sem renaming run_bind->dQ,run_pure->eP
open Go.Value renaming cells->jV
open List renaming drop_eq_getElem_cons->l9,getElem?_append_left->ks,getElem?_eq_getElem->cl,getElem?_eq_some_iff->eQ,length_append->kt,length_cons->jX,map_cons->gG,mem_append->lF,mem_cons->gw,mem_map->k9,nodup_append->ma,take_of_length_le->lG
open List.Nodup renaming length_le_of_subset->X2
open List.Pairwise renaming nil->ym
open List.Perm renaming eq_of_pairwise->JX
open List.cons renaming injEq->JY
open Nat renaming le_refl->di,le_trans->jB
open Option renaming isSome_iff_exists->dt,map_eq_some_iff->ih
open Option.some renaming inj->jg,injEq->dq
open Prod.mk renaming injEq->ho
open _root_ renaming False->c1,Option->aT,UInt8->cF,beq_iff_eq->c2,congrArg->eR,decide_eq_true_eq->e3,if_neg->bH
namespace Go.Pv
section
open Go Go.RowKit
def QT(A:cj)(s a:b1)(rm:aT ar):Prop:=(∀k,(ab k a.b).isSome->(ab k s.b).isSome\/rm=some k)/\(∀k,(ab k a.e).isSome->(ab k s.e).isSome\/rm=some k)/\(∀k,(ab k s.b).isSome->(ab k a.b).isSome)/\(∀k,(ab k s.e).isSome->(ab k a.e).isSome)/\
 (∀k,rm=some k->(∃j,k= .obj j)/\A.F k/\A.b k=none/\A.e k=none/\((ab k a.b).isSome\/(ab k a.e).isSome))
def J3(P:bp)(n:Nat)(args:List aa)(A:cj)(d:aT Nat)(x:hp):Prop:=
 ∃s a r rm,(∀k cs,ab k s.b=some cs->A.b k=some cs/\aV (a7 s) cs)/\(∀k o,ab k s.e=some o->A.e k=some o/\hh (a7 s) o)/\e7 s/\e7 a/\QT A s a rm/\aV (a7 s) args/\
  cf P n args s (fun b t'=>b=r/\t'=a)/\x=⟨d,r,a.b,a.e,rm⟩
def J4(P:bp)(n0 n:Nat)(args:List aa)(A:cj)(d:aT Nat)(x:hp):Prop:=
 ∃cG r,d=some cG/\(A.F (.loc (n0+cG))/\A.b (.loc (n0+cG))=none/\A.e (.loc (n0+cG))=none)/\aV (fun _=>c1) args/\
  na P n (n0+cG) args ⟨[],[]⟩ (fun a t'=>a=r/\t'=⟨[],[]⟩)/\x=⟨d,r,[],[],some (.loc (n0+cG))⟩
def qH:aa->Bool
 | .ptr (.loc _) _=>true
 | .eptr _=>true
 |_=>false
def ee.isB:ee->Bool
 | .loadB _ _ _=>true
 | .mgetB _ _ _ _ _=>true
 |_=>false
def ee.ptrOf(t:Nat->aa):ee->aa
 | .load _ _ x=>cy t x
 | .loadB _ _ x=>cy t x
 |_=>.junk
def da(P:bp)(q:Bool)(n0:Nat):c6->cj->hp->Prop
 | .s (.v d i),A,x=> ∃c p,k6 A.t A.b A.e i=some (c,p)/\c/\(i.isLoad=true->i.isB=true\/q=true\/qH (i.ptrOf A.t)=true)/\x=⟨some d,p,[],[],none⟩
 | .s (.box d none v),A,x=>(A.F (.loc (n0+d))/\A.b (.loc (n0+d))=none/\A.e (.loc (n0+d))=none)/\dd (cy A.t v)=true/\x=⟨some d,.ptr (.loc (n0+d)) 0,[(.loc (n0+d),cells (cy A.t v))],[],some (.loc (n0+d))⟩
 | .s (.alloc d none z),A,x=>(A.F (.loc (n0+d))/\A.b (.loc (n0+d))=none/\A.e (.loc (n0+d))=none)/\x=⟨some d,.ptr (.loc (n0+d)) 0,[(.loc (n0+d),cells z)],[],some (.loc (n0+d))⟩
 | .s (.store sz u v),A,x=> ∃k off cs,cy A.t u= .ptr k off/\A.b k=some cs/\(et cs=true/\dd (cy A.t v)=true/\(cells (cy A.t v)).length=sz/\off+sz<=cs.length)/\x=⟨none,.junk,[(k,jR cs off (cells (cy A.t v)))],[],none⟩
 | .s (.bsl d sz el xs),A,x=>(A.F (.loc (n0+d))/\A.b (.loc (n0+d))=none/\A.e (.loc (n0+d))=none)/\nh sz (xs.map (cy A.t))/\x=⟨some d,.slice sz (.own (.loc (n0+d))) (xs.map (cy A.t)),[],[(.loc (n0+d),⟨xs.length,el,sz,none⟩)],some (.loc (n0+d))⟩
 | .s (.app d sz el u v),A,x=> ∃tag xs a ys,cy A.t u= .slice sz tag xs/\cy A.t v= .slice sz a ys/\
   ((∃k o,tag= .own k/\A.e k=some o/\(o.xs=none/\o.n=xs.length/\o.el=el/\o.sz=sz/\xs.length+ys.length<=cH)/\x=⟨some d,.slice sz (.own k) (xs++ys),[],[(k,⟨xs.length+ys.length,el,sz,none⟩)],none⟩)\/
    (tag= .nil/\ys.length<=cH/\(A.F (.loc (n0+d))/\A.b (.loc (n0+d))=none/\A.e (.loc (n0+d))=none)/\x=⟨some d,.slice sz (.own (.loc (n0+d))) ys,[],[(.loc (n0+d),⟨ys.length,el,sz,none⟩)],some (.loc (n0+d))⟩))
 | .s (.appm d _ sz el u v),A,x=> ∃k n xs a ys,cy A.t u= .row sz k n/\cy A.t v= .slice sz a ys/\A.e k=some ⟨n,el,sz,some xs⟩/\xs.length+ys.length<=cH/\x=⟨some d,.row sz k (xs.length+ys.length),[],[(k,⟨xs.length+ys.length,el,sz,some (xs++ys)⟩)],none⟩
 | .s (.storeE sz u v),A,x=> ∃k n i f el b xs q,cy A.t u= .rptr b k n i f/\A.e k=some ⟨n,el,b,some xs⟩/\xs[i]? =some q/\(dd q=true/\dd (cy A.t v)=true/\(cells (cy A.t v)).length=sz/\f+sz<=(cells q).length/\0<sz)/\x=⟨none,.junk,[],[(k,⟨n,el,b,some (xs.set i (kZ q f (cells (cy A.t v))))⟩)],none⟩
 | .s (.mkmap d (some m)),A,x=>(A.F (.obj m)/\A.b (.obj m)=none/\A.e (.obj m)=none)/\x=⟨some d,.gmap (.obj m),[(.obj m,[.hdm 0 []])],[],some (.obj m)⟩
 | .s (.mput e u k v),A,x=> ∃m cs cs',cy A.t u= .gmap m/\A.b m=some cs/\pR e (cy A.t k) (cy A.t v) cs=some cs'/\x=⟨none,.junk,[(m,cs')],[],none⟩
 | .call d f xs,A,x=> ∃n cx,cy A.t f= .func n cx/\((J3 P n (bt (xs.map (cy A.t)++cx)) A d x/\(q=true->x.bw=[]/\x.ew=[]))\/J4 P n0 n (bt (xs.map (cy A.t)++cx)) A d x)
 |_,_,_=>c1
inductive sX where
 |v|l|n|s|w|a|c|m|r|k
 deriving DecidableEq
def c6.mode:c6->sX
 | .s (.v _ (.loadB _ _ _))=>.m
 | .s (.v _ (.mgetB _ _ _ _ _))=>.m
 | .s (.v _ i)=>if i.isLoad then .l else .v
 | .s (.storeE _ _ _)=>.r
 | .s (.box _ _ _)=>.n
 | .s (.alloc _ _ _)=>.n
 | .s (.store _ _ _)=>.w
 | .s (.bsl _ _ _ _)=>.s
 | .s (.app _ _ _ _ _)=>.a
 | .s (.bslm _ _ _ _ _)=>.w
 | .s (.mks _ _ _ _ _ _)=>.w
 | .s (.appm _ _ _ _ _ _)=>.r
 | .s (.mkmap _ _)=>.k
 | .s (.mput _ _ _ _)=>.w
 | .s (.range _ _ _)=>.w
 | .call _ _ _=>.c
 | .next _ _=>.w
structure yA (q:Bool) (n0:Nat) (m:sX) (dst:aT Nat) (A:cj) (x:hp):Prop where
 d:x.d=dst
 b:∀k,(ab k x.bw).isSome->(m= .n/\∃d,dst=some d/\k= .loc (n0+d)/\A.b k=none/\A.e k=none)\/m= .w\/(m= .c/\(∃j,k= .obj j)/\q=false)\/(m= .k/\(∃j,k= .obj j)/\A.b k=none/\A.e k=none)
 e:∀k,(ab k x.ew).isSome->(m= .s/\∃d,dst=some d/\k= .loc (n0+d)/\A.b k=none/\A.e k=none)\/(m= .a/\(A.e k≠none\/ ∃d,dst=some d/\k= .loc (n0+d)/\A.b k=none/\A.e k=none))\/(m= .c/\(∃j,k= .obj j)/\q=false)\/(m= .r/\∃o,A.e k=some o/\o.xs≠none)
 r:∀k,x.rm=some k->(∃d,dst=some d/\k= .loc (n0+d))\/((m= .c\/m= .k)/\(∃j,k= .obj j)/\((ab k x.bw).isSome\/(ab k x.ew).isSome))
 ex:m= .a->∀k o,(ab k x.ew).isSome->A.e k=some o->o.xs=none
 xn:m= .a\/m= .s->∀k o,ab k x.ew=some o->o.xs=none
def nG{α:Type}{k aQ:ar}{x:α}(h:(ab k [(aQ,x)]).isSome):k=aQ:=by
 simp only[ab]at h;split at h
 ·rename_i e;exact e.symm
 ·cases h
def AX{k aQ:ar}{n el sz:Nat}{o:cw}(h:ab k [(aQ,(⟨n,el,sz,none⟩:cw))]=some o):o.xs=none:=by
 simp only[ab]at h;split at h
 ·cases h;rfl
 ·cases h
def Jn{P:bp}{q:Bool}{n0:Nat}{i:c6}{A:cj}{x:hp}(h:da P q n0 i A x):yA q n0 i.mode i.dst A x:=by
 cases i with
 |s i=>
  cases i with
  |v d i=>simp only[da]at h;obtain⟨c,p,_,_,_,rfl⟩:=h;exact⟨rfl,fun k U=>by simp[ab]at U,fun k U=>by simp[ab]at U,fun k U=>by simp at U,fun _ k o U=>by simp[ab]at U,fun _ k o U=>by simp[ab]at U⟩
  |box d key v=>
   cases key with
   |some m=>simp only[da]at h
   |none=>simp only[da]at h;obtain⟨⟨_,J,a⟩,_,rfl⟩:=h;exact⟨rfl,fun k U=>by obtain rfl:=nG U;exact .inl ⟨rfl,d,rfl,rfl,J,a⟩,fun k U=>by simp[ab]at U,fun k U=>by simp at U;exact .inl ⟨d,rfl,U.symm⟩,fun _ k o U=>by simp[ab]at U,fun _ k o U=>by simp[ab]at U⟩
  |alloc d key z=>
   cases key with
   |some m=>simp only[da]at h
   |none=>simp only[da]at h;obtain⟨⟨_,J,a⟩,rfl⟩:=h;exact⟨rfl,fun k U=>by obtain rfl:=nG U;exact .inl ⟨rfl,d,rfl,rfl,J,a⟩,fun k U=>by simp[ab]at U,fun k U=>by simp at U;exact .inl ⟨d,rfl,U.symm⟩,fun _ k o U=>by simp[ab]at U,fun _ k o U=>by simp[ab]at U⟩
  |store sz u v=>simp only[da]at h;obtain⟨k,off,cs,_,_,_,rfl⟩:=h;exact⟨rfl,fun k U=>.inr (.inl rfl),fun k U=>by simp[ab]at U,fun k U=>by simp at U,fun _ k o U=>by simp[ab]at U,fun _ k o U=>by simp[ab]at U⟩
  |bsl d sz el xs=>simp only[da]at h;obtain⟨⟨_,J,a⟩,_,rfl⟩:=h;exact⟨rfl,fun k U=>by simp[ab]at U,fun k U=>by obtain rfl:=nG U;exact .inl ⟨rfl,d,rfl,rfl,J,a⟩,fun k U=>by simp at U;exact .inl ⟨d,rfl,U.symm⟩,fun e=>by simp[c6.mode]at e,fun _ k o U=>AX U⟩
  |app d sz el u v=>
   simp only[da]at h;obtain⟨tag,xs,l,ys,_,_,h⟩:=h;rcases h with⟨k,o,_,I,⟨j,_⟩,rfl⟩|⟨_,_,⟨_,J,a⟩,rfl⟩
   ·exact⟨rfl,fun k U=>by simp[ab]at U,fun k U=>by obtain rfl:=nG U;exact .inr (.inl ⟨rfl,.inl (by rw[I];simp)⟩),fun k U=>by simp at U,fun _ aQ o' U ag=>by obtain rfl:=nG U;rw[I]at ag;cases ag;exact j,fun _ k o U=>AX U⟩
   ·exact⟨rfl,fun k U=>by simp[ab]at U,fun k U=>by obtain rfl:=nG U;exact .inr (.inl ⟨rfl,.inr ⟨d,rfl,rfl,J,a⟩⟩),fun k U=>by simp at U;exact .inl ⟨d,rfl,U.symm⟩,fun _ aQ o' U ag=>(by obtain rfl:=nG U;rw[a]at ag;cases ag),fun _ k o U=>AX U⟩
  |bslm d key sz el xs=>simp only[da]at h
  |mks d key sz el z x=>simp only[da]at h
  |appm d key sz el u v=>simp only[da]at h;obtain⟨k,n,xs,l,ys,_,_,I,_,rfl⟩:=h;exact⟨rfl,fun k U=>by simp[ab]at U,fun k U=>by obtain rfl:=nG U;exact .inr (.inr (.inr ⟨rfl,_,I,Ψ⟩)),fun k U=>by simp at U,fun e=>by simp[c6.mode]at e,fun e=>by simp[c6.mode]at e⟩
  |storeE sz u v=>simp only[da]at h;obtain⟨k,n,i,f,el,t,xs,q,_,I,_,_,rfl⟩:=h;exact⟨rfl,fun k U=>by simp[ab]at U,fun k U=>by obtain rfl:=nG U;exact .inr (.inr (.inr ⟨rfl,_,I,Ψ⟩)),fun k U=>by simp at U,fun e=>by simp[c6.mode]at e,fun e=>by simp[c6.mode]at e⟩
  |mkmap d key=>
   cases key with
   |none=>simp only[da]at h
   |some m=>simp only[da]at h;obtain⟨⟨_,J,a⟩,rfl⟩:=h;exact⟨rfl,fun k U=>by obtain rfl:=nG U;exact .inr (.inr (.inr ⟨rfl,⟨m,rfl⟩,J,a⟩)),fun k U=>by simp[ab]at U,fun k U=>by simp at U;subst U;exact .inr ⟨.inr rfl,⟨m,rfl⟩,.inl (by simp[ab])⟩,fun e=>by simp[c6.mode]at e,fun e=>by simp[c6.mode]at e⟩
  |mput w x k v=>simp only[da]at h;obtain⟨m,cs,cs',_,_,_,rfl⟩:=h;exact⟨rfl,fun k U=>.inr (.inl rfl),fun k U=>by simp[ab]at U,fun k U=>by simp at U,fun e=>by simp[c6.mode]at e,fun e=>by simp[c6.mode]at e⟩
  |range d key x=>simp only[da]at h
 |next d x=>simp only[da]at h
 |call d f xs=>
  simp only[da]at h;obtain⟨n,cx,_,h⟩:=h;rcases h with⟨⟨s,y,r,rm,_,_,_,ag,g,_,_,rfl⟩,b⟩|⟨cG,r,rfl,_,_,_,rfl⟩;rotate_left
  ·exact⟨rfl,fun k U=>by simp[ab]at U,fun k U=>by simp[ab]at U,fun k U=>by simp at U;exact .inl ⟨cG,rfl,U.symm⟩,fun _ k o U=>by simp[ab]at U,fun _ k o U=>by simp[ab]at U⟩
  refine⟨rfl,fun k U=>.inr (.inr (.inl ⟨rfl,?_,?_⟩)),fun k U=>.inr (.inr (.inl ⟨rfl,?_,?_⟩)),fun k U=>.inr ⟨.inl rfl,(g.2.2.2.2 k U).1,(g.2.2.2.2 k U).2.2.2.2⟩,fun e=>by simp[c6.mode]at e,fun e=>by simp[c6.mode]at e⟩
  ·cases k with
   |loc m=>rw[ag.1 m]at U;cases U
   |obj m=>exact⟨m,rfl⟩
  ·cases q with
   |false=>rfl
   |true=>rw[(b rfl).1]at U;simp[ab]at U
  ·cases k with
   |loc m=>rw[ag.2 m]at U;cases U
   |obj m=>exact⟨m,rfl⟩
  ·cases q with
   |false=>rfl
   |true=>rw[(b rfl).2]at U;simp[ab]at U
def CH{P:bp}{q:Bool}{n0:Nat}{i:c6}{A b:cj}{x:hp}(h:da P q n0 i A x)(a:lK i.looks A.t b.t)
  (ao:i.mode= .l->∀k,(q=true\/ ∃m,k= .loc m)->A.b k≠none->b.b k=A.b k) (FM:i.mode= .m->∀k,A.b k≠none->b.b k=A.b k)
  (rX:i.mode= .l->q=true->∀k o,A.e k=some o->o.xs≠none->b.e k=some o)
  (G:∀d,i.dst=some d->(i.mode= .n\/i.mode= .s\/i.mode= .a\/i.mode= .c)->(A.F (.loc (n0+d))/\A.b (.loc (n0+d))=none/\A.e (.loc (n0+d))=none)->(b.F (.loc (n0+d))/\b.b (.loc (n0+d))=none/\b.e (.loc (n0+d))=none))
  (cn:i.mode= .a->∀k o,A.e k=some o->b.e k=some o) (hw:i.mode= .w->∀k,b.b k=A.b k) (PI:i.mode= .k->∀m,(A.F (.obj m)/\A.b (.obj m)=none/\A.e (.obj m)=none)->(b.F (.obj m)/\b.b (.obj m)=none/\b.e (.obj m)=none)) (Y:i.mode= .r->∀k o,A.e k=some o->o.xs≠none->b.e k=some o)
  (aA:i.mode= .c->∀m,b.b (.obj m)=A.b (.obj m)/\b.e (.obj m)=A.e (.obj m)/\(A.F (.obj m)->b.F (.obj m))):da P q n0 i b x:=by
 cases i with
 |s i=>
  cases i with
  |v d i=>
   simp only[da]at h⊢;obtain⟨c,p,I,J,l,B⟩:=h;by_cases K:∃agg sz y,i= .loadB agg sz y
   ·obtain⟨agg,sz,y,rfl⟩:=K;simp only[c6.looks,c9.looks,ee.looks]at a;have L:=eF a;refine⟨c,p,?_,J,fun _=>.inl rfl,B⟩;rw[<-I];simp only[k6,<-L];have hm:=FM (by simp[c6.mode]);simp only[k6]at I;cases w:cy A.t y<;>simp only[mG];rename_i key off;rw[w]at I;simp only[mG]at I;cases t:A.b key with
    |none=>simp[t]at I
    |some cs=>have:b.b key=A.b key:=hm key (by rw[t];simp);rw[this,t]
   by_cases H:∃M zero ok y z,i= .mgetB M zero ok y z
   ·obtain⟨M,zero,ok,y,z,rfl⟩:=H;simp only[c6.looks,c9.looks,ee.looks]at a;obtain⟨t1,t2⟩:=gX a;refine⟨c,p,?_,J,fun _=>.inl rfl,B⟩;simp only[k6]at I⊢;rw[<-eF t1,<-eF t2];exact He (FM (by simp[c6.mode])) I
   replace l:i.isLoad=true->q=true\/qH (i.ptrOf A.t)=true:=fun g=>(l g).resolve_left (fun t=>by cases i<;>simp[ee.isB]at t;exact K ⟨_,_,_,rfl⟩;exact H ⟨_,_,_,_,_,rfl⟩);have OZ:i.isLoad=true->(c6.s (.v d i)).mode= .l:=by intro g;cases i<;>simp only[ee.isLoad]at g<;>first|(cases g;done)|(simp[c6.mode,ee.isLoad];done)|exact absurd ⟨_,_,_,rfl⟩ K|exact absurd ⟨_,_,_,_,_,rfl⟩ H
   by_cases g:i.isLoad=true
   ·have S:∀(w:qH (i.ptrOf A.t)=false),∀k,A.b k≠none->b.b k=A.b k:=fun w k U=>ao (OZ g) k (.inl ((l g).resolve_right (by rw[w];simp))) U;cases i<;>simp only[ee.isLoad]at g<;>try(cases g;done)
    case mget M zero ok y z=>simp only[c6.looks,c9.looks,ee.looks]at a;obtain⟨t1,t2⟩:=gX a;refine⟨c,p,?_,J,fun _=>.inr (l rfl),B⟩;simp only[k6]at I⊢;rw[<-eF t1,<-eF t2];exact He (S rfl) I
    case ment y=>simp only[c6.looks,c9.looks,ee.looks]at a;refine⟨c,p,?_,J,fun _=>.inr (l rfl),B⟩;simp only[k6]at I⊢;rw[<-eF a];exact Qx (S rfl) I
    case mlen y=>simp only[c6.looks,c9.looks,ee.looks]at a;refine⟨c,p,?_,J,fun _=>.inr (l rfl),B⟩;simp only[k6]at I⊢;rw[<-eF a];exact QR (S rfl) I
    case loadB agg sz y=>exact absurd ⟨_,_,_,rfl⟩ K
    case mgetB=>exact absurd ⟨_,_,_,_,_,rfl⟩ H
    rename_i agg sz y;simp only[c6.looks,c9.looks,ee.looks]at a;have L:=eF a;refine⟨c,p,?_,J,fun _=>.inr (by have:=l rfl;simpa only[ee.ptrOf,<-L]using this),B⟩;rw[<-I];simp only[k6,<-L];have hm:=ao (by simp[c6.mode,ee.isLoad]);simp only[k6]at I;have E:=l rfl;simp only[ee.ptrOf]at E;cases w:cy A.t y<;>simp only[mG]
    ·rename_i key off;rw[w]at I E;simp only[mG]at I;cases t:A.b key with
     |none=>simp[t]at I
     |some cs=>have:b.b key=A.b key:=hm key (by rcases E with h|h;exact .inl h;cases key;exact .inr ⟨_,rfl⟩;simp[qH]at h) (by rw[t];simp);rw[this,t]
    ·rename_i Z key n i f;rw[w]at I E;simp only[mG]at I;have Ph:q=true:=E.resolve_right (by simp[qH]);unfold q1 at I;split at I
     ·rename_i n' el gh xs he;rw[he,rX (by simp[c6.mode,ee.isLoad]) Ph key _ he Ψ]
     ·cases I
   ·have g:i.isLoad=false:=by simpa using g
    refine⟨c,p,?_,J,(fun e=>by rw[g]at e;cases e),B⟩;rw[<-I];exact(Tb (by simpa only[c6.looks,c9.looks]using a) g).symm
  |box d key v=>
   cases key with
   |some m=>simp only[da]at h
   |none=>simp only[da,c6.looks,c9.looks]at h a⊢;obtain⟨I,J,l⟩:=h;rw[<-eF a];exact⟨G d rfl (.inl rfl) I,J,l⟩
  |alloc d key z=>
   cases key with
   |some m=>simp only[da]at h
   |none=>simp only[da]at h⊢;exact⟨G d rfl (.inl rfl) h.1,h.2⟩
  |store sz u v=>simp only[da,c6.looks,c9.looks]at h a⊢;obtain⟨I,J⟩:=gX a;rw[<-eF I,<-eF J];obtain⟨k,off,cs,g1,g2,g3,g4⟩:=h;exact⟨k,off,cs,g1,by rw[hw rfl];exact g2,g3,g4⟩
  |bsl d sz el xs=>simp only[da,c6.looks,c9.looks]at h a⊢;rw[<-xg a];exact⟨G d rfl (.inr (.inl rfl)) h.1,h.2⟩
  |app d sz el u v=>
   simp only[da,c6.looks,c9.looks]at h a⊢;obtain⟨I,J⟩:=gX a;rw[<-eF I,<-eF J];obtain⟨tag,xs,N,ys,g1,g2,h⟩:=h;refine⟨tag,xs,N,ys,g1,g2,?_⟩;rcases h with⟨k,o,V,X,W⟩|⟨V,X,W,b4⟩
   ·exact .inl ⟨k,o,V,cn rfl k o X,W⟩
   ·exact .inr ⟨V,X,G d rfl (.inr (.inr (.inl rfl))) W,b4⟩
  |bslm d key sz el xs=>simp only[da]at h
  |mks d key sz el z x=>simp only[da]at h
  |appm d key sz el u v=>simp only[da,c6.looks,c9.looks]at h a⊢;obtain⟨I,J⟩:=gX a;rw[<-eF I,<-eF J];obtain⟨k,n,xs,N,ys,g1,g2,g3,g4,g5⟩:=h;exact⟨k,n,xs,N,ys,g1,g2,Y rfl k _ g3 Ψ,g4,g5⟩
  |storeE sz u v=>simp only[da,c6.looks,c9.looks]at h a⊢;obtain⟨I,J⟩:=gX a;rw[<-eF I,<-eF J];obtain⟨k,n,i,f,el,Z,xs,q,g1,g2,g3⟩:=h;exact⟨k,n,i,f,el,Z,xs,q,g1,Y rfl k _ g2 Ψ,g3⟩
  |mkmap d key=>
   cases key with
   |none=>simp only[da]at h
   |some m=>simp only[da]at h⊢;exact⟨PI rfl m h.1,h.2⟩
  |mput M u k v=>simp only[da,c6.looks,c9.looks]at h a⊢;obtain⟨t1,t3⟩:=gX a;obtain⟨t1,t2⟩:=gX t1;obtain⟨m,cs,cs',g1,g2,g3,g4⟩:=h;rw[<-eF t1,<-eF t2,<-eF t3];exact⟨m,cs,cs',g1,by rw[hw rfl];exact g2,g3,g4⟩
  |range d key x=>simp only[da]at h
 |next d x=>simp only[da]at h
 |call d f xs=>
  simp only[da,c6.looks]at h a⊢;obtain⟨I,J⟩:=gX a;rw[<-eF I,<-xg J];obtain⟨n,cx,g1,h⟩:=h;rcases h with⟨⟨s,ak,r,rm,Q,R,O,hJ,F,kD⟩,g3⟩|⟨cG,r,rfl,Q,R⟩;rotate_left
  ·exact⟨n,cx,g1,.inr ⟨cG,r,rfl,G cG rfl (.inr (.inr (.inr rfl))) Q,R⟩⟩
  refine⟨n,cx,g1,.inl ⟨⟨s,ak,r,rm,fun k cs U=>?_,fun k o U=>?_,O,hJ,⟨F.1,F.2.1,F.2.2.1,F.2.2.2.1,fun k U=>?_⟩,kD⟩,g3⟩⟩
  ·cases k with
   |loc m=>rw[O.1 m]at U;cases U
   |obj m=>rw[(aA rfl m).1];exact Q _ _ U
  ·cases k with
   |loc m=>rw[O.2 m]at U;cases U
   |obj m=>rw[(aA rfl m).2.1];exact R _ _ U
  ·obtain⟨⟨j,rfl⟩,d2,d3,d4,d5⟩:=F.2.2.2.2 k U;exact⟨⟨j,rfl⟩,(aA rfl j).2.2 d2,by rw[(aA rfl j).1];exact d3,by rw[(aA rfl j).2.1];exact d4,d5⟩
def hV(d:aT Nat):hp:=⟨d,.tuple [],[],[],none⟩
def hq(P:bp)(q:Bool)(n0:Nat)(g:b9)(A:cj)(x:hp):Prop:=
 match g.g with
 |none=>da P q n0 g.i A x
 |some (s,w)=>match A.t s with
  | .bool b=>(b=w/\da P q n0 g.i A x)\/(b= !w/\x=hV g.i.dst)
  | .tuple []=>x=hV g.i.dst
  |_=>c1
def dA:sX->sX->Bool
 | .v,_=>true
 |_,.v=>true
 | .l,.l| .l,.n| .l,.s| .l,.a| .l,.c=>true
 | .n,.n| .n,.s| .n,.a| .n,.c=>true
 | .s,.l| .s,.n| .s,.s| .s,.c=>true
 | .a,.l| .a,.n| .a,.s=>true
 | .c,.l| .c,.n| .c,.s=>true
 | .l,.m| .m,.l| .m,.m| .m,.n| .m,.s| .m,.a| .s,.m| .a,.m=>true
 | .l,.k| .m,.k| .n,.k| .s,.k=>true
 | .m,.r| .r,.m| .r,.n| .r,.s| .n,.r| .s,.r| .r,.w| .w,.r=>true
 |_,_=>false
def rI(g h:b9):Bool:=(match g.i.dst with|some d=> !(h.looks.contains d)&&h.i.dst !=some d|none=>true)&&(match h.i.dst with|some d=> !(g.looks.contains d)|none=>true)&&dA g.i.mode h.i.mode
def Jo(q:Bool)(n0:Nat)(m:sX)(d:aT Nat)(A:cj):yA q n0 m d A (hV d):=⟨rfl,fun k U=>by simp[hV,ab]at U,fun k U=>by simp[hV,ab]at U,fun k U=>by simp[hV]at U,fun _ k o U=>by simp[hV,ab]at U,fun _ k o U=>by simp[hV,ab]at U⟩
def Cn{P:bp}{q:Bool}{n0:Nat}{g:b9}{A:cj}{x:hp}(h:hq P q n0 g A x):yA q n0 g.i.mode g.i.dst A x:=by
 unfold hq at h;split at h
 ·exact Jn h
 ·split at h
  ·rcases h with⟨_,h⟩|⟨_,rfl⟩
   ·exact Jn h
   ·exact Jo _ _ _ _ _
  ·subst h;exact Jo _ _ _ _ _
  ·exact h.elim
def nl{A:cj}{x:hp}{k:ar}(h:ab k x.bw=none):(A.do x).b k=A.b k:=by simp[cj.do,fJ,h]
def nm{A:cj}{x:hp}{k:ar}(h:ab k x.ew=none):(A.do x).e k=A.e k:=by simp[cj.do,fJ,h]
def yZ{A:cj}{x:hp}{k:ar}(h:(A.do x).b k=none):A.b k=none:=by
 simp only[cj.do,fJ]at h;split at h
 ·cases h
 ·exact h
def y0{A:cj}{x:hp}{k:ar}(h:(A.do x).e k=none):A.e k=none:=by
 simp only[cj.do,fJ]at h;split at h
 ·cases h
 ·exact h
def ia{α:Type}{o:aT α}(h:¬o.isSome):o=none:=by cases o<;>simp at h⊢
def CJ{P:bp}{q:Bool}{n0:Nat}{g:b9}{A a:cj}{x:hp}(h:hq P q n0 g A x)(c:lK g.looks A.t a.t)(hm:da P q n0 g.i A x->da P q n0 g.i a x):hq P q n0 g a x:=by
 unfold hq at h⊢;cases aM:g.g with
 |none=>simp only[aM]at h⊢;exact hm h
 |some b=>
  obtain⟨s,w⟩:=b;have:A.t s=a.t s:=c s (by simp[b9.looks,aM]);simp only[aM,this]at h⊢;split at h
  ·rcases h with⟨I,J⟩|h
   ·exact .inl ⟨I,hm J⟩
   ·exact .inr h
  ·exact h
  ·exact h
def swap{P:bp}{q:Bool}{n0:Nat}{g h:b9}(S:rI g h=true){A:cj}{x y:hp}(N:hq P q n0 g A x)(W:hq P q n0 h (A.do x) y):
  hq P q n0 h A y/\hq P q n0 g (A.do y) x/\x.apart y:=by
 simp only[rI,bN]at S;obtain⟨⟨G,M⟩,hm⟩:=S;have bZ:=Cn N;have v:∀d f,g.i.dst=some d->h.i.dst=some f->d≠f:=by intro d f a b e;simp only[a,bN,bne_iff_ne]at G;exact G.2 (by rw[b,e])
 have L:lK h.looks (A.do x).t A.t:=by intro i az;simp only[cj.do];rw[bH];intro e;rw[bZ.d]at e;simp only[e,bN,Bool.not_eq_true',List.contains_eq_mem,decide_eq_false_iff_not]at G;exact G.1 az
 have E:∀k,(ab k x.bw).isSome->_:=bZ.b;have hle:∀k,(ab k x.ew).isSome->_:=bZ.e;have O:hq P q n0 h A y:=by
  refine CJ W L fun H=>CH H (fun i az=>L i (by simp[b9.looks,az])) (fun e k U z=>?_) (fun e k z=>?_) (fun e J k o ag w=>?_) (fun d F R l=>?_) (fun e k o ag=>?_) (fun e k=>?_) (fun e m l=>⟨l.1.1,yZ l.2.1,y0 l.2.2⟩) (fun e k o ag w=>?_) (fun e m=>?_)
  ·rw[nl (ia fun c=>?_)];rcases E k c with⟨a,_⟩|a|⟨a,⟨j,b⟩,s⟩|⟨a,_⟩;rotate_left 3
   ·rw[e,a]at hm;simp[dA]at hm
   ·rw[e,a]at hm;simp[dA]at hm
   ·rw[e,a]at hm;simp[dA]at hm
   ·rcases U with U|⟨m,U⟩
    ·rw[U]at s;cases s
    ·rw[U]at b;cases b
  ·rw[nl (ia fun c=>?_)];rcases E k c with⟨a,_⟩|a|⟨a,_⟩|⟨a,_⟩<;>(rw[e,a]at hm;simp[dA]at hm)
  ·rw[e]at hm;cases u:ab k x.ew with
   |none=>rw[nm u]at ag;exact ag
   |some o'=>
    exfalso;have K:(A.do x).e k=some o':=by simp[cj.do,fJ,u]
    rw[K]at ag;cases ag;rcases hle k (by simp[u])with⟨a,_⟩|⟨a,_⟩|⟨a,_,s⟩|⟨a,_⟩
    ·exact w (bZ.xn (.inr a) k _ u)
    ·exact w (bZ.xn (.inl a) k _ u)
    ·rw[J]at s;cases s
    ·rw[a]at hm;simp[dA]at hm
  ·exact⟨l.1.1,yZ l.2.1,y0 l.2.2⟩
  ·rw[nm (ia fun c=>?_)]at ag
   ·exact ag
   ·rw[e]at hm;rcases hle k c with⟨a,_⟩|⟨a,_⟩|⟨a,_⟩|⟨a,_⟩<;>(rw[a]at hm;simp[dA]at hm)
  ·rw[nl (ia fun c=>?_)];rw[e]at hm;rcases E k c with⟨a,_⟩|a|⟨a,_⟩|⟨a,_⟩<;>(rw[a]at hm;simp[dA]at hm)
  ·rw[e]at hm;cases u:ab k x.ew with
   |none=>rw[nm u]at ag;exact ag
   |some o'=>
    exfalso;have K:(A.do x).e k=some o':=by simp[cj.do,fJ,u]
    rw[K]at ag;cases ag;rcases hle k (by simp[u])with⟨a,_⟩|⟨a,_⟩|⟨a,_⟩|⟨a,_⟩
    ·exact w (bZ.xn (.inr a) k _ u)
    ·rw[a]at hm;simp[dA]at hm
    ·rw[a]at hm;simp[dA]at hm
    ·rw[a]at hm;simp[dA]at hm
  ·rw[e]at hm;refine⟨?_,?_,fun I=>I.1⟩
   ·rw[nl (ia fun c=>?_)];rcases E _ c with⟨a,d,_,b,_⟩|a|⟨a,_⟩|⟨a,_⟩;rotate_left 3
    ·rw[a]at hm;simp[dA]at hm
    ·cases b
    ·rw[a]at hm;simp[dA]at hm
    ·rw[a]at hm;simp[dA]at hm
   ·rw[nm (ia fun c=>?_)];rcases hle _ c with⟨a,d,_,b,_⟩|⟨a,_⟩|⟨a,_⟩|⟨a,_⟩
    ·cases b
    ·rw[a]at hm;simp[dA]at hm
    ·rw[a]at hm;simp[dA]at hm
    ·rw[a]at hm;simp[dA]at hm
 have ty:=Cn O;have Q:lK g.looks A.t (A.do y).t:=by intro i az;simp only[cj.do];rw[bH];intro e;rw[ty.d]at e;simp only[e,Bool.not_eq_true',List.contains_eq_mem,decide_eq_false_iff_not]at M;exact M az
 refine⟨O,?_,?_⟩
 ·refine CJ N Q fun H=>CH H (fun i az=>Q i (by simp[b9.looks,az])) (fun e k U z=>?_) (fun e k z=>?_) (fun e J k o ag w=>?_) (fun d F R l=>?_) (fun e k o ag=>?_) (fun e k=>?_) (fun e m l=>?_) (fun e k o ag w=>?_) (fun e m=>?_)
  ·refine nl (ia fun c=>?_);rcases ty.b k c with⟨a,d,_,_,b,_⟩|a|⟨a,⟨j,b⟩,s⟩|⟨_,_,b,_⟩;rotate_left 3
   ·exact z b
   ·exact z b
   ·rw[e,a]at hm;simp[dA]at hm
   ·rcases U with U|⟨m,U⟩
    ·rw[U]at s;cases s
    ·rw[U]at b;cases b
  ·refine nl (ia fun c=>?_);rcases ty.b k c with⟨a,d,_,_,b,_⟩|a|⟨a,_⟩|⟨_,_,b,_⟩;rotate_left 3
   ·exact z b
   ·exact z b
   ·rw[e,a]at hm;simp[dA]at hm
   ·rw[e,a]at hm;simp[dA]at hm
  ·rw[nm (ia fun c=>?_)]
   ·exact ag
   ·rcases ty.e k c with⟨a,d,_,_,_,b⟩|⟨a,b⟩|⟨a,_,s⟩|⟨a,_⟩
    ·rw[b]at ag;cases ag
    ·exact w (ty.ex a k o c ag)
    ·rw[J]at s;cases s
    ·rw[e,a]at hm;simp[dA]at hm
  ·refine⟨⟨l.1,fun B=>?_⟩,?_,?_⟩
   ·rcases ty.r _ B with⟨f,a,b⟩|⟨_,⟨j,b⟩,_⟩
    ·simp only[ar.loc.injEq]at b;exact v d f F a Ω
    ·cases b
   ·rw[nl (ia fun c=>?_)]
    ·exact l.2.1
    ·rcases ty.b _ c with⟨a,f,b,s,_⟩|a|⟨a,⟨j,b⟩,_⟩|⟨a,⟨j,b⟩,_⟩;rotate_left 3
     ·cases b
     ·simp only[ar.loc.injEq]at s;exact v d f F b Ω
     ·rcases R with b|b|b|b<;>(rw[a,b]at hm;simp[dA]at hm)
     ·cases b
   ·rw[nm (ia fun c=>?_)]
    ·exact l.2.2
    ·rcases ty.e _ c with⟨a,f,b,s,_⟩|⟨a,b⟩|⟨a,⟨j,b⟩,_⟩|⟨a,o,b,_⟩
     ·simp only[ar.loc.injEq]at s;exact v d f F b Ω
     ·rcases b with b|⟨f,b,s,_⟩
      ·exact b l.2.2
      ·simp only[ar.loc.injEq]at s;exact v d f F b Ω
     ·cases b
     ·rw[l.2.2]at b;cases b
  ·rw[nm (ia fun c=>?_)]
   ·exact ag
   ·rw[e]at hm;rcases ty.e k c with⟨a,d,_,_,_,b⟩|⟨a,_⟩|⟨a,_⟩|⟨a,_⟩
    ·rw[b]at ag;cases ag
    ·rw[a]at hm;simp[dA]at hm
    ·rw[a]at hm;simp[dA]at hm
    ·rw[a]at hm;simp[dA]at hm
  ·refine nl (ia fun c=>?_);rw[e]at hm;rcases ty.b k c with⟨a,_⟩|a|⟨a,_⟩|⟨a,_⟩<;>(rw[a]at hm;simp[dA]at hm)
  ·rw[e]at hm;refine⟨⟨l.1,fun B=>?_⟩,?_,?_⟩
   ·rcases ty.r _ B with⟨f,a,b⟩|⟨a|a,_⟩
    ·cases b
    ·rw[a]at hm;simp[dA]at hm
    ·rw[a]at hm;simp[dA]at hm
   ·rw[nl (ia fun c=>?_)]
    ·exact l.2.1
    ·rcases ty.b _ c with⟨a,_⟩|a|⟨a,_⟩|⟨a,_⟩<;>(rw[a]at hm;simp[dA]at hm)
   ·rw[nm (ia fun c=>?_)]
    ·exact l.2.2
    ·rcases ty.e _ c with⟨a,_⟩|⟨a,_⟩|⟨a,_⟩|⟨a,o,b,_⟩
     ·rw[a]at hm;simp[dA]at hm
     ·rw[a]at hm;simp[dA]at hm
     ·rw[a]at hm;simp[dA]at hm
     ·rw[l.2.2]at b;cases b
  ·rw[nm (ia fun c=>?_)]
   ·exact ag
   ·rw[e]at hm;rcases ty.e k c with⟨a,d,_,_,_,b⟩|⟨a,_⟩|⟨a,_⟩|⟨a,_⟩
    ·rw[b]at ag;cases ag
    ·rw[a]at hm;simp[dA]at hm
    ·rw[a]at hm;simp[dA]at hm
    ·rw[a]at hm;simp[dA]at hm
  ·rw[e]at hm;refine⟨?_,?_,fun I=>⟨I,fun B=>?_⟩⟩;rotate_left 2
   ·rcases ty.r _ B with⟨f,_,b⟩|⟨b|b,_⟩
    ·cases b
    ·rw[b]at hm;simp[dA]at hm
    ·rw[b]at hm;simp[dA]at hm
   ·refine nl (ia fun c=>?_);rcases ty.b _ c with⟨a,d,_,b,_⟩|a|⟨a,_⟩|⟨a,_⟩;rotate_left 3
    ·rw[a]at hm;simp[dA]at hm
    ·cases b
    ·rw[a]at hm;simp[dA]at hm
    ·rw[a]at hm;simp[dA]at hm
   ·refine nm (ia fun c=>?_);rcases ty.e _ c with⟨a,d,_,b,_⟩|⟨a,_⟩|⟨a,_⟩|⟨a,_⟩
    ·cases b
    ·rw[a]at hm;simp[dA]at hm
    ·rw[a]at hm;simp[dA]at hm
    ·rw[a]at hm;simp[dA]at hm
 ·refine⟨fun i az e=>?_,fun k U=>ia fun c=>?_,fun k U=>ia fun c=>?_⟩
  ·rw[bZ.d]at az;rw[ty.d]at e;exact v i i az e rfl
  ·rcases E k U with⟨n,d,a2,a3,_⟩|n|⟨n,⟨j,a2⟩,_⟩|⟨n,_⟩<;>rcases ty.b k c with⟨p,f,r,t,_⟩|p|⟨p,⟨cU,r⟩,_⟩|⟨p,⟨cU,r⟩,_⟩;all_goals first|(rw[n,p]at hm;simp[dA]at hm;done)|skip
   ·rw[a3]at t;simp only[ar.loc.injEq]at t;exact v d f a2 r Ω
   ·rw[a3]at r;cases r
   ·rw[a3]at r;cases r
   ·rw[a2]at t;cases t
  ·rcases hle k U with⟨n,d,a2,a3,_,a4⟩|⟨n,a2⟩|⟨n,⟨j,a2⟩,_⟩|⟨n,Y,a2,_⟩<;>rcases ty.e k c with⟨p,f,r,t,_,V⟩|⟨p,r⟩|⟨p,⟨cU,r⟩,_⟩|⟨p,X,r,_⟩
   ·rw[a3]at t;simp only[ar.loc.injEq]at t;exact v d f a2 r Ω
   ·rw[n,p]at hm;simp[dA]at hm
   ·rw[a3]at r;cases r
   ·rw[a4]at r;cases r
   ·rcases a2 with a2|⟨d,a2,a3,_⟩
    ·exact a2 V
    ·rw[a3]at t;simp only[ar.loc.injEq]at t;exact v d f a2 r Ω
   ·rw[n,p]at hm;simp[dA]at hm
   ·rw[n,p]at hm;simp[dA]at hm
   ·rw[n,p]at hm;simp[dA]at hm
   ·rw[a2]at t;cases t
   ·rw[n,p]at hm;simp[dA]at hm
   ·rw[n,p]at hm;simp[dA]at hm
   ·rw[n,p]at hm;simp[dA]at hm
   ·rw[V]at a2;cases a2
   ·rw[n,p]at hm;simp[dA]at hm
   ·rw[n,p]at hm;simp[dA]at hm
   ·rw[n,p]at hm;simp[dA]at hm
def qc(C:dk)(A:cj)(a:Act)(w:World):Prop:= ∃st ν,hY st A/\(∀k,A.F k->fresh st.n st.o k)/\bO C st a w ν
def AV{st:aN}{A:cj}(h:hY st A)(d:Nat)(p:aa):hY {st with t:=put d p st.t} (A.do ⟨some d,p,[],[],none⟩):=by
 refine⟨fun i=>?_,fun k=>?_,fun k=>?_⟩
 ·simp only[cj.do,kJ,dq,h.t]
 ·simpa[cj.do,fJ,ab]using h.b k
 ·simpa[cj.do,fJ,ab]using h.e k
def GZ{st:aN}{A:cj}(h:hY st A)(d:Nat)(p:aa)(o':List ar)(rm:aT ar):hY {st with t:=put d p st.t,o:=o'} (A.do ⟨some d,p,[],[],rm⟩):=by have:=AV h d p;exact⟨this.t,this.b,this.e⟩
def JN{α:Type}{β:Type}:∀l:List (ar×α),dy ([]:List (ar×β)) l=l
 |[]=>rfl
 |(k,x)::r=>by simp[dy,ab,JN r]
def sd{st:aN}{A:cj}(h:hY st A)(d:Nat)(p:aa)(κ:ar)(cs:List aa)(n':Nat)(o':List ar)(rm:aT ar):hY ⟨put d p st.t,bW κ cs st.b,st.e,n',o'⟩ (A.do ⟨some d,p,[(κ,cs)],[],rm⟩):=by
 refine⟨fun i=>?_,fun k=>?_,fun k=>?_⟩
 ·simp only[cj.do,kJ,dq,h.t]
 ·simp only[cj.do,fJ,ab,fD,h.b];by_cases e:κ=k<;>simp[e]
 ·simpa[cj.do,fJ,ab]using h.e k
def xb{st:aN}{A:cj}(h:hY st A)(κ:ar)(cs:List aa)(p:aa):hY {st with b:=bW κ cs st.b} (A.do ⟨none,p,[(κ,cs)],[],none⟩):=by
 refine⟨fun i=>?_,fun k=>?_,fun k=>?_⟩
 ·simpa[cj.do]using h.t i
 ·simp only[cj.do,fJ,ab,fD,h.b];by_cases e:κ=k<;>simp[e]
 ·simpa[cj.do,fJ,ab]using h.e k
def pN{st:aN}{A:cj}(h:hY st A)(d:Nat)(p:aa)(κ:ar)(o:cw)(n':Nat)(o':List ar)(rm:aT ar):hY ⟨put d p st.t,st.b,bW κ o st.e,n',o'⟩ (A.do ⟨some d,p,[],[(κ,o)],rm⟩):=by
 refine⟨fun i=>?_,fun k=>?_,fun k=>?_⟩
 ·simp only[cj.do,kJ,dq,h.t]
 ·simpa[cj.do,fJ,ab]using h.b k
 ·simp only[cj.do,fJ,ab,fD,h.e];by_cases e:κ=k<;>simp[e]
def GY{st:aN}{A:cj}(h:hY st A)(κ:ar)(o:cw)(p:aa):hY {st with e:=bW κ o st.e} (A.do ⟨none,p,[],[(κ,o)],none⟩):=by
 refine⟨fun i=>?_,fun k=>?_,fun k=>?_⟩
 ·simpa[cj.do]using h.t i
 ·simpa[cj.do,fJ,ab]using h.b k
 ·simp only[cj.do,fJ,ab,fD];by_cases e:κ=k<;>simp[e,h.e]
def A4{α:Type}{k:ar}:∀{l:List (ar×α)},k∈l.map (·.1)->(ab k l).isSome
 |[],h=>by simp at h
 |(i,x)::r,h=>by
  simp only[ab];split
  ·rfl
  ·rename_i e;simp only[gG,gw]at h;rcases h with h|h
   ·exact absurd h.symm e
   ·exact A4 h
def pk{n:Nat}{o:List ar}{κ:ar}:∀j,fresh n (κ::o) j->fresh n o j/\j≠κ:=by intro j a;simp only[fresh,gw,not_or]at a⊢;exact⟨⟨a.1,a.2.2⟩,a.2.1⟩
def Ns{n:Nat}{o:List ar}{κ j:ar}(h:fresh n o j)(a:some κ≠some j):fresh n (κ::o) j:=by simp only[fresh,gw,not_or]at h⊢;exact⟨h.1,fun e=>a (by rw[e]),h.2⟩
def CI{P:bp}{aE:List (Nat×cQ)}(L:e1 P aE=true){C:dk}{q:Bool}{n0:Nat}{i:c6}{o:Oper}(ag:oV C.N aE i o=true){A:cj}{x:hp}(j:da P q n0 i A x){a:Act}{w:World}(B:qc C A a w)
  {K:Act->World->Prop} {Q:Exit->Act->World->Prop} (G:∀bG w',qc C (A.do x) bG w'->K bG w'):o.wp P a w K Q:=by
 obtain⟨st,ν,g,E,B⟩:=B;have qs:∀(t:List (Nat×aa)) (b:List (ar×List aa)) (e:List (ar×cw)) (d:aT Nat) (p:aa) (bw:List (ar×List aa)) (ew:List (ar×cw)),∀k,(A.do ⟨d,p,bw,ew,none⟩).F k->fresh st.n st.o k:=fun t b e d p bw ew k U=>E k U.1;have S:∀(d:aT Nat) (p:aa) (bw:List (ar×List aa)) (ew:List (ar×cw)) (κ:ar),∀k,(A.do ⟨d,p,bw,ew,some κ⟩).F k->fresh st.n (κ::st.o) k:=fun d p bw ew κ k U=>Ns (E k U.1) U.2;cases i with
 |s i=>
  have H:uP C.N aE i o=true:=by simpa only[oV]using ag
  cases i with
  |v d i=>simp only[da]at j;obtain⟨c,p,I,J,_,rfl⟩:=j;rw[<-Jr g]at I;refine gE (κ:= .loc 0) (n':=0) (o₁:=[]) L B H (fun h=>by simp[c9.makes]at h) (fun h=>by simp[c9.makes]at h) (st':={st with t:=put d p st.t}) (by simp only[dj,I]) J fun bG w' aI l=>G _ _ ⟨_,aI,AV g d p,fun k U=>E k U.1,l⟩
  |box d key v=>
   cases key with
   |some m=>simp only[da]at j
   |none=>simp only[da]at j;obtain⟨⟨I,_⟩,J,rfl⟩:=j;rw[<-fR g]at J;refine gE (κ:= .loc (n0+d)) (n':=st.n) (o₁:= .loc (n0+d)::st.o) L B H (fun _=>E _ I) (fun _=>pk) (st':=⟨put d (.ptr (.loc (n0+d)) 0) st.t,bW (.loc (n0+d)) (cells (bn st.t v)) st.b,st.e,st.n,.loc (n0+d)::st.o⟩) (by simp only[dj]) J fun bG w' aI l=>G _ _ ⟨_,aI,?_,S _ _ _ _ _,l⟩;rw[fR g];exact sd g d _ _ _ _ _ _
  |alloc d key z=>
   cases key with
   |some m=>simp only[da]at j
   |none=>simp only[da]at j;obtain⟨⟨I,_⟩,rfl⟩:=j;refine gE (κ:= .loc (n0+d)) (n':=st.n) (o₁:= .loc (n0+d)::st.o) L B H (fun _=>E _ I) (fun _=>pk) (st':=⟨put d (.ptr (.loc (n0+d)) 0) st.t,bW (.loc (n0+d)) (cells z) st.b,st.e,st.n,.loc (n0+d)::st.o⟩) (by simp only[dj]) trivial fun bG w' aI l=>G _ _ ⟨_,aI,sd g d _ _ _ _ _ _,S _ _ _ _ _,l⟩
  |store sz u v=>simp only[da]at j;obtain⟨k,off,cs,I,J,F,rfl⟩:=j;rw[<-fR g]at I F;rw[<-g.b]at J;refine gE (κ:= .loc 0) (n':=0) (o₁:=[]) L B H (fun h=>by simp[c9.makes]at h) (fun h=>by simp[c9.makes]at h) (st':={st with b:=bW k (jR cs off (cells (bn st.t v))) st.b}) (by simp only[dj,I,J]) F fun bG w' aI l=>G _ _ ⟨{st with b:=bW k (jR cs off (cells (bn st.t v))) st.b},aI,by rw[fR g];exact xb g k _ _,fun k U=>E k U.1,l⟩
  |bsl d sz el xs=>simp only[da]at j;obtain⟨⟨I,_⟩,J,rfl⟩:=j;rw[<-og g]at J;refine gE (κ:= .loc (n0+d)) (n':=st.n) (o₁:= .loc (n0+d)::st.o) L B H (fun _=>E _ I) (fun _=>pk) (st':=⟨put d (.slice sz (.own (.loc (n0+d))) (xs.map (bn st.t))) st.t,st.b,bW (.loc (n0+d)) ⟨xs.length,el,sz,none⟩ st.e,st.n,.loc (n0+d)::st.o⟩) (by simp only[dj]) J fun bG w' aI l=>G _ _ ⟨_,aI,?_,S _ _ _ _ _,l⟩;rw[og g];exact pN g d _ _ _ _ _ _
  |app d sz el u v=>
   simp only[da]at j;obtain⟨tag,xs,hE,ys,I,J,j⟩:=j;rw[<-fR g]at I J;rcases j with⟨k,ow,rfl,F,O,rfl⟩|⟨rfl,F,⟨O,_⟩,rfl⟩
   ·rw[<-g.e]at F;refine gE (κ:= .loc 0) (n':=0) (o₁:=[]) L B H (fun h=>by simp[c9.makes,I]at h) (fun h=>by simp[c9.makes,I]at h) (st':=⟨put d (.slice sz (.own k) (xs++ys)) st.t,st.b,bW k ⟨xs.length+ys.length,el,sz,none⟩ st.e,st.n,st.o⟩) (by simp only[dj,I,J,F,and_self,if_true]) O.2 fun bG w' aI l=>G _ _ ⟨_,aI,pN g d _ _ _ _ _ _,fun k U=>E k U.1,l⟩
   ·refine gE (κ:= .loc (n0+d)) (n':=st.n) (o₁:= .loc (n0+d)::st.o) L B H (fun _=>E _ O) (fun _=>pk) (st':=⟨put d (.slice sz (.own (.loc (n0+d))) ys) st.t,st.b,bW (.loc (n0+d)) ⟨ys.length,el,sz,none⟩ st.e,st.n,.loc (n0+d)::st.o⟩) (by simp only[dj,I,J,and_self,if_true]) F fun bG w' aI l=>G _ _ ⟨_,aI,pN g d _ _ _ _ _ _,S _ _ _ _ _,l⟩
  |bslm d key sz el xs=>simp only[da]at j
  |mks d key sz el z x=>simp only[da]at j
  |appm d key sz el u v=>simp only[da]at j;obtain⟨k,n,xs,hE,ys,I,J,F,O,rfl⟩:=j;rw[<-fR g]at I J;rw[<-g.e]at F;refine gE (κ:= .loc 0) (n':=0) (o₁:=[]) L B H (fun h=>by simp[c9.makes,I]at h) (fun h=>by simp[c9.makes,I]at h) (st':=⟨put d (.row sz k (xs.length+ys.length)) st.t,st.b,bW k ⟨xs.length+ys.length,el,sz,some (xs++ys)⟩ st.e,st.n,st.o⟩) (by simp only[dj,ni,I,J,F,and_self,if_true]) O fun bG w' aI l=>G _ _ ⟨_,aI,pN g d _ _ _ _ _ _,fun k U=>E k U.1,l⟩
  |storeE sz u v=>simp only[da]at j;obtain⟨k,n,i,f,el,cE,xs,q,I,J,F,O,rfl⟩:=j;rw[<-fR g]at I O;rw[<-g.e]at J;refine gE (κ:= .loc 0) (n':=0) (o₁:=[]) L B H (fun h=>by simp[c9.makes]at h) (fun h=>by simp[c9.makes]at h) (st':={st with e:=bW k ⟨n,el,cE,some (xs.set i (kZ q f (cells (bn st.t v))))⟩ st.e}) (by simp only[dj,l2,I,J,F,and_self,if_true]) O fun bG w' aI l=>G _ _ ⟨{st with e:=bW k ⟨n,el,cE,some (xs.set i (kZ q f (cells (bn st.t v))))⟩ st.e},aI,by rw[fR g];exact GY g k _ _,fun k U=>E k U.1,l⟩
  |mkmap d key=>
   cases key with
   |none=>simp only[da]at j
   |some m=>simp only[da]at j;obtain⟨⟨I,_⟩,rfl⟩:=j;exact gE (κ:= .obj m) (n':=st.n) (o₁:= .obj m::st.o) L B H (fun _=>E _ I) (fun _=>pk) (st':=⟨put d (.gmap (.obj m)) st.t,bW (.obj m) [.hdm 0 []] st.b,st.e,st.n,.obj m::st.o⟩) (by simp only[dj]) trivial fun bG w' aI l=>G _ _ ⟨_,aI,sd g d _ _ _ _ _ _,S _ _ _ _ _,l⟩
  |mput bB u k v=>simp only[da]at j;obtain⟨m,cs,cs',I,J,F,rfl⟩:=j;rw[<-fR g]at I;rw[<-fR g,<-fR g]at F;rw[<-g.b]at J;exact gE (κ:= .loc 0) (n':=0) (o₁:=[]) L B H (fun h=>by simp[c9.makes]at h) (fun h=>by simp[c9.makes]at h) (st':={st with b:=bW m cs' st.b}) (by simp only[dj,I,J,F]) trivial fun bG w' aI l=>G _ _ ⟨{st with b:=bW m cs' st.b},aI,xb g m _ _,fun k U=>E k U.1,l⟩
  |range d key x=>simp only[da]at j
 |next d x=>simp only[da]at j
 |call d f xs=>
  simp only[da]at j;obtain⟨n,cx,I,j⟩:=j;rw[<-fR g]at I;rcases j with⟨⟨s,ak,r,rm,X,V,Z,hJ,im,kD,ta,rfl⟩,_⟩|⟨cG,r,rfl,X,V,Z,rfl⟩;rotate_left
  ·rw[<-og g]at V Z;simp only[oV]at ag;split at ag
   ·rename_i j7 args sO jl;simp only[bN,c2]at ag;obtain⟨⟨⟨ai,aD⟩,aZ⟩,b4⟩:=ag;have W:=db B aZ;rw[I]at W;refine D4 B jl ai aD W (uI B b4) (K:=fun st'=>st'={st with t:=put cG r st.t,o:= .loc (n0+cG)::st.o}) ⟨⟨[],[]⟩,_,some (n0+cG),st.n,fun _=>.loc (n0+cG)::st.o,fun k cs U=>by simp[ab]at U,fun k cs U=>by simp[ab]at U,⟨fun _=>rfl,fun _=>rfl⟩,hg (fun _ h=>h.elim) _ V,Z,fun m hm=>?_,fun k dY ak bb U=>?_,?_⟩ ?_
    ·cases hm;exact E _ X.1
    ·obtain⟨_,rfl⟩:=bb;have:=pk k U;exact⟨by simpa[b2]using this.1,fun m hm=>by cases hm;exact this.2⟩
    ·rintro dY kn ⟨rfl,rfl⟩;refine⟨⟨fun m hm=>by simp[ab]at hm,fun m hm=>by simp[ab]at hm⟩,?_⟩;simp[after,JN,dH]
    ·rintro st' bG w' aI rfl l;exact G _ _ ⟨_,aI,GZ g cG r _ _,S _ _ _ _ _,l⟩
   ·cases ag
  rw[<-og g]at kD ta;simp only[oV]at ag;split at ag
  ·rename_i j7 args sO jl;simp only[bN,c2]at ag;obtain⟨⟨⟨ai,aD⟩,aZ⟩,b4⟩:=ag;have W:=db B aZ;rw[I]at W;obtain⟨bo,bY,dF,fk,Y⟩:=im;refine D3 B jl ai aD W (uI B b4) (K:=fun st'=>st'=after st s ak d r) (.inl ⟨s,_,fun k cs U=>⟨by rw[g.b];exact(X k cs U).1,.inl (by simp[U]),(X k cs U).2⟩,fun k o' U=>⟨by rw[g.e];exact(V k o' U).1,.inr (by simp[U]),(V k o' U).2⟩,Z,kD,ta,?_⟩) ?_
   ·rintro dY kn ⟨rfl,rfl⟩;refine⟨⟨fun m hm=>?_,fun m hm=>?_⟩,rfl⟩
    ·rcases bo _ hm with h|h
     ·exact .inl h
     ·exact .inr (E _ (Y _ h).2.1).2
    ·rcases bY _ hm with h|h
     ·exact .inl h
     ·exact .inr (E _ (Y _ h).2.1).2
   ·rintro st' bG w' aI rfl l;refine G _ _ ⟨_,aI,⟨fun i=>?_,fun k=>?_,fun k=>?_⟩,fun k U=>?_,l⟩
    ·simp only[after,cj.do];cases d with
     |none=>simpa[dH]using g.t i
     |some d=>simp only[dH,kJ,dq,g.t]
    ·simp only[after,cj.do,fJ,ja,mH];by_cases M:(ab k s.b).isSome
     ·have:=dF k M;obtain⟨y,R⟩:=dt.1 this;simp[M,R]
     ·cases aO:ab k ak.b with
      |none=>simp only[M,g.b];cases A.b k<;>simp
      |some y=>
       rcases bo k (by simp[aO])with h|h
       ·exact absurd h M
       ·have:=Y k h;simp[M,g.b,this]
    ·simp only[after,cj.do,fJ,ja,mH];by_cases M:(ab k s.e).isSome
     ·have:=fk k M;obtain⟨y,R⟩:=dt.1 this;simp[M,R]
     ·cases aO:ab k ak.e with
      |none=>simp only[M,g.e];cases A.e k<;>simp
      |some y=>
       rcases bY k (by simp[aO])with h|h
       ·exact absurd h M
       ·have:=Y k h;simp[M,g.e,this]
    ·have zO:=E k U.1;have iT:=B.lookNone zO;simp only[after];refine⟨zO.1,fun N=>?_⟩;rcases lF.1 N with N|N
     ·exact zO.2 N
     ·rcases lF.1 N with N|N
      ·rcases bo k (A4 N)with h|h
       ·obtain⟨y,R⟩:=dt.1 h;have:=(X k y R).1;rw[<-g.b,iT.1]at this;cases this
       ·exact U.2 h
      ·rcases bY k (A4 N)with h|h
       ·obtain⟨y,R⟩:=dt.1 h;have:=(V k y R).1;rw[<-g.e,iT.2]at this;cases this
       ·exact U.2 h
  ·cases ag
def J5{P:bp}{aE:List (Nat×cQ)}(z:e1 P aE=true){C:dk}{q:Bool}{n0:Nat}{ops:Array Oper}{g:b9}{o:Oper}{j:Nat}(I:ops[j]? =some o)(ag:tw C.N aE ops.toList g o=true){A:cj}{x:hp}(c:hq P q n0 g A x){a:Act}{w:World}(t:qc C A a w)
  {K:Act->World->Prop} {Q:Exit->Act->World->Prop} (r:∀bG w',qc C (A.do x) bG w'->K bG w'):wpOp P ops Q j K a w:=by
 unfold wpOp;rw[I];simp only;simp only[tw,bN]at ag;obtain⟨m,v⟩:=ag;unfold hq at c;cases l:g.g with
 |none=>
  cases e:o.guard with
  |some x=>simp[e,l]at m
  |none=>
   have hw:kr o (yielded ops a.tmps)=true:=by simp[kr,e]
   rw[if_pos hw];simp only[l]at c;exact .inl (CI z v c t r)
 |some E=>
  obtain⟨s,want⟩:=E;cases e:o.guard with
  |none=>simp[e,l]at m
  |some O=>
   obtain⟨R,dR⟩:=O;simp only[e,l,bN,c2,e3]at m;obtain⟨⟨⟨⟨rfl,J⟩,L⟩,M⟩,N⟩:=m;obtain⟨st,ν,f,H,y⟩:=id t;obtain⟨G,F⟩:=JU y J L;simp only[l]at c;have B:∀(h:x=hV g.i.dst),K (a.put o.dst undef) w:=by
    rintro rfl;rw[M];refine r _ _ ⟨_,ν,?_,fun k U=>?_,y.put N (p:= .tuple []) (by simp[aw,bT,undef])⟩
    ·refine⟨fun i=>?_,fun k=>?_,fun k=>?_⟩
     ·simp only[cj.do,hV];cases g.i.dst with
      |none=>simpa[dH]using f.t i
      |some d=>simp only[dH,kJ,dq,f.t]
     ·simpa[cj.do,fJ,ab,hV]using f.b k
     ·simpa[cj.do,fJ,ab,hV]using f.e k
    ·exact H k U.1
   split at c
   ·rename_i b u;have n:=G b (by rw[f.t];exact u);rcases c with⟨rfl,c⟩|⟨rfl,c⟩
    ·have hw:kr o (yielded ops a.tmps)=true:=by simp[kr,e,n]
     rw[if_pos hw];exact .inl (CI z v c t r)
    ·have hw:¬(kr o (yielded ops a.tmps)=true):=by simp[kr,e,n]
     rw[bH hw];exact B c
   ·rename_i u;have n:=F (by rw[f.t];exact u);have hw:¬(kr o (yielded ops a.tmps)=true):=by simp[kr,e,n]
    rw[bH hw];exact B c
   ·exact c.elim
def pb(P:bp)(q:Bool)(n0:Nat)(K:cj->Prop):List (Nat×b9)->cj->Prop
 |[],A=>K A
 |(_,g)::r,A=> ∃x,hq P q n0 g A x/\pb P q n0 K r (A.do x)
def C9{P:bp}{q:Bool}{n0:Nat}{K:cj->Prop}{i:Nat}{g:b9}:∀(b a:List (Nat×b9)) (A:cj),(∀x∈b,rI x.2 g=true)->pb P q n0 K (b++(i,g)::a) A->∃x,hq P q n0 g A x/\pb P q n0 K (b++a) (A.do x)
 |[],a,A,_,h=>h
 |(j,f)::b,a,A,aA,h=>by simp only[List.cons_append,pb]at h;obtain⟨y,e,h⟩:=h;obtain⟨x,d,h⟩:=C9 b a (A.do y) (fun z c=>aA z (List.mem_cons_of_mem _ c)) h;obtain⟨s1,s2,s3⟩:=swap (aA _ (List.mem_cons_self ..)) e d;refine⟨x,s1,y,s2,?_⟩;rw[<-cj.do_comm A s3];exact h
def rem(a:Array Bool):Nat->List b9->List (Nat×b9)
 |_,[]=>[]
 |k,g::r=>if a.getD k false then rem a (k+1) r else(k,g)::rem a (k+1) r
def Io{l a:Array Bool}:∀(gs:List b9) (k:Nat),(∀j,k<=j->l.getD j false=a.getD j false)->rem l k gs=rem a k gs
 |[],_,_=>rfl
 |g::r,k,h=>by simp only[rem,h k (di _),Io r (k+1) fun j b=>h j Ω]
def v7{l:Array Bool}{i j:Nat}(h:i<l.size):(l.setIfInBounds i true).getD j false=if i=j then true else l.getD j false:=by
 simp only[Array.getD_eq_getD_getElem?];by_cases e:i=j
 ·subst e;simp[h]
 ·simp[e]
def BN{l:Array Bool}{i:Nat}(az:i<l.size)(p:l.getD i false=false):∀(gs:List b9) (k:Nat),k<=i->i<k+gs.length->∃b c g,gs[i-k]? =some g/\rem l k gs=b++(i,g)::c/\rem (l.setIfInBounds i true) k gs=b++c/\
  ∀x∈b,gs[x.1-k]? =some x.2/\k<=x.1/\x.1<i/\l.getD x.1 false=false
 |[],k,I,J=>by simp at J;omega
 |g::r,k,I,J=>by
  by_cases e:k=i
  ·subst e;refine⟨[],rem l (k+1) r,g,Ψ,by simp[rem,p],?_,fun x a=>by simp at a⟩;simp only[rem,v7 az,if_true,List.nil_append];exact Io r (k+1) fun j s=>by rw[v7 az,bH Ω]
  ·obtain⟨b,c,h,n,q,o,m⟩:=BN az p r (k+1) Ω (by simp at J;omega);have d:i-k=(i-(k+1))+1:=Ω
   have f:(l.setIfInBounds i true).getD k false=l.getD k false:=by rw[v7 az,bH Ω]
   by_cases U:l.getD k false=true
   ·refine⟨b,c,h,by rw[d];simpa using n,by simp only[rem,U,if_true,q],by simp only[rem,f,U,if_true,o],fun x a=>?_⟩;obtain⟨f1,f2,f3,f4⟩:=m x a;refine⟨?_,Ω,f3,f4⟩;have:x.1-k=(x.1-(k+1))+1:=Ω
    rw[this];simpa using f1
   ·have U:l.getD k false=false:=by simpa using U
    refine⟨(k,g)::b,c,h,by rw[d];simpa using n,by simp[rem,U,q],by simp[rem,f,U,o],fun x a=>?_⟩;rcases gw.1 a with rfl|a
    ·exact⟨Ψ,di _,by simp;omega,U⟩
    ·obtain⟨f1,f2,f3,f4⟩:=m x a;refine⟨?_,Ω,f3,f4⟩;have:x.1-k=(x.1-(k+1))+1:=Ω
     rw[this];simpa using f1
def oP(acc:List Nat):List Edge->Nat
 |[]=>0
 |e::r=>if Region.binds .any e then(2 ^ e.on)|||(acc.getD e.on 0)|||oP acc r else oP acc r
def mI(acc:List Nat):List Oper->List Nat
 |[]=>acc
 |o::os=>mI (acc++[oP acc o.after.toList]) os
def uK(m:Nat)(h:b9):Nat->List b9->Bool
 |_,[]=>true
 |i,g::r=>(m.testBit i||rI g h)&&uK m h (i+1) r
def uz:List b9->List b9->List Nat->Bool
 |_,[],_=>true
 |pre,h::r,m::ms=>uK m h 0 pre&&uz (pre++[h]) r ms
 |_,_,[]=>false
def tk:Nat->List Oper->Bool
 |_,[]=>true
 |k,o::os=>o.after.toList.all (fun e=> !Region.binds .any e||decide (e.on<k))&&tk (k+1) os
def s7(gs:List b9)(ops:List Oper):Bool:=tk 0 ops&&uz [] gs (mI [] ops)
def AZ{acc:List Nat}{j:Nat}:∀{es:List Edge},(oP acc es).testBit j=true->∃e∈es,Region.binds .any e=true/\(j=e.on\/(acc.getD e.on 0).testBit j=true)
 |[],h=>by simp[oP]at h
 |e::r,h=>by
  simp only[oP]at h;split at h
  ·rename_i b;simp only[Nat.testBit_or,Bool.or_eq_true]at h;rcases h with(h|h)|h
   ·refine⟨e,Ψ,b,.inl ?_⟩;rw[Nat.testBit_two_pow]at h;have c:e.on=j:=by simpa using h
    exact c.symm
   ·exact⟨e,Ψ,b,.inr h⟩
   ·obtain⟨a,I,J⟩:=AZ h;exact⟨a,by simp[I],J⟩
  ·obtain⟨a,I,J⟩:=AZ h;exact⟨a,by simp[I],J⟩
def A0:∀(os:List Oper) (acc:List Nat) (k:Nat),k<acc.length->(mI acc os)[k]? =acc[k]?
 |[],acc,k,_=>rfl
 |o::os,acc,k,h=>by simp only[mI];rw[A0 os _ k (by simp;omega),ks h]
def Ha:∀(os:List Oper) (acc:List Nat) (k:Nat) (o:Oper),os[k]? =some o->∃a,(mI acc os)[acc.length+k]? =some (oP a o.after.toList)/\a.length=acc.length+k/\∀i,i<a.length->a[i]? =(mI acc os)[i]?
 |[],acc,k,o,h=>by simp at h
 |o'::os,acc,0,o,h=>by
  simp only[List.getElem?_cons_zero,dq]at h;subst h;refine⟨acc,?_,Ψ,fun i az=>?_⟩
  ·simp only[mI,Nat.add_zero];rw[A0 os _ _ Ψ];simp
  ·simp only[mI];rw[A0 os _ i (by simp;omega),ks az]
 |o'::os,acc,k+1,o,h=>by simp only[List.getElem?_cons_succ]at h;obtain⟨a,I,J,b⟩:=Ha os (acc++[oP acc o'.after.toList]) k o h;refine⟨a,?_,by rw[J];simp;omega,fun i az=>by rw[b i az];rfl⟩;simp only[mI];rw[show acc.length+(k+1)=(acc++[oP acc o'.after.toList]).length+k from by simp;omega];exact I
def CG(ops:Array Oper)(a:Array Bool):Prop:= ∀k o,ops[k]? =some o->a.getD k false=true->∀e∈o.after.toList,Region.binds .any e=true->a.getD e.on false=true
def Qu{ops:Array Oper}{b:Array Bool}(q:CG ops b):∀(k:Nat) (o:Oper),ops[k]? =some o->(∀e∈o.after.toList,Region.binds .any e=true->b.getD e.on false=true)->∀j,((mI [] ops.toList).getD k 0).testBit j=true->b.getD j false=true:=by
 intro k;induction k using Nat.strongRecOn with
 |_ k m=>
  intro o ag g j f;obtain⟨c,I,J,p⟩:=Ha ops.toList [] k o (by simpa using ag);simp only[List.length_nil,Nat.zero_add]at I J;rw[List.getD_eq_getElem?_getD,I]at f;obtain⟨e,he,h,a⟩:=AZ f;rcases a with rfl|a
  ·exact g e he h
  ·by_cases n:e.on<c.length
   ·have hm:c.getD e.on 0=(mI [] ops.toList).getD e.on 0:=by rw[List.getD_eq_getElem?_getD,p _ n,List.getD_eq_getElem?_getD]
    have U:k<ops.size:=(Array.getElem?_eq_some_iff.1 ag).1;have d:ops[e.on]? =some ops[e.on]:=Array.getElem?_eq_getElem Ω;rw[hm]at a;exact m e.on Ω _ d (fun l r i=>q e.on _ d (g e he h) l r i) j a
   ·rw[List.getD_eq_getElem?_getD,List.getElem?_eq_none Ω]at a;simp at a
def IF{m:Nat}{h:b9}:∀{gs:List b9} {i0:Nat},uK m h i0 gs=true->∀i g,gs[i]? =some g->m.testBit (i0+i)=true\/rI g h=true
 |[],i0,_,i,g,aM=>by simp at aM
 |b::r,i0,a,0,g,aM=>by simp only[uK,bN,Bool.or_eq_true]at a;simp only[List.getElem?_cons_zero,dq]at aM;subst aM;simpa using a.1
 |b::r,i0,a,i+1,g,aM=>by simp only[uK,bN]at a;have:=IF a.2 i g (by simpa using aM);rwa[show i0+1+i=i0+(i+1)from by omega]at this
def HA:∀{gs pre:List b9} {ms:List Nat},uz pre gs ms=true->∀j h,gs[j]? =some h->∀i g,i<pre.length+j->(pre++gs)[i]? =some g->(ms.getD j 0).testBit i=true\/rI g h=true
 |[],pre,ms,_,j,h,a,_,_,_,_=>by simp at a
 |c::r,pre,[],b,j,h,a,_,_,_,_=>by simp[uz]at b
 |c::r,pre,m::ms,b,j,h,a,i,g,az,aM=>by
  simp only[uz,bN]at b;cases j with
  |zero=>simp only[List.getElem?_cons_zero,dq]at a;subst a;rw[ks Ω]at aM;simpa using IF b.1 i g aM
  |succ j=>have:=HA b.2 j h (by simpa using a) i g (by simp;omega) (by simpa using aM);simpa using this
def Et:∀{os:List Oper} {k:Nat},tk k os=true->∀i o,os[i]? =some o->∀e∈o.after.toList,Region.binds .any e=true->e.on<k+i
 |[],k,_,i,o,ag,_,_,_=>by simp at ag
 |o'::os,k,h,0,o,ag,e,he,a=>by simp only[tk,bN,List.all_eq_true]at h;simp only[List.getElem?_cons_zero,dq]at ag;subst ag;have:=h.1 e he;simpa[a]using this
 |o'::os,k,h,i+1,o,ag,e,he,a=>by simp only[tk,bN]at h;have:=Et h.2 i o (by simpa using ag) e he a;omega
def Fg{N:Nat}{aE:List (Nat×cQ)}{ops:List Oper}:∀{gs:List b9} {os:List Oper},hb N aE ops gs os=true->∀(i:Nat) (g:b9),gs[i]? =some g->∃o,os[i]? =some o/\tw N aE ops g o=true
 |[],[],_,i,g,h=>by simp at h
 |[],_::_,h,_,_,_=>by simp[hb]at h
 |_::_,[],h,_,_,_=>by simp[hb]at h
 |a::gs,o::os,h,0,g,aM=>by simp only[hb,bN]at h;simp only[List.getElem?_cons_zero,dq]at aM;subst aM;exact⟨o,Ψ,h.1⟩
 |a::gs,o::os,h,i+1,g,aM=>by simp only[hb,bN]at h;obtain⟨o',I,J⟩:=Fg h.2 i g (by simpa using aM);exact⟨o',by simpa using I,J⟩
def zz{N:Nat}{aE:List (Nat×cQ)}{ops:List Oper}:∀{gs:List b9} {os:List Oper},hb N aE ops gs os=true->gs.length=os.length
 |[],[],_=>rfl
 |[],_::_,h=>by simp[hb]at h
 |_::_,[],h=>by simp[hb]at h
 |g::gs,o::os,h=>by simp only[hb,bN]at h;simp[zz h.2]
def Ip{l:Array Bool}:∀(gs:List b9) (k:Nat),rem l k gs=[]\/ ∃i g,i<gs.length/\gs[i]? =some g/\l.getD (k+i) false=false/\∀j,j<i->l.getD (k+j) false=true
 |[],_=>.inl rfl
 |g::r,k=>by
  by_cases h:l.getD k false=true
  ·rcases Ip (l:=l) r (k+1)with I|⟨i,a,I,J,c,d⟩
   ·left;simp only[rem,h,if_true,I]
   ·refine .inr ⟨i+1,a,by simp;omega,by simpa using J,by rw[show k+(i+1)=k+1+i from by omega];exact c,fun j b=>?_⟩;cases j with
    |zero=>simpa using h
    |succ j=>rw[show k+(j+1)=k+1+j from by omega];exact d j Ω
  ·exact .inr ⟨0,g,Ψ,Ψ,by simpa using h,fun j b=>Ω⟩
def Ki{P:bp}{aE:List (Nat×cQ)}(Y:e1 P aE=true){C:dk}{q:Bool}{n0:Nat}{ops:Array Oper}{gs:List b9}(H:hb C.N aE ops.toList gs ops.toList=true)(z:s7 gs ops.toList=true){K:cj->Prop}{Q:Exit->Act->World->Prop}
  (V:∀A a w,K A->qc C A a w->Q .normal a w):∀(fuel:Nat) (b:Array Bool) (A:cj) (a:Act) (w:World),b.size=ops.size->CG ops b->(rem b 0 gs).length<=fuel->pb P q n0 K (rem b 0 gs) A->qc C A a w->wpAny P .any ops Q fuel b a w:=by
 simp only[s7,bN]at z;obtain⟨R,Pd⟩:=z;have hlen:gs.length=ops.size:=by simpa using zz H
 have N:∀(b:Array Bool) (A:cj) (a:Act) (w:World),b.size=ops.size->pb P q n0 K (rem b 0 gs) A->qc C A a w->Region.ready .any ops b=[]->Q .normal a w:=by
  intro b A a w m d j p;rcases Ip (l:=b) gs 0 with h|⟨i,g,I,J,c,aF⟩
  ·rw[h]at d;exact V A a w d j
  ·exfalso;have az:i<ops.size:=Ω
   have G:i∈Region.ready .any ops b:=by
    unfold Region.ready;simp only[List.mem_filter,List.mem_range,bN,Bool.not_eq_true'];refine⟨az,?_,?_⟩
    ·rw[Nat.zero_add]at c;simp only[Array.getD_eq_getD_getElem?]at c⊢;rw[Array.getElem?_eq_getElem Ω]at c⊢;simpa using c
    ·rw[Array.getElem?_eq_getElem az];simp only[Option.map_some,Option.getD_some];rw[<-Array.all_toList,List.all_eq_true];intro e he;by_cases f:Region.binds .any e=true
     ·have bA:=Et R i ops[i] (by simp[az]) e he f;have:=aF e.on Ω;rw[Nat.zero_add]at this;simp[this]
     ·simp[f]
   rw[p]at G;simp at G
 intro fuel;induction fuel with
 |zero=>
  intro b A a w m u v d j;have S:rem b 0 gs=[]:=List.eq_nil_of_length_eq_zero Ω;have p:Region.ready .any ops b=[]:=by
   rw[List.eq_nil_iff_forall_not_mem];intro i az;unfold Region.ready at az;simp only[List.mem_filter,List.mem_range,bN,Bool.not_eq_true']at az;obtain⟨I,J,_⟩:=az;have t:b.getD i false=false:=by simp only[Array.getD_eq_getD_getElem?]at J⊢;rw[Array.getElem?_eq_getElem Ω]at J⊢;simpa using J
   obtain⟨F,E,g,_,n,_⟩:=BN Ω t gs 0 Ω Ω;rw[S]at n;simp at n
  exact⟨p,N b A a w m d j p⟩
 |succ fuel X=>
  intro b A a w m u v d j;refine⟨N b A a w m d j,fun i az=>?_⟩;unfold Region.ready at az;simp only[List.mem_filter,List.mem_range,bN,Bool.not_eq_true']at az;obtain⟨I,J,c⟩:=az;have t:b.getD i false=false:=by simp only[Array.getD_eq_getD_getElem?]at J⊢;rw[Array.getElem?_eq_getElem Ω]at J⊢;simpa using J
  have ag:ops[i]? =some ops[i]:=Array.getElem?_eq_getElem I;have O:∀e∈ops[i].after.toList,Region.binds .any e=true->b.getD e.on false=true:=by rw[ag]at c;simp only[Option.map_some,Option.getD_some]at c;rw[<-Array.all_toList,List.all_eq_true]at c;intro e he f;simpa[f]using c e he
  obtain⟨F,E,g,s,n,M,L⟩:=BN Ω t gs 0 Ω Ω;simp only[Nat.sub_zero]at s L;rw[n]at d;obtain⟨x,Z,Oi⟩:=C9 F E A (fun y aP=>by
   obtain⟨f1,f2,f3,f4⟩:=L y aP;rcases HA Pd i g s y.1 y.2 (by simpa using f3) (by simpa using f1)with h|h
   ·have:=Qu u i ops[i] ag O y.1 h;rw[f4]at this;cases this
   ·exact h) d
  obtain⟨o',g1,g2⟩:=Fg H i g s;have:o'=ops[i]:=by rw[nV,ag]at g1;exact(jg g1).symm
  subst this;refine J5 Y ag g2 Z j fun bG w' W=>?_;refine X (b.setIfInBounds i true) (A.do x) bG w' (by simpa using m) ?_ ?_ (by rw[M];exact Oi) W
  ·intro k o U r e he f;rw[v7 Ω]at r⊢;split
   ·rfl
   ·by_cases B:i=k
    ·subst B;rw[ag]at U;cases U;exact O e he f
    ·rw[bH B]at r;exact u k o U r e he f
  ·rw[M];rw[n]at v;simp at v⊢;omega
def nn(n0 d:Nat)(st:aN):Prop:= .loc (n0+d)∉st.o/\ab (.loc (n0+d)) st.b=none/\ab (.loc (n0+d)) st.e=none
def ee.loadO(q:Bool)(t:List (Nat×aa)):ee->Prop
 | .load _ _ x=>q=true\/qH (bn t x)=true
 | .loadB _ _ _=>True
 | .mgetB _ _ _ _ _=>True
 | .mget _ _ _ _ _=>q=true
 | .ment _=>q=true
 | .mlen _=>q=true
 |_=>True
def iu(q:Bool)(nw:List Nat)(n0:Nat)(st:aN):c9->Prop
 | .v _ i=>i.loadO q st.t
 | .box d none _=>nn n0 d st
 | .alloc d none _=>nn n0 d st
 | .box _ (some _) _=>c1
 | .alloc _ (some _) _=>c1
 | .store _ x _=>match bn st.t x with| .ptr _ _=>True|_=>c1
 | .bslm _ _ _ _ _=>c1
 | .mks _ _ _ _ _ _=>c1
 | .appm _ _ _ _ x _=>match bn st.t x with| .row _ _ _=>True|_=>c1
 | .storeE _ _ _=>True
 | .mkmap _ none=>c1
 | .mkmap _ (some m)=>m∈nw/\ab (.obj m) st.b=none/\ab (.obj m) st.e=none
 | .mput _ _ _ _=>True
 | .range _ _ _=>c1
 | .bsl d _ _ _=>nn n0 d st
 | .app d _ _ x _=>match bn st.t x with
  | .slice _ .nil _=>nn n0 d st
  | .slice _ (.own k) _=>(ab k st.e).bind (·.xs)=none
  |_=>True
def kE(n0:Nat):c9->ar
 | .mkmap _ (some m)=>.obj m
 | .v d _| .box d _ _| .alloc d _ _| .bsl d _ _ _| .app d _ _ _ _| .bslm d _ _ _ _| .appm d _ _ _ _ _| .mkmap d _| .range d _ _| .mks d _ _ _ _ _=>.loc (n0+d)
 | .store _ _ _| .mput _ _ _ _| .storeE _ _ _=>.loc n0
def P9(nw:List Nat)(st:aN)(s a:b1)(rm:aT ar):Prop:=(∀k,(ab k a.b).isSome->(ab k s.b).isSome\/rm=some k)/\(∀k,(ab k a.e).isSome->(ab k s.e).isSome\/rm=some k)/\(∀k,(ab k s.b).isSome->(ab k a.b).isSome)/\(∀k,(ab k s.e).isSome->(ab k a.e).isSome)/\
 (∀k,rm=some k->(∃j,j∈nw/\k= .obj j)/\ab k st.b=none/\ab k st.e=none/\((ab k a.b).isSome\/(ab k a.e).isSome))
def jY(P:bp)(q:Bool)(nw:List Nat)(n:Nat)(args:List aa)(st:aN)(d:aT Nat)(K:aN->Prop):Prop:=
 (∃cG r,d=some cG/\nn st.n cG st/\aV (fun _=>c1) args/\na P n (st.n+cG) args ⟨[],[]⟩ (fun b t'=>b=r/\t'=⟨[],[]⟩)/\K {st with t:=put cG r st.t,o:= .loc (st.n+cG)::st.o})\/
 ∃s a r rm,ko (a7 s) s.b st.b/\lB (a7 s) s.e st.e/\e7 s/\e7 a/\P9 nw st s a rm/\aV (a7 s) args/\cf P n args s (fun b t'=>b=r/\t'=a)/\(q=true->a.b=[]/\a.e=[])/\K {after st s a d r with o:=st.o}
def ha(P:bp)(q:Bool)(nw:List Nat)(n0:Nat)(st:aN)(K:aN->Prop):c6->Prop
 | .s i=>match dj (kE n0 i) st.n (kE n0 i::st.o) st i with
  |some (c,st')=>iu q nw n0 st i/\c/\K st'
  |none=>c1
 | .call d f xs=>match bn st.t f with
  | .func n cx=>jY P q nw n (bt (xs.map (bn st.t)++cx)) st d K
  |_=>c1
 | .next _ _=>c1
def fs(P:bp)(q:Bool)(nw:List Nat)(n0:Nat):List b9->aN->(aN->Prop)->Prop
 |[],st,K=>K st
 |⟨none,i⟩::r,st,K=>ha P q nw n0 st (fun st'=>fs P q nw n0 r st' K) i
 |⟨some (s,want),i⟩::r,st,K=>match get s st.t with
  | .bool b=>(b=want->ha P q nw n0 {st with t:=put s (.bool want) st.t} (fun st'=>fs P q nw n0 r st' K) i)/\(b= !want->fs P q nw n0 r {st with t:=dH i.dst (.tuple []) (put s (.bool !want) st.t)} K)
  | .tuple []=>fs P q nw n0 r {st with t:=dH i.dst (.tuple []) st.t} K
  |_=>c1
structure mZ (nw:List Nat) (n0 N:Nat) (kV:List ar) (st:aN) (A:cj):Prop where
 like:hY st A
 n:st.n=n0
 F:∀k,fresh n0 st.o k->(∀j∈nw,k≠ .obj j)->A.F k
 o:∀k∈st.o,k∈kV\/(∃d,d<N/\k= .loc (n0+d))\/ ∃j∈nw,k= .obj j
def sY(nw:List Nat)(A:cj):Prop:= ∀j∈nw,A.b (.obj j)=none->A.e (.obj j)=none->A.F (.obj j)
def sY.do{P:bp}{q:Bool}{n0:Nat}{nw:List Nat}{A:cj}(h:sY nw A){g:b9}{x:hp}(k:hq P q n0 g A x):sY nw (A.do x):=by
 intro j i c he;refine⟨h j i (yZ c) (y0 he),fun f=>?_⟩;rcases(Cn k).r _ f with⟨d,_,e⟩|⟨_,_,a⟩
 ·cases e
 ·rcases a with a|a
  ·obtain⟨y,b⟩:=dt.1 a;simp[cj.do,fJ,b]at c
  ·obtain⟨y,b⟩:=dt.1 a;simp[cj.do,fJ,b]at he
def EC{P:bp}{q:Bool}{nw:List Nat}{n0 N:Nat}{kV:List ar}{i:c6}(E:∀d,i.dst=some d->d<N){st:aN}{A:cj}(h:mZ nw n0 N kV st A)(j8:sY nw A){K:aN->Prop}(he:ha P q nw n0 st K i):∃x st',da P q n0 i A x/\K st'/\mZ nw n0 N kV st' (A.do x):=by
 have a:=h.like;have Q:∀d,nn n0 d st->(A.F (.loc (n0+d))/\A.b (.loc (n0+d))=none/\A.e (.loc (n0+d))=none):=fun d t=>⟨h.F _ ⟨Ψ,t.1⟩ (fun _ _ e=>by cases e),by rw[<-a.b];exact t.2.1,by rw[<-a.e];exact t.2.2⟩;have G:∀(d:aT Nat) (p:aa) (bw:List (ar×List aa)) (ew:List (ar×cw)) (κ:ar),∀k,fresh n0 (κ::st.o) k->(∀j∈nw,k≠ .obj j)->(A.do ⟨d,p,bw,ew,some κ⟩).F k:=fun d p bw ew κ k U w=>⟨h.F k (pk k U).1 w,fun e=>(pk k U).2 (jg e).symm⟩;have F:∀(d:aT Nat) (p:aa) (bw:List (ar×List aa)) (ew:List (ar×cw)),∀k,fresh n0 st.o k->(∀j∈nw,k≠ .obj j)->(A.do ⟨d,p,bw,ew,none⟩).F k:=fun d p bw ew k U w=>⟨h.F k U w,Ψ⟩;have L:∀d,d<N->∀k∈ar.loc (n0+d)::st.o,k∈kV\/(∃d,d<N/\k= .loc (n0+d))\/ ∃j∈nw,k= .obj j:=fun d E k U=>by
  rcases gw.1 U with rfl|U
  ·exact .inr (.inl ⟨d,E,rfl⟩)
  ·exact h.o k U
 cases i with
 |s i=>
  cases i with
  |v d i=>
   simp only[ha,dj]at he;cases g:e2 st i with
   |none=>simp[g]at he
   |some Lh=>
    obtain⟨c,p⟩:=Lh;simp only[g]at he;obtain⟨I,J,b⟩:=he;refine⟨⟨some d,p,[],[],none⟩,_,⟨c,p,by rw[<-Jr a];exact g,J,fun jJ=>?_,rfl⟩,b,AV a d p,h.n,F _ _ _ _,h.o⟩;cases i<;>simp only[ee.isLoad]at jJ<;>try(cases jJ;done)
    case mget=>exact .inr (.inl I)
    case ment=>exact .inr (.inl I)
    case mlen=>exact .inr (.inl I)
    case loadB=>exact .inl rfl
    case mgetB=>exact .inl rfl
    simp only[iu,ee.loadO,fR a]at I;exact .inr (by simpa only[ee.ptrOf]using I)
  |box d key v=>
   cases key with
   |some m=>simp only[ha,dj,iu,false_and]at he
   |none=>simp only[ha,dj,iu,kE]at he;obtain⟨I,J,b⟩:=he;rw[fR a]at J;refine⟨_,_,⟨Q d I,J,rfl⟩,b,?_,h.n,G _ _ _ _ _,L d (E d rfl)⟩;rw[fR a];exact sd a d _ _ _ _ _ _
  |alloc d key z=>
   cases key with
   |some m=>simp only[ha,dj,iu,false_and]at he
   |none=>simp only[ha,dj,iu,kE]at he;obtain⟨I,J,b⟩:=he;exact⟨_,_,⟨Q d I,rfl⟩,b,sd a d _ _ _ _ _ _,h.n,G _ _ _ _ _,L d (E d rfl)⟩
  |store sz u v=>
   simp only[ha,dj]at he;cases hu:bn st.t u with
   |ptr k off=>
    cases B:ab k st.b with
    |none=>simp[hu,B]at he
    |some cs=>simp only[hu,B]at he;obtain⟨I,J,b⟩:=he;rw[fR a]at J hu;refine⟨⟨none,.junk,[(k,jR cs off (cells (cy A.t v)))],[],none⟩,_,⟨k,off,cs,hu,by rw[<-a.b];exact B,J,rfl⟩,b,?_,h.n,F _ _ _ _,h.o⟩;rw[fR a];exact xb a k _ _
   |_=>
    exfalso;simp only[hu]at he;split at he
    ·have:=he.1;simp[iu,hu]at this
    ·exact he
  |bsl d sz el xs=>simp only[ha,dj,iu,kE]at he;obtain⟨I,J,b⟩:=he;rw[og a]at J;refine⟨_,_,⟨Q d I,J,rfl⟩,b,?_,h.n,G _ _ _ _ _,L d (E d rfl)⟩;rw[og a];exact pN a d _ _ _ _ _ _
  |app d sz el u v=>
   simp only[ha,dj]at he;cases hu:bn st.t u with
   |slice H tag xs=>
    cases g:bn st.t v with
    |slice Y X ys=>
     simp only[hu,g]at he;by_cases R:H=sz/\Y=sz
     ·obtain⟨rfl,rfl⟩:=R;rw[fR a]at hu g;cases tag with
      |no=>simp at he
      |tr k j=>simp at he
      |lo k=>simp at he
      |nil=>simp only[and_self,if_true,iu,fR a,hu,kE]at he;obtain⟨I,J,b⟩:=he;exact⟨_,_,⟨.nil,xs,X,ys,hu,g,.inr ⟨rfl,J,Q d I,rfl⟩⟩,b,pN a d _ _ _ _ _ _,h.n,G _ _ _ _ _,L d (E d rfl)⟩
      |own k=>
       cases U:ab k st.e with
       |none=>simp[U]at he
       |some o=>simp only[and_self,if_true,U]at he;obtain⟨I,J,b⟩:=he;exact⟨_,_,⟨.own k,xs,X,ys,hu,g,.inl ⟨k,o,rfl,by rw[<-a.e];exact U,⟨by simpa[iu,fR a,hu,U]using I,J⟩,rfl⟩⟩,b,pN a d _ _ _ _ _ _,h.n,F _ _ _ _,h.o⟩
     ·simp[R]at he
    |_=>simp[hu,g]at he
   |_=>simp[hu]at he
  |bslm d key sz el xs=>simp only[ha,dj,iu,false_and]at he
  |mks d key sz el z x=>simp only[ha,dj,iu,false_and]at he;split at he<;>simp at he
  |appm d key sz el u v=>
   simp only[ha,dj]at he;cases hu:bn st.t u with
   |row H k n=>
    cases g:bn st.t v with
    |slice Y X ys=>
     simp only[hu,g,ni]at he;by_cases R:H=sz/\Y=sz
     ·obtain⟨rfl,rfl⟩:=R;rw[fR a]at hu g;simp only[and_self,if_true]at he;cases U:ab k st.e with
      |none=>simp[U]at he
      |some o=>
       obtain⟨n',eb,O,Bv⟩:=o;cases Bv with
       |none=>simp[U]at he
       |some xs=>
        simp only[U]at he;by_cases M:n'=n/\eb=el/\O=Y
        ·obtain⟨rfl,rfl,rfl⟩:=M;simp only[and_self,if_true]at he;obtain⟨I,J,b⟩:=he;exact⟨_,_,⟨k,n',xs,X,ys,hu,g,by rw[<-a.e];exact U,J,rfl⟩,b,pN a d _ _ _ _ _ _,h.n,F _ _ _ _,h.o⟩
        ·simp[M]at he
     ·simp[R]at he
    |_=>simp[hu,g,ni]at he
   |slice H tag xs=>
    exfalso;simp only[hu]at he;split at he
    ·have:=he.1;simp[iu,hu]at this
    ·exact he
   |_=>simp[hu,ni]at he
  |storeE sz u v=>
   simp only[ha,dj]at he;cases hu:bn st.t u with
   |rptr H k n i f=>
    cases U:ab k st.e with
    |none=>simp[hu,l2,U]at he
    |some o=>
     obtain⟨n',el,O,Bv⟩:=o;cases Bv with
     |none=>simp[hu,l2,U]at he
     |some xs=>
      simp only[hu,l2,U]at he;by_cases M:n'=n/\O=H
      ·obtain⟨rfl,rfl⟩:=M;simp only[and_self,if_true]at he;cases bb:xs[i]? with
       |none=>simp[bb]at he
       |some q=>simp only[bb]at he;obtain⟨I,J,b⟩:=he;rw[fR a]at J hu;refine⟨⟨none,.junk,[],[(k,⟨n',el,O,some (xs.set i (kZ q f (cells (cy A.t v))))⟩)],none⟩,_,⟨k,n',i,f,el,O,xs,q,hu,by rw[<-a.e];exact U,bb,J,rfl⟩,b,?_,h.n,F _ _ _ _,h.o⟩;rw[fR a];exact GY a k _ _
      ·simp[M]at he
   |_=>simp[hu,l2]at he
  |mkmap d key=>
   cases key with
   |none=>simp only[ha,dj,iu,false_and]at he
   |some m=>
    simp only[ha,dj,iu,kE]at he;obtain⟨⟨bg,I,J⟩,_,b⟩:=he;rw[a.b]at I;rw[a.e]at J;refine⟨_,_,⟨⟨j8 m bg I J,I,J⟩,rfl⟩,b,sd a d _ _ _ _ _ _,h.n,G _ _ _ _ _,fun k U=>?_⟩;rcases gw.1 U with rfl|U
    ·exact .inr (.inr ⟨m,bg,rfl⟩)
    ·exact h.o k U
  |mput bB u k v=>
   simp only[ha,dj,iu]at he;cases hu:bn st.t u with
   |gmap m=>
    cases B:ab m st.b with
    |none=>simp[hu,B]at he
    |some cs=>
     cases hm:pR bB (bn st.t k) (bn st.t v) cs with
     |none=>simp[hu,B,hm]at he
     |some cs'=>simp only[hu,B,hm]at he;rw[fR a]at hu;rw[fR a,fR a]at hm;exact⟨⟨none,.junk,[(m,cs')],[],none⟩,_,⟨m,cs,cs',hu,by rw[<-a.b];exact B,hm,rfl⟩,he.2.2,xb a m _ _,h.n,F _ _ _ _,h.o⟩
   |_=>simp[hu]at he
  |range d key x=>simp only[ha,iu,false_and]at he;split at he<;>exact he.elim
 |next d x=>simp only[ha]at he
 |call d f xs=>
  simp only[ha]at he;cases t:bn st.t f with
  |func n cx=>
   simp only[t]at he;rw[fR a]at t;rcases he with⟨cG,r,rfl,cm,S,dK,hJ⟩|⟨s,V,r,rm,cm,S,dK,hJ,im,kD,ta,Ky,Kz⟩
   ·rw[og a]at S dK;have W:=h.n;subst W;refine⟨⟨some cG,r,[],[],some (.loc (st.n+cG))⟩,_,⟨n,cx,t,.inr ⟨cG,r,rfl,Q cG cm,S,dK,rfl⟩⟩,hJ,GZ a cG r _ _,rfl,G _ _ _ _ _,L cG (E cG rfl)⟩
   rw[og a]at kD ta;obtain⟨bo,bY,dF,fk,Z⟩:=im;refine⟨⟨d,r,V.b,V.e,rm⟩,_,⟨n,cx,t,.inl ⟨⟨s,V,r,rm,fun k cs U=>⟨by rw[<-a.b];exact(cm k cs U).1,(cm k cs U).2.2⟩,fun k o U=>⟨by rw[<-a.e];exact(S k o U).1,(S k o U).2.2⟩,dK,hJ,⟨bo,bY,dF,fk,fun k U=>?_⟩,kD,ta,rfl⟩,Ky⟩⟩,Kz,⟨fun i=>?_,fun k=>?_,fun k=>?_⟩,h.n,fun k U w=>⟨h.F k U w,fun oc=>?_⟩,h.o⟩
   ·obtain⟨⟨j,w,rfl⟩,aD,aZ,b4⟩:=Z k U;rw[a.b]at aD;rw[a.e]at aZ;exact⟨⟨j,rfl⟩,j8 j w aD aZ,aD,aZ,b4⟩
   ·simp only[after,cj.do];cases d with
    |none=>simpa[dH]using a.t i
    |some d=>simp only[dH,kJ,dq,a.t]
   ·simp only[after,cj.do,fJ,ja,mH];by_cases l:(ab k s.b).isSome
    ·have:=dF k l;obtain⟨y,aP⟩:=dt.1 this;simp[l,aP]
    ·cases W:ab k V.b with
     |none=>simp only[l,a.b];cases A.b k<;>simp
     |some y=>
      rcases bo k (by simp[W])with h|h
      ·exact absurd h l
      ·have:=Z k h;simp[l,this]
   ·simp only[after,cj.do,fJ,ja,mH];by_cases l:(ab k s.e).isSome
    ·have:=fk k l;obtain⟨y,aP⟩:=dt.1 this;simp[l,aP]
    ·cases W:ab k V.e with
     |none=>simp only[l,a.e];cases A.e k<;>simp
     |some y=>
      rcases bY k (by simp[W])with h|h
      ·exact absurd h l
      ·have:=Z k h;simp[l,this]
   ·obtain⟨⟨j,kO,rfl⟩,_⟩:=Z k oc;exact w j kO rfl
  |_=>simp[t]at he
def rB(N:Nat):List b9->Bool
 |[]=>true
 |g::r=>gl N g.i.dst&&rB N r
def rj:Nat->List b9->List (Nat×b9)
 |_,[]=>[]
 |k,g::r=>(k,g)::rj (k+1) r
def CU{nw:List Nat}{n0 N:Nat}{a:List ar}{st:aN}{A:cj}(h:mZ nw n0 N a st A){s:Nat}{p:aa}(b:get s st.t=p):mZ nw n0 N a {st with t:=put s p st.t} A:=by
 refine⟨⟨fun i=>?_,h.like.b,h.like.e⟩,h.n,h.F,h.o⟩;simp only[kJ];split
 ·rename_i e;subst e;rw[<-b];exact h.like.t _
 ·exact h.like.t i
def CV{nw:List Nat}{n0 N:Nat}{a:List ar}{st:aN}{A:cj}(h:mZ nw n0 N a st A)(d:aT Nat):mZ nw n0 N a {st with t:=dH d (.tuple []) st.t} (A.do (hV d)):=by
 refine⟨⟨fun i=>?_,fun k=>?_,fun k=>?_⟩,h.n,fun k U b=>⟨h.F k U b,by simp[hV]⟩,h.o⟩
 ·simp only[cj.do,hV];cases d with
  |none=>simpa[dH]using h.like.t i
  |some d=>simp only[dH,kJ,dq,h.like.t]
 ·simpa[cj.do,fJ,ab,hV]using h.like.b k
 ·simpa[cj.do,fJ,ab,hV]using h.like.e k
def tp{P:bp}{q:Bool}{nw:List Nat}{n0 N:Nat}{l:List ar}{K:aN->Prop}:∀(gs:List b9) (k:Nat),rB N gs=true->∀(st:aN) (A:cj),mZ nw n0 N l st A->sY nw A->fs P q nw n0 gs st K->pb P q n0 (fun p=> ∃st',K st'/\mZ nw n0 N l st' p) (rj k gs) A
 |[],k,_,st,A,h,_,he=>⟨st,he,h⟩
 |⟨m,i⟩::r,k,f,st,A,h,a,he=>by
  simp only[rB,bN]at f;have j:∀d,i.dst=some d->d<N:=fun d e=>by have:=f.1;rw[e]at this;simpa[gl]using this
  simp only[rj,pb];cases m with
  |none=>simp only[fs]at he;obtain⟨x,st',I,J,g⟩:=EC j h a he;have aM:hq P q n0 ⟨none,i⟩ A x:=I;exact⟨x,aM,tp r (k+1) f.2 st' _ g (a.do aM) J⟩
  |some n=>
   obtain⟨s,want⟩:=n;simp only[fs]at he;split at he
   ·rename_i b c;by_cases e:b=want
    ·subst e;obtain⟨x,st',I,J,g⟩:=EC j (CU h c) a (he.1 rfl);have aM:hq P q n0 ⟨some (s,b),i⟩ A x:=by unfold hq;simp only[<-h.like.t,c];exact .inl ⟨trivial,I⟩
     exact⟨x,aM,tp r (k+1) f.2 st' _ g (a.do aM) J⟩
    ·have o:b= !want:=by cases b<;>cases want<;>simp at e⊢
     subst o;have aM:hq P q n0 ⟨some (s,want),i⟩ A (hV i.dst):=by unfold hq;simp only[<-h.like.t,c];exact .inr ⟨trivial,trivial⟩
     exact⟨hV i.dst,aM,tp r (k+1) f.2 _ _ (CV (CU h c) i.dst) (a.do aM) (he.2 rfl)⟩
   ·rename_i c;have aM:hq P q n0 ⟨some (s,want),i⟩ A (hV i.dst):=by unfold hq;simp only[<-h.like.t,c]
    exact⟨hV i.dst,aM,tp r (k+1) f.2 _ _ (CV h i.dst) (a.do aM) he⟩
   ·exact he.elim
def BM:∀(gs:List b9) (l:Array Bool) (k:Nat),(∀j,l.getD j false=false)->rem l k gs=rj k gs
 |[],_,_,_=>rfl
 |g::r,l,k,h=>by simp only[rem,h k,rj,BM r l (k+1) h];simp
def nY(n:Nat)(o:List ar)(K:aN->Prop)(st:aN):Prop:=K {st with n:=n,o:=o}
def Good.like{pr:Nat->Prop}{w:World}{ν:aC}{b dR:List (ar×List aa)}{e d:List (ar×cw)}(h:Good pr w ν b e)(a:∀k,ab k dR=ab k b)(he:∀k,ab k d=ab k e):Good pr w ν dR d:=
 ⟨h.alt,fun k cs U=>h.box k cs (by rw[<-a];exact U),fun k aQ bl I J=>h.inj k aQ bl (by rw[<-a];exact I) (by rw[<-a];exact J),fun g o aM=>h.own g o (by rw[<-he];exact aM),
  fun g f n n' v v' bl I J=>h.oinj g f n n' v v' bl (by rw[<-he];exact I) (by rw[<-he];exact J),fun g k n v bl I J=>h.obx g k n v bl (by rw[<-he];exact I) (by rw[<-a];exact J),h.one,
  fun bl i=>h.otr bl (i.imp (fun⟨k,c,a2⟩=>⟨k,by rw[<-a];exact c,a2⟩) (fun⟨g,n,v,c,a2⟩=>⟨g,n,v,by rw[<-he];exact c,a2⟩))⟩
def ED{P:bp}(hm:P.follows .mixedOrders=true){aE:List (Nat×cQ)}(H:e1 P aE=true){C:dk}{q:Bool}{nw:List Nat}{id:Nat}{ops:Array Oper}{gs:List b9}(s:hb C.N aE ops.toList gs ops.toList=true)(v:s7 gs ops.toList=true)(E:rB C.N gs=true)
  {K:aN->Prop} {Q:Exit->Act->World->Prop} (z:∀st' bG w' aI,K st'->bO C st' bG w' aI->Q .normal bG w') {st:aN} {a:Act} {w:World} {ν:aC} (J:∀j∈nw,.obj j∉st.o) (he:fs P q nw st.n gs st (nY (st.n+C.N) (nw.map ar.obj++st.o) K)) (I:bO C st a w ν):(Code.region id ops true).wp P Q a w:=by
 refine wp_region_any hm ?_;have F:bO C st a {w with drawn:=w.drawn+1} ν:=I.drawn _;let A:cj:=⟨fun i=>get i st.t,fun k=>ab k st.b,fun k=>ab k st.e,fresh st.n st.o⟩
 have p:mZ nw st.n C.N st.o st A:=⟨⟨fun _=>rfl,fun _=>rfl,fun _=>rfl⟩,rfl,fun k U _=>U,fun k U=>.inl U⟩;have y:=tp gs 0 E st A p (fun j l _ _=>⟨trivial,J j l⟩) he;have n:∀j,(Array.replicate ops.size false).getD j false=false:=fun j=>by simp[Array.getD_eq_getD_getElem?,Array.getElem?_replicate];split<;>rfl
 refine Ki H s v (q:=q) (n0:=st.n) (K:=fun t=> ∃st',nY (st.n+C.N) (nw.map ar.obj++st.o) K st'/\mZ nw st.n C.N st.o st' t) ?_ ops.size _ A a _ Ψ ?_ ?_ (by rw[BM gs _ 0 n];exact y) ⟨st,ν,p.like,fun k U=>U,F⟩
 ·rintro t bG w' ⟨st',U,f⟩ ⟨M,aI,m,x,c⟩;refine z _ bG w' aI U ⟨c.good.like (fun k=>by rw[m.b,<-f.like.b]) (fun k=>by rw[m.e,<-f.like.e]),c.fr,c.defers,c.size,fun i=>?_,fun k b=>?_⟩
  ·have:=c.slot i;rw[m.t,<-f.like.t]at this;exact this
  ·refine c.new k (x k (f.F k ?_ fun j l e=>b.2 (by subst e;exact List.mem_append_left _ (List.mem_map_of_mem l))));simp only at b;refine⟨(zr (Nat.le_add_right st.n C.N) (fun _ h=>h) b).1,fun B=>?_⟩;rcases f.o k B with h|⟨d,L,rfl⟩|⟨j,l,rfl⟩;rotate_left 2
   ·exact b.2 (List.mem_append_left _ (List.mem_map_of_mem l))
   ·exact b.2 (List.mem_append_right _ h)
   ·have:=b.1;simp at this;omega
 ·intro k o U u;rw[n]at u;cases u
 ·rw[BM gs _ 0 n];have:∀(gs:List b9) k,(rj k gs).length=gs.length:=by
   intro gs;induction gs with
   |nil=>intro k;rfl
   |cons g r G=>intro k;simp[rj,G]
  rw[this];have:=zz s;simp at this;omega
def gR:List aa->Prop
 |[]=>True
 |p::a=>(match p with| .slice _ _ xs=>xs.length<=cH| .str s=>s.length<=cH|_=>True)/\gR a
def gZ:aa->Prop
 | .slice _ _ xs=>xs.length<=cH
 | .str s=>s.length<=cH
 | .agg cs=>gR cs
 |_=>True
def gQ:List aa->Prop
 |[]=>True
 |p::r=>gZ p/\gQ r
def BR{w:World}{ν:aC}:∀{cs:List aa} {us:List Value},bL w ν cs us->gR cs
 |[],_,_=>trivial
 |c::cs,us,h=>by
  simp only[bL]at h;obtain⟨u,e,_,I,J⟩:=h;refine⟨?_,BR J⟩;cases c<;>simp only<;>have b:=I.1<;>simp only[aw]at b
  ·exact b.2
  ·obtain⟨⟨a,cap,_,_,d,_⟩,_⟩:=b;exact d.2
def BO{w:World}{ν:aC}{cs:List aa}{us:List Value}(h:gV w ν cs us):et cs=true->gR cs:=fun a=>by rw[jQ a]at h;exact BR h
def IB{w:World}{ν:aC}{p:aa}{v:Value}(h:aw w ν p v):gZ p:=by
 cases p<;>simp only[gZ]<;>simp only[aw]at h
 ·exact h.2
 ·obtain⟨⟨a,cap,_,_,b,_⟩,_⟩:=h;exact b.2
 ·obtain⟨us,_,J⟩:=h;exact BR J
def BS{w:World}{ν:aC}:∀{cs:List aa} {us:List Value},bT w ν cs us->gQ cs
 |[],_,_=>trivial
 |c::cs,us,h=>by simp only[bT]at h;obtain⟨u,a,_,I,J⟩:=h;exact⟨IB I,BS J⟩
inductive C where
 |skip
 |region (gs:List b9)
 |drawn (q:Bool) (N:Nat) (gs:List b9)
 |drawnW (nw:List Nat) (N:Nat) (gs:List b9)
 |seq (a b:C)
 |cond (x:cq) (t e:C)
 |block (id:Nat) (c:C)
 |loop (c:C)
 |exit (id:Nat)
 |ret
 |pub (s:Nat) (c:C)
 |pubB (s:Nat) (c:C)
 |fg (kT:Bool) (s:Nat) (c:C)
 |fz (agg:Bool) (s:Nat) (c:C)
 |no
def uC(st:aN):aa->aT (aa×List (ar×cw))
 | .row sz k n=>match ab k st.e with
  |some ⟨n',el,a,some xs⟩=>if n'=n/\a=sz then some (.slice sz (.own k) xs,bW k ⟨n,el,sz,none⟩ st.e)else none
  |_=>none
 |_=>none
def pZ(st:aN)(s:Nat):aT aN:=
 match uC st (get s st.t)with
 |some (p,e)=>some {st with t:=put s p st.t,e:=e}
 |none=>none
def sw(st:aN)(s:Nat):aT aN:=
 match get (s%1000) st.t with
 | .ptr k off=>match ab k st.b with
  |some cs=>match cs[off+s/1000]? with
   |some p=>match uC st p with
    |some (a,e)=>if et cs then some {st with b:=bW k (cs.set (off+s/1000) a) st.b,e:=e}else none
    |none=>none
   |none=>none
  |none=>none
 |_=>none
def xN{C:dk}{st:aN}{a:Act}{w:World}{ν:aC}(h:bO C st a w ν){s:Nat}{p:aa}(b:aw w ν p (a.tmps.getD s undef)):bO C {st with t:=put s p st.t} a w ν:=by
 refine⟨h.good,h.fr,h.defers,h.size,fun i=>?_,h.new⟩;have:=h.slot i;simp only[kJ];split
 ·rename_i e;subst e;exact b
 ·exact this
def HF{C:dk}{st:aN}{a:Act}{w:World}{ν:aC}(h:bO C st a w ν){p f:aa}{e:List (ar×cw)}{v:Value}(l:aw w ν p v)(he:uC st p=some (f,e)):
  ∃aI,bO C {st with e:=e} a w aI/\aw w aI f v/\ij w ν w aI:=by
 unfold uC at he;split at he
 ·rename_i sz k n;split at he
  ·rename_i n' el A xs U;split at he
   ·rename_i aA;obtain⟨rfl,rfl⟩:=aA;cases he;simp only[aw]at l;obtain⟨_,r,n0,u,I,J,s⟩:=l;obtain⟨v0,y,d,B,z,m⟩:=h.good.own k _ U;rw[I]at d;simp only[dq,ho]at d;obtain⟨rfl,rfl⟩:=d;have t:v=u:=s rfl;subst t;obtain⟨i,_,_⟩:=m xs rfl;simp only at i;obtain⟨g1,g2⟩:=h.publish U rfl I (by rw[i];exact r);refine⟨_,g1,g2,⟨fun b o x=>⟨.inl x,rfl⟩,fun j b _ q=>q,fun g n u _ c=>⟨n,u,?_,.inl ⟨rfl,rfl⟩⟩,fun _ _ _=>rfl,fun _ _ _ _ h=>h⟩⟩;simp only[aC.withRowOf];split
    ·rename_i e;subst e;rw[I]at c;exact c
    ·exact c
   ·cases he
  ·cases he
 ·cases he
def rG(a:Bool):aa->aa
 | .slice sz tag xs=>.slice sz (if a then tag else .no) (bt xs)
 |p=>bE p
def Nf{w:World}{ν:aC}{a:Bool}{p:aa}{v:Value}(h:aw w ν p v):aw w ν (rG a p) v:=by
 have I:=p0 p v h;cases p with
 |slice sz tag xs=>
  simp only[rG];cases a with
  |false=>simpa only[hX,if_false,bE]using I
  |true=>
   simp only[if_true];simp only[aw,bE]at h I⊢;refine⟨I.1,fun e=>h.2.1 e,fun g e=>?_,fun k j e=>?_,fun k e=>?_⟩
   ·obtain⟨n,u,b,d,c⟩:=h.2.2.1 g e;exact⟨n,u,b,by rw[iH];exact d,by rw[iH];exact c⟩
   ·exact tv _ _ (h.2.2.2.1 k j e)
   ·exact tv _ _ (h.2.2.2.2 k e)
 |_=>exact I
def R4{C:dk}{st st':aN}{a:Act}{w:World}{ν:aC}(h:bO C st a w ν){s:Nat}(he:pZ st s=some st'):∃aI,bO C st' a w aI:=by
 unfold pZ at he;split at he
 ·rename_i p e b;cases he;obtain⟨aI,I,J,_⟩:=HF h (h.slot s) b;exact⟨_,xN I J⟩
 ·cases he
def Iv{w:World}{ν:aC}:∀{cs:List aa} {us:List Value} {i:Nat} {p q:aa} {v:Value},bL w ν cs us->cs[i]? =some p->us[i]? =some v->aw w ν q v->bL w ν (cs.set i q) us
 |[],_,_,_,_,_,_,h,_,_=>by simp at h
 |c::cs,us,0,p,q,v,h,_,a,b=>by simp only[bL]at h;obtain⟨u,d,rfl,I,J⟩:=h;simp only[List.getElem?_cons_zero,dq]at a;subst a;simp only[List.set_cons_zero,bL];exact⟨_,_,rfl,⟨b,I.2⟩,J⟩
 |c::cs,us,i+1,p,q,v,h,e,a,b=>by simp only[bL]at h;obtain⟨u,d,rfl,I,J⟩:=h;simp only[List.set_cons_succ,bL];exact⟨_,_,rfl,I,Iv J (by simpa using e) (by simpa using a) b⟩
def R3{C:dk}{st st':aN}{a:Act}{w:World}{ν:aC}(h:bO C st a w ν){s:Nat}(he:sw st s=some st'):∃aI,bO C st' a w aI:=by
 unfold sw at he;split at he
 ·rename_i k K U;generalize K+s/1000=off at he;split at he
  ·rename_i cs d;split at he
   ·rename_i p i;split at he
    ·rename_i E e L;split at he
     ·rename_i o;cases he;obtain⟨bl,us,el,g1,g2,g3,g4,g5⟩:=h.good.box k cs d;rw[jQ o]at g5;have r:off<us.toList.length:=by rw[kY g5];exact(eQ.1 i).1
      obtain⟨v,y⟩:∃v,us.toList[off]? =some v:=⟨_,cl r⟩;have B:aw w ν p v:=by have:=sG off g5;rw[l9 (eQ.1 i).1,l9 r]at this;simp only[bL]at this;obtain⟨u,H,t,z,_⟩:=this;rw[(eQ.1 i).2]at z;rw[(eQ.1 y).2]at t;cases t;exact z.1
      obtain⟨aI,I,J,x⟩:=HF h B L;have m:bL w aI (cs.set off E) us.toList:=Iv (Iu x g5) i y J;have A:=oX m;refine⟨aI,⟨I.good.alt,fun j F c=>?_,fun j cU b c f=>I.good.inj j cU b ?_ ?_,I.good.own,I.good.oinj,fun g j n v b aM c=>I.good.obx g j n v b aM ?_,I.good.one,fun bl G=>I.good.otr bl (G.imp (fun⟨aQ,l,a2⟩=>⟨aQ,by rw[fD]at l;split at l;(rename_i e;subst e;simp[d]);exact l,a2⟩) id)⟩,I.fr,I.defers,I.size,I.slot,I.new⟩
      ·simp only at c;rw[fD]at c;split at c
       ·rename_i e;subst e;cases c;obtain⟨q,H,M,f1,f2,f3,f4,f5⟩:=I.good.box k cs d;have:q=bl:=by have:=x.bx k bl trivial g1;rw[this]at f1;cases f1;rfl
        subst this;rw[jP o]at g4 f4;rw[g4]at f4;injection f4 with f4;injection f4 with f4 f6 f7;refine⟨q,us,el,f1,f2,f3,by rw[jP A];exact g4,by rw[jQ A];exact m⟩
       ·exact I.good.box j F c
      ·simp only at c;rw[fD]at c;split at c
       ·rename_i e;subst e;simp[d]
       ·exact c
      ·simp only at f;rw[fD]at f;split at f
       ·rename_i e;subst e;simp[d]
       ·exact f
      ·simp only at c;rw[fD]at c;split at c
       ·rename_i e;subst e;simp[d]
       ·exact c
     ·cases he
    ·cases he
   ·cases he
  ·cases he
 ·cases he
def nk{α:Type}(k:ar)(l:List (ar×α)):List (ar×α):=match l with
 |[]=>[]
 |(i,x)::r=>if i=k then nk k r else(i,x)::nk k r
def AW{α:Type}(k j:ar):∀l:List (ar×α),ab j (nk k l)=if j=k then none else ab j l
 |[]=>by simp[nk,ab]
 |(i,x)::r=>by
  simp only[nk];by_cases h:i=k
  ·subst h;rw[if_pos rfl,AW i j r];by_cases J:j=i
   ·simp[J]
   ·have:¬i=j:=fun e=>J e.symm;simp[ab,J,this]
  ·rw[bH h];simp only[ab];by_cases J:i=j
   ·subst J;simp[h]
   ·simp only[J,if_false];exact AW k j r
def zs(agg:Bool):List aa->aT aa
 |[p]=>if agg then some (.agg [p])else some p
 |cs=>if agg then some (.agg cs)else none
def pn(st:aN)(agg:Bool)(s:Nat):aT aN:=
 match get s st.t with
 | .ptr k 0=>match ab k st.b with
  |some cs=>if et cs then match zs agg cs with
    |some x=>some {st with t:=put s (.eptr x) st.t,b:=nk k st.b}
    |none=>none
   else none
  |none=>none
 |_=>none
def RS{u:Value}(h:u.oneCell'=true):u.cells.toList=[u]:=by cases u<;>first|rfl|(simp[Value.oneCell']at h)
def GV{w:World}{A:Nat->Nat->Prop}{b:Nat}{us:Array Value}{el:ey}(c:w.heap[b]? =some (.cells us el))(d:∀o,o<us.size->A b o):∀(aJ:List Value) (off:Nat),us.toList.drop off=aJ->gS w A b off aJ
 |[],_,_=>trivial
 |v::aJ,off,h=>by
  have a:off<us.toList.length:=by
   rcases Nat.lt_or_ge off us.toList.length with I|I
   ·exact I
   ·rw[List.drop_eq_nil_of_le I]at h;cases h
  have J:=l9 a;rw[h]at J;injection J with J f;refine⟨⟨d off (by simpa using a),?_⟩,GV c d aJ (off+1) f.symm⟩;have e:off<us.size:=by simpa using a
  simp only[World.cell?,c,Option.isSome_none,hX,if_false];rw[J];simp[e]
def Nw{C:dk}{st st':aN}{a:Act}{w:World}{ν:aC}(h:bO C st a w ν){agg:Bool}{s:Nat}(he:pn st agg s=some st'):∃aI,bO C st' a w aI:=by
 unfold pn at he;split at he
 ·rename_i k U;split at he
  ·rename_i cs z;split at he
   ·rename_i H;split at he
    ·rename_i x l;cases he;obtain⟨bl,us,el,g1,g2,g3,g4,g5⟩:=h.good.box k cs z;rw[jQ H]at g5;rw[jP H]at g4;have Z:bl<w.heap.size:=by
      rcases Nat.lt_or_ge bl w.heap.size with I|I
      ·exact I
      ·rw[Array.getElem?_eq_none I]at g4;cases g4
     let aI:aC:={ν with A:=fun b o=>ν.A b o\/(b=bl/\o<us.size)}
     have ag:ij w ν w aI:=⟨fun b o c=>⟨.inl c,rfl⟩,fun j b _ d=>d,fun g n u _ Q=>⟨n,u,Q,.inl ⟨rfl,rfl⟩⟩,fun _ _ _=>rfl,fun _ _ _ _ h=>h⟩;have L:∀j f,ab j (nk k st.b)=some f->j≠k/\ab j st.b=some f:=fun j f d=>by
      rw[AW]at d;split at d
      ·cases d
      ·rename_i e;exact⟨e,d⟩
     have t:∀j,(ab j (nk k st.b)).isSome->(ab j st.b).isSome:=fun j d=>by obtain⟨f,R⟩:=dt.1 d;simp[(L j f R).2]
     have O:∀(g:ar) (n:Nat) (v:Value),(ab g st.e).isSome->ν.ow g=some (n,v)->v.ownBlock=some bl->c1:=fun g n v I J ah=>h.good.obx g k n v bl I (by simp[z]) J ah g1;have P:aw w aI (.eptr x) (a.tmps.getD s undef):=by
      have F:=h.slot s;rw[U]at F;simp only[aw]at F⊢;obtain⟨dR,N,B⟩:=F;rw[g1]at N;cases N;have E:gS w aI.A bl 0 us.toList:=GV g4 (fun o ag=>.inr ⟨rfl,ag⟩) _ 0 rfl;have g6:bL w aI cs us.toList:=Iu ag g5;unfold zs at l;split at l
      ·rename_i p;simp only[bL]at g6;obtain⟨u,M,m,r,y⟩:=g6;subst y;split at l
       ·cases l;exact⟨bl,0,.agg us,B,by simp only[aw];exact⟨us,rfl,by rw[m];simp only[bL];exact⟨u,[],rfl,r,rfl⟩⟩,by simpa[jV]using E⟩
       ·cases l;refine⟨bl,0,u,B,r.1,?_⟩;rw[RS r.2,<-m];exact E
      ·split at l
       ·cases l;exact⟨bl,0,.agg us,B,by simp only[aw];exact⟨us,rfl,g6⟩,by simpa[jV]using E⟩
       ·cases l
     refine⟨aI,xN (ν:=aI) (st:={st with b:=nk k st.b}) ⟨⟨fun b o c=>?_,fun j f d=>?_,fun j cU b I J=>h.good.inj j cU b (t j I) (t cU J),fun g o aM=>?_,h.good.oinj,fun g j n v b I J=>h.good.obx g j n v b I (t j J),h.good.one,fun b av=>h.good.otr b (av.imp (fun⟨j,Y,a2⟩=>⟨j,t j Y,a2⟩) id)⟩,⟨h.fr.os,h.fr.tape,h.fr.output,h.fr.size,h.fr.block,fun b o c=>⟨.inl (h.fr.keep b o c).1,(h.fr.keep b o c).2⟩,fun b o c=>?_,h.fr.obj,h.fr.obn,h.fr.row,h.fr.obr,h.fr.trd,h.fr.trb,h.fr.trn,h.fr.sh⟩,h.defers,h.size,fun i=>q0 ag (h.slot i),h.new⟩ P⟩
     ·rcases c with c|⟨rfl,_⟩
      ·exact h.good.alt b o c
      ·exact Z
     ·obtain⟨W,K⟩:=L j f d;obtain⟨V,M,S,f1,f2,f3,f4,f5⟩:=h.good.box j f K;refine⟨V,M,S,f1,f2,fun o c=>?_,f4,lz ag f5⟩;rcases c with c|⟨rfl,_⟩
      ·exact f3 o c
      ·exact W (h.good.inj j k _ (by simp[K]) (by simp[z]) f1 g1)
     ·obtain⟨v0,X,m,r,y,b4⟩:=h.good.own g o aM;have G:∀b,v0.ownBlock=some b->∀j,aI.A b j->ν.A b j:=fun b q j c=>by
       rcases c with c|⟨rfl,_⟩
       ·exact c
       ·exact(O g _ v0 (by simp[aM]) m q).elim
      exact⟨v0,X,m,r,fun b q=>⟨(y b q).1,fun j c=>(y b q).2 j (G b q j c)⟩,mQ ag G b4⟩
     ·rcases c with c|⟨rfl,_⟩
      ·exact h.fr.fresh b o c
      ·exact .inr g2
    ·cases he
   ·cases he
  ·cases he
 ·cases he
def mP(st:aN)(x:cq)(b:Bool):aN:=match x with
 | .t i=>{st with t:=put i (.bool b) st.t}
 | .c _=>st
def b5(P:bp)(ob:List ar):C->(Exit->aN->Prop)->aN->Prop
 | .skip,Q,st=>Q .normal st
 | .region gs,Q,st=>fA P gs st (Q .normal)
 | .drawn q N gs,Q,st=>fs P q [] st.n gs st (nY (st.n+N) st.o (Q .normal))
 | .drawnW nw N gs,Q,st=>(∀j∈nw,.obj j∉st.o)/\fs P false nw st.n gs st (nY (st.n+N) (nw.map ar.obj++st.o) (Q .normal))
 | .seq a b,Q,st=>b5 P ob a (fun e st'=>match e with| .normal=>b5 P ob b Q st'|e=>Q e st') st
 | .cond x t e,Q,st=>match bn st.t x with
  | .bool b=>(b=true->b5 P ob t Q (mP st x true))/\(b=false->b5 P ob e Q (mP st x false))
  |_=>c1
 | .block id c,Q,st=>b5 P ob c (fun e st'=>match e with| .exit j=>if j=id then Q .normal st' else Q (.exit j) st'|e=>Q e st') st
 | .loop c,Q,st=> ∃(d:Nat->aN->Prop) (m:Nat) (f:aN),fc ob st f/\d m f/\
   ∀k s,d k s->(∀i,gZ (get i s.t))->(∀j cs,ab j s.b=some cs->et cs=true->gR cs)->b5 P ob c (fun e h=>match e with| .normal=> ∃aQ g,aQ<k/\fc ob h g/\d aQ g|e=>Q e h) s
 | .exit id,Q,st=>Q (.exit id) st
 | .ret,Q,st=>Q .ret st
 | .pub s c,Q,st=>match pZ st s with
  |some st'=>b5 P ob c Q st'
  |none=>c1
 | .pubB s c,Q,st=>match sw st s with
  |some st'=>b5 P ob c Q st'
  |none=>c1
 | .fg l s c,Q,st=>b5 P ob c Q {st with t:=put s (rG l (get s st.t)) st.t}
 | .fz n s c,Q,st=>match pn st n s with
  |some st'=>b5 P ob c Q st'
  |none=>c1
 | .no,_,_=>c1
def eY(N:Nat)(aE:List (Nat×cQ)):C->Code->Bool
 | .skip,.skip=>true
 | .region gs,.region _ ops false=>hb N aE ops.toList gs ops.toList
 | .drawn _ N' gs,.region _ ops true=>N'==N&&hb N aE ops.toList gs ops.toList&&s7 gs ops.toList&&rB N gs
 | .drawnW _ N' gs,.region _ ops true=>N'==N&&hb N aE ops.toList gs ops.toList&&s7 gs ops.toList&&rB N gs
 | .seq a b,.seq x y=>eY N aE a x&&eY N aE b y
 | .cond x t e,.cond o t' g=>c4 x o&&eY N aE t t'&&eY N aE e g
 | .block id c,.block f d=>id==f&&eY N aE c d
 | .loop c,.loop d=>eY N aE c d
 | .exit id,.exit f=>id==f
 | .ret,.ret=>true
 | .pub _ c,d=>eY N aE c d
 | .pubB _ c,d=>eY N aE c d
 | .fg _ _ c,d=>eY N aE c d
 | .fz _ _ c,d=>eY N aE c d
 | .no,_=>true
 |_,_=>false
def Fh{N:Nat}{aE:List (Nat×cQ)}{ops:List Oper}:∀{gs:List b9} {os:List Oper},hb N aE ops gs os=true->gs.length=os.length
 |[],[],_=>rfl
 |[],_::_,h=>by simp[hb]at h
 |_::_,[],h=>by simp[hb]at h
 |g::gs,o::os,h=>by simp only[hb,bN]at h;simp[Fh h.2]
def yn(P:bp)(C:dk)(c:Code)(Q:Exit->aN->Prop)(st:aN):Prop:= ∀a w ν,bO C st a w ν->c.wp P (fun e bG w'=> ∃st' aI,Q e st'/\bO C st' bG w' aI) a w
def kH{P:bp}(hm:P.follows .mixedOrders=true){aE:List (Nat×cQ)}(f:e1 P aE=true){X:dk}:∀(c:C) (code:Code) (Q:Exit->aN->Prop) (st:aN),eY X.N aE c code=true->b5 P X.ob c Q st->yn P X code Q st
 | .skip,code,Q,st,ag,he=>by
  cases code<;>simp only[eY]at ag<;>try cases ag
  intro a w ν d;exact wp_skip ⟨st,ν,he,d⟩
 | .region gs,code,Q,st,ag,he=>by
  cases code<;>try(simp[eY]at ag;done)
  rename_i id ops draw;cases draw<;>simp only[eY]at ag
  ·intro a w ν d;refine wp_region ?_;have R:gs.length=ops.size:=by simpa using Fh ag
   rw[List.range_eq_range',<-R];exact EE f (K:=Q .normal) (fun st' bG w' aI I J=>⟨st',aI,I,J⟩) gs ops.toList 0 Ψ ag st a w ν he d
  ·cases ag
 | .drawn q N gs,code,Q,st,ag,he=>by
  cases code<;>try(simp[eY]at ag;done)
  rename_i id ops draw;cases draw<;>simp only[eY]at ag
  ·cases ag
  ·simp only[bN,c2]at ag;obtain⟨⟨⟨rfl,I⟩,J⟩,v⟩:=ag;intro a w ν d;exact ED hm f I J v (nw:=[]) (K:=Q .normal) (fun st' bG w' aI I J=>⟨st',aI,I,J⟩) Ψ he d
 | .drawnW nw N gs,code,Q,st,ag,he=>by
  cases code<;>try(simp[eY]at ag;done)
  rename_i id ops draw;cases draw<;>simp only[eY]at ag
  ·cases ag
  ·simp only[bN,c2]at ag;obtain⟨⟨⟨rfl,I⟩,J⟩,v⟩:=ag;intro a w ν d;exact ED hm f I J v (nw:=nw) (K:=Q .normal) (fun st' bG w' aI I J=>⟨st',aI,I,J⟩) he.1 he.2 d
 | .seq x y,code,Q,st,ag,he=>by
  cases code<;>try(simp[eY]at ag;done)
  rename_i H L;simp only[eY,bN]at ag;intro a w ν d;refine wp_seq ?_;have I:=kH hm f x H _ st ag.1 he a w ν d;refine wp_mono I fun e bG w' l=>?_;obtain⟨st',aI,g,h⟩:=l;cases e with
  |normal=>exact kH hm f y L Q st' ag.2 g bG w' aI h
  |_=>exact⟨st',aI,g,h⟩
 | .cond x t e,code,Q,st,ag,he=>by
  cases code<;>try(simp[eY]at ag;done)
  rename_i o Y ce;simp only[eY,bN]at ag;intro a w ν d;simp only[b5]at he;have z:=db d ag.1.1;split at he
  ·rename_i b B;rw[B]at z;simp only[aw]at z;have A:bO X (mP st x b) a w ν:=by
    unfold mP;split
    ·exact BL d (by simpa[bn]using B)
    ·exact d
   refine wp_cond z ?_;cases b
   ·exact kH hm f e ce Q _ ag.2 (he.2 rfl) a w ν A
   ·exact kH hm f t Y Q _ ag.1.2 (he.1 rfl) a w ν A
  ·exact he.elim
 | .block id c,code,Q,st,ag,he=>by
  cases code<;>try(simp[eY]at ag;done)
  rename_i E u;simp only[eY,bN,c2]at ag;obtain⟨rfl,ag⟩:=ag;intro a w ν d;refine wp_block ?_;refine wp_mono (kH hm f c u _ st ag he a w ν d) fun e bG w' l=>?_;obtain⟨st',aI,g,h⟩:=l;cases e with
  |exit j=>
   simp only[Exit.inBlock]at g⊢;by_cases p:j=id
   ·rw[if_pos p]at g⊢;exact⟨st',aI,g,h⟩
   ·rw[bH p]at g⊢;exact⟨st',aI,g,h⟩
  |_=>exact⟨st',aI,g,h⟩
 | .loop c,code,Q,st,ag,he=>by
  cases code<;>try(simp[eY]at ag;done)
  rename_i u;simp only[eY]at ag;intro a w ν d;simp only[b5]at he;obtain⟨O,m,F,hw,az,M⟩:=he;refine wp_loop_ghost (fun k a w=> ∃s ν,O k s/\bO X s a w ν) m ⟨F,_,az,d.weaker hw⟩ ?_;intro k a w W;obtain⟨s,ν,n,r⟩:=W;have I:=M k s n (fun i=>IB (r.slot i)) (fun j cs p=>by obtain⟨bl,us,el,_,_,_,_,g5⟩:=r.good.box j cs p;exact BO g5);refine wp_mono (kH hm f c u _ s ag I a w ν r) fun e bG w' l=>?_;obtain⟨st',aI,g,h⟩:=l;cases e with
  |normal=>obtain⟨aQ,G,S,V,U⟩:=g;exact⟨aQ,S,G,_,U,h.weaker V⟩
  |_=>exact⟨st',aI,g,h⟩
 | .exit id,code,Q,st,ag,he=>by
  cases code<;>try(simp[eY]at ag;done)
  rename_i E;simp only[eY,c2]at ag;subst ag;intro a w ν d;exact wp_exit ⟨st,ν,he,d⟩
 | .ret,code,Q,st,ag,he=>by
  cases code<;>try(simp[eY]at ag;done)
  intro a w ν d;exact wp_ret ⟨st,ν,he,d⟩
 | .pub s c,code,Q,st,ag,he=>by
  simp only[eY]at ag;simp only[b5]at he;split at he
  ·rename_i st' n;intro a w ν d;obtain⟨aI,I⟩:=R4 d n;exact kH hm f c code Q st' ag he a w aI I
  ·exact he.elim
 | .pubB s c,code,Q,st,ag,he=>by
  simp only[eY]at ag;simp only[b5]at he;split at he
  ·rename_i st' n;intro a w ν d;obtain⟨aI,I⟩:=R3 d n;exact kH hm f c code Q st' ag he a w aI I
  ·exact he.elim
 | .fg Z s c,code,Q,st,ag,he=>by simp only[eY]at ag;simp only[b5]at he;intro a w ν d;exact kH hm f c code Q _ ag he a w ν (xN d (Nf (d.slot s)))
 | .fz eD s c,code,Q,st,ag,he=>by
  simp only[eY]at ag;simp only[b5]at he;intro a w ν d;split at he
  ·rename_i st' dX;obtain⟨aI,I⟩:=Nw d dX;exact kH hm f c code Q st' ag he a w aI I
  ·exact he.elim
 | .no,code,Q,st,ag,he=>by simp only[b5]at he
inductive cg where
 |tmp (i:Nat)
 |cell (i:Nat) (agg:Bool) (sz:Nat)
def bD(st:aN):cg->aT (Prop×aa)
 | .tmp i=>some (True,get i st.t)
 | .cell i agg sz=>iZ st.b st.e agg sz (get i st.t)
def bq(st:aN):List cg->aT (Prop×List aa)
 |[]=>some (True,[])
 |r::b=>match bD st r,bq st b with
  |some (c,p),some (a,d)=>some (c/\a,p::d)
  |_,_=>none
def km(aE:List (Nat×cQ)):List cg->List ResultVar->Bool
 |[],[]=>true
 | .tmp i::a,.tmp j::os=>i==j&&km aE a os
 | .cell i agg sz::a,.cell j t::os=>i==j&&(match cY aE t with|some f=>f.size==sz&&f.kind.isAgg==agg|none=>false)&&km aE a os
 |_,_=>false
def ba:List aa->aa
 |[p]=>p
 |a=>.tuple a
def xZ(tmps:Array Value):ResultVar->Sem Value
 | .tmp t=>pure (tmps.getD t undef)
 | .cell x t=>do loadVar t (<-asAddr (tmps.getD x undef))
def ID(fn:Func)(tmps:Array Value):results fn tmps=(do let aJ<-fn.results.mapM (xZ tmps);pure (if h:aJ.size=1 then aJ[0]else .tuple aJ)):=by unfold results;congr 2
def xU{P:bp}{aE:List (Nat×cQ)}(x:e1 P aE=true){X:dk}{st:aN}{a:Act}{w:World}{ν:aC}(g:bO X st a w ν):
  ∀(h:List cg) (os:List ResultVar) (c:Prop) (s:List aa),km aE h os=true->bq st h=some (c,s)->c->
  ∃aJ,(os.mapM (xZ a.tmps)).run P w= .ok aJ w/\bT w ν s aJ
 |[],[],c,s,_,he,_=>by simp only[bq]at he;cases he;exact⟨[],Ψ,by simp[bT]⟩
 |[],_::_,_,_,ag,_,_=>by simp[km]at ag
 | .tmp _::_,[],_,_,ag,_,_=>by simp[km]at ag
 | .cell _ _ _::_,[],_,_,ag,_,_=>by simp[km]at ag
 |r::h,o::os,c,s,ag,he,aA=>by
  simp only[bq]at he;split at he
  ·rename_i K p y z I J;cases he;cases r with
   |tmp i=>
    cases o with
    |cell _ _=>simp[km]at ag
    |tmp j=>simp only[km,bN,c2]at ag;obtain⟨rfl,ag⟩:=ag;simp only[bD]at I;cases I;obtain⟨aJ,g1,g2⟩:=xU x g h os y z ag J aA.2;refine⟨a.tmps.getD i undef::aJ,?_,by simp only[bT];exact⟨_,_,rfl,g.slot i,g2⟩⟩;simp only[List.mapM_cons,dQ,xZ,eP,dV,g1]
   |cell i agg sz=>
    cases o with
    |tmp _=>simp[km]at ag
    |cell j t=>
     simp only[km,bN,c2]at ag;obtain⟨⟨rfl,m⟩,ag⟩:=ag;split at m
     ·rename_i f E;simp only[bN,c2]at m;obtain⟨rfl,rfl⟩:=m;simp only[bD]at I;obtain⟨aJ,g1,g2⟩:=xU x g h os y z ag J aA.2;obtain⟨v,f1,f2⟩:=xc x g.good E (g.slot i) I aA.1;have B:∃l,a.tmps.getD i undef= .pointer (some l):=by
       have d:=g.slot i;unfold iZ at I;split at I
       ·rename_i L k n H G U;rw[U]at d;simp only[aw]at d;obtain⟨⟨b,o,e⟩,_⟩:=d;exact⟨_,e⟩
       ·rename_i k off U;rw[U]at d;simp only[aw]at d;obtain⟨b,_,e⟩:=d;exact⟨_,e⟩
       ·rename_i q U;rw[U]at d;simp only[aw]at d;obtain⟨b,off,u,e,_⟩:=d;exact⟨_,e⟩
       ·cases I
      obtain⟨l,A⟩:=B;rw[A]at f1;simp only[Instr.loadAt,Instr.sureAddr,dQ,eP,dV]at f1;refine⟨v::aJ,?_,by simp only[bT];exact⟨_,_,rfl,f2,g2⟩⟩;have F:(asAddr (.pointer (some l)):Sem Addr).run P w= .ok l w:=rfl;simp only[List.mapM_cons,dQ,xZ,eP,dV,g1,A,F,f1]
     ·cases m
  ·cases he
def qY{w:World}{ν:aC}:∀{a:List aa} {aJ:List Value},bT w ν a aJ->aJ.length=a.length
 |[],aJ,h=>by simp only[bT]at h;subst h;rfl
 |p::a,aJ,h=>by simp only[bT]at h;obtain⟨u,b,rfl,_,J⟩:=h;simp[qY J]
def fG:Nat->List aa->List (Nat×aa)
 |_,[]=>[]
 |i,p::a=>(i,p)::fG (i+1) a
def v8:∀(a:List aa) (i j:Nat),get j (fG i a)=if i<=j/\j<i+a.length then a.getD (j-i) .junk else .junk
 |[],i,j=>by simp[fG,get]
 |p::a,i,j=>by
  simp only[fG,get];by_cases h:i=j
  ·subst h;simp
  ·rw[bH h,v8 a (i+1) j];by_cases J:i<=j/\j<i+(p::a).length
   ·rw[if_pos J,if_pos (by simp at J⊢;omega)];have:j-i=(j-(i+1))+1:=Ω
    rw[this];simp
   ·rw[bH J,bH (by simp at J⊢;omega)]
def iD{α:Type}(a:b1):List (ar×α)->Prop
 |[]=>True
 |(k,_)::r=>a7 a k/\iD a r
def pL{α:Type}{a:b1}:∀{l:List (ar×α)},iD a l->∀k,(ab k l).isSome->a7 a k
 |[],_,k,h=>by simp[ab]at h
 |(i,x)::r,U,k,h=>by
  simp only[iD]at U;simp only[ab]at h;split at h
  ·rename_i e;subst e;exact U.1
  ·exact pL U.2 k h
def eX(d:List cg)(s:b1)(Q:aa->b1->Prop)(e:Exit)(st:aN):Prop:=
 (e= .ret\/e= .normal)/\match bq st d with
  |some (c,b)=>c/\∃a,iD a s.b/\iD a s.e/\ko (a7 a) a.b st.b/\lB (a7 a) a.e st.e/\e7 a/\aR (a7 a) (bE (ba b))/\Q (bE (ba b)) a
  |none=>c1
def cf.ofW{P:bp}{aE:List (Nat×cQ)}(av:e1 P aE=true){f:FuncId}{fn:Func}(aH:P.funcs[f]? =some fn){code:Code}(af:fn.body=some code)(oF:(fn.name== "runtime.NumGoroutine")=false){cV:List cg}(kQ:km aE cV fn.results.toList=true)
  {args:List aa} (ao:args.length<=fn.ntmps) {s:b1} (iz:e7 s) {Q:aa->b1->Prop} (he:∀X:dk,X.N=fn.ntmps->X.ob=b2 s->(∀b o,X.ν0.A b o->b<X.w0.heap.size)->gQ args->(∀j cs,ab j s.b=some cs->et cs=true->gR cs)->yn P X code (eX cV s Q) ⟨fG 0 args,s.b,s.e,0,b2 s⟩):cf P f args s Q:=by
 intro w ν aJ aM ad aq;refine .inl ⟨⟨fn,aH,by simp[af],oF⟩,?_⟩;have jo:=qY aq;have jL:aJ.size=args.length:=by simpa using jo
 let X:dk:=⟨w,ν,dE ν s,fn.ntmps,b2 s⟩
 have iT:∀k,fresh 0 (b2 s) k->ν.bx k=none/\ν.ow k=none/\∀j b,¬ν.tr k j b:=by
  intro k U;cases k with
  |loc m=>exact⟨(ad _).1 (iz.1 m),(ad _).2.1 (iz.2 m),(ad _).2.2⟩
  |obj m=>
   simp only[fresh,true_and]at U;refine⟨?_,?_,(ad _).2.2⟩
   ·refine(ad _).1 ?_;cases h:ab (.obj m) s.b with
    |none=>rfl
    |some x=>exact absurd (mJ (.inl (by simp[h]))) U
   ·refine(ad _).2.1 ?_;cases h:ab (.obj m) s.e with
    |none=>rfl
    |some x=>exact absurd (mJ (.inr (by simp[h]))) U
 have hy:∀m,(ν.bx (.obj m)≠none\/ν.ow (.obj m)≠none)-> .obj m∈b2 s:=by
  intro m hm;refine Classical.byContradiction fun aA=>?_;obtain⟨I,J,_⟩:=iT (.obj m) ⟨trivial,aA⟩;rcases hm with hm|hm
  ·exact hm I
  ·exact hm J
 have lp:bO X ⟨fG 0 args,s.b,s.e,0,b2 s⟩ {tmps:=aJ++Array.replicate (fn.ntmps-aJ.size) undef,defers:=[]} w ν:=by
  refine⟨⟨aM.alt,fun k cs U=>?_,aM.inj,fun g o cX=>?_,aM.oinj,aM.obx,aM.one,aM.otr⟩,⟨rfl,rfl,rfl,di _,fun _ _ _=>rfl,fun b o h=>⟨h,rfl⟩,fun b o h=>.inl h,fun n b h=>h,fun n b h=>hy n (.inl (by rw[h];simp)),fun m n u h=>⟨n,u,h,.inl ⟨rfl,rfl⟩⟩,fun m n u h=>hy m (.inr (by rw[h];simp)),fun k j _ _ b h=>absurd h ((ad k).2.2 j b),fun k j b h=>absurd h ((ad k).2.2 j b),fun k j b h=>absurd h ((ad k).2.2 j b),fun _ _ _=>rfl⟩,rfl,?_,fun i=>?_,iT⟩
  ·obtain⟨bl,us,el,g1,g2,g3⟩:=aM.box k cs U;exact⟨bl,us,el,g1,.inl g2,g3⟩
  ·obtain⟨v,us,g1,g2,g3,g4⟩:=aM.own g o cX;exact⟨v,us,g1,g2,fun bl fe=>⟨.inl (g3 bl fe).1,(g3 bl fe).2⟩,g4⟩
  ·show(aJ++Array.replicate (fn.ntmps-aJ.size) undef).size=fn.ntmps;simp;omega
  ·rw[v8];by_cases az:i<args.length
   ·rw[if_pos Ω];have lS:args[i]? =some args[i]:=cl az;obtain⟨v,ai,aD⟩:=uJ i aq lS;have aW:(aJ++Array.replicate (fn.ntmps-aJ.size) undef).getD i undef=v:=by
     have pe:aJ[i]? =some v:=by simpa using ai
     rw[Array.getD_eq_getD_getElem?,Array.getElem?_append_left Ω,pe];rfl
    show aw w ν _ ((aJ++Array.replicate (fn.ntmps-aJ.size) undef).getD i undef);rw[aW];simpa[List.getD,lS]using aD
   ·rw[bH Ω];simp[aw]
 have AD:=he X rfl rfl aM.alt (BS aq) (fun j cs au=>by obtain⟨bl,us,el,_,_,_,_,g5⟩:=aM.box j cs au;exact BO g5) _ w ν lp;refine calls_of_wp aH af (wp_mono AD fun e bG w' bM=>?_);obtain⟨st',aI,⟨mu,bb⟩,bX⟩:=bM;cases kP:bq st' cV with
 |none=>simp[kP]at bb
 |some x=>
  obtain⟨fC,aU⟩:=x;simp only[kP]at bb;obtain⟨ix,ak,kb,ke,a8,bK,cz,c5,cD⟩:=bb;obtain⟨ju,g1,g2⟩:=xU av bX cV fn.results.toList fC aU kQ kP ix;have wP:=qY g2;have iS:bG.defers=[]/\∃v,(results fn bG.tmps).run P w'= .ok v w'/\(fun(e:Ending) w'=> ∃v r ak aI,e= .returned v/\Q r ak/\aw w' aI r v/\Good (fun bl=>dE ν s bl\/w.heap.size<=bl) w' aI ak.b ak.e/\kI aI ak/\e7 ak/\kA ⟨w,ν,dE ν s,0,b2 s⟩ w' aI) (.returned v) w':=by
   refine⟨bX.defers,?_⟩;have fW:(results fn bG.tmps).run P w'= .ok (if h:ju.toArray.size=1 then ju.toArray[0]else .tuple ju.toArray) w':=by rw[ID];simp only[dQ,Array.mapM_eq_mapM_toList,Sem.run_map,g1,dV,eP]
   refine⟨_,fW,_,bE (ba aU),ak,aI.cut (a7 ak),rfl,cD,?_,bX.good.cut a8 bK (fun bl h _=>h),?_,cz,?_⟩
   ·have iU:aw w' aI (ba aU) (if h:ju.toArray.size=1 then ju.toArray[0]else .tuple ju.toArray):=by
     match aU,ju,g2,wP with
     |[p],[v],g2,_=>simp only[bT]at g2;obtain⟨u,aY,ai,aD,_⟩:=g2;cases ai;simpa[ba]using aD
     |[],[],g2,_=>simp[ba,aw,bT]
     |p::eU::aU,v::v2::ju,g2,_=>rw[dif_neg Ψ];simp only[ba,aw];exact⟨_,rfl,by simpa using g2⟩
     |[_],[],_,h=>simp at h
     |[],_::_,_,h=>simp at h
     |[_],_::_::_,_,h=>simp at h
     |_::_::_,[],_,h=>simp at h
     |_::_::_,[_],_,h=>simp at h
    exact nP (jC.cut _ w' aI) _ _ c5 (p0 _ _ iU)
   ·intro k;refine⟨?_,?_,?_⟩;rotate_left 2
    ·rintro j b ⟨aj,af⟩;obtain⟨t1,t2⟩:=bX.fr.trn k j b af;rcases aj with aj|aj<;>obtain⟨x,lr⟩:=dt.1 aj
     ·obtain⟨bl,aY,el,ai,_⟩:=bX.good.box k x (a8 k x lr).1;rw[t1]at ai;cases ai
     ·obtain⟨v',aY,ai,_⟩:=bX.good.own k x (bK k x lr).1;rw[t2]at ai;cases ai
    ·intro U;by_cases aj:a7 ak k
     ·rw[aC.cut_bx aj];rcases aj with aj|aj
      ·rw[U]at aj;cases aj
      ·obtain⟨x,lr⟩:=dt.1 aj;obtain⟨v',aY,ai,_⟩:=bX.good.own k x (bK k x lr).1;rcases bX.good.one k with I|I
       ·exact I
       ·rw[I]at ai;cases ai
     ·exact(aC.cut_no aj).1
    ·intro U;by_cases aj:a7 ak k
     ·rw[aC.cut_ow aj];rcases aj with aj|aj
      ·obtain⟨x,lr⟩:=dt.1 aj;obtain⟨bl,aY,el,ai,_⟩:=bX.good.box k x (a8 k x lr).1;rcases bX.good.one k with I|I
       ·rw[I]at ai;cases ai
       ·exact I
      ·rw[U]at aj;cases aj
     ·exact(aC.cut_no aj).2.1
   ·refine⟨bX.fr.os,bX.fr.tape,bX.fr.output,bX.fr.size,bX.fr.block,bX.fr.keep,bX.fr.fresh,fun n b h=>?_,fun n b h=>hy n (.inl (by rw[h];simp)),fun m n u h=>?_,fun m n u h=>hy m (.inr (by rw[h];simp)),fun k j aQ cU b I J=>bX.fr.trd k j aQ cU b I.2 J.2,fun k j b af=>bX.fr.trb k j b af.2,fun k j b af=>(by rw[aC.cut_bx af.1,aC.cut_ow af.1];exact bX.fr.trn k j b af.2),bX.fr.sh⟩
    ·have aj:a7 ak (.obj n):=by
      cases ao:ab (.obj n) s.b with
      |none=>rw[(ad _).1 ao]at h;cases h
      |some x=>exact pL kb _ (by simp[ao])
     rw[aC.cut_bx aj];exact bX.fr.obj n b h
    ·have aj:a7 ak (.obj m):=by
      cases ao:ab (.obj m) s.e with
      |none=>rw[(ad _).2.1 ao]at h;cases h
      |some x=>exact pL ke _ (by simp[ao])
     rw[aC.cut_ow aj];exact bX.fr.row m n u h
  rcases mu with rfl|rfl<;>exact iS
def cf.of{P:bp}(hm:P.follows .mixedOrders=true){aE:List (Nat×cQ)}(av:e1 P aE=true){f:FuncId}{fn:Func}(aH:P.funcs[f]? =some fn){code:Code}(af:fn.body=some code)(oF:(fn.name== "runtime.NumGoroutine")=false){c:C}(aA:eY fn.ntmps aE c code=true){cV:List cg}(kQ:km aE cV fn.results.toList=true)
  {args:List aa} (ao:args.length<=fn.ntmps) {s:b1} (iz:e7 s) {Q:aa->b1->Prop} (he:gQ args->(∀j cs,ab j s.b=some cs->et cs=true->gR cs)->b5 P (b2 s) c (eX cV s Q) ⟨fG 0 args,s.b,s.e,0,b2 s⟩):cf P f args s Q:=
 cf.ofW av aH af oF kQ ao iz fun X j8 pG _ I J=>kH hm av c code _ _ (by rw[j8];exact aA) (by rw[pG];exact he I J)
def cJ(aE:List (Nat×cQ))(c:C)(cV:List cg)(Ba:Nat)(fn:Func):Bool:=
 match fn.body with
 |some code=>eY fn.ntmps aE c code&&km aE cV fn.results.toList&& !(fn.name== "runtime.NumGoroutine")&&decide (Ba<=fn.ntmps)
 |none=>false
def cf.mk{P:bp}(hm:P.follows .mixedOrders=true){aE:List (Nat×cQ)}(e:e1 P aE=true){f:FuncId}{fn:Func}(k:P.funcs[f]? =some fn){c:C}{b:List cg}{n:Nat}(a:cJ aE c b n fn=true)
  {args:List aa} (g:args.length<=n) {s:b1} (d:e7 s) {Q:aa->b1->Prop} (he:gQ args->(∀j cs,ab j s.b=some cs->et cs=true->gR cs)->b5 P (b2 s) c (eX b s Q) ⟨fG 0 args,s.b,s.e,0,b2 s⟩):cf P f args s Q:=by
 unfold cJ at a;split at a
 ·rename_i code i;simp only[bN,Bool.not_eq_true',e3]at a;obtain⟨⟨⟨I,J⟩,h⟩,l⟩:=a;exact cf.of hm e k i h I J (jB g l) d he
 ·cases a
def nL:e7 ⟨[],[]⟩:=⟨fun _=>rfl,fun _=>rfl⟩
def b3(a:List cg)(r:aa)(e:Exit)(st:aN):Prop:=
 (e= .ret\/e= .normal)/\match bq st a with
  |some (c,b)=>c/\bE (ba b)=r
  |none=>c1
def CM{a:List cg}{r:aa}(f:aR (fun _=>c1) r):b3 a r=eX a ⟨[],[]⟩ (fun d b=>d=r/\b=⟨[],[]⟩):=by
 funext e st;unfold b3 eX;apply propext;refine and_congr_right fun _=>?_;cases bq st a with
 |none=>exact Iff.rfl
 |some x=>
  obtain⟨c,g⟩:=x;refine and_congr_right fun _=>?_;constructor
  ·intro h;refine⟨⟨[],[]⟩,trivial,trivial,fun k cs U=>by simp[ab]at U,fun k cs U=>by simp[ab]at U,nL,?_,h,rfl⟩;rw[h];exact oN (fun k U=>U.elim) r f
  ·rintro⟨b,_,_,_,_,_,_,h,_⟩;exact h
def ct.mk{P:bp}(hm:P.follows .mixedOrders=true){aE:List (Nat×cQ)}(d:e1 P aE=true){f:FuncId}{fn:Func}(h:P.funcs[f]? =some fn){c:C}{a:List cg}{n:Nat}(b:cJ aE c a n fn=true)
  {args:List aa} (g:args.length<=n) {r:aa} (e:aR (fun _=>c1) r) (he:gQ args->b5 P [] c (b3 a r) ⟨fG 0 args,[],[],0,[]⟩):ct P f args r:=by
 refine cf.mk hm d h b g nL fun I _=>?_;rw[<-CM e];exact he I
def sT{α:Type}{β:Type}:∀l:List (ar×α),dy ([]:List (ar×β)) l=l
 |[]=>rfl
 |(k,x)::r=>by simp[dy,ab,sT r]
def CallDo.val{P:bp}{n:Nat}{args:List aa}{st:aN}{d:aT Nat}{K:aN->Prop}{r:aa}(U:aV (fun _=>c1) args)(b:ct P n args r)(h:K {st with t:=dH d r st.t}):CallDo P n args st d K:=by
 refine .inl ⟨⟨[],[]⟩,_,fun k cs U=>by simp[ab]at U,fun k cs U=>by simp[ab]at U,nL,hg (fun _ h=>h.elim) _ U,b,?_⟩;rintro a c ⟨rfl,rfl⟩;refine⟨⟨fun m h=>by simp[ab]at h,fun m h=>by simp[ab]at h⟩,?_⟩;have:after st ⟨[],[]⟩ ⟨[],[]⟩ d a={st with t:=dH d a st.t}:=by simp[after,sT,b2]
 rw[this];exact h
@[reducible,simp] def fI(n:Int):cq:= .c (.int .i64 n)
@[reducible,simp] def ae(a b:Nat):b9:=⟨none,.s (.v a (.mov (.t b)))⟩
@[reducible,simp] def cd(a:Nat)(i:ee):b9:=⟨none,.s (.v a i)⟩
@[reducible,simp] def hH(i:c9):b9:=⟨none,.s i⟩
@[reducible,simp] def gW(a f:Nat)(l:List cq):b9:=⟨none,.call (some a) (.c (.func f [])) l⟩
@[reducible,simp] def dc(j:Nat)(w:Bool)(a b:Nat):b9:=⟨some (j,w),.s (.v a (.mov (.t b)))⟩
@[reducible,simp] def u7(j:Nat)(w:Bool)(a:Nat)(i:ee):b9:=⟨some (j,w),.s (.v a i)⟩
@[reducible,simp] def ys(j:Nat)(w:Bool)(i:c9):b9:=⟨some (j,w),.s i⟩
@[reducible,simp] def eO(d s a b:Nat):b9:=cd d (.iaddr s (.t a) (.t b))
@[reducible,simp] def bh(d s a:Nat):b9:=cd d (.load false s (.t a))
@[reducible,simp] def bP(d s a:Nat):b9:=cd d (.load true s (.t a))
@[reducible,simp] def bu(d o s a:Nat):b9:=cd d (.faddr o false s (.t a))
@[reducible,simp] def HJ(d o s a:Nat):b9:=cd d (.faddr o true s (.t a))
@[reducible,simp] def bV(d:Nat)(o:BinOp)(a b:Nat):b9:=cd d (.bin o false (.t a) (.t b))
@[reducible,simp] def br(d:Nat)(o:BinOp)(a:Nat)(n:Int):b9:=cd d (.bin o false (.t a) (fI n))
@[reducible,simp] def eu(d a:Nat):b9:=cd d (.len (.t a))
@[reducible,simp] def gU(d a:Nat):b9:=cd d (.notB (.t a))
@[reducible,simp] def kX(d i a:Nat):b9:=cd d (.ext i (.t a))
@[reducible,simp] def hj(d a b:Nat):b9:=cd d (.pick (.t a) (.c (.bool true)) (.t b))
@[reducible,simp] def fL(d a b:Nat):b9:=cd d (.pick (.t a) (.t b) (.c (.bool false)))
@[reducible,simp] def dg(d:Nat)(b:Bool):b9:=cd d (.mov (.c (.bool b)))
@[reducible,simp] def cp(d:Nat)(n:Int):b9:=cd d (.mov (fI n))
@[reducible,simp] def cZ(s a b:Nat):b9:=hH (.store s (.t a) (.t b))
@[reducible,simp] def bk(j:Nat)(w:Bool)(x:b9):b9:=⟨some (j,w),x.i⟩
@[reducible,simp] def al(l:List b9)(c:C):C:= .seq (.region l) c
@[reducible,simp] def bz(n:Nat)(a b:C):C:= .cond (.t n) a b
@[reducible,simp] def lD(d a:Nat)(l:List cq):b9:=⟨none,.call (some d) (.t a) l⟩
@[reducible,simp] def eJ(d f a:Nat):b9:=gW d f [.t a]
@[reducible,simp] def c8(d f a b:Nat):b9:=gW d f [.t a,.t b]
@[reducible,simp] def e0:List aa:=[.int .i64 0,.int .i64 0,.str [],.slice 4 .nil []]
@[reducible,simp] def AT:List aa:=[.int .i64 0,.int .i64 0,.int .i64 0,.str [],.slice 4 .nil []]
@[reducible,simp] def ed(a b:Nat):b9:=hH (.box a none (.t b))
@[reducible,simp] def fM(a:Nat)(l:List aa):b9:=hH (.alloc a none (.agg l))
@[reducible,simp] def iK(a n:Nat):b9:=cd a (.mov (.c (.slice n .nil [])))
@[reducible,simp] def k7(a b c d e:Nat):b9:=hH (.app a b c (.t d) (.t e))
@[reducible,simp] def gN(a b c:Nat)(l:List cq):b9:=hH (.bsl a b c l)
@[reducible,simp] def jf(d s a:Nat)(n:Int):b9:=cd d (.iaddr s (.t a) (fI n))
@[reducible,simp] def nT(d:Nat)(l:List aa)(m:List (Nat×Nat×cq)):b9:=cd d (.build l m)
@[reducible,simp] def mW(a b c:Nat)(x:C):C:= .block 0 (.loop (al [bV a .lss b c] (.seq (bz a .skip (.exit 0)) x)))
@[reducible,simp,match_pattern] def aB(n:Int):aa:= .int .i64 n
@[reducible,simp,match_pattern] def hW(l:List aa):aa:= .slice 1 .no l
@[reducible,simp,match_pattern] def XR(l:List aa):aa:= .slice 2 .no l
@[reducible,simp,match_pattern] def b8(l:List aa):aa:= .slice 4 .no l
@[reducible,simp,match_pattern] def gv(l:List aa):aa:= .slice 5 .no l
end
section
open Go Go.RowKit
def pg{α:Type}{l:List α}{i:Nat}(h:i<l.length):∃b,l[i]? =some b/\∀h,(l[i]'h)=b:=⟨l[i],cl h,fun _=>rfl⟩
def B2(st:aN)(i:c9):Prop:=match iF st i with|some (c,_)=>c|none=>c1
def B3(st:aN)(i:c9):aN:=match iF st i with|some (_,s)=>s|none=>st
def vc(P:bp)(r:List b9)(K:aN->Prop)(st:aN):Prop:=fA P r st K
def rr(P:bp)(ob:List ar)(c:C)(Q:Exit->aN->Prop)(st:aN):Prop:=b5 P ob c Q st
def lj(P:bp)(v:aa)(s:Nat)(w:Bool)(i:c6)(r:List b9)(st:aN)(K:aN->Prop):Prop:=
 match v with
 | .bool b=>(b=w->fA P (⟨none,i⟩::r) {st with t:=put s (.bool w) st.t} K)/\(b= !w->fA P r {st with t:=dH i.dst (.tuple []) (put s (.bool !w) st.t)} K)
 | .tuple []=>fA P r {st with t:=dH i.dst (.tuple []) st.t} K
 |_=>c1
def oe(P:bp)(ob:List ar)(v:aa)(x:cq)(t e:C)(Q:Exit->aN->Prop)(st:aN):Prop:=
 match v with
 | .bool b=>(b=true->b5 P ob t Q (mP st x true))/\(b=false->b5 P ob e Q (mP st x false))
 |_=>c1
def zf(P:bp)(v:aa)(d:aT Nat)(xs:List aa)(r:List b9)(st:aN)(K:aN->Prop):Prop:=
 match v with
 | .func n cx=>CallDo P n (bt (xs++cx)) st d (vc P r K)
 |_=>c1
section
variable {P:bp} {ob:List ar} {st:aN} {K:aN->Prop} {r:List b9} {Q:Exit->aN->Prop} {a b c t e:C}
def Mh:fA P [] st K=K st:=rfl
def Mi{i:c9}:fA P (⟨none,.s i⟩::r) st K=(B2 st i/\fA P r (B3 st i) K):=by
 simp only[fA,od,B2,B3];cases iF st i with
 |none=>simp
 |some x=>rfl
def Me{d:aT Nat}{f:cq}{xs:List cq}:fA P (⟨none,.call d f xs⟩::r) st K=zf P (bn st.t f) d (xs.map (bn st.t)) r st K:=by simp only[fA,od,zf];rfl
def Mg{d:Nat}{x:cq}:fA P (⟨none,.next d x⟩::r) st K=qm st d (bn st.t x) (vc P r K):=by simp only[fA,od];rfl
def rp(P:bp)(ob:List ar)(c:C)(Q:Exit->aN->Prop):aT aN->Prop
 |some st=>b5 P ob c Q st
 |none=>c1
def J8:rp P ob c Q (some st)=b5 P ob c Q st:=rfl
def LR{s:Nat}:b5 P ob (.pub s c) Q st=rp P ob c Q (pZ st s):=by simp only[b5];cases pZ st s<;>rfl
def LN{a:Bool}{s:Nat}:b5 P ob (.fg a s c) Q st=b5 P ob c Q {st with t:=put s (rG a (get s st.t)) st.t}:=rfl
def LO{a:Bool}{s:Nat}{d:C}:b5 P ob (.seq (.fg a s c) d) Q st=b5 P ob (.seq c d) Q {st with t:=put s (rG a (get s st.t)) st.t}:=rfl
def LP{a:Bool}{s:Nat}:b5 P ob (.fz a s c) Q st=rp P ob c Q (pn st a s):=by simp only[b5];cases pn st a s<;>rfl
def LQ{a:Bool}{s:Nat}{d:C}:b5 P ob (.seq (.fz a s c) d) Q st=rp P ob (.seq c d) Q (pn st a s):=by simp only[b5];cases pn st a s<;>rfl
def LS{s:Nat}:b5 P ob (.pubB s c) Q st=rp P ob c Q (sw st s):=by simp only[b5];cases sw st s<;>rfl
def Md{n:Nat}{cx:List aa}{d:aT Nat}{xs:List aa}:zf P (.func n cx) d xs r st K=CallDo P n (bt (xs++cx)) st d (vc P r K):=rfl
def Mf{s:Nat}{w:Bool}{i:c6}:fA P (⟨some (s,w),i⟩::r) st K=lj P (get s st.t) s w i r st K:=by simp only[fA,lj];try rfl
def Mn{s:Nat}{i:c6}:lj P (.bool true) s true i r st K=fA P (⟨none,i⟩::r) {st with t:=put s (.bool true) st.t} K:=by simp[lj]
def Mj{s:Nat}{i:c6}:lj P (.bool false) s false i r st K=fA P (⟨none,i⟩::r) {st with t:=put s (.bool false) st.t} K:=by simp[lj]
def Mm{s:Nat}{i:c6}:lj P (.bool true) s false i r st K=fA P r {st with t:=dH i.dst (.tuple []) (put s (.bool true) st.t)} K:=by simp[lj]
def Mk{s:Nat}{i:c6}:lj P (.bool false) s true i r st K=fA P r {st with t:=dH i.dst (.tuple []) (put s (.bool false) st.t)} K:=by simp[lj]
def Ml{s:Nat}{w:Bool}{i:c6}:lj P (.tuple []) s w i r st K=fA P r {st with t:=dH i.dst (.tuple []) st.t} K:=by simp[lj]
def cT{x:Bool}{s:Nat}{w:Bool}{i:c6}(I:x=w->fA P (⟨none,i⟩::r) {st with t:=put s (.bool w) st.t} K)(J:x= !w->fA P r {st with t:=dH i.dst (.tuple []) (put s (.bool !w) st.t)} K):lj P (.bool x) s w i r st K:=⟨I,J⟩
def LB:b5 P ob (.seq (.seq a b) c) Q st=b5 P ob (.seq a (.seq b c)) Q st:=by simp only[b5];congr 1;funext e st';cases e<;>rfl
def LY:b5 P ob (.seq .skip c) Q st=b5 P ob c Q st:=rfl
def LW:b5 P ob (.seq .ret c) Q st=Q .ret st:=rfl
def LL{n:Nat}:b5 P ob (.seq (.exit n) c) Q st=Q (.exit n) st:=rfl
def LZ:b5 P ob .skip Q st=Q .normal st:=rfl
def LX:b5 P ob .ret Q st=Q .ret st:=rfl
def LM{n:Nat}:b5 P ob (.exit n) Q st=Q (.exit n) st:=rfl
def LU{gs:List b9}:b5 P ob (.seq (.region gs) c) Q st=fA P gs st (rr P ob c Q):=rfl
def LV{gs:List b9}:b5 P ob (.region gs) Q st=fA P gs st (Q .normal):=rfl
def LF{x:cq}:b5 P ob (.seq (.cond x t e) c) Q st=oe P ob (bn st.t x) x (.seq t c) (.seq e c) Q st:=by simp only[b5,oe];try rfl
def LG{x:cq}:b5 P ob (.cond x t e) Q st=oe P ob (bn st.t x) x t e Q st:=by simp only[b5,oe];try rfl
def L1{x:cq}:oe P ob (.bool true) x t e Q st=b5 P ob t Q (mP st x true):=by simp[oe]
def L0{x:cq}:oe P ob (.bool false) x t e Q st=b5 P ob e Q (mP st x false):=by simp[oe]
def cN{v:Bool}{x:cq}(I:v=true->b5 P ob t Q (mP st x true))(J:v=false->b5 P ob e Q (mP st x false)):oe P ob (.bool v) x t e Q st:=⟨I,J⟩
def rk(P:bp)(ob:List ar)(id:Nat)(c:C)(Q:Exit->aN->Prop)(e:Exit)(st:aN):Prop:=
 match e with
 | .normal=>b5 P ob c Q st
 | .exit j=>if j=id then b5 P ob c Q st else Q (.exit j) st
 |e=>Q e st
def LC{id:Nat}:b5 P ob (.seq (.block id a) c) Q st=b5 P ob a (rk P ob id c Q) st:=by
 simp only[b5];congr 1;funext e st';cases e with
 |exit j=>rfl
 |_=>rfl
def LD{id:Nat}:b5 P ob (.block id a) Q st=b5 P ob a (rk P ob id .skip Q) st:=by
 simp only[b5];congr 1;funext e st';cases e with
 |exit j=>simp only[rk];by_cases b:j=id<;>simp[b,b5]
 |_=>rfl
def J0{id:Nat}:rk P ob id c Q .normal st=rr P ob c Q st:=rfl
def JZ{id j:Nat}:rk P ob id c Q (.exit j) st=if j=id then rr P ob c Q st else Q (.exit j) st:=rfl
def J1{id:Nat}:rk P ob id c Q .ret st=Q .ret st:=rfl
def cP(ob:List ar)(b:Nat->aN->Prop)(k:Nat)(Q:Exit->aN->Prop)(e:Exit)(st:aN):Prop:=
 match e with
 | .normal=> ∃aQ a,aQ<k/\fc ob st a/\b aQ a
 |e=>Q e st
def yq{b:Nat->aN->Prop}{k:Nat}:cP ob b k Q .normal st= ∃aQ a,aQ<k/\fc ob st a/\b aQ a:=rfl
def J6{a:Nat->aN->Prop}{k n:Nat}:cP ob a k Q (.exit n) st=Q (.exit n) st:=rfl
def J7{a:Nat->aN->Prop}{k:Nat}:cP ob a k Q .ret st=Q .ret st:=rfl
def mj(b:Nat->aN->Prop)(m:Nat)(c:aN)(hw:fc ob st c)(g:b m c)(h:∀k s,b k s->(∀i,gZ (get i s.t))->(∀j cs,ab j s.b=some cs->et cs=true->gR cs)->b5 P ob a (cP ob b k Q) s):b5 P ob (.loop a) Q st:=by
 simp only[b5];refine⟨b,m,c,hw,g,fun k s I J n=>?_⟩;have:=h k s I J n;have l:(cP ob b k Q)=(fun e d=>match e with| .normal=> ∃aQ f,aQ<k/\fc ob d f/\b aQ f|e=>Q e d):=by funext e d;cases e<;>rfl
 rw[l]at this;exact this
end
/-Regions bR draw hl order. -/
def B0(n0:Nat)(st:aN)(i:c9):Prop:=match dj (kE n0 i) st.n (kE n0 i::st.o) st i with|some (c,_)=>c|none=>c1
def B1(n0:Nat)(st:aN)(i:c9):aN:=match dj (kE n0 i) st.n (kE n0 i::st.o) st i with|some (_,s)=>s|none=>st
def yt(P:bp)(q:Bool)(nw:List Nat)(n0:Nat)(r:List b9)(K:aN->Prop)(st:aN):Prop:=fs P q nw n0 r st K
def lh(P:bp)(q:Bool)(nw:List Nat)(n0:Nat)(v:aa)(s:Nat)(w:Bool)(i:c6)(r:List b9)(st:aN)(K:aN->Prop):Prop:=
 match v with
 | .bool b=>(b=w->fs P q nw n0 (⟨none,i⟩::r) {st with t:=put s (.bool w) st.t} K)/\(b= !w->fs P q nw n0 r {st with t:=dH i.dst (.tuple []) (put s (.bool !w) st.t)} K)
 | .tuple []=>fs P q nw n0 r {st with t:=dH i.dst (.tuple []) st.t} K
 |_=>c1
def zd(P:bp)(q:Bool)(nw:List Nat)(n0:Nat)(v:aa)(d:aT Nat)(xs:List aa)(r:List b9)(st:aN)(K:aN->Prop):Prop:=
 match v with
 | .func n cx=>jY P q nw n (bt (xs++cx)) st d (yt P q nw n0 r K)
 |_=>c1
section
variable {P:bp} {ob:List ar} {st:aN} {K:aN->Prop} {r:List b9} {Q:Exit->aN->Prop} {c:C} {q:Bool} {nw:List Nat} {n0 N:Nat}
def L5:fs P q nw n0 [] st K=K st:=rfl
def L6{i:c9}:fs P q nw n0 (⟨none,.s i⟩::r) st K=(iu q nw n0 st i/\B0 n0 st i/\fs P q nw n0 r (B1 n0 st i) K):=by
 simp only[fs,ha,B0,B1];cases dj (kE n0 i) st.n (kE n0 i::st.o) st i with
 |none=>simp
 |some x=>rfl
def L3{d:aT Nat}{f:cq}{xs:List cq}:fs P q nw n0 (⟨none,.call d f xs⟩::r) st K=zd P q nw n0 (bn st.t f) d (xs.map (bn st.t)) r st K:=by simp only[fs,ha,zd];rfl
def L2{n:Nat}{cx:List aa}{d:aT Nat}{xs:List aa}:zd P q nw n0 (.func n cx) d xs r st K=jY P q nw n (bt (xs++cx)) st d (yt P q nw n0 r K):=rfl
def L4{s:Nat}{w:Bool}{i:c6}:fs P q nw n0 (⟨some (s,w),i⟩::r) st K=lh P q nw n0 (get s st.t) s w i r st K:=by simp only[fs,lh];try rfl
def Mb{s:Nat}{i:c6}:lh P q nw n0 (.bool true) s true i r st K=fs P q nw n0 (⟨none,i⟩::r) {st with t:=put s (.bool true) st.t} K:=by simp[lh]
def L7{s:Nat}{i:c6}:lh P q nw n0 (.bool false) s false i r st K=fs P q nw n0 (⟨none,i⟩::r) {st with t:=put s (.bool false) st.t} K:=by simp[lh]
def Ma{s:Nat}{i:c6}:lh P q nw n0 (.bool true) s false i r st K=fs P q nw n0 r {st with t:=dH i.dst (.tuple []) (put s (.bool true) st.t)} K:=by simp[lh]
def L8{s:Nat}{i:c6}:lh P q nw n0 (.bool false) s true i r st K=fs P q nw n0 r {st with t:=dH i.dst (.tuple []) (put s (.bool false) st.t)} K:=by simp[lh]
def L9{s:Nat}{w:Bool}{i:c6}:lh P q nw n0 (.tuple []) s w i r st K=fs P q nw n0 r {st with t:=dH i.dst (.tuple []) st.t} K:=by simp[lh]
def cS{x:Bool}{s:Nat}{w:Bool}{i:c6}(I:x=w->fs P q nw n0 (⟨none,i⟩::r) {st with t:=put s (.bool w) st.t} K)(J:x= !w->fs P q nw n0 r {st with t:=dH i.dst (.tuple []) (put s (.bool !w) st.t)} K):lh P q nw n0 (.bool x) s w i r st K:=⟨I,J⟩
def LH{gs:List b9}:b5 P ob (.seq (.drawn q N gs) c) Q st=fs P q [] st.n gs st (nY (st.n+N) st.o (rr P ob c Q)):=rfl
def LI{gs:List b9}:b5 P ob (.drawn q N gs) Q st=fs P q [] st.n gs st (nY (st.n+N) st.o (Q .normal)):=rfl
def LJ{gs:List b9}:b5 P ob (.seq (.drawnW nw N gs) c) Q st=((∀j∈nw,.obj j∉st.o)/\fs P false nw st.n gs st (nY (st.n+N) (nw.map ar.obj++st.o) (rr P ob c Q))):=rfl
def LK{gs:List b9}:b5 P ob (.drawnW nw N gs) Q st=((∀j∈nw,.obj j∉st.o)/\fs P false nw st.n gs st (nY (st.n+N) (nw.map ar.obj++st.o) (Q .normal))):=rfl
def jY.val{n:Nat}{args:List aa}{d:aT Nat}{r:aa}(U:aV (fun _=>c1) args)(a:ct P n args r)(h:K {st with t:=dH d r st.t}):jY P q nw n args st d K:=by
 refine .inr ⟨⟨[],[]⟩,⟨[],[]⟩,r,none,fun k cs U=>by simp[ab]at U,fun k cs U=>by simp[ab]at U,nL,nL,⟨fun k h=>.inl h,fun k h=>.inl h,fun k h=>h,fun k h=>h,fun k h=>by cases h⟩,hg (fun _ h=>h.elim) _ U,a,fun _=>⟨rfl,rfl⟩,?_⟩;have:({after st ⟨[],[]⟩ ⟨[],[]⟩ d r with o:=st.o}:aN)={st with t:=dH d r st.t}:=by simp[after,sT]
 rw[this];exact h
def bf{n:Nat}{args:List aa}{d:aT Nat}{r:aa}(a:ct P n args r)(h:K {st with t:=dH d r st.t})(U:aV (fun _=>c1) args:=by simp):jY P q nw n args st d K:=jY.val U a h
end
section
variable {k:IntKind} {n:Int} {b:Bool} {s:List cF} {sz:Nat} {tag:hI} {xs:List aa} {key:ar} {off f:Nat} {x:aa}
@[simp]def Xs:dd (.int k n)=true:=rfl
@[simp]def Xg:dd (.bool b)=true:=rfl
@[simp]def XB:dd (.str s)=true:=rfl
@[simp]def XA:dd (.slice sz tag xs)=true:=rfl
@[simp]def Xc:dd (.agg xs)=true:=rfl
@[simp]def Xy:dd (.ptr key off)=true:=rfl
@[simp]def Xo:dd (.eptr x)=true:=rfl
@[simp]def Xr{t:Nat}:dd (.iface t x)=true:=rfl
@[simp]def UB{t:Nat}:cells (.iface t x)=[.iface t x]:=rfl
@[simp]def Xi{a:aT Addr}{n c:Nat}:dd (.cst (.slice a n c))=true:=rfl
@[simp]def Xj{s}:dd (.cst (.string s))=true:=rfl
@[simp]def Xx:dd .nilp=true:=rfl
@[simp]def Xp:dd (.func f xs)=true:=rfl
@[simp]def Xq:dd (.gmap key)=true:=rfl
@[simp]def Xz{n:Nat}:dd (.row sz key n)=true:=rfl
@[simp]def UK{n:Nat}:cells (.row sz key n)=[.row sz key n]:=rfl
@[simp]def UC:cells (.int k n)=[.int k n]:=rfl
@[simp]def Us:cells (.bool b)=[.bool b]:=rfl
@[simp]def UM:cells (.str s)=[.str s]:=rfl
@[simp]def UL:cells (.slice sz tag xs)=[.slice sz tag xs]:=rfl
@[simp]def Uo:cells (.agg xs)=xs:=rfl
@[simp]def UJ:cells (.ptr key off)=[.ptr key off]:=rfl
@[simp]def Uy:cells (.eptr x)=[.eptr x]:=rfl
@[simp]def UI:cells .nilp=[.nilp]:=rfl
@[simp]def Uz:cells (.func f xs)=[.func f xs]:=rfl
@[simp]def UA:cells (.gmap key)=[.gmap key]:=rfl
end
section
variable {b:List (ar×List aa)} {e:List (ar×cw)} {agg:Bool} {sz off:Nat} {k:ar} {p:aa} {cs xs aJ:List aa} {ff:IntKind} {n i:Int} {m j:Nat} {tag:hI} {s:List cF} {C7:Bool} {lo az:aT aa}
@[simp]def Wd{a:Nat}{f:Nat}:iZ b e agg sz (.rptr a k m j f)=q1 agg sz a m j f (ab k e):=rfl
@[simp]def Wc:iZ b e agg sz (.ptr k off)=(match ab k b with
  |some cs=>if agg then some (et cs=true/\off+sz<=cs.length,.agg ((cs.drop off).take sz))else(cs[off]?).map fun p=>(et cs=true,p)
  |none=>none):=rfl
@[simp]def Wb:iZ b e agg sz (.eptr p)=if agg then some (oK sz p,p)else some (dd p=true/\cells p=[p],p):=rfl
@[simp]def Vc:tu agg sz (.eptr p)=if agg then some (oK sz p,p)else some (dd p=true/\cells p=[p],p):=rfl
@[simp]def U4{o:Nat}:ml off agg sz (.ptr k o)=some (True,.ptr k (o+off)):=rfl
@[simp]def U5{a f:Nat}:ml off agg sz (.rptr a k m j f)=some (True,.rptr a k m j (f+off)):=rfl
@[simp]def UZ:ml off agg sz (.eptr (.agg cs))=if agg then some (off+sz<=cs.length,.eptr (.agg ((cs.drop off).take sz)))else(cs[off]?).map fun p=>(dd p=true/\cells p=[p],.eptr p):=rfl
@[simp]def U7:oh off agg sz (.agg cs)=if agg then some (off+sz<=cs.length,.agg ((cs.drop off).take sz))else(cs[off]?).map fun p=>(True,p):=rfl
@[simp]def VC{a:Nat}:r2 sz (.slice a tag xs) (.int ff i)=if a=sz then some (0<=i/\i<xs.length,.eptr (xs.getD i.toNat .junk))else none:=rfl
@[simp]def VB{a:Nat}:r2 sz (.row a k m) (.int ff i)=if a=sz then some (0<=i/\i<m,.rptr a k m i.toNat 0)else none:=rfl
@[simp]def Wa{a:Nat}:sc (.slice a tag xs)=some (True,.int .i64 xs.length):=rfl
@[simp]def V9{a:Nat}:sc (.row a k m)=some (True,.int .i64 m):=rfl
@[simp]def V8{a:aT Addr}{n c:Nat}:sc (.cst (.slice a n c))=some (True,.int .i64 n):=rfl
@[simp]def Xa{s}:uS (.cst (.string s))=some (True,.int .i64 s.size):=rfl
@[simp]def Xb:uS (.str s)=some (True,.int .i64 s.length):=rfl
@[simp]def UY:rF j (.tuple aJ)=(aJ[j]?).map fun p=>(True,p):=rfl
@[simp]def WC:sm (.ptr k off)=some (True,.ptr k off):=rfl
@[simp]def WA:sm (.eptr p)=some (True,.eptr p):=rfl
@[simp]def WB:sm (.func j cs)=some (True,.func j cs):=rfl
@[simp]def WI:xp (.bool C7)=some (True,.bool (!C7)):=rfl
@[simp]def W9:x5 (.str s) (.int ff i)=some (0<=i/\i<s.length,.int .u8 (s.getD i.toNat 0).toNat):=rfl
@[simp]def XD:x8 (.str s) lo az=(match l0 0 lo,l0 s.length az with
  |some l,some h=>some (0<=l/\l<=h/\h<=s.length,.str ((s.take h.toNat).drop l.toNat))
  |_,_=>none):=rfl
@[simp]def Wf{a:Nat}:xe sz (.slice a tag xs) lo az=(if a=sz then match l0 0 lo,l0 xs.length az with
  |some l,some h=>some (0<=l/\l<=h/\h<=xs.length,.slice sz .no ((xs.take h.toNat).drop l.toNat))
  |_,_=>none else none):=rfl
def Wt{f:ar->aT (List aa)}{a:gP}{z q:aa}{ok:Bool}:oQ f a z ok (.gmap k) q=(match f k with
  |some (.hdm _ _::kvs)=>if r8 a q=false then none else match si a q kvs with
   |some (some v)=>some (True,if ok then .tuple [v,.bool true]else v)
   |some none=>some (True,if ok then .tuple [z,.bool false]else z)
   |none=>none
  |_=>none):=rfl
def Qz{f:ar->aT (List aa)}:nI f (.ptr k 0)=(match f k with
  |some [.hdi _ seen last,.gmap mk]=>match f mk with
   |some (.hdm clock borns::kvs)=>match seen.getLast? with
    |some n=>(kl n borns kvs).map fun p=>(clock=last,p)
    |none=>none
   |_=>none
  |_=>none):=rfl
@[simp]def W3{b f n' el a:Nat}:q1 agg sz b m j f (some ⟨n',el,a,some xs⟩)=(if n'=m/\a=b then
   (match xs[j]? with
    |some p=>if agg then some (dd p=true/\f+sz<=(cells p).length,.agg (((cells p).drop f).take sz))else((cells p)[f]?).map fun q=>(dd p=true,q)
    |none=>none)else none):=rfl
end
attribute [simp] LB LU LC LF LY LW LL LZ LX LM LV LD LG rr J0 JZ J1 J6 J7 Mh Mi Me Md Mf
 Mn Mj Mm Mk Ml L1 L0 B2 B3 iF e2 fG bn get put gB ls jq jr bW l0 qg wZ x9 jR n7 xD xl vE xj
 ab dH c9.dst c6.dst mP vc nh bt bE aR aV
 LH LI LJ LK L5 L6 L3 L2 L4 Mb L7 Ma L8 L9 B0 B1 dj kE iu nn ee.loadO nY yt qH et ni Mg LR LS LN LO LP LQ pn zs nk rG J8 pZ uC sw l2 kZ vo xh vn lM
def be{P:bp}{n:Nat}{args:List aa}{st:aN}{d:aT Nat}{K:aN->Prop}{r:aa}(a:ct P n args r)(h:K {st with t:=dH d r st.t})(U:aV (fun _=>c1) args:=by simp):CallDo P n args st d K:=CallDo.val U a h
def aS{a b:Prop}(d:b)(c:a:=by first|omega|(unfold r3;omega)|(unfold cH;omega)):a/\b:=⟨c,d⟩
def ev{p:Prop}(h:c1:=by first|contradiction|omega):p:=h.elim
def eA{p:Prop}(h:p:=by(try simp[*]);(repeat' first|with_reducible refine aS ?_|with_reducible refine be (by assumption) ?_|with_reducible refine bf (by assumption) ?_|simp[*]);(all_goals first|done|(simp[b3,bq,bD,ba, *];done))):p:=h
end
section
open Go Go.RowKit
structure eB (s:b1):Prop where
 obj:e7 s
 kb:∀k cs,ab k s.b=some cs->aV (a7 s) cs
 ke:∀k o,ab k s.e=some o->hh (a7 s) o
structure dW (s ak:b1):Prop where
 b:∀k,(ab k s.b).isSome=(ab k ak.b).isSome
 e:∀k,(ab k s.e).isSome=(ab k ak.e).isSome
def dW.refl(s:b1):dW s s:=⟨fun _=>rfl,fun _=>rfl⟩
def dW.inObs{s a:b1}(h:dW s a)(k:ar):a7 s k↔a7 a k:=by unfold a7;rw[h.b,h.e]
def pP{α:Type}{k:ar}{x:α}:∀{l:List (ar×α)},(k,x)∈l->(ab k l).isSome
 |(i,y)::r,h=>by
  simp only[ab];split
  ·rfl
  ·rename_i a;rcases gw.1 h with h|h
   ·cases h;exact absurd rfl a
   ·exact pP h
def Gh{s:b1}{k:ar}(h:k∈b2 s):a7 s k:=by
 unfold b2 at h;rcases lF.1 h with h|h
 ·obtain⟨⟨aQ,x⟩,I,rfl⟩:=k9.1 h;exact .inl (pP I)
 ·obtain⟨⟨aQ,x⟩,I,rfl⟩:=k9.1 h;exact .inr (pP I)
def pO{s:b1}(h:e7 s)(m:Nat):ar.loc m∉b2 s:=fun hm=>by
 rcases Gh hm with I|I
 ·rw[h.1 m]at I;cases I
 ·rw[h.2 m]at I;cases I
def lC{α β:Type}(s:List (ar×β)):∀(a b:List (ar×α)),dy s (a++b)=dy s a++dy s b
 |[],b=>rfl
 |(k,x)::r,b=>by
  simp only[List.cons_append,dy];cases ab k s with
  |none=>simp[lC s r b]
  |some _=>exact lC s r b
def JO{α β:Type}(s:List (ar×β)):∀(l:List (ar×α)),(∀k x,(k,x)∈l->(ab k s).isSome)->dy s l=[]
 |[],_=>rfl
 |(k,x)::r,h=>by
  have I:=h k x Ψ;simp only[dy];cases a:ab k s with
  |none=>rw[a]at I;cases I
  |some _=>exact JO s r fun k x b=>h k x (by simp[b])
def jz{α:Type}(s:List (ar×α)):dy s s=[]:=JO s s fun k x h=>pP h
def o7{α:Type}{k:ar}{x:α}:∀{l:List (ar×α)},ab k l=none->bW k x l=l++[(k,x)]
 |[],_=>rfl
 |(i,y)::r,h=>by
  simp only[ab]at h;split at h
  ·cases h
  ·rename_i a;simp[bW,a,o7 h]
def dM{α:Type}(k:ar):∀(a b:List (ar×α)),ab k (a++b)=match ab k a with|some x=>some x|none=>ab k b
 |[],b=>rfl
 |(i,y)::r,b=>by
  simp only[List.cons_append,ab];split
  ·rfl
  ·exact dM k r b
def CallDo.ob{P:bp}{n:Nat}{args:List aa}{st:aN}{d:aT Nat}{K:aN->Prop}{s:b1}{Q:aa->b1->Prop}(f:cf P n args s Q)(b:eB s)(e:∀k cs,ab k s.b=some cs->ab k st.b=some cs)(he:∀k o,ab k s.e=some o->ab k st.e=some o)
  (U:aV (a7 s) args) (h:∀r a,Q r a->dW s a/\K ⟨dH d r st.t,dy s.b st.b++a.b,dy s.e st.e++a.e,st.n,st.o++b2 a⟩):CallDo P n args st d K:=by
 refine .inl ⟨s,Q,fun k cs aA=>⟨e k cs aA,.inl (by simp[aA]),b.kb k cs aA⟩,fun k o ag=>⟨he k o ag,.inr (by simp[ag]),b.ke k o ag⟩,b.obj,U,f,fun r a c=>?_⟩;obtain⟨I,J⟩:=h r a c;exact⟨⟨fun m hm=>.inl (by rw[I.b];exact hm),fun m hm=>.inl (by rw[I.e];exact hm)⟩,J⟩
def eX.ob{j:List cg}{s a:b1}{Q:aa->b1->Prop}{e:Exit}{st:aN}{c:Prop}{g:List aa}(n:e= .ret\/e= .normal)(p:bq st j=some (c,g))(aA:c)(f:eB a)(i:dW s a)(v:∀k cs,ab k a.b=some cs->ab k st.b=some cs)(q:∀k o,ab k a.e=some o->ab k st.e=some o)
  (U:aR (a7 a) (bE (ba g))) (t:Q (bE (ba g)) a):eX j s Q e st:=by
 refine⟨n,?_⟩;rw[p];have m:∀{α:Type} (l:List (ar×α)),(∀k x,(k,x)∈l->a7 a k)->iD a l:=by
  intro α l;induction l with
  |nil=>intro _;trivial
  |cons x r u=>obtain⟨k,x⟩:=x;intro h;exact⟨h k x Ψ,u fun k x b=>h k x (by simp[b])⟩
 exact⟨aA,a,m _ fun k x b=>.inl (by rw[<-i.b];exact pP b),m _ fun k x b=>.inr (by rw[<-i.e];exact pP b),fun k cs d=>⟨v k cs d,.inl (by simp[d]),f.kb k cs d⟩,fun k o ag=>⟨q k o ag,.inr (by simp[ag]),f.ke k o ag⟩,f.obj,U,t⟩
def cf.mono{P:bp}{f:FuncId}{args:List aa}{s:b1}{Q b:aa->b1->Prop}(h:cf P f args s Q)(g:∀r a,Q r a->b r a):cf P f args s b:=by
 intro w ν aJ I J j;have hm:∀(e:Ending) (w':World),(∃v r a aI,e= .returned v/\Q r a/\aw w' aI r v/\Good (fun bl=>dE ν s bl\/w.heap.size<=bl) w' aI a.b a.e/\kI aI a/\e7 a/\kA ⟨w,ν,dE ν s,0,b2 s⟩ w' aI)->(∃v r a aI,e= .returned v/\b r a/\aw w' aI r v/\Good (fun bl=>dE ν s bl\/w.heap.size<=bl) w' aI a.b a.e/\kI aI a/\e7 a/\kA ⟨w,ν,dE ν s,0,b2 s⟩ w' aI):=by rintro e w' ⟨v,r,a,aI,d,a2,a3⟩;exact⟨v,r,a,aI,d,g _ _ a2,a3⟩
 rcases h w ν aJ I J j with⟨c,aA⟩|⟨v,w',aA,i⟩
 ·exact .inl ⟨c,aA.mono hm⟩
 ·exact .inr ⟨v,w',aA,hm _ _ i⟩
def ur{s:b1}{k:ar}(h:a7 s k):¬fresh 0 (b2 s) k:=fun a=>a.2 (mJ h)
def fc.ob{s:b1}(c:eB s){st:aN}{t':List (Nat×aa)}(b:∀x∈t',get x.1 st.t=x.2/\aR (a7 s) x.2)(d:∀k cs,ab k s.b=some cs->ab k st.b=some cs)(he:∀k o,ab k s.e=some o->ab k st.e=some o):
  fc (b2 s) st ⟨t',s.b,s.e,0,b2 s⟩:=
 ⟨fun x a=>⟨(b x a).1,oN (fun k U=>ur U) _ (b x a).2⟩,fun k cs aA=>⟨d k cs aA,ur (.inl (by simp[aA])),hg (fun k U=>ur U) _ (c.kb k cs aA)⟩,
  fun k o ag=>⟨he k o ag,ur (.inr (by simp[ag])),fun xs a=>hg (fun k U=>ur U) _ (c.ke k o ag xs a)⟩,fun m hm=>hm⟩
def fZ(st:aN)(a:List cg)(R:aa->Prop):Prop:=match bq st a with
 |some (c,b)=>c/\R (bE (ba b))
 |none=>c1
def eX.at{b:List cg}{s:b1}{Q:aa->b1->Prop}{e:Exit}{st:aN}(a:b1)(d:e= .ret\/e= .normal)(j:eB a)(f:dW s a)(l:∀k cs,ab k a.b=some cs->ab k st.b=some cs)(g:∀k o,ab k a.e=some o->ab k st.e=some o)
  (h:fZ st b fun r=>aR (a7 a) r/\Q r a):eX b s Q e st:=by
 unfold fZ at h;split at h
 ·rename_i c m i;exact eX.ob d i h.1 j f l g h.2.1 h.2.2
 ·exact h.elim
def jY.ob{P:bp}{nw:List Nat}{n:Nat}{args:List aa}{st:aN}{d:aT Nat}{K:aN->Prop}{s a:b1}{r:aa}(j:cf P n args s fun g t'=>g=r/\t'=a)(c:eB s)(f:eB a)(b:dW s a)(i:∀k cs,ab k s.b=some cs->ab k st.b=some cs)(he:∀k o,ab k s.e=some o->ab k st.e=some o)
  (U:aV (a7 s) args) (h:K ⟨dH d r st.t,dy s.b st.b++a.b,dy s.e st.e++a.e,st.n,st.o⟩):jY P false nw n args st d K:=
 .inr ⟨s,a,r,none,fun k cs aA=>⟨i k cs aA,.inl (by simp[aA]),c.kb k cs aA⟩,fun k o ag=>⟨he k o ag,.inr (by simp[ag]),c.ke k o ag⟩,c.obj,f.obj,⟨fun k U=>.inl (by rw[b.b];exact U),fun k U=>.inl (by rw[b.e];exact U),fun k U=>by rw[<-b.b];exact U,fun k U=>by rw[<-b.e];exact U,fun k U=>by cases U⟩,U,j,(fun e=>by cases e),h⟩
def eB.of{s:b1}(ag:e7 s)(a:∀x∈s.b,aV (a7 s) x.2)(he:∀x∈s.e,∀xs,x.2.xs=some xs->aV (a7 s) xs):eB s:=⟨ag,fun k cs U=>a (k,cs) (oO U),fun k o U xs b=>he (k,o) (oO U) xs b⟩
@[simp]def WL(b:List (ar×List aa))(e:List (ar×cw)):b2 ⟨b,e⟩=b.map (·.1)++e.map (·.1):=rfl
def Jp{α:Type}{k:ar}{p:α}:∀{a r:List (ar×α)},ab k a=none->bW k p (a++r)=a++bW k p r
 |[],_,_=>rfl
 |(i,y)::a,r,h=>by
  simp only[ab]at h;split at h
  ·cases h
  ·rename_i b;simp[bW,b,Jp h]
def Qg{α:Type}{s b:List (ar×α)}(h:∀p∈s,ab p.1 b=some p.2):∀k x,ab k s=some x->ab k b=some x:=fun k x a=>h (k,x) (oO a)
def k1{S:ar->Prop}{dR b:List (ar×List aa)}(h:∀p∈dR,ab p.1 b=some p.2/\S p.1/\aV S p.2):ko S dR b:=fun k x a=>h (k,x) (oO a)
def k2{S:ar->Prop}{dR b:List (ar×cw)}(h:∀p∈dR,ab p.1 b=some p.2/\S p.1/\hh S p.2):lB S dR b:=fun k x a=>h (k,x) (oO a)
def bU{α:Type}{s b:List (ar×α)}(h:∀k x,ab k s=some x->ab k b=some x:=by first|(refine Qg ?_;simp;done)|(intro k x a;first|exact a|(simp[a,jz];done)|(simp[dM,jz,a];done)|(cases k<;>simp_all[dM];done))):∀k x,ab k s=some x->ab k b=some x:=h
def dh{ob:List ar}{st st':aN}(I:∀x∈st'.t,get x.1 st.t=x.2/\aR (fun k=> ¬fresh st'.n st'.o k) x.2:=by simp[fresh,aV,aR,ep,a7,ab])(J:∀p∈st'.b,ab p.1 st.b=some p.2/\(¬fresh st'.n st'.o p.1)/\aV (fun k=> ¬fresh st'.n st'.o k) p.2:=by simp[fresh,aV,aR,ep,a7,ab])(a:∀p∈st'.e,ab p.1 st.e=some p.2/\(¬fresh st'.n st'.o p.1)/\hh (fun k=> ¬fresh st'.n st'.o k) p.2:=by simp[fresh,aV,aR,hh,a7,ab])(b:∀m∈ob,m∈st'.o:=by simp):fc ob st st':=⟨I,k1 J,k2 a,b⟩
def cP.next{ob:List ar}{b:Nat->aN->Prop}{k:Nat}{Q:Exit->aN->Prop}{st:aN}(aQ:Nat){a:aN}(U:aQ<k)(az:b aQ a)(hw:fc ob st a):cP ob b k Q .normal st:=⟨aQ,a,U,hw,az⟩
def flat:List (Int×aa)->List aa
 |[]=>[]
 |(k,v)::r=>.int .i64 k::v::flat r
def jb(l:List (Int×aa)):List aa:= .hdm l.length (List.range l.length)::flat l
def lL(k:Int)(v:aa):List (Int×aa)->aT (List (Int×aa))
 |[]=>none
 |(i,w)::r=>if k=i then some ((k,v)::r)else match lL k v r with|some a=>some ((i,w)::a)|none=>none
def yB(k:Int)(v:aa)(l:List (Int×aa)):List (Int×aa):=match lL k v l with|some a=>a|none=>l++[(k,v)]
@[simp]def Wq:[aa.hdm 0 []]=jb []:=rfl
def EP:∀a b,flat (a++b)=flat a++flat b
 |[],_=>rfl
 |(k,v)::r,b=>by simp[flat,EP r b]
def CX{k:Int}{v:aa}:∀{l a},lL k v l=some a->a.length=l.length
 |[],_,h=>by simp[lL]at h
 |(i,w)::r,a,h=>by
  simp only[lL]at h;split at h
  ·cases h;rfl
  ·split at h
   ·rename_i c b;cases h;simp[CX b]
   ·cases h
def Hi(k:Int)(v:aa):∀l,qQ .i (.int .i64 k) v (flat l)=some ((lL k v l).map flat)
 |[]=>rfl
 |(i,w)::r=>by
  simp only[flat,qQ,qJ,lL];by_cases h:k=i
  ·subst h;simp[flat]
  ·simp only[and_self,if_true,h,if_false,c2,Hi k v r];have:(k==i)=false:=by simp[h]
   rw[this];cases lL k v r<;>simp[flat]
@[simp]def QS(k:Int)(v:aa)(l:List (Int×aa)):pR .i (.int .i64 k) v (jb l)=some (jb (yB k v l)):=by
 simp only[jb,pR,P8,Bool.true_eq_false,reduceCtorEq,if_false,Hi,yB];cases h:lL k v l with
 |some a=>simp[CX h]
 |none=>simp[EP,flat,List.range_succ]
def ep(n:Nat)(seen:List Nat)(m:ar):List aa:=[.hdi n seen n,.gmap m]
@[simp]def WY(m:ar)(l:List (Int×aa)):sD m (jb l)=some (ep l.length [] m):=rfl
@[simp]def WV(l:List (Int×aa)):et (jb l)=false:=rfl
def A1(b:Nat):∀(n:Nat) (l:List (Int×aa)),kl b (List.range' n l.length) (flat l)=(if n<=b then(l[b-n]?).map fun x=>.tuple [.int .i64 x.1,x.2]else none)
 |n,[]=>by simp[kl,flat]
 |n,(k,v)::r=>by
  simp only[jX,List.range'_succ,flat,kl];by_cases h:n=b
  ·subst h;simp
  ·rw[bH h,A1 b (n+1) r];by_cases J:n<=b
   ·rw[if_pos J,if_pos Ω];have:b-n=(b-(n+1))+1:=Ω
    rw[this];simp
   ·rw[bH J,bH Ω]
@[simp]def Qy(f:ar->aT (List aa))(ff mk:ar)(n:Nat)(seen:List Nat)(b:Nat)(l:List (Int×aa))(az:f ff=some (ep n (seen++[b]) mk))(hm:f mk=some (jb l))(a:n=l.length):nI f (.ptr ff 0)=(l[b]?).map fun x=>(True,.tuple [.int .i64 x.1,x.2]):=by subst a;simp only[Qz,az,hm,ep,jb,List.getLast?_append,List.getLast?_singleton,Option.some_or,List.range_eq_range',A1,Nat.zero_le,if_true,Nat.sub_zero,Option.map_map];cases l[b]?<;>simp
def LA{st:aN}{d:Nat}{K:aN->Prop}{ff mk:ar}{n:Nat}{seen:List Nat}{l:List (Int×aa)}(az:ab ff st.b=some (ep n seen mk))(hm:ab mk st.b=some (jb l))(i:n=l.length)
  (I:(∀b,b<n->b∈seen)->K {st with t:=put d (.tuple [.bool false]) st.t}) (J:∀b k v,l[b]? =some (k,v)->b∉seen->K {st with t:=put d (.tuple [.bool true,.int .i64 k,v]) st.t,b:=bW ff (ep n (seen++[b]) mk) st.b}):
  qm st d (.ptr ff 0) K:=by
 subst i;simp only[qm,az,ep,hm,jb,Hj,and_self,true_and];refine⟨fun h=>I fun b a=>h b (by simpa using a),fun b k v c a=>?_⟩;rw[List.range_eq_range',A1]at c;simp only[Nat.zero_le,if_true,Nat.sub_zero,ih,aa.tuple.injEq,JY,and_true]at c;obtain⟨⟨aQ,v'⟩,g,f,e⟩:=c;simp only at f e;subst f e;exact J b aQ v' g a
def R0{n:Nat}{seen:List Nat}(d:seen.Nodup)(c:∀b∈seen,b<n)(a:∀b,b<n->b∈seen):seen.Perm (List.range n):=(List.perm_ext_iff_of_nodup d List.nodup_range).2 fun b=>⟨fun h=>by simpa using c b h,fun h=>a b (by simpa using h)⟩
def IT{n:Nat}{seen:List Nat}(d:seen.Nodup)(a:∀b∈seen,b<n):seen.length<=n:=by have:=X2 d (l₂:=List.range n) (fun b c=>by simpa using a b c);simpa using this
def Sy{n b:Nat}{seen:List Nat}(e:seen.Nodup)(a:∀b∈seen,b<n)(c:b<n)(d:b∉seen):seen.length<n:=by have I:(b::seen).Nodup:=List.nodup_cons.2 ⟨d,e⟩;have:=IT I (n:=n) (by simp;exact⟨c,a⟩);simp at this;omega
def Ik{α:Type}:∀(l pre:List α),(List.range' pre.length l.length).filterMap (fun b=>(pre++l)[b]?)=l
 |[],_=>rfl
 |x::r,pre=>by have a:=Ik r (pre++[x]);simp only[kt,List.length_singleton,List.append_assoc,List.singleton_append]at a;simp[List.range'_succ,a]
def Sx{α:Type}{l:List α}{seen:List Nat}(d:seen.Nodup)(c:∀b∈seen,b<l.length)(a:∀b,b<l.length->b∈seen):(seen.filterMap fun b=>l[b]?).Perm l:=by have I:=(R0 d c a).filterMap fun b=>l[b]?;have J:=Ik l [];simp only[List.length_nil,List.nil_append,<-List.range_eq_range']at J;rwa[J]at I
def Q0{b:Nat}{seen:List Nat}(f:seen.Nodup)(d:b∉seen):(seen++[b]).Nodup:=by rw[ma];exact⟨f,Ψ,by simp;intro a c e;subst e;exact d c⟩
def bO.start{w:World}{ν:aC}{s:b1}{args:List aa}{aJ:Array Value}(d:e7 s)(aM:Good (dE ν s) w ν s.b s.e)(a:kI ν s)(p:bT w ν args aJ.toList):
  bO ⟨w,ν,dE ν s,aJ.size,b2 s⟩ ⟨fG 0 args,s.b,s.e,0,b2 s⟩ {tmps:=aJ,defers:=[]} w ν:=by
 have r:=qY p;have A:aJ.size=args.length:=by simpa using r
 have e:∀k,fresh 0 (b2 s) k->ν.bx k=none/\ν.ow k=none/\∀j b,¬ν.tr k j b:=by
  intro k U;cases k with
  |loc m=>exact⟨(a _).1 (d.1 m),(a _).2.1 (d.2 m),(a _).2.2⟩
  |obj m=>
   simp only[fresh,true_and]at U;refine⟨?_,?_,(a _).2.2⟩
   ·refine(a _).1 ?_;cases h:ab (.obj m) s.b with
    |none=>rfl
    |some x=>exact absurd (mJ (.inl (by simp[h]))) U
   ·refine(a _).2.1 ?_;cases h:ab (.obj m) s.e with
    |none=>rfl
    |some x=>exact absurd (mJ (.inr (by simp[h]))) U
 have f:∀m,(ν.bx (.obj m)≠none\/ν.ow (.obj m)≠none)-> .obj m∈b2 s:=by
  intro m hm;refine Classical.byContradiction fun aA=>?_;obtain⟨I,J,_⟩:=e (.obj m) ⟨trivial,aA⟩;rcases hm with hm|hm
  ·exact hm I
  ·exact hm J
 refine⟨⟨aM.alt,fun k cs U=>?_,aM.inj,fun g o t=>?_,aM.oinj,aM.obx,aM.one,aM.otr⟩,⟨rfl,rfl,rfl,di _,fun _ _ _=>rfl,fun b o h=>⟨h,rfl⟩,fun b o h=>.inl h,fun n b h=>h,fun n b h=>f n (.inl (by rw[h];simp)),fun m n u h=>⟨n,u,h,.inl ⟨rfl,rfl⟩⟩,fun m n u h=>f m (.inr (by rw[h];simp)),fun k j _ _ b h=>absurd h ((a k).2.2 j b),fun k j b h=>absurd h ((a k).2.2 j b),fun k j b h=>absurd h ((a k).2.2 j b),fun _ _ _=>rfl⟩,rfl,rfl,fun i=>?_,e⟩
 ·obtain⟨bl,us,el,g1,g2,g3⟩:=aM.box k cs U;exact⟨bl,us,el,g1,.inl g2,g3⟩
 ·obtain⟨v,us,g1,g2,g3,g4⟩:=aM.own g o t;exact⟨v,us,g1,g2,fun bl l=>⟨.inl (g3 bl l).1,(g3 bl l).2⟩,g4⟩
 ·rw[v8];by_cases az:i<args.length
  ·rw[if_pos Ω];have c:args[i]? =some args[i]:=cl az;obtain⟨v,y,z⟩:=uJ i p c;have q:aJ[i]? =some v:=by simpa using y
   show aw w ν _ (aJ.getD i undef);rw[Array.getD_eq_getD_getElem?,q];simpa[List.getD,c]using z
  ·rw[bH Ω];simp[aw]
def cf.sem{P:bp}{f:FuncId}{args:List aa}{s:b1}{Q:aa->b1->Prop}(G:e7 s)
  (h:∀(w:World) (ν:aC) (aJ:Array Value),aJ.size=args.length->bO ⟨w,ν,dE ν s,aJ.size,b2 s⟩ ⟨fG 0 args,s.b,s.e,0,b2 s⟩ {tmps:=aJ,defers:=[]} w ν->
   qa P f aJ w fun e w'=> ∃v st' bG aI r a,e= .returned v/\bO ⟨w,ν,dE ν s,aJ.size,b2 s⟩ st' bG w' aI/\aw w' aI r v/\iD a s.b/\iD a s.e/\ko (a7 a) a.b st'.b/\lB (a7 a) a.e st'.e/\e7 a/\aR (a7 a) r/\Q r a):cf P f args s Q:=by
 intro w ν aJ aM q z;have F:aJ.size=args.length:=by simpa using qY z
 have B:=bO.start G aM q z;have hm:∀(e:Ending) (w':World),(∃v st' bG aI r a,e= .returned v/\bO ⟨w,ν,dE ν s,aJ.size,b2 s⟩ st' bG w' aI/\aw w' aI r v/\iD a s.b/\iD a s.e/\ko (a7 a) a.b st'.b/\lB (a7 a) a.e st'.e/\e7 a/\aR (a7 a) r/\Q r a)->
   ∃v r a aI,e= .returned v/\Q r a/\aw w' aI r v/\Good (fun bl=>dE ν s bl\/w.heap.size<=bl) w' aI a.b a.e/\kI aI a/\e7 a/\kA ⟨w,ν,dE ν s,0,b2 s⟩ w' aI:=by
  rintro e w' ⟨v,st',bG,aI,r,a,rfl,d,M,kb,ke,y,p,H,L,K⟩;refine⟨v,r,a,aI.cut (a7 a),rfl,K,nP (jC.cut _ w' aI) _ _ L M,d.good.cut y p (fun bl h _=>h),?_,H,?_⟩
  ·intro k;refine⟨?_,?_,?_⟩;rotate_left 2
   ·rintro j b ⟨c,i⟩;obtain⟨t1,t2⟩:=d.fr.trn k j b i;rcases c with c|c<;>obtain⟨x,l⟩:=dt.1 c
    ·obtain⟨bl,t,el,g,_⟩:=d.good.box k x (y k x l).1;rw[t1]at g;cases g
    ·obtain⟨v',t,g,_⟩:=d.good.own k x (p k x l).1;rw[t2]at g;cases g
   ·intro U;by_cases c:a7 a k
    ·rw[aC.cut_bx c];rcases c with c|c
     ·rw[U]at c;cases c
     ·obtain⟨x,l⟩:=dt.1 c;obtain⟨v',t,g,_⟩:=d.good.own k x (p k x l).1;rcases d.good.one k with I|I
      ·exact I
      ·rw[I]at g;cases g
    ·exact(aC.cut_no c).1
   ·intro U;by_cases c:a7 a k
    ·rw[aC.cut_ow c];rcases c with c|c
     ·obtain⟨x,l⟩:=dt.1 c;obtain⟨bl,t,el,g,_⟩:=d.good.box k x (y k x l).1;rcases d.good.one k with I|I
      ·rw[I]at g;cases g
      ·exact I
     ·rw[U]at c;cases c
    ·exact(aC.cut_no c).2.1
  ·refine⟨d.fr.os,d.fr.tape,d.fr.output,d.fr.size,d.fr.block,d.fr.keep,d.fr.fresh,fun n b h=>?_,d.fr.obn,fun m n u h=>?_,d.fr.obr,fun k j aQ cU b I J=>d.fr.trd k j aQ cU b I.2 J.2,fun k j b i=>d.fr.trb k j b i.2,fun k j b i=>(by rw[aC.cut_bx i.1,aC.cut_ow i.1];exact d.fr.trn k j b i.2),d.fr.sh⟩
   ·have c:a7 a (.obj n):=by
     cases o:ab (.obj n) s.b with
     |none=>rw[(q _).1 o]at h;cases h
     |some x=>exact pL kb _ (by simp[o])
    rw[aC.cut_bx c];exact d.fr.obj n b h
   ·have c:a7 a (.obj m):=by
     cases o:ab (.obj m) s.e with
     |none=>rw[(q _).2.1 o]at h;cases h
     |some x=>exact pL ke _ (by simp[o])
    rw[aC.cut_ow c];exact d.fr.row m n u h
 rcases h w ν aJ F B with⟨A,aA⟩|⟨v,w',aA,E⟩
 ·exact .inl ⟨A,aA.mono hm⟩
 ·exact .inr ⟨v,w',aA,hm _ _ E⟩
def bO.grown{C:dk}{st:aN}{a:Act}{w w':World}{ν:aC}(h:bO C st a w ν)(aM:w.grownBy w' none):bO C st a w' ν:=by
 have d:ij w ν w' ν:=⟨fun b o c=>⟨c,yP aM (h.good.alt b o c)⟩,fun _ _ _ h=>h,fun _ n u _ h=>⟨n,u,h,.inl ⟨rfl,rfl⟩⟩,fun b o c=>q4 (aM.block b (h.good.alt b o c) Ψ),fun _ _ _ _ h=>h⟩;refine h.over d rfl ⟨fun b o c=>Nat.lt_of_lt_of_le (h.good.alt b o c) aM.size,fun k cs U=>?_,h.good.inj,fun g o i=>?_,h.good.oinj,h.good.obx,h.good.one,h.good.otr⟩
  ⟨aM.os.trans h.fr.os,aM.tape.trans h.fr.tape,aM.output.trans h.fr.output,jB h.fr.size aM.size,fun k U hm=>?_,fun b o c=>?_,h.fr.fresh,h.fr.obj,h.fr.obn,h.fr.row,h.fr.obr,h.fr.trd,fun k j b f=>⟨(h.fr.trb k j b f).1,Nat.lt_of_lt_of_le (h.fr.trb k j b f).2 aM.size⟩,h.fr.trn,fun b o c=>(d.sh b o (h.fr.keep b o c).1).trans (h.fr.sh b o c)⟩ h.new
 ·obtain⟨bl,us,el,g1,g2,g3,g4,g5⟩:=h.good.box k cs U;exact⟨bl,us,el,g1,g2,g3,by rw[aM.block bl (Array.getElem?_eq_some_iff.1 g4).1 Ψ];exact g4,lz d g5⟩
 ·obtain⟨v,us,g1,g2,g3,g4⟩:=h.good.own g o i;exact⟨v,us,g1,g2.kept aM (by cases v.ownBlock<;>simp),g3,mQ d (fun _ _ _ h=>h) g4⟩
 ·rw[aM.block k (Nat.lt_of_lt_of_le U h.fr.size) Ψ];exact h.fr.block k U hm
 ·obtain⟨e,l⟩:=h.fr.keep b o c;exact⟨e,(d.A b o e).2.trans l⟩
@[simp]def US{P:bp}{ob:List ar}{c d:C}{Q:Exit->aN->Prop}{st:aN}{s:Nat}:b5 P ob (.seq (.pub s c) d) Q st=rp P ob (.seq c d) Q (pZ st s):=by simp only[b5];cases pZ st s<;>rfl
end
section
open Go Go.RowKit
def uh(t:List (Nat×aa))(a:List Nat):List (Nat×aa):=a.map fun k=>(k,get k t)
@[simp]def VR(t:List (Nat×aa)):uh t []=[]:=rfl
@[simp]def VQ(t:List (Nat×aa))(k:Nat)(a:List Nat):uh t (k::a)=(k,get k t)::uh t a:=rfl
def kU(st:aN)(a:List Nat)(cs:List (Nat×aa)):aN:=⟨uh st.t a++cs,st.b,st.e,st.n,st.o⟩
def QN(t:List (Nat×aa))(b:List (ar×List aa))(e:List (ar×cw))(n:Nat)(o:List ar)(a:List Nat)(cs:List (Nat×aa)):kU ⟨t,b,e,n,o⟩ a cs=⟨uh t a++cs,b,e,n,o⟩:=rfl
def rl{α:Type}(S:Nat->α->aN)(n:Nat)(b:Nat->α->Prop)(k:Nat)(st:aN):Prop:= ∃i a,i<=n/\k=n-i/\b i a/\st=S i a
section
variable {P:bp} {ob:List ar} {st:aN} {Q:Exit->aN->Prop} {c:C} {α:Type}
def kG(S:Nat->α->aN)(n:Nat)(b:Nat->α->Prop)(a0:α)(hw:fc ob st (S 0 a0))(l:b 0 a0)(f:∀a,b n a->(∀i,gZ (get i (S n a).t))->b5 P ob c (cP ob (rl S n b) 0 Q) (S n a))
  (g:∀i a,i<n->b i a->(∀j,gZ (get j (S i a).t))->b5 P ob c (cP ob (rl S n b) (n-i) Q) (S i a)):b5 P ob (.loop c) Q st:=by
 refine mj (rl S n b) n _ hw ⟨0,a0,Ω,Ω,l,rfl⟩ ?_;rintro k s ⟨i,a,az,rfl,d,rfl⟩ e _;rcases Nat.lt_or_ge i n with h|h
 ·exact g i a h d e
 ·obtain rfl:i=n:=Ω
  rw[Nat.sub_self];exact f a d e
def cP.rng{S:Nat->α->aN}{n:Nat}{a:Nat->α->Prop}{i:Nat}(bG:α)(az:i<n)(b:a (i+1) bG)(hw:fc ob st (S (i+1) bG)):cP ob (rl S n a) (n-i) Q .normal st:=⟨n-(i+1),_,Ω,hw,i+1,bG,Ω,rfl,b,rfl⟩
def va{α:Type}(S:α->aN)(μ:α->Nat)(b:α->Prop)(k:Nat)(st:aN):Prop:= ∃a,k=μ a/\b a/\st=S a
def lg(S:α->aN)(μ:α->Nat)(b:α->Prop)(a0:α)(hw:fc ob st (S a0))(e:b a0)
  (d:∀a,b a->(∀j,gZ (get j (S a).t))->b5 P ob c (cP ob (va S μ b) (μ a) Q) (S a)):b5 P ob (.loop c) Q st:=by
 refine mj (va S μ b) (μ a0) _ hw ⟨a0,rfl,e,rfl⟩ ?_;rintro k s ⟨a,rfl,f,rfl⟩ g _;exact d a f g
def cP.whl{S:α->aN}{μ:α->Nat}{a:α->Prop}{k:Nat}(bG:α)(hm:μ bG<k)(b:a bG)(hw:fc ob st (S bG)):cP ob (va S μ a) k Q .normal st:=⟨μ bG,_,hm,hw,bG,rfl,b,rfl⟩
end
def R8{p:Prop}(h:p:=by(try simp[*]);(repeat' first|with_reducible refine aS ?_|with_reducible refine be (by assumption) ?_|with_reducible refine bf (by assumption) ?_|simp[*]);(all_goals first|exact cP.rng () (by assumption) (by first|assumption|trivial) dh|exact cP.rng _ (by assumption) (by assumption) dh)):p:=h
end
section
open Go Go.RowKit
def pU(s:b1)(n:Nat)(k:ar):Prop:=a7 s k\/ ∃m,m<n/\k= .loc m
@[simp]def WH(s:b1)(n m:Nat)(hm:m<n):pU s n (.loc m):= .inr ⟨m,hm,rfl⟩
def sn{s:b1}{n:Nat}{l:List aa}(h:aV (a7 s) l):aV (pU s n) l:=hg (fun _ h=>.inl h) l h
def qR{s b:b1}(c:dW s b){n:Nat}{k:ar}(h:pU b n k):¬fresh n (b2 s) k:=by
 rcases h with h|⟨m,hm,rfl⟩
 ·exact fun a=>a.2 (mJ ((c.inObs k).2 h))
 ·intro a;have:=a.1;simp at this;omega
def fc.obL{s a:b1}(e:eB a)(b:dW s a){st:aN}{t':List (Nat×aa)}{L:List (ar×List aa)}{n:Nat}(f:∀x∈t',get x.1 st.t=x.2/\aR (pU a n) x.2)(g:∀x∈L,ab x.1 st.b=some x.2/\pU a n x.1/\aV (pU a n) x.2)
  (i:∀k cs,ab k a.b=some cs->ab k st.b=some cs) (he:∀k o,ab k a.e=some o->ab k st.e=some o):fc (b2 s) st ⟨t',L++a.b,a.e,n,b2 s⟩:=by
 refine⟨fun x c=>⟨(f x c).1,oN (fun k U=>qR b U) _ (f x c).2⟩,fun k cs U=>?_,fun k o ag=>?_,fun m hm=>hm⟩
 ·simp only at U;rw[dM]at U;cases d:ab k L with
  |some x=>rw[d]at U;simp only[dq]at U;subst U;obtain⟨I,J,h⟩:=g _ (oO d);exact⟨I,qR b J,hg (fun k U=>qR b U) _ h⟩
  |none=>rw[d]at U;exact⟨i k cs U,qR b (.inl (.inl (by simp[U]))),hg (fun k U=>qR b (.inl U)) _ (e.kb k cs U)⟩
 ·exact⟨he k o ag,qR b (.inl (.inr (by simp at ag;simp[ag]))),fun xs c=>hg (fun k U=>qR b (.inl U)) _ (e.ke k o ag xs c)⟩
def fE{α:Type}(l:List α)(i j:Nat):List α:=match l[i]?,l[j]? with
 |some x,some y=>(l.set i y).set j x
 |_,_=>l
section
variable {α:Type}
@[simp]def Qo(l:List α)(i j:Nat):(fE l i j).length=l.length:=by unfold fE;split<;>simp
def sg(l:List α)(i j k:Nat)(az:i<l.length)(a:j<l.length):(fE l i j)[k]? =if k=i then l[j]? else if k=j then l[i]? else l[k]?:=by
 unfold fE;rw[cl az,cl a];simp only[List.getElem?_set,List.length_set];by_cases I:j=k
 ·subst I;by_cases J:j=i
  ·subst J;simp[az]
  ·simp[J,a]
 ·by_cases J:i=k
  ·subst J;simp[I,az]
  ·simp[I,J,Ne.symm I,Ne.symm J]
def G2(l:List α)(i j:Nat):(fE l i j).Perm l:=by
 unfold fE;split
 ·rename_i x y b c;obtain⟨az,rfl⟩:=eQ.1 b;obtain⟨a,rfl⟩:=eQ.1 c;exact List.set_set_perm az a
 ·exact .refl _
inductive eC (a b:Nat):List α->List α->Prop
 |refl (l:List α):eC a b l l
 |step {l m:List α} {i j:Nat}:eC a b l m->a<=i->i<b->a<=j->j<b->i<m.length->j<m.length->eC a b l (fE m i j)
def eC.length{a b:Nat}{l m:List α}(h:eC a b l m):m.length=l.length:=by
 induction h with
 |refl=>rfl
 |step _ _ _ _ _ _ _ c=>rw[Qo,c]
def eC.perm{a b:Nat}{l m:List α}(h:eC a b l m):m.Perm l:=by
 induction h with
 |refl=>exact .refl _
 |step _ _ _ _ _ _ _ c=>exact(G2 _ _ _).trans c
def eC.out{a b:Nat}{l m:List α}(h:eC a b l m)(k:Nat)(U:k<a\/b<=k):m[k]? =l[k]?:=by
 induction h with
 |refl=>rfl
 |step _ I J f g e c d=>rw[sg _ _ _ _ e c,bH Ω,bH Ω];exact d
def eC.all{a b:Nat}{l m:List α}(h:eC a b l m)(p:α->Prop)(j:∀k x,a<=k->k<b->l[k]? =some x->p x):∀k x,a<=k->k<b->m[k]? =some x->p x:=by
 induction h with
 |refl=>exact j
 |step _ I J i n o g d=>
  intro k x e f c;rw[sg _ _ _ _ o g]at c;split at c
  ·exact d _ _ i n c
  ·split at c
   ·exact d _ _ I J c
   ·exact d _ _ e f c
def eC.trans{a b:Nat}{l m r:List α}(h:eC a b l m)(d:eC a b m r):eC a b l r:=by
 induction d with
 |refl=>exact h
 |step _ I J f g i c e=>exact .step e I J f g i c
def eC.mono{a b bG dR:Nat}{l m:List α}(h:eC a b l m)(f:bG<=a)(i:b<=dR):eC bG dR l m:=by
 induction h with
 |refl=>exact .refl _
 |step _ I J g j e c d=>exact .step d Ω Ω Ω Ω e c
def dD(lt:α->α->Bool)(a b:Nat)(l:List α):Prop:= ∀i j x y,a<=i->i<j->j<b->l[i]? =some x->l[j]? =some y->lt y x=false
structure lI (lt:α->α->Bool):Prop where
 asym:∀x y,lt x y=true->lt y x=false
 ntr:∀x y z,lt y x=false->lt z y=false->lt z x=false
def dD.pairwise{lt:α->α->Bool}{l:List α}(h:dD lt 0 l.length l):l.Pairwise fun x y=>lt y x=false:=by rw[List.pairwise_iff_getElem];intro i j az a b;exact h i j _ _ Ω b a (cl az) (cl a)
def fv(a m b k:Nat):Nat:=if k<a then k else if k<a+(b-m)then k+(m-a)else if k<b then k-(b-m)else k
def mR(a b c k:Nat):Nat:=if a<=k/\k<a+c then b+(k-a)else if b<=k/\k<b+c then a+(k-b)else k
end
def wk(i j:Nat)(h:i+j<=1099511627776):nW.wrap (Int.fdiv (IntKind.u64.wrap ((i:Int)+j)) (2 ^ (min 1 IntKind.u64.bits)))=((i+j)/2:Nat):=by
 have hw:IntKind.u64.wrap ((i:Int)+j)=i+j:=by simp[IntKind.wrap,IntKind.bits,IntKind.signed];omega
 have a:IntKind.u64.bits=64:=rfl;rw[hw,a,show(2:Int) ^ (min 1 64)=2 from by decide,Int.fdiv_eq_ediv_of_nonneg _ Ω,IntWalk.i64_in]
 ·omega
 ·omega
end
section
open Go
inductive Tm where
 |mk (kind n:Int) (name:List cF) (args:List Tm)
def Tm.kind:Tm->Int| .mk k _ _ _=>k
def Tm.num:Tm->Int| .mk _ n _ _=>n
def Tm.name:Tm->List cF| .mk _ _ s _=>s
def Tm.args:Tm->List Tm| .mk _ _ _ a=>a
mutual
def enc:Tm->aa
 | .mk k n s a=>.agg [.int .i64 k,.int .i64 n,.str s,.slice 4 .no (hK a)]
def hK:List Tm->List aa
 |[]=>[]
 |x::xs=>enc x::hK xs
end
def rD:∀l,hK l=l.map enc
 |[]=>rfl
 |x::xs=>by simp[hK,rD xs]
def ql(t:Tm):enc t= .agg [.int .i64 t.kind,.int .i64 t.num,.str t.name,.slice 4 .no (t.args.map enc)]:=by cases t;simp[enc,rD,Tm.kind,Tm.num,Tm.name,Tm.args]
mutual
def GR(S:ar->Prop):∀t:Tm,aR S (enc t)
 | .mk k n s a=>by simp[enc,aR,aV,AP S a]
def AP(S:ar->Prop):∀l:List Tm,aV S (hK l)
 |[]=>by simp[hK,aV]
 |x::xs=>by simp[hK,aV,GR S x,AP S xs]
end
mutual
def I2:∀t:Tm,bE (enc t)=enc t
 | .mk k n s a=>by simp[enc,bE,bt,B9 a]
def B9:∀l:List Tm,bt (hK l)=hK l
 |[]=>by simp[hK,bt]
 |x::xs=>by simp[hK,bt,I2 x,B9 xs]
end
@[simp]def VY(S:ar->Prop)(t:Tm):aR S (enc t)=True:=eq_true (GR S t)
@[simp]def VU(S:ar->Prop)(l:List Tm):aV S (l.map enc)=True:=by rw[<-rD];exact eq_true (AP S l)
def SN(l:List Tm):bt (l.map enc)=l.map enc:=by rw[<-rD];exact B9 l
attribute [simp] I2 SN
@[simp]def Xn(t:Tm):dd (enc t)=true:=by rw[ql];rfl
@[simp]def Ux(t:Tm):cells (enc t)=[.int .i64 t.kind,.int .i64 t.num,.str t.name,.slice 4 .no (t.args.map enc)]:=by rw[ql];rfl
@[simp]def T7(t:Tm):aa.agg [.int .i64 t.kind,.int .i64 t.num,.str t.name,.slice 4 .no (t.args.map enc)]=enc t:=(ql t).symm
@[simp]def VN(t:Tm):oK 4 (enc t):=by rw[ql];exact⟨_,rfl,rfl⟩
inductive T where
 |nil
 |var (n:Int)
 |sym (s:List cF)
 |num (n:Int)
 |pair (a b:T)
 deriving DecidableEq,Inhabited
def T.tm:T->Tm
 | .nil=>.mk 0 0 [] []
 | .var n=>.mk 1 n [] []
 | .sym s=>.mk 2 0 s []
 | .num n=>.mk 3 n [] []
 | .pair a b=>.mk 4 0 [] [a.tm,b.tm]
def T.e:T->aa
 | .nil=>.agg [.int .i64 0,.int .i64 0,.str [],.slice 4 .no []]
 | .var n=>.agg [.int .i64 1,.int .i64 n,.str [],.slice 4 .no []]
 | .sym s=>.agg [.int .i64 2,.int .i64 0,.str s,.slice 4 .no []]
 | .num n=>.agg [.int .i64 3,.int .i64 n,.str [],.slice 4 .no []]
 | .pair a b=>.agg [.int .i64 4,.int .i64 0,.str [],.slice 4 .no [a.e,b.e]]
def fQ:∀t:T,enc t.tm=t.e
 | .nil| .var _| .sym _| .num _=>rfl
 | .pair a b=>by simp[T.tm,enc,hK,T.e,fQ a,fQ b]
def T.kind:T->Int
 | .nil=>0| .var _=>1| .sym _=>2| .num _=>3| .pair _ _=>4
def T.int:T->Int
 | .var n=>n| .num n=>n|_=>0
def T.name:T->List cF
 | .sym s=>s|_=>[]
def T.args:T->List T
 | .pair a b=>[a,b]|_=>[]
def T.e_eq(t:T):t.e= .agg [.int .i64 t.kind,.int .i64 t.int,.str t.name,.slice 4 .no (t.args.map T.e)]:=by cases t<;>rfl
@[simp]def T6(t:T):aa.agg [.int .i64 t.kind,.int .i64 t.int,.str t.name,.slice 4 .no (t.args.map T.e)]=t.e:=(T.e_eq t).symm
@[simp]def Ua:aa.agg [.int .i64 0,.int .i64 0,.str [],.slice 4 .no []]=T.nil.e:=rfl
@[simp]def Ue(n:Int):aa.agg [.int .i64 1,.int .i64 n,.str [],.slice 4 .no []]=(T.var n).e:=rfl
@[simp]def Ud(s:List cF):aa.agg [.int .i64 2,.int .i64 0,.str s,.slice 4 .no []]=(T.sym s).e:=rfl
@[simp]def Ub(n:Int):aa.agg [.int .i64 3,.int .i64 n,.str [],.slice 4 .no []]=(T.num n).e:=rfl
@[simp]def Uc(a b:T):aa.agg [.int .i64 4,.int .i64 0,.str [],.slice 4 .no [a.e,b.e]]=(T.pair a b).e:=rfl
@[simp]def V3:(T.nil).kind=0:=rfl
@[simp]def VE:(T.nil).int=0:=rfl
@[simp]def Wv:(T.nil).name=[]:=rfl
@[simp]def Uf:(T.nil).args=[]:=rfl
@[simp]def V7(n:Int):(T.var n).kind=1:=rfl
@[simp]def VJ(n:Int):(T.var n).int=n:=rfl
@[simp]def Wz(n:Int):(T.var n).name=[]:=rfl
@[simp]def Uj(n:Int):(T.var n).args=[]:=rfl
@[simp]def V6(s:List cF):(T.sym s).kind=2:=rfl
@[simp]def VH(s:List cF):(T.sym s).int=0:=rfl
@[simp]def Wy(s:List cF):(T.sym s).name=s:=rfl
@[simp]def Ui(s:List cF):(T.sym s).args=[]:=rfl
@[simp]def V4(n:Int):(T.num n).kind=3:=rfl
@[simp]def VF(n:Int):(T.num n).int=n:=rfl
@[simp]def Ww(n:Int):(T.num n).name=[]:=rfl
@[simp]def Ug(n:Int):(T.num n).args=[]:=rfl
@[simp]def V5(a b:T):(T.pair a b).kind=4:=rfl
@[simp]def VG(a b:T):(T.pair a b).int=0:=rfl
@[simp]def Wx(a b:T):(T.pair a b).name=[]:=rfl
@[simp]def Uh(a b:T):(T.pair a b).args=[a,b]:=rfl
@[simp]def VX(S:ar->Prop)(t:T):aR S t.e=True:=by rw[<-fQ];simp
@[simp]def XH(t:T):bE t.e=t.e:=by rw[<-fQ];simp
def GQ(S:ar->Prop):∀l:List T,aV S (l.map T.e)
 |[]=>by simp[aV]
 |x::xs=>by simp[aV,GQ S xs]
@[simp]def Qe(S:ar->Prop)(l:List T):aV S (l.map T.e)=True:=eq_true (GQ S l)
@[simp]def Ca:∀l:List T,bt (l.map T.e)=l.map T.e
 |[]=>rfl
 |x::xs=>by simp[bt,Ca xs]
@[simp]def Xm(t:T):dd t.e=true:=by rw[T.e_eq];rfl
@[simp]def Uw(t:T):cells t.e=[.int .i64 t.kind,.int .i64 t.int,.str t.name,.slice 4 .no (t.args.map T.e)]:=by rw[T.e_eq];rfl
@[simp]def VM(t:T):oK 4 t.e:=by rw[T.e_eq];exact⟨_,rfl,rfl⟩
def T.size:T->Nat
 | .pair a b=>1+a.size+b.size
 |_=>1
def T.size_pos(t:T):1<=t.size:=by cases t<;>simp[T.size]<;>omega
def low(b:cF):Bool:=decide (97<=b.toNat/\b.toNat<=122)
def iW(b:cF):Bool:=low b||decide (48<=b.toNat/\b.toNat<=57)||b.toNat==45
def kj(s:List cF):Bool:=decide (1<=s.length/\s.length<=12)&&low (s.getD 0 0)&&(s.drop 1).all iW
def T.ok:T->Bool
 | .nil=>true
 | .var n=>decide (0<=n/\n<=100000)
 | .sym s=>kj s
 | .num n=>decide (-1000000000<=n/\n<=1000000000)
 | .pair a b=>a.ok&&b.ok
def hR(k n:Int)(s:List cF):Bool:=if k=0 then n==0&&s==[]else if k=1 then decide (0<=n/\n<=100000)&&s==[]else if k=2 then n==0&&kj s else if k=3 then decide (-1000000000<=n/\n<=1000000000)&&s==[]else false
def dO:Tm->Int->Int
 | .mk k n s [a,b],room=>if room<1\/k≠4\/n≠0\/s≠[]then-1 else if dO a (room-1)<0 then-1 else if dO b (room-1-dO a (room-1))<0 then-1 else 1+dO a (room-1)+dO b (room-1-dO a (room-1))
 | .mk k n s args,room=>if room<1\/k=4\/args≠[]\/hR k n s=false then-1 else 1
def Bd(k n:Int)(s:List cF)(args:List Tm)(room:Int):dO (.mk k n s args) room=if room<1 then-1 else if k≠4 then(if args≠[]then-1 else if hR k n s then 1 else-1)else if n≠0\/s≠[]then-1 else match args with
  |[a,b]=>if dO a (room-1)<0 then-1 else if dO b (room-1-dO a (room-1))<0 then-1 else 1+dO a (room-1)+dO b (room-1-dO a (room-1))
  |_=> -1:=by
 match args with
 |[]=>simp only[dO];by_cases I:room<1<;>by_cases J:k=4<;>by_cases d:hR k n s=true<;>simp[I,J,d]
 |[a]=>simp[dO]
 |[a,b]=>simp only[dO];by_cases I:room<1<;>by_cases J:k=4<;>simp[I,J]
 |a::b::c::r=>simp[dO]
def xo:∀(t:T) (room:Int),dO t.tm room=if t.ok=true/\(t.size:Int)<=room then(t.size:Int)else-1
 | .nil,room=>by simp[T.tm,dO,T.ok,T.size,hR];split<;>rename_i h<;>simp_all<;>omega
 | .var n,room=>by simp[T.tm,dO,T.ok,T.size,hR];split<;>split<;>simp_all<;>omega
 | .sym s,room=>by simp[T.tm,dO,T.ok,T.size,hR];by_cases I:room<1<;>by_cases J:kj s=true<;>simp[I,J]<;>omega
 | .num n,room=>by simp[T.tm,dO,T.ok,T.size,hR];split<;>split<;>simp_all<;>omega
 | .pair a b,room=>by
  have f:=a.size_pos;have g:=b.size_pos;simp only[T.tm,dO,xo a,xo b,T.ok,T.size,bN];by_cases I:room<1
  ·simp[I];omega
  ·by_cases J:a.ok=true/\(a.size:Int)<=room-1
   ·rw[if_pos J];by_cases c:b.ok=true/\(b.size:Int)<=room-1-a.size
    ·rw[if_pos c];simp[I,J.1,c.1];split<;>omega
    ·rw[bH c];simp[I,J.1];intro e;have:=c;simp[e]at this;omega
   ·rw[bH J];simp[I];intro d;have:=J;simp[d]at this;omega
def uq:∀(t:Tm) (room:Int),dO t room= -1\/1<=dO t room
 | .mk k n s [a,b],room=>by
  simp only[dO];split
  ·exact .inl rfl
  ·split
   ·exact .inl rfl
   ·split
    ·exact .inl rfl
    ·right;omega
 | .mk k n s [],room=>by simp only[dO];split<;>simp
 | .mk k n s [a],room=>by simp[dO]
 | .mk k n s (a::b::c::r),room=>by simp[dO]
def Bf:∀(t:Tm) (room:Int),0<dO t room->∃x:T,x.tm=t
 | .mk k n s [a,b],room,h=>by
  simp only[dO]at h;split at h
  ·omega
  ·rename_i I;simp only[not_or,Int.not_lt,ne_eq,XU]at I;obtain⟨I,rfl,rfl,rfl⟩:=I;split at h
   ·omega
   ·split at h
    ·omega
    ·obtain⟨x,rfl⟩:=Bf a (room-1) (by rcases uq a (room-1)with h|h<;>omega);obtain⟨y,rfl⟩:=Bf b (room-1-dO x.tm (room-1)) (by rcases uq b (room-1-dO x.tm (room-1))with h|h<;>omega);exact⟨.pair x y,rfl⟩
 | .mk k n s [],room,h=>by
  simp only[dO]at h;split at h
  ·omega
  ·rename_i I;simp only[not_or,ne_eq,not_true_eq_false,not_false_eq_true,true_and,Bool.not_eq_false]at I;obtain⟨_,_,I⟩:=I;unfold hR at I;split at I
   ·rename_i e;subst e;simp at I;obtain⟨rfl,rfl⟩:=I;exact⟨.nil,rfl⟩
   ·split at I
    ·rename_i e;subst e;simp at I;obtain⟨_,rfl⟩:=I;exact⟨.var n,rfl⟩
    ·split at I
     ·rename_i e;subst e;simp at I;obtain⟨rfl,_⟩:=I;exact⟨.sym s,rfl⟩
     ·split at I
      ·rename_i e;subst e;simp at I;obtain⟨_,rfl⟩:=I;exact⟨.num n,rfl⟩
      ·cases I
 | .mk k n s [a],room,h=>by simp[dO]at h
 | .mk k n s (a::b::c::r),room,h=>by simp[dO]at h
def Be:∀(t:Tm) (room:Int),dO t room<=room\/dO t room= -1
 | .mk k n s [a,b],room=>by
  simp only[dO];split
  ·exact .inr rfl
  ·split
   ·exact .inr rfl
   ·split
    ·exact .inr rfl
    ·rcases Be b (room-1-dO a (room-1))with h|h<;>omega
 | .mk k n s [],room=>by simp only[dO];split<;>simp;rename_i h;omega
 | .mk k n s [a],room=>by simp[dO]
 | .mk k n s (a::b::c::r),room=>by simp[dO]
mutual
def Tm.sz:Tm->Nat
 | .mk _ _ _ a=>1+Tm.szL a
def Tm.szL:List Tm->Nat
 |[]=>0
 |x::xs=>x.sz+Tm.szL xs
end
def szL_mem:∀{l:List Tm} {x:Tm},x∈l->x.sz<=Tm.szL l
 |y::l,x,h=>by
  rcases gw.1 h with rfl|h
  ·simp[Tm.szL]
  ·have:=szL_mem h;simp[Tm.szL];omega
def Ch{t x:Tm}(h:x∈t.args):x.sz<t.sz:=by cases t;simp[Tm.args]at h;have:=szL_mem h;simp[Tm.sz];omega
def T.fit(t:T):Bool:=t.ok&&decide (t.size<=5000)
def Tm.fits(t:Tm):Bool:=decide (0<dO t 5000)
def Tm.fits_T(t:T):t.tm.fits=t.fit:=by
 unfold Tm.fits T.fit;rw[xo];have:=t.size_pos;by_cases I:t.ok=true<;>by_cases J:t.size<=5000
 ·rw[if_pos ⟨I,Ω⟩];simp[I,J];omega
 ·rw[bH Ω];simp[J]
 ·rw[bH (by simp[I])];simp[I]
 ·rw[bH (by simp[I])];simp[I]
def Tm.fits_ex{t:Tm}(h:t.fits=true):∃x:T,x.tm=t/\x.fit=true:=by obtain⟨x,rfl⟩:=Bf t 5000 (by simpa[Tm.fits]using h);exact⟨x,rfl,by rw[<-Tm.fits_T];exact h⟩
structure bc where
 v:Int
 t:T
 deriving DecidableEq,Inhabited
def bc.e(b:bc):aa:= .agg [.int .i64 b.v,.int .i64 b.t.kind,.int .i64 b.t.int,.str b.t.name,.slice 4 .no (b.t.args.map T.e)]
@[simp]def bc.eta(b:bc):bc.mk b.v b.t=b:=rfl
@[simp]def CT(v:Int)(t:T):aa.agg [.int .i64 v,.int .i64 t.kind,.int .i64 t.int,.str t.name,.slice 4 .no (t.args.map T.e)]=(bc.mk v t).e:=rfl
@[simp]def T0(v:Int):aa.agg [.int .i64 v,.int .i64 0,.int .i64 0,.str [],.slice 4 .no []]=(bc.mk v .nil).e:=rfl
@[simp]def T4(v n:Int):aa.agg [.int .i64 v,.int .i64 1,.int .i64 n,.str [],.slice 4 .no []]=(bc.mk v (.var n)).e:=rfl
@[simp]def T3(v:Int)(s:List cF):aa.agg [.int .i64 v,.int .i64 2,.int .i64 0,.str s,.slice 4 .no []]=(bc.mk v (.sym s)).e:=rfl
@[simp]def T1(v n:Int):aa.agg [.int .i64 v,.int .i64 3,.int .i64 n,.str [],.slice 4 .no []]=(bc.mk v (.num n)).e:=rfl
@[simp]def T2(v:Int)(a b:T):aa.agg [.int .i64 v,.int .i64 4,.int .i64 0,.str [],.slice 4 .no [a.e,b.e]]=(bc.mk v (.pair a b)).e:=rfl
@[simp]def VW(S:ar->Prop)(b:bc):aR S b.e=True:=by simp[bc.e,-CT]
@[simp]def XG(b:bc):bE b.e=b.e:=by simp[bc.e,-CT]
def GP(S:ar->Prop):∀l:List bc,aV S (l.map bc.e)
 |[]=>by simp[aV]
 |x::xs=>by simp[aV,GP S xs]
@[simp]def VT(S:ar->Prop)(l:List bc):aV S (l.map bc.e)=True:=eq_true (GP S l)
@[simp]def SM:∀l:List bc,bt (l.map bc.e)=l.map bc.e
 |[]=>rfl
 |x::xs=>by simp[bt,SM xs]
@[simp]def Xe(b:bc):dd b.e=true:=rfl
@[simp]def Uq(b:bc):cells b.e=[.int .i64 b.v,.int .i64 b.t.kind,.int .i64 b.t.int,.str b.t.name,.slice 4 .no (b.t.args.map T.e)]:=rfl
@[simp]def VL(b:bc):oK 5 b.e:=⟨_,rfl,rfl⟩
@[simp]def U8(off:Nat)(a:Bool)(sz:Nat)(b:bc):oh off a sz b.e=if a then some (off+sz<=5,.agg (([.int .i64 b.v,.int .i64 b.t.kind,.int .i64 b.t.int,.str b.t.name,.slice 4 .no (b.t.args.map T.e)].drop off).take sz))else(([.int .i64 b.v,.int .i64 b.t.kind,.int .i64 b.t.int,.str b.t.name,.slice 4 .no (b.t.args.map T.e)]:List aa)[off]?).map fun p=>(True,p):=rfl
@[simp]def U0(off:Nat)(a:Bool)(sz:Nat)(b:bc):ml off a sz (.eptr b.e)=if a then some (off+sz<=5,.eptr (.agg (([.int .i64 b.v,.int .i64 b.t.kind,.int .i64 b.t.int,.str b.t.name,.slice 4 .no (b.t.args.map T.e)].drop off).take sz)))else(([.int .i64 b.v,.int .i64 b.t.kind,.int .i64 b.t.int,.str b.t.name,.slice 4 .no (b.t.args.map T.e)]:List aa)[off]?).map fun p=>(dd p=true/\cells p=[p],.eptr p):=rfl
def T.occ(v:Int):T->Bool
 | .var n=>n==v
 | .pair a b=>a.occ v||b.occ v
 |_=>false
def gg(a b:Int):Int:=if a<b then-1 else if b<a then 1 else 0
def hD(a b:List cF):Int:=if a=b then 0 else if fX a b then-1 else 1
def ca:T->T->Int
 | .pair a b,.pair c d=>if ca a c=0 then ca b d else ca a c
 |x,y=>if x.kind≠y.kind then gg x.kind y.kind else if x.int≠y.int then gg x.int y.int else hD x.name y.name
structure iL where
 v:Int
 t:Tm
def iL.e(b:iL):aa:= .agg [.int .i64 b.v,.int .i64 b.t.kind,.int .i64 b.t.num,.str b.t.name,.slice 4 .no (b.t.args.map enc)]
def bc.b(b:bc):iL:=⟨b.v,b.t.tm⟩
@[simp]def iL.eta(b:iL):iL.mk b.v b.t=b:=rfl
@[simp]def T5(v:Int)(t:Tm):aa.agg [.int .i64 v,.int .i64 t.kind,.int .i64 t.num,.str t.name,.slice 4 .no (t.args.map enc)]=(iL.mk v t).e:=rfl
@[simp]def Xh(b:iL):dd b.e=true:=rfl
@[simp]def Ut(b:iL):cells b.e=[.int .i64 b.v,.int .i64 b.t.kind,.int .i64 b.t.num,.str b.t.name,.slice 4 .no (b.t.args.map enc)]:=rfl
@[simp]def U9(off:Nat)(a:Bool)(sz:Nat)(b:iL):oh off a sz b.e=if a then some (off+sz<=5,.agg (([.int .i64 b.v,.int .i64 b.t.kind,.int .i64 b.t.num,.str b.t.name,.slice 4 .no (b.t.args.map enc)].drop off).take sz))else(([.int .i64 b.v,.int .i64 b.t.kind,.int .i64 b.t.num,.str b.t.name,.slice 4 .no (b.t.args.map enc)]:List aa)[off]?).map fun p=>(True,p):=rfl
@[simp]def U1(off:Nat)(a:Bool)(sz:Nat)(b:iL):ml off a sz (.eptr b.e)=if a then some (off+sz<=5,.eptr (.agg (([.int .i64 b.v,.int .i64 b.t.kind,.int .i64 b.t.num,.str b.t.name,.slice 4 .no (b.t.args.map enc)].drop off).take sz)))else(([.int .i64 b.v,.int .i64 b.t.kind,.int .i64 b.t.num,.str b.t.name,.slice 4 .no (b.t.args.map enc)]:List aa)[off]?).map fun p=>(dd p=true/\cells p=[p],.eptr p):=rfl
def ly:∀a b:T,ca a b=0↔a=b
 | .pair a b,.pair c d=>by
  simp only[ca,T.pair.injEq];split
  ·rename_i h;rw[ly b d,<-ly a c];simp[h]
  ·rename_i h;simp[h,<-ly a c]
 | .nil,y=>by cases y<;>simp[ca,gg,hD]
 | .var n,y=>by cases y<;>simp[ca,gg,hD]<;>omega
 | .sym s,y=>by cases y<;>simp[ca,gg,hD];rename_i e;by_cases h:s=e<;>simp[h];by_cases J:fX s e=true<;>simp[J]
 | .num n,y=>by cases y<;>simp[ca,gg,hD]<;>omega
 | .pair a b,.nil| .pair a b,.var _| .pair a b,.sym _| .pair a b,.num _=>by simp[ca,gg]
def T.sub(f:Int->aT T):T->T
 | .var n=>match f n with|some x=>x|none=>.var n
 | .pair a b=>.pair (a.sub f) (b.sub f)
 |t=>t
def hU(f:Int->Int):T->Int
 | .var n=>if 5001<f n then 5001 else f n
 | .pair a b=>if 5000<hU f a then hU f a else if 5001<1+hU f a+hU f b then 5001 else 1+hU f a+hU f b
 |_=>1
def x6(f:Int->Int)(c:∀v,-1<=f v):∀t,-1<=hU f t/\hU f t<=5001
 | .var n=>by have:=c n;simp only[hU];split<;>omega
 | .pair a b=>by have:=x6 f c a;have:=x6 f c b;simp only[hU];split<;>(try split)<;>omega
 | .nil| .sym _| .num _=>by simp[hU]
def gY(l:List bc)(v:Int):aT T:=(l.find? fun b=>b.v==v).map (·.t)
end
section
open Go
structure ky {α:Type} (c:α->α->Int):Prop where
 neg:∀a b,c b a= -c a b
 tr:∀a b d,c a b<=0->c b d<=0->c a d<=0
 zero:∀a b,c a b=0↔a=b
section
variable {α:Type} {c:α->α->Int}
def pQ(c:α->α->Int)(a b:α):Bool:=decide (c a b<0)
def ky.ltOk(h:ky c):lI (pQ c):=by
 refine⟨fun x y a=>?_,fun x y z I J=>?_⟩
 ·simp only[pQ,e3,decide_eq_false_iff_not]at a⊢;rw[h.neg x y];omega
 ·simp only[pQ,decide_eq_false_iff_not]at I J⊢;have b:=h.neg x y;have e:=h.neg y z;have d:=h.neg x z;have:=h.tr x y z Ω Ω;omega
def ky.refl(h:ky c)(a:α):c a a=0:=(h.zero a a).2 rfl
def ky.ltr(h:ky c){a b d:α}(I:c a b<0)(J:c b d<=0):c a d<0:=by
 have f:=h.tr a b d Ω J;rcases(by omega:c a d<0\/c a d=0)with e|e
 ·exact e
 ·obtain rfl:=(h.zero a d).1 e;have:=h.neg a b;omega
def o3(c:α->α->Int)(l:List α):List α:=l.mergeSort fun x y=>decide (c x y<=0)
def uT(c:α->α->Int)(l:List α):(o3 c l).Perm l:=List.mergeSort_perm l _
def IZ(h:ky c)(l:List α):(o3 c l).Pairwise fun x y=>c x y<=0:=by have:=List.pairwise_mergeSort (le:=fun x y=>decide (c x y<=0)) (fun a b d I J=>by simp at I J⊢;exact h.tr a b d I J) (fun a b=>by simp;have:=h.neg a b;omega) l;exact this.imp Ψ
def SJ(h:ky c){l a:List α}(e:a.Perm l)(d:a.Pairwise fun x y=>pQ c y x=false):a=o3 c l:=by refine JX (le:=fun x y=>c x y<=0) (fun x y _ _ I J=>(h.zero x y).1 (by have:=h.neg x y;omega)) (d.imp fun{x y} b=>?_) (IZ h l) (e.trans (uT c l).symm);simp only[pQ,decide_eq_false_iff_not]at b;have:=h.neg x y;omega
def cG[DecidableEq α](p:aT α):List α->List α
 |[]=>[]
 |x::r=>if p=some x then cG (some x) r else x::cG (some x) r
def asc[DecidableEq α](c:α->α->Int)(l:List α):List α:=cG none (o3 c l)
def lb(c:α->α->Int)(l:List α):Prop:=l.Pairwise fun x y=>c x y<0
variable [DecidableEq α]
def yX:∀(l:List α) (p:aT α),(cG p l).length<=l.length
 |[],_=>by simp[cG]
 |x::r,p=>by have:=yX r (some x);simp only[cG];split<;>simp<;>omega
def Kl(c:α->α->Int)(l:List α):(asc c l).length<=l.length:=by have I:=yX (o3 c l) none;have J:=(uT c l).length_eq;unfold asc;omega
def yY:∀(l:List α) (p:aT α) (x:α),x∈cG p l->x∈l
 |[],_,_,h=>by simp[cG]at h
 |y::r,p,x,h=>by
  simp only[cG]at h;split at h
  ·exact List.mem_cons_of_mem _ (yY r _ x h)
  ·rcases gw.1 h with rfl|h
   ·simp
   ·exact List.mem_cons_of_mem _ (yY r _ x h)
def A2:∀(l:List α) (p:aT α) (x:α),x∈l->x∈cG p l\/p=some x
 |y::r,p,x,h=>by
  simp only[cG];rcases gw.1 h with rfl|h
  ·split
   ·rename_i J;exact .inr J
   ·simp
  ·split
   ·rename_i J;rcases A2 r (some y) x h with a|a
    ·exact .inl a
    ·cases a;exact .inr J
   ·rcases A2 r (some y) x h with a|a
    ·exact .inl (List.mem_cons_of_mem _ a)
    ·cases a;simp
def Ej(aA:ky c):∀(l:List α) (p:aT α),l.Pairwise (fun x y=>c x y<=0)->(∀y,p=some y->∀x∈l,c y x<=0)->lb c (cG p l)/\∀y,p=some y->∀x∈cG p l,c y x<0
 |[],p,_,_=>⟨ym,fun y _ x a=>by simp[cG]at a⟩
 |z::r,p,h,i=>by
  obtain⟨I,J⟩:=List.pairwise_cons.1 h;have b:=Ej aA r (some z) J (fun y e x a=>by cases e;exact I x a);simp only[cG];split
  ·rename_i d;subst d;exact b
  ·rename_i d;refine⟨List.pairwise_cons.2 ⟨fun x a=>b.2 z rfl x a,b.1⟩,fun y e x a=>?_⟩;subst e;have g:c y z<0:=by
    have j:=i y rfl z Ψ;rcases(by omega:c y z<0\/c y z=0)with f|f
    ·exact f
    ·exact absurd (eR some ((aA.zero y z).1 f)) d
   rcases gw.1 a with rfl|a
   ·exact g
   ·exact aA.ltr g (by have:=b.2 z rfl x a;omega)
def Km(aA:ky c)(l:List α):lb c (asc c l):=(Ej aA _ none (IZ aA l) (fun y h=>by cases h)).1
def Hd(l:List α)(x:α):x∈asc c l↔x∈l:=by
 constructor
 ·intro h;exact(uT c l).mem_iff.1 (yY _ _ _ h)
 ·intro h;rcases A2 (o3 c l) none x ((uT c l).mem_iff.2 h)with h|h
  ·exact h
  ·cases h
omit [DecidableEq α]in
def lb.ext(aA:ky c){l d:List α}(h:lb c l)(f:lb c d)(hm:∀x,x∈l↔x∈d):l=d:=by
 have g:∀{l:List α},lb c l->l.Nodup:=fun{l} h=>h.imp fun{a b} h e=>by subst e;have:=aA.refl a;omega
 refine JX (le:=fun x y=>c x y<=0) (fun x y _ _ I J=>(aA.zero x y).1 (by have:=aA.neg x y;omega)) (h.imp fun h=>Ω) (f.imp fun h=>Ω) ?_;exact(List.perm_ext_iff_of_nodup (g h) (g f)).2 hm
end
def C4:∀a b:List cF,fX a b=true->fX b a=false
 |_,[],h=>by simp[fX]at h
 |[],_::_,_=>by simp[fX]
 |x::a,y::b,h=>by
  simp only[fX,Bool.or_eq_true,e3,bN,c2]at h;simp only[fX,Bool.or_eq_false_iff,decide_eq_false_iff_not,Bool.and_eq_false_iff];rcases h with h|⟨rfl,h⟩
  ·refine⟨fun J=>?_,.inl ?_⟩
   ·rw[UInt8.lt_iff_toNat_lt]at h J;omega
   ·simp;intro e;subst e;rw[UInt8.lt_iff_toNat_lt]at h;omega
  ·exact⟨fun J=>by rw[UInt8.lt_iff_toNat_lt]at J;omega,.inr (C4 a b h)⟩
def C6:∀a b:List cF,a≠b->fX a b=false->fX b a=true
 |[],[],h,_=>absurd rfl h
 |x::a,[],_,_=>by simp[fX]
 |[],_::_,_,h=>by simp[fX]at h
 |x::a,y::b,c,h=>by
  simp only[fX,Bool.or_eq_false_iff,decide_eq_false_iff_not,Bool.and_eq_false_iff]at h;simp only[fX,Bool.or_eq_true,e3,bN,c2];by_cases e:x=y
  ·subst e;right;refine⟨rfl,C6 a b (fun e=>c (by rw[e])) ?_⟩;rcases h.2 with J|J
   ·simp at J
   ·exact J
  ·left;have I:=h.1;rw[UInt8.lt_iff_toNat_lt]at I⊢;have:x.toNat≠y.toNat:=fun h=>e (UInt8.toNat_inj.1 h);omega
def C5:∀a b d:List cF,fX a b=true->fX b d=true->fX a d=true
 |_,[],_,h,_=>by simp[fX]at h
 |_,_::_,[],_,h=>by simp[fX]at h
 |[],_::_,_::_,_,_=>by simp[fX]
 |x::a,y::b,z::d,I,J=>by
  simp only[fX,Bool.or_eq_true,e3,bN,c2,UInt8.lt_iff_toNat_lt]at I J⊢;rcases I with I|⟨rfl,I⟩<;>rcases J with J|⟨rfl,J⟩
  ·left;omega
  ·left;exact I
  ·left;exact J
  ·exact .inr ⟨rfl,C5 a b d I J⟩
def oT:ky gg:=by
 refine⟨fun a b=>?_,fun a b d=>?_,fun a b=>?_⟩
 ·simp only[gg];repeat' split
  all_goals omega
 ·simp only[gg];repeat' split
  all_goals omega
 ·simp only[gg];repeat' split
  all_goals omega
def Hv:ky hD:=by
 have g:∀a b,hD b a= -hD a b:=fun a b=>by
  simp only[hD];by_cases e:a=b
  ·subst e;simp
  ·rw[bH e,bH (Ne.symm e)];cases h:fX a b with
   |true=>simp[C4 a b h]
   |false=>simp[C6 a b e h]
 refine⟨g,fun a b d I J=>?_,fun a b=>?_⟩
 ·simp only[hD]at I J⊢;by_cases c:a=b
  ·subst c;exact J
  ·by_cases f:b=d
   ·subst f;exact I
   ·rw[bH c]at I;rw[bH f]at J;have g1:fX a b=true:=by cases h:fX a b<;>simp[h]at I⊢
    have g2:fX b d=true:=by cases h:fX b d<;>simp[h]at J⊢
    rw[C5 a b d g1 g2];split<;>simp
 ·simp only[hD];by_cases e:a=b
  ·simp[e]
  ·rw[bH e];simp[e];split<;>omega
def mK{a b:T}(h:a.kind≠b.kind):ca a b=gg a.kind b.kind:=by cases a<;>cases b<;>simp at h<;>simp[ca]
def uw:∀a b:T,ca b a= -ca a b
 | .pair a b,.pair c d=>by
  simp only[ca];have I:=uw a c;have J:=uw b d;by_cases e:ca a c=0
  ·rw[if_pos e,if_pos Ω,J]
  ·rw[bH e,bH Ω,I]
 | .nil,y=>by
  by_cases U:T.nil.kind=y.kind
  ·cases y<;>simp at U;simp[ca,hD]
  ·rw[mK U,mK (Ne.symm U),oT.neg]
 | .var n,y=>by
  by_cases U:(T.var n).kind=y.kind
  ·cases y<;>simp at U;rename_i m;by_cases e:n=m
   ·subst e;simp[ca,hD]
   ·simp[ca,e,Ne.symm e,oT.neg n m]
  ·rw[mK U,mK (Ne.symm U),oT.neg]
 | .sym s,y=>by
  by_cases U:(T.sym s).kind=y.kind
  ·cases y<;>simp at U;rename_i m;simp[ca,Hv.neg s m]
  ·rw[mK U,mK (Ne.symm U),oT.neg]
 | .num n,y=>by
  by_cases U:(T.num n).kind=y.kind
  ·cases y<;>simp at U;rename_i m;by_cases e:n=m
   ·subst e;simp[ca,hD]
   ·simp[ca,e,Ne.symm e,oT.neg n m]
  ·rw[mK U,mK (Ne.symm U),oT.neg]
 | .pair a b,.nil| .pair a b,.var _| .pair a b,.sym _| .pair a b,.num _=>by simp[ca,gg]
def xA{a b:T}(h:ca a b<=0):a.kind<=b.kind:=by
 by_cases U:a.kind=b.kind
 ·omega
 ·rw[mK U]at h;simp only[gg]at h;repeat' split at h
  all_goals omega
def Hx(n m:Int):ca (.var n) (.var m)=gg n m:=by
 simp only[ca,T.kind,T.int,T.name,hD];by_cases e:n=m
 ·subst e;simp[gg]
 ·simp[e]
def Hw(n m:Int):ca (.num n) (.num m)=gg n m:=by
 simp only[ca,T.kind,T.int,T.name,hD];by_cases e:n=m
 ·subst e;simp[gg]
 ·simp[e]
def RV(n m:List cF):ca (.sym n) (.sym m)=hD n m:=by simp[ca]
def xB(a b d:T)(c:a.kind≠4)(I:ca a b<=0)(J:ca b d<=0):ca a d<=0:=by
 have e:=xA I;have f:=xA J;by_cases U:a.kind=d.kind
 ·cases a<;>cases d<;>simp at U c;all_goals(cases b<;>simp at e f)
  ·simp[ca,hD]
  ·rw[Hx]at I J⊢;exact oT.tr _ _ _ I J
  ·rw[RV]at I J⊢;exact Hv.tr _ _ _ I J
  ·rw[Hw]at I J⊢;exact oT.tr _ _ _ I J
 ·rw[mK U];simp only[gg];repeat' split
  all_goals omega
def RW:∀a b d:T,ca a b<=0->ca b d<=0->ca a d<=0:=by
 intro a;induction a with
 |pair c a2 j i=>
  intro b d I J;have k:=xA I;have l:=xA J;cases b<;>simp at k;all_goals(cases d<;>simp at l)
  rename_i e m d1 d2;simp only[ca]at I J⊢;by_cases g:ca c e=0
  ·obtain rfl:=(ly c e).1 g;rw[if_pos g]at I;by_cases f:ca c d1=0
   ·rw[if_pos f]at J⊢;exact i m d2 I J
   ·rw[bH f]at J⊢;exact J
  ·rw[bH g]at I;by_cases f:ca e d1=0
   ·obtain rfl:=(ly e d1).1 f;rw[bH g];exact I
   ·rw[bH f]at J;have o:=j e d1 I J;by_cases h:ca c d1=0
    ·obtain rfl:=(ly c d1).1 h;have:=uw c e;omega
    ·rw[bH h];exact o
 |nil=>exact fun b d=>xB _ b d Ψ
 |var n=>exact fun b d=>xB _ b d Ψ
 |sym n=>exact fun b d=>xB _ b d Ψ
 |num n=>exact fun b d=>xB _ b d Ψ
def sr:ky ca:=⟨uw,RW,ly⟩
end
section
open Go
section
variable {α:Type} {c:α->α->Int}
end
end
section
open Go
def T.ap(c:Int->T):T->T
 | .var n=>c n
 | .pair a b=>.pair (a.ap c) (b.ap c)
 |t=>t
def Kj{f g:Int->T}{t:T}(h:∀v,t.occ v=true->f v=g v):t.ap f=t.ap g:=by
 induction t with
 |var n=>exact h n (by simp[T.occ])
 |pair a b e d=>simp only[T.ap];rw[e fun v c=>h v (by simp[T.occ,c]),d fun v c=>h v (by simp[T.occ,c])]
 |_=>rfl
def I4(f:Int->aT T)(t:T):t.sub f=t.ap fun v=>(f v).getD (.var v):=by
 induction t with
 |var n=>simp only[T.sub,T.ap];cases f n<;>rfl
 |pair a b d c=>simp[T.sub,T.ap,d,c]
 |_=>rfl
def eI(s:List bc)(v:Int):T:=(gY s v).getD (.var v)
abbrev mb(s:List bc):Prop:=s.Pairwise fun x y=>x.v<y.v
def vi(s:List bc)(a:Int->T):Prop:= ∀b∈s,a b.v=b.t.ap a
structure vj (s:List bc):Prop where
 asc:mb s
 free:∀b∈s,∀w,b.t.occ w=true->gY s w=none
 ori:∀b∈s,∀w,b.t= .var w->w<b.v
def Kt(b:bc)(s:List bc)(v:Int):gY (b::s) v=if b.v=v then some b.t else gY s v:=by
 unfold gY;by_cases h:b.v=v
 ·simp[h]
 ·have:(b.v==v)=false:=by simp[h]
  simp[this,h,List.find?_cons]
def C3{v:Int}{t:T}:∀{s:List bc},gY s v=some t->(⟨v,t⟩:bc)∈s
 |[],h=>by simp[gY]at h
 |b::s,h=>by
  rw[Kt]at h;split at h
  ·rename_i e;cases h;subst e;simp
  ·exact List.mem_cons_of_mem _ (C3 h)
def u9(s:List bc):Prop:=s.length<=400/\∀b∈s,b.t.size<=5000
def CQ(E:List (T×T))(a:Int->T):Prop:= ∀e∈E,e.1.ap a=e.2.ap a
def Ke(s:List bc)(E:List (T×T)):aT (List bc)->Prop
 |some b=>(vj b/\u9 b)/\∀a,vi b a↔vi s a/\CQ E a
 |none=> ∀b,vj b->(∀a,vi b a->vi s a/\CQ E a)->¬u9 b
def one(v:Int)(x:T)(w:Int):T:=if w=v then x else .var w
def Ck{α:Type}(k:Int):List (Int×α)->aT α
 |[]=>none
 |(i,v)::r=>if k=i then some v else Ck k r
structure J2 where
 up:List (Int×Int)
 shape:List (Int×T)
 shaped:List (Int×Bool)
 color:List (Int×Int)
 size:List (Int×Int)
 full:List (Int×T)
end
section
open Go
section
variable {HC:Int->aT T} {CE:Int->Int} {r:Int->Nat}
end
section
variable {c:J2} {CE:Int->Int} {x y:Int}
end
end
section
open Go
def cut(n:Nat):Int:=if 5001<(n:Int)then 5001 else n
section
variable {V:List Int} {HC:Int->aT T} {CE:Int->Int} {r:Int->Nat}
end
end
section
open Go
section
variable {V:List Int} {HC:Int->aT T} {CE:Int->Int} {r:Int->Nat}
end
def Lw(s:List bc):List (T×T):=s.map fun b=>(.var b.v,b.t)
end
section
open Go
open Classical in
noncomputable def QC(s:List bc)(E:List (T×T)):aT (List bc):=if h:∃o,Ke s E o then h.choose else none
def Hm(s:List bc):Prop:= ∀b∈s,(0<=b.v/\b.v<=100000)/\b.t.ok=true
def Cv:T->List Int
 | .var n=>[n]
 | .pair a b=>Cv a++Cv b
 |_=>[]
end
section
open Go
structure gH where
 v:Int
 k:Int
 deriving DecidableEq,Inhabited
def gH.e(b:gH):aa:= .agg [.int .i64 b.v,.int .i64 b.k]
@[simp]def gH.eta(b:gH):gH.mk b.v b.k=b:=rfl
@[simp]def T8(v k:Int):aa.agg [.int .i64 v,.int .i64 k]=(gH.mk v k).e:=rfl
@[simp]def Xu(b:gH):dd b.e=true:=rfl
@[simp]def UF(b:gH):cells b.e=[.int .i64 b.v,.int .i64 b.k]:=rfl
@[simp]def Va(off:Nat)(a:Bool)(sz:Nat)(b:gH):oh off a sz b.e=if a then some (off+sz<=2,.agg (([.int .i64 b.v,.int .i64 b.k].drop off).take sz))else(([.int .i64 b.v,.int .i64 b.k]:List aa)[off]?).map fun p=>(True,p):=rfl
@[simp]def U2(off:Nat)(a:Bool)(sz:Nat)(b:gH):ml off a sz (.eptr b.e)=if a then some (off+sz<=2,.eptr (.agg (([.int .i64 b.v,.int .i64 b.k].drop off).take sz)))else(([.int .i64 b.v,.int .i64 b.k]:List aa)[off]?).map fun p=>(dd p=true/\cells p=[p],.eptr p):=rfl
structure fy where
 v:Int
 s:List cF
 deriving DecidableEq,Inhabited
def fy.e(b:fy):aa:= .agg [.int .i64 b.v,.str b.s]
@[simp]def fy.eta(b:fy):fy.mk b.v b.s=b:=rfl
@[simp]def T9(v:Int)(s:List cF):aa.agg [.int .i64 v,.str s]=(fy.mk v s).e:=rfl
@[simp]def Xw(b:fy):dd b.e=true:=rfl
@[simp]def UH(b:fy):cells b.e=[.int .i64 b.v,.str b.s]:=rfl
@[simp]def Vb(off:Nat)(a:Bool)(sz:Nat)(b:fy):oh off a sz b.e=if a then some (off+sz<=2,.agg (([.int .i64 b.v,.str b.s].drop off).take sz))else(([.int .i64 b.v,.str b.s]:List aa)[off]?).map fun p=>(True,p):=rfl
@[simp]def U3(off:Nat)(a:Bool)(sz:Nat)(b:fy):ml off a sz (.eptr b.e)=if a then some (off+sz<=2,.eptr (.agg (([.int .i64 b.v,.str b.s].drop off).take sz)))else(([.int .i64 b.v,.str b.s]:List aa)[off]?).map fun p=>(dd p=true/\cells p=[p],.eptr p):=rfl
def RT(x y:fy):Int:=if gg x.v y.v=0 then hD x.s y.s else gg x.v y.v
section
variable {α:Type} {c:α->α->Int}
end
structure fu (l:List gH):Prop where
 at':∀x∈l,(0<=x.v/\x.v<=100000)/\(x.k=2\/x.k=3)
 asc:l.Pairwise fun x y=>x.v<y.v
def Qb(l:List gH)(v:Int):aT Int:=(l.find? fun x=>x.v==v).map (·.k)
def Gl(x:gH):List gH->List gH
 |[]=>[x]
 |y::l=>if y.v<x.v then y::Gl x l else x::y::l
def Kf(l:List gH)(t:T)(k:Int):aT (List gH):=match t with
 | .var n=>match Qb l n with
  |some aQ=>if aQ=k then some l else none
  |none=>some (Gl ⟨n,k⟩ l)
 |t=>if t.kind=k then some l else none
def Il(s:List bc):List gH->List gH->aT (List gH)
 |[],acc=>some acc
 |x::r,acc=>match Kf acc (eI s x.v) x.k with
  |some a=>Il s r a
  |none=>none
def _root_.Go.Pv.T.has(s:List cF):T->Bool
 | .sym n=>n==s
 | .pair a b=>a.has s||b.has s
 |_=>false
def Kg(l:List fy)(t:T)(s:List cF):aT (List fy):=if t.has s then none else some (asc RT (l++(Cv t).map fun v=>⟨v,s⟩))
def Im(s:List bc):List fy->List fy->aT (List fy)
 |[],acc=>some acc
 |x::r,acc=>match Kg acc (eI s x.v) x.s with
  |some a=>Im s r a
  |none=>none
end
end Go.Pv
namespace Go.Proofs.YtahlgcidhnjlbaaGreat
section
open Go Go.Pv
def Dh:C:=(al [ed 1 0,dg 2 false] (al [bP 3 4 1,gW 4 131 [.t 3,(fI 5000)],br 5 .gtr 4 0,ae 2 5] .ret))
def Di:C:=(al [ed 1 0,iK 2 1] (.seq (al [bP 4 4 1,eJ 5 64 4,gU 6 5] (bz 6 (al [iK 2 1] .ret) .skip)) (al [hH (.mkmap 7 (some 304)),hH (.alloc 3 (some 305) (.junk)),cZ 1 3 7] (al [bP 8 4 1,cd 9 (.mkf 135 [.t 3]),c8 10 134 8 9] (al [bh 11 1 3,eJ 12 136 11,ae 2 12] .ret)))))
def Dx:C:=(al [hH (.box 2 (some 201) (.t 0)),ed 3 1,fM 4 e0,dg 5 false] (al [bP 6 4 3,cd 7 (.mkf 138 [.t 2]),c8 8 137 6 7,kX 9 0 8,kX 10 1 8,cZ 4 4 9,ae 5 10] .ret))
def ry:C:=(al [ed 1 0,fM 2 e0] (al [bu 6 0 1 1,bh 7 1 6,bu 8 1 1 1,bh 9 1 8,bu 10 2 1 1,bh 11 1 10,nT 12 e0 [(0,1,(.t 7)),(1,1,(.t 9)),(2,1,(.t 11))],fM 3 e0,cZ 4 3 12] (.seq (al [bu 13 3 1 1,bh 14 1 13,eu 15 14,cp 16 0] (mW 17 16 15 (.seq (.block 1 (al [eO 18 4 14 16,bP 19 4 18,fM 5 e0,cZ 4 5 19] (.drawn true 29 [bu 20 3 1 3,bh 21 1 20,bP 22 4 5,eJ 23 130 22,gN 24 4 30 [.t 23],k7 25 4 30 21 24,bu 26 3 1 3,cZ 1 26 25]))) (.region [br 27 .add 16 1,ae 16 27])))) (al [bP 28 4 3,cZ 4 2 28] .ret))))
def Dt:C:=(al [ed 2 0,cp 4 0] (.seq (al [ae 7 1,br 8 .lss 7 1] (bz 8 (al [cp 4 (-1)] .ret) .skip)) (.seq (al [bu 9 0 1 2,bh 10 1 9,br 11 .neq 10 4] (bz 11 (.seq (al [bu 12 3 1 2,bh 13 1 12,eu 14 13,br 15 .neq 14 0] (bz 15 (al [cp 4 (-1)] .ret) .skip)) (.seq (al [bu 16 0 1 2,bh 17 1 16] (.block 0 (al [br 19 .eql 17 0,ae 18 19] (bz 18 (al [bu 20 1 1 2,bh 21 1 20,br 22 .neq 21 0,ae 23 22,bk 23 false (bu 24 2 1 2),bk 23 false (bh 25 1 24),u7 23 false 26 (.bin .neq false (.t 25) (.c (.str []))),hj 27 23 26] (bz 27 (al [cp 4 (-1)] .ret) .skip)) (al [br 29 .eql 17 1,ae 28 29] (bz 28 (al [bu 30 1 1 2,bh 31 1 30,br 32 .lss 31 0,ae 33 32,bk 33 false (bu 34 1 1 2),bk 33 false (bh 35 1 34),bk 33 false (br 36 .gtr 35 100000),hj 37 33 36,ae 38 37,bk 38 false (bu 39 2 1 2),bk 38 false (bh 40 1 39),u7 38 false 41 (.bin .neq false (.t 40) (.c (.str []))),hj 42 38 41] (bz 42 (al [cp 4 (-1)] .ret) .skip)) (al [br 44 .eql 17 2,ae 43 44] (bz 43 (al [bu 45 1 1 2,bh 46 1 45,br 47 .neq 46 0,ae 48 47,bk 48 false (bu 49 2 1 2),bk 48 false (bh 50 1 49),bk 48 false (eJ 51 160 50),bk 48 false (gU 52 51),hj 53 48 52] (bz 53 (al [cp 4 (-1)] .ret) .skip)) (al [br 55 .eql 17 3,ae 54 55] (bz 54 (al [bu 56 1 1 2,bh 57 1 56,br 58 .lss 57 (-1000000000),ae 59 58,bk 59 false (bu 60 1 1 2),bk 59 false (bh 61 1 60),bk 59 false (br 62 .gtr 61 1000000000),hj 63 59 62,ae 64 63,bk 64 false (bu 65 2 1 2),bk 64 false (bh 66 1 65),u7 64 false 67 (.bin .neq false (.t 66) (.c (.str []))),hj 68 64 67] (bz 68 (al [cp 4 (-1)] .ret) .skip)) (al [cp 4 (-1)] .ret))))))))))) (al [cp 4 1] .ret))) .skip)) (.seq (al [bu 69 1 1 2,bh 70 1 69,br 71 .neq 70 0,ae 72 71,bk 72 false (bu 73 2 1 2),bk 72 false (bh 74 1 73),u7 72 false 75 (.bin .neq false (.t 74) (.c (.str []))),hj 76 72 75,ae 77 76,bk 77 false (bu 78 3 1 2),bk 77 false (bh 79 1 78),bk 77 false (eu 80 79),bk 77 false (br 81 .neq 80 2),hj 82 77 81] (bz 82 (al [cp 4 (-1)] .ret) .skip)) (al [bu 83 3 1 2,bh 84 1 83,jf 85 4 84 0,bP 86 4 85,ae 87 1,br 88 .sub 87 1,c8 89 131 86 88,ae 5 89] (.seq (al [ae 90 5,br 91 .lss 90 0] (bz 91 (al [cp 4 (-1)] .ret) .skip)) (al [bu 92 3 1 2,bh 93 1 92,jf 94 4 93 1,bP 95 4 94,ae 96 1,br 97 .sub 96 1,ae 98 5,bV 99 .sub 97 98,c8 100 131 95 99,ae 6 100] (.seq (al [ae 101 6,br 102 .lss 101 0] (bz 102 (al [cp 4 (-1)] .ret) .skip)) (al [ae 103 5,cd 104 (.bin .add false (fI 1) (.t 103)),ae 105 6,bV 106 .add 104 105,ae 4 106] .ret)))))))))
def vu:C:=(al [ed 2 0,ed 3 1,cp 4 0] (.seq (al [bu 6 0 1 2,bh 7 1 6,bu 8 0 1 3,bh 9 1 8,bV 10 .neq 7 9] (bz 10 (al [bu 11 0 1 2,bh 12 1 11,bu 13 0 1 3,bh 14 1 13,c8 15 190 12 14,ae 4 15] .ret) .skip)) (.seq (al [bu 16 1 1 2,bh 17 1 16,bu 18 1 1 3,bh 19 1 18,bV 20 .neq 17 19] (bz 20 (al [bu 21 1 1 2,bh 22 1 21,bu 23 1 1 3,bh 24 1 23,c8 25 190 22 24,ae 4 25] .ret) .skip)) (.seq (al [bu 26 2 1 2,bh 27 1 26,bu 28 2 1 3,bh 29 1 28,bV 30 .neq 27 29] (bz 30 (.seq (al [bu 31 2 1 2,bh 32 1 31,bu 33 2 1 3,bh 34 1 33,bV 35 .lss 32 34] (bz 35 (al [cp 4 (-1)] .ret) .skip)) (al [cp 4 1] .ret)) .skip)) (.seq (al [bu 36 0 1 2,bh 37 1 36,br 38 .neq 37 4] (bz 38 (al [cp 4 0] .ret) .skip)) (.seq (.seq (.drawn true 60 [bu 39 3 1 2,bh 40 1 39,jf 41 4 40 0,bP 42 4 41,bu 43 3 1 3,bh 44 1 43,jf 45 4 44 0,bP 46 4 45,c8 47 133 42 46,ae 5 47]) (al [ae 48 5,br 49 .neq 48 0] (bz 49 (al [ae 50 5,ae 4 50] .ret) .skip))) (.seq (.drawn true 60 [bu 51 3 1 2,bh 52 1 51,jf 53 4 52 1,bP 54 4 53,bu 55 3 1 3,bh 56 1 55,jf 57 4 56 1,bP 58 4 57,c8 59 133 54 58,ae 4 59]) .ret)))))))
def vs:C:=(al [ed 2 0] (.seq (al [bu 4 0 1 2,bh 5 1 4,br 6 .eql 5 1] (bz 6 (.region [ae 7 1,bu 8 1 1 2,bh 9 1 8,lD 10 7 [.t 9]]) .skip)) (al [bu 11 0 1 2,bh 12 1 11,br 13 .eql 12 4] (bz 13 (al [bu 14 3 1 2,bh 15 1 14,jf 16 4 15 0,bP 17 4 16,ae 18 1,c8 19 134 17 18] (.region [bu 20 3 1 2,bh 21 1 20,jf 22 4 21 1,bP 23 4 22,ae 24 1,c8 25 134 23 24])) .skip))))
def Dj:C:=(.region [bh 3 1 1,ae 4 0,hH (.mput .i (.t 3) (.t 4) (.c (.bool true)))])
def DB:C:=(al [iK 2 1] (al [hH (.bslm 5 (some 306) 1 3 []),ae 3 5] (.seq (al [ae 6 0,hH (.range 7 none (.t 6))] (.block 0 (.loop (al [⟨none,.next 8 (.t 7)⟩,kX 9 0 8] (.seq (bz 9 .skip (.exit 0)) (.block 1 (al [cd 10 (.ment (.t 7)),kX 11 0 10,ae 4 11] (.region [ae 12 3,ae 13 4,gN 14 1 3 [.t 13],hH (.appm 15 none 1 3 (.t 12) (.t 14)),ae 3 15])))))))) (al [ae 16 3,eJ 17 191 16] (.seq (.pub 3 (.region [ae 18 3,ae 2 18])) .ret)))))
def Dz:C:=(al [ed 2 0,hH (.box 3 (some 202) (.t 1)),fM 4 e0,dg 5 false] (al [bP 7 4 2,cd 8 (.mkf 193 [.t 3]),c8 9 192 7 8,ae 6 9] (.seq (al [ae 10 6,br 11 .gtr 10 5000] (bz 11 (al [nT 12 e0 [],cZ 4 4 12,dg 5 false] .ret) .skip)) (al [bP 13 4 2,bh 14 1 3,c8 15 194 13 14,cZ 4 4 15,dg 5 true] .ret))))
def Dy:C:=(al [fM 3 e0,dg 4 false] (.seq (al [bh 6 1 1,ae 7 0,c8 8 139 6 7,ae 5 8] (al [ae 9 5,br 10 .geq 9 0] (bz 10 (al [bh 11 1 1,ae 12 5,eO 13 5 11 12,HJ 14 1 4 13,bP 15 4 14,cZ 4 3 15,dg 4 true] .ret) .skip))) (al [nT 16 e0 [],cZ 4 3 16,dg 4 false] .ret)))
def Dp:C:=(al [hH (.box 2 (some 101) (.t 0)),hH (.box 3 (some 102) (.t 1)),cp 4 0] (al [bh 6 1 2,eu 7 6,cd 8 (.mkf 196 [.t 2,.t 3]),c8 9 195 7 8,ae 5 9] (.seq (.seq (.drawn true 24 [ae 10 5,bh 11 1 2,eu 12 11,bV 13 .lss 10 12,ae 14 13,bk 14 true (bh 15 1 2),dc 14 true 16 5,bk 14 true (eO 17 5 15 16),bk 14 true (bu 18 0 1 17),bk 14 true (bh 19 1 18),bk 14 true (bh 20 1 3),bk 14 true (bV 21 .eql 19 20),fL 22 14 21]) (bz 22 (al [ae 23 5,ae 4 23] .ret) .skip)) (al [cp 4 (-1)] .ret))))
def Dn:C:=(al [ed 2 0,ed 3 1,dg 4 false] (al [bP 5 4 2,bP 6 4 3,c8 7 133 5 6,br 8 .eql 7 0,ae 4 8] .ret))
def td:C:=(al [ed 1 0,fM 2 e0] (.seq (al [bu 3 0 1 1,bh 4 1 3,br 5 .neq 4 4] (bz 5 (al [bu 6 0 1 1,bh 7 1 6,bu 8 1 1 1,bh 9 1 8,bu 10 2 1 1,bh 11 1 10,nT 12 e0 [(0,1,(.t 7)),(1,1,(.t 9)),(2,1,(.t 11))],cZ 4 2 12] .ret) .skip)) (.seq (.drawn true 25 [bu 13 3 1 1,bh 14 1 13,jf 15 4 14 0,bP 16 4 15,eJ 17 143 16,bu 18 3 1 1,bh 19 1 18,jf 20 4 19 1,bP 21 4 20,eJ 22 143 21,gN 23 4 30 [.t 17,.t 22],nT 24 e0 [(0,1,(fI 4)),(3,1,(.t 23))],cZ 4 2 24]) .ret)))
def Dg:C:=(al [dg 2 false] (.seq (al [ae 4 0,cd 5 (.slen (.t 4)),br 6 .lss 5 1,ae 7 6,dc 7 false 8 0,bk 7 false (cd 9 (.slen (.t 8))),bk 7 false (br 10 .gtr 9 12),hj 11 7 10,ae 12 11,dc 12 false 13 0,bk 12 false (cd 14 (.sidx (.t 13) (fI 0))),bk 12 false (cd 15 (.bin .lss false (.t 14) (.c (.int .u8 97)))),hj 16 12 15,ae 17 16,dc 17 false 18 0,bk 17 false (cd 19 (.sidx (.t 18) (fI 0))),bk 17 false (cd 20 (.bin .gtr false (.t 19) (.c (.int .u8 122)))),hj 21 17 20] (bz 21 (al [dg 2 false] .ret) .skip)) (.seq (al [cp 3 1] (.block 0 (.loop (.seq (al [ae 22 3,ae 23 0,cd 24 (.slen (.t 23)),bV 25 .lss 22 24] (bz 25 .skip (.exit 0))) (.seq (.block 1 (al [ae 28 0,ae 29 3,cd 30 (.sidx (.t 28) (.t 29)),cd 31 (.bin .geq false (.t 30) (.c (.int .u8 97))),ae 32 31,dc 32 true 33 0,dc 32 true 34 3,bk 32 true (cd 35 (.sidx (.t 33) (.t 34))),bk 32 true (cd 36 (.bin .leq false (.t 35) (.c (.int .u8 122)))),fL 37 32 36,ae 38 37,dc 38 false 39 0,dc 38 false 40 3,bk 38 false (cd 41 (.sidx (.t 39) (.t 40))),bk 38 false (cd 42 (.bin .geq false (.t 41) (.c (.int .u8 48)))),dc 38 false 43 42,dc 43 true 44 0,dc 43 true 45 3,bk 43 true (cd 46 (.sidx (.t 44) (.t 45))),bk 43 true (cd 47 (.bin .leq false (.t 46) (.c (.int .u8 57)))),bk 38 false (fL 48 43 47),hj 49 38 48,ae 50 49,dc 50 false 51 0,dc 50 false 52 3,bk 50 false (cd 53 (.sidx (.t 51) (.t 52))),bk 50 false (cd 54 (.bin .eql false (.t 53) (.c (.int .u8 45)))),hj 55 50 54,gU 56 55] (bz 56 (al [dg 2 false] .ret) .skip))) (.region [ae 26 3,br 27 .add 26 1,ae 3 27])))))) (al [dg 2 true] .ret))))
def DV:C:=(al [ed 2 0,ed 3 1,fM 4 e0] (al [bP 5 4 2,bP 6 4 3,gN 7 4 30 [.t 5,.t 6],nT 8 e0 [(0,1,(fI 4)),(3,1,(.t 7))],cZ 4 4 8] .ret))
def Du:C:=(al [cp 4 0] (.seq (al [ae 5 0,ae 6 1,bV 7 .lss 5 6] (bz 7 (al [cp 4 (-1)] .ret) .skip)) (.seq (al [ae 8 0,ae 9 1,bV 10 .gtr 8 9] (bz 10 (al [cp 4 1] .ret) .skip)) (al [cp 4 0] .ret))))
def vv:C:=(al [ed 2 0,cp 4 0] (.seq (al [bu 6 0 1 2,bh 7 1 6] (.block 0 (al [br 9 .eql 7 1,ae 8 9] (bz 8 (al [ae 10 1,bu 11 1 1 2,bh 12 1 11,lD 13 10 [.t 12],cd 14 (.min2 (.t 13) (fI 5001)),ae 4 14] .ret) (al [br 16 .eql 7 4,ae 15 16] (bz 15 (al [bu 17 3 1 2,bh 18 1 17,jf 19 4 18 0,bP 20 4 19,ae 21 1,c8 22 192 20 21,ae 5 22] (.seq (al [ae 23 5,br 24 .gtr 23 5000] (bz 24 (al [ae 25 5,ae 4 25] .ret) .skip)) (al [ae 26 5,cd 27 (.bin .add false (fI 1) (.t 26)),bu 28 3 1 2,bh 29 1 28,jf 30 4 29 1,bP 31 4 30,ae 32 1,c8 33 192 31 32,bV 34 .add 27 33,cd 35 (.min2 (.t 34) (fI 5001)),ae 4 35] .ret))) .skip)))))) (al [cp 4 1] .ret)))
def DA:C:=(al [cp 3 0] (.seq (al [bh 7 1 1,ae 8 0,lD 9 7 [.t 8],ae 6 9,kX 10 0 6,kX 11 1 6,fM 4 e0,cZ 4 4 10,ae 5 11] (al [ae 12 5] (bz 12 (al [bP 13 4 4,gW 14 131 [.t 13,(fI 5000)],ae 3 14] .ret) .skip))) (al [cp 3 1] .ret)))
def vt:C:=(al [ed 2 0,fM 4 e0] (.seq (al [bu 7 0 1 2,bh 8 1 7] (.block 0 (al [br 10 .eql 8 1,ae 9 10] (bz 9 (.seq (al [ae 12 1,bu 13 1 1 2,bh 14 1 13,lD 15 12 [.t 14],ae 11 15,kX 16 0 11,kX 17 1 11,fM 5 e0,cZ 4 5 16,ae 6 17] (al [ae 18 6] (bz 18 (al [bP 19 4 5,eJ 20 143 19,cZ 4 4 20] .ret) .skip))) (al [bP 21 4 2,cZ 4 4 21] .ret)) (al [br 23 .eql 8 4,ae 22 23] (bz 22 (.seq (.drawn false 38 [bu 24 3 1 2,bh 25 1 24,jf 26 4 25 0,bP 27 4 26,ae 28 1,c8 29 194 27 28,bu 30 3 1 2,bh 31 1 30,jf 32 4 31 1,bP 33 4 32,ae 34 1,c8 35 194 33 34,c8 36 221 29 35,cZ 4 4 36]) .ret) .skip)))))) (al [bP 37 4 2,cZ 4 4 37] .ret)))
def DH:C:=(al [cp 4 0] (al [ae 8 0,cp 5 0,ae 6 8] (.seq (.block 0 (.loop (.seq (al [ae 9 5,ae 10 6,bV 11 .lss 9 10] (bz 11 .skip (.exit 0))) (.block 1 (al [ae 12 5,ae 13 6,bV 14 .add 12 13,cd 15 (.conv .u64 (.t 14)),cd 16 (.bin .shr false (.t 15) (.c (.int .u64 1))),cd 17 (.conv .i64 (.t 16)),ae 7 17] (al [ae 18 1,ae 19 7,lD 20 18 [.t 19],gU 21 20] (bz 21 (.region [ae 22 7,br 23 .add 22 1,ae 5 23]) (.region [ae 24 7,ae 6 24])))))))) (al [ae 25 5,ae 4 25] .ret))))
def Dq:C:=(al [dg 4 false] (.seq (.drawn true 12 [bh 5 1 1,ae 6 0,eO 7 5 5 6,bu 8 0 1 7,bh 9 1 8,bh 10 1 2,bV 11 .geq 9 10,ae 4 11]) .ret))
def Dv:C:=(al [ed 2 0,ed 3 1,fM 4 e0] (al [bP 5 4 2,bP 6 4 3,gN 7 4 30 [.t 5,.t 6],nT 8 e0 [(0,1,(fI 4)),(3,1,(.t 7))],cZ 4 4 8] .ret))
def aE:List (Nat×cQ):=[(3,⟨1,8,.int .i64,.int .i64 0⟩),(4,⟨1,1,.bool,.bool false⟩),(5,⟨1,1,.int .u8,.int .u8 0⟩),(9,⟨1,16,.str,.str []⟩),(22,⟨1,24,.slice 24,.slice 4 .nil []⟩),(24,⟨4,56,.struct [(0,3),(1,3),(2,9),(3,22)],.agg [.int .i64 0,.int .i64 0,.str [],.slice 4 .nil []]⟩),(27,⟨1,24,.slice 30,.slice 4 .nil []⟩),(30,⟨4,56,.struct [(0,3),(1,3),(2,9),(3,27)],.agg [.int .i64 0,.int .i64 0,.str [],.slice 4 .nil []]⟩),(38,⟨1,24,.slice 111,.slice 5 .nil []⟩),(39,⟨1,24,.slice 38,.slice 1 .nil []⟩),(40,⟨1,24,.slice 158,.slice 2 .nil []⟩),(41,⟨1,24,.slice 146,.slice 2 .nil []⟩),(43,⟨5,104,.struct [(0,3),(1,38),(2,39),(3,40),(4,41)],.agg [.int .i64 0,.slice 5 .nil [],.slice 1 .nil [],.slice 2 .nil [],.slice 2 .nil []]⟩),(46,⟨1,24,.slice 113,.slice 5 .nil []⟩),(47,⟨1,24,.slice 46,.slice 1 .nil []⟩),(48,⟨1,24,.slice 98,.slice 2 .nil []⟩),(49,⟨1,24,.slice 100,.slice 2 .nil []⟩),(51,⟨5,104,.struct [(0,3),(1,46),(2,47),(3,48),(4,49)],.agg [.int .i64 0,.slice 5 .nil [],.slice 1 .nil [],.slice 2 .nil [],.slice 2 .nil []]⟩),(76,⟨1,24,.slice 3,.slice 1 .nil []⟩),(98,⟨2,16,.struct [(0,3),(1,3)],.agg [.int .i64 0,.int .i64 0]⟩),(100,⟨2,24,.struct [(0,3),(1,9)],.agg [.int .i64 0,.str []]⟩),(111,⟨5,64,.struct [(0,3),(1,24)],.agg [.int .i64 0,.int .i64 0,.int .i64 0,.str [],.slice 4 .nil []]⟩),(113,⟨5,64,.struct [(0,3),(1,30)],.agg [.int .i64 0,.int .i64 0,.int .i64 0,.str [],.slice 4 .nil []]⟩),(136,⟨1,8,.map 3 4,.junk⟩),(141,⟨1,8,.other,.junk⟩),(143,⟨1,8,.other,.junk⟩),(144,⟨1,24,.slice 5,.slice 1 .nil []⟩),(146,⟨2,24,.struct [(0,3),(1,9)],.agg [.int .i64 0,.str []]⟩),(158,⟨2,16,.struct [(0,3),(1,3)],.agg [.int .i64 0,.int .i64 0]⟩),(181,⟨1,8,.other,.junk⟩),(185,⟨2,16,.struct [(0,143),(1,181)],.agg [.junk,.junk]⟩),(192,⟨1,8,.int .u64,.int .u64 0⟩)]
def mixed:aG.follows .mixedOrders=true:=ac
def cb{aE:List (Nat×cQ)}(d:e1 aG aE=true){f:FuncId}{fn:Func}(h:aG.funcs[f]? =some fn){c:C}{a:List cg}{n:Nat}(b:cJ aE c a n fn=true){args:List aa}{r:aa}(he:gQ args->b5 aG [] c (b3 a r) ⟨fG 0 args,[],[],0,[]⟩)(g:args.length<=n:=by simp)(e:aR (fun _=>c1) r:=by simp[aR]):ct aG f args r:=ct.mk mixed d h b g e he
def bC:e1 aG aE=true:=ac
def Q6:cJ aE Dh [.tmp 2] 1 Tryz.f64=true:=ac
def Q7:cJ aE Di [.tmp 2] 1 Tryz.f66=true:=ac
def Rm:cJ aE Dx [.cell 4 true 4,.tmp 5] 2 Tryz.f69=true:=ac
def uu:cJ aE ry [.cell 2 true 4] 1 Tryz.f130=true:=ac
def Ri:cJ aE Dt [.tmp 4] 2 Tryz.f131=true:=ac
def Bp:cJ aE vu [.tmp 4] 2 Tryz.f133=true:=ac
def Bn:cJ aE vs [] 2 Tryz.f134=true:=ac
def Q8:cJ aE Dj [] 2 Tryz.f135=true:=ac
def Rq:cJ aE DB [.tmp 2] 1 Tryz.f136=true:=ac
def Ro:cJ aE Dz [.cell 4 true 4,.tmp 5] 2 Tryz.f137=true:=ac
def Rn:cJ aE Dy [.cell 3 true 4,.tmp 4] 2 Tryz.f138=true:=ac
def Re:cJ aE Dp [.tmp 4] 2 Tryz.f139=true:=ac
def Rc:cJ aE Dn [.tmp 4] 2 Tryz.f142=true:=ac
def xw:cJ aE td [.cell 2 true 4] 1 Tryz.f143=true:=ac
def Q5:cJ aE Dg [.tmp 2] 1 Tryz.f160=true:=ac
def RK:cJ aE DV [.cell 4 true 4] 2 Tryz.f189=true:=ac
def Rj:cJ aE Du [.tmp 4] 2 Tryz.f190=true:=ac
def Bq:cJ aE vv [.tmp 4] 2 Tryz.f192=true:=ac
def Rp:cJ aE DA [.tmp 3] 2 Tryz.f193=true:=ac
def Bo:cJ aE vt [.cell 4 true 4] 2 Tryz.f194=true:=ac
def Rw:cJ aE DH [.tmp 4] 2 Tryz.f195=true:=ac
def Rf:cJ aE Dq [.tmp 4] 3 Tryz.f196=true:=ac
def Rk:cJ aE Dv [.cell 4 true 4] 2 Tryz.f221=true:=ac
def PU(s:List cF)(k:Nat)(st:aN):Prop:=∃i:Nat,1<=i/\i<=s.length/\k=s.length-i/\((s.drop 1).all iW=(s.drop i).all iW)/\st=⟨[(0,.str s),(3,aB i)],[],[],0,[]⟩
def Tg(s:List cF):ct aG 160 [.str s] (.bool (kj s)):=by
 refine ct.mk mixed bC Tryz.func160 Q5 Ψ (by simp[aR]) fun m=>?_;unfold Dg;simp;(with_reducible repeat' first|((first|refine cN (fun h=>?_) fun h=>?_|refine cT (fun h=>?_) fun h=>?_|refine cS (fun h=>?_) fun h=>?_)<;>try simp at h)|refine aS ?_|simp);case refine_1.refine_1.refine_1.refine_2=>
  have e:kj s=(s.drop 1).all iW:=by simp[kj,low];omega
  rw[e];refine mj (PU s) (s.length-1) _ ⟨Ψ,by simp[ko],by simp[lB],Ψ⟩ ⟨1,Ω,Ω,rfl,rfl,rfl⟩ ?_;rintro k st ⟨i,g,f,U,b,rfl⟩ j l;rw[b];simp;refine cN (fun a=>?_) (fun d=>?_)
  ·simp at a;have c:s.drop i=s[i]?.getD 0::s.drop (i+1):=by rw[l9 a];simp[a]
   simp;(with_reducible repeat' first|((first|refine cN (fun h=>?_) fun h=>?_|refine cT (fun h=>?_) fun h=>?_|refine cS (fun h=>?_) fun h=>?_)<;>try simp at h)|refine aS ?_|simp);all_goals first
    |(simp[b3,bq,bD,ba,c,iW,low];omega)
    |(simp only[yq];refine⟨s.length-(i+1),_,Ω,⟨Ψ,by simp[ko],by simp[lB],Ψ⟩,i+1,Ω,Ω,rfl,?_,rfl⟩;rw[b,c];simp[iW,low];omega)
  ·simp at d;have:s.drop i=[]:=by simp;omega
   simp[b3,bq,bD,ba,this]
 all_goals simp[b3,bq,bD,ba,kj,low]
 all_goals omega
def JH(m:Nat):∀(t:Tm),t.sz<=m->∀(room:Int),0<=room/\room<=10000->ct aG 131 [enc t,aB room] (aB (dO t room)):=by
 induction m with
 |zero=>intro t c;cases t;simp[Tm.sz]at c
 |succ m d=>
 rintro⟨k,n,s,args⟩ c room g;refine cb bC Tryz.func131 Ri fun l=>?_;unfold Dt;simp[Tm.kind,Tm.num,Tm.name,Tm.args];(with_reducible repeat' first|((first|refine cN (fun h=>?_) fun h=>?_|refine cT (fun h=>?_) fun h=>?_|refine cS (fun h=>?_) fun h=>?_)<;>try simp at h)|refine aS ?_|simp);all_goals try refine CallDo.val Ψ (Tg _) ?_
 all_goals try simp
 (with_reducible repeat' first|((first|refine cN (fun h=>?_) fun h=>?_|refine cT (fun h=>?_) fun h=>?_|refine cS (fun h=>?_) fun h=>?_)<;>try simp at h)|refine aS ?_|simp);all_goals try simp[b3,bq,bD,ba]
 case succ.refine_2.refine_2.refine_1.refine_1.refine_2=>
  rename_i o I J e;match args,h with
  |[a,b],_=>
  simp[Tm.sz,Tm.szL]at c;subst I J e;simp;(with_reducible repeat' first|((first|refine cN (fun h=>?_) fun h=>?_|refine cT (fun h=>?_) fun h=>?_|refine cS (fun h=>?_) fun h=>?_)<;>try simp at h)|refine aS ?_|simp);refine CallDo.val Ψ (d a Ω (room-1) Ω) ?_;simp;have j:=Be a (room-1);have f:=uq a (room-1);(with_reducible repeat' first|((first|refine cN (fun h=>?_) fun h=>?_|refine cT (fun h=>?_) fun h=>?_|refine cS (fun h=>?_) fun h=>?_)<;>try simp at h)|refine aS ?_|simp)
  ·simp[b3,bq,bD,ba];rw[Bd];simp;omega
  ·refine CallDo.val Ψ (d b Ω (room-1-dO a (room-1)) Ω) ?_;simp;have p:=Be b (room-1-dO a (room-1));have i:=uq b (room-1-dO a (room-1));(with_reducible repeat' first|((first|refine cN (fun h=>?_) fun h=>?_|refine cT (fun h=>?_) fun h=>?_|refine cS (fun h=>?_) fun h=>?_)<;>try simp at h)|refine aS ?_|simp);all_goals simp[b3,bq,bD,ba]
   all_goals rw[Bd];simp;omega
 all_goals rw[Bd]
 all_goals simp_all[hR]
 all_goals first|omega|(split<;>simp at h⊢)
def Cs(t:Tm):ct aG 64 [enc t] (.bool t.fits):=by refine cb bC Tryz.func64 Q6 fun a=>?_;unfold Dh;simp;refine CallDo.val Ψ (JH t.sz t (di _) 5000 Ω) ?_;simp;simp[b3,bq,bD,ba];simp[Tm.fits]
def Ct(t:T):ct aG 64 [t.e] (.bool t.fit):=by have:=Cs t.tm;rwa[fQ,Tm.fits_T]at this
def JJ(a b:T):ct aG 221 [a.e,b.e] (T.pair a b).e:=by refine cb bC Tryz.func221 Rk fun c=>?_;unfold Dv;simp;(with_reducible repeat' first|((first|refine cN (fun h=>?_) fun h=>?_|refine cT (fun h=>?_) fun h=>?_|refine cS (fun h=>?_) fun h=>?_)<;>try simp at h)|refine aS ?_|simp);all_goals try simp[b3,bq,bD,ba]
def JD(a b:T):ct aG 189 [a.e,b.e] (T.pair a b).e:=by refine cb bC Tryz.func189 RK fun c=>?_;unfold DV;simp;(with_reducible repeat' first|((first|refine cN (fun h=>?_) fun h=>?_|refine cT (fun h=>?_) fun h=>?_|refine cS (fun h=>?_) fun h=>?_)<;>try simp at h)|refine aS ?_|simp);all_goals try simp[b3,bq,bD,ba]
def Jv(t:T):ct aG 143 [t.e] t.e:=by
 induction t with
 |pair a b e d=>refine cb bC Tryz.func143 xw fun c=>?_;unfold td;exact eA
 |_=>refine cb bC Tryz.func143 xw fun c=>?_;unfold td;exact eA
def sS(a b:Int):ct aG 190 [aB a,aB b] (aB (gg a b)):=by
 refine cb bC Tryz.func190 Rj fun c=>?_;unfold Du;simp;((repeat' first|refine aS ?_|simp|((first|apply cN|apply cT|apply cS)<;>intro h<;>try simp at h))<;>(try exact ev));all_goals simp[b3,bq,bD,ba]
 all_goals simp[gg]
 all_goals omega
def u1(a:T):∀b:T,ct aG 133 [a.e,b.e] (aB (ca a b)):=by
 induction a with
 |pair f a2 d c=>
  intro b;cases b with
  |pair g i=>
   refine cb bC Tryz.func133 Bp fun e=>?_;unfold vu;simp;((repeat' first|refine aS ?_|refine be (d _) ?_|refine bf (d _) ?_|refine be (c _) ?_|refine bf (c _) ?_|refine be (sS _ _) ?_|refine bf (sS _ _) ?_|simp|((first|apply cN|apply cT|apply cS)<;>intro h<;>try simp at h))<;>(try exact ev));all_goals simp[b3,bq,bD,ba]
   all_goals simp_all[ca]
  |_=>
   refine cb bC Tryz.func133 Bp fun e=>?_;unfold vu;simp;(repeat' first|refine aS ?_|refine be (sS _ _) ?_|refine bf (sS _ _) ?_|simp);all_goals simp[b3,bq,bD,ba]
   all_goals simp_all[ca]
 |_=>
  intro b;cases b<;>
  (refine cb bC Tryz.func133 Bp fun e=>?_;unfold vu
   simp
   (with_reducible repeat' first|((first|apply cN|apply cT|apply cS)<;>intro h<;>try simp at h)|refine aS ?_|refine be (sS _ _) ?_|refine bf (sS _ _) ?_|simp)
   all_goals simp[b3,bq,bD,ba]
   all_goals simp_all[ca,hD])
def Tj(a b:T):ct aG 142 [a.e,b.e] (.bool (decide (a=b))):=by
 refine cb bC Tryz.func142 Rc fun c=>?_;unfold Dn;simp;(repeat' first|refine aS ?_|refine be (u1 _ _) ?_|refine bf (u1 _ _) ?_|simp);all_goals simp[b3,bq,bD,ba]
 have:=ly a b;by_cases h:ca a b=0<;>simp_all
def iG(p:Nat->Bool)(i j:Nat):Nat:=if i<j then(if p ((i+j)/2)then iG p i ((i+j)/2)else iG p ((i+j)/2+1) j)else i
termination_by j-i
def PW(s:b1)(n g:Nat)(cx:List aa)(p:Nat->Bool)(k:Nat)(st:aN):Prop:=∃i j:Nat,i<=j/\j<=n/\k=j-i/\iG p i j=iG p 0 n/\st=⟨[(1,.func g cx),(5,aB i),(6,aB j)],s.b,s.e,0,b2 s⟩
def Nx(s:b1)(a:eB s)(n g:Nat)(y:n<=1000000)(cx:List aa)(aA:aV (a7 s) cx)(dX:bt cx=cx)(p:Nat->Bool)(u:∀i:Nat,i<n->cf aG g (aB i::cx) s fun r b=>r= .bool (p i)/\b=s):
  cf aG 195 [aB n,.func g cx] s fun r b=>r=aB (iG p 0 n)/\b=s:=by
 refine cf.mk mixed bC Tryz.func195 Rw Ψ a.obj fun w e=>?_;unfold DH;simp;refine mj (PW s n g cx p) n _ (fc.ob a (by simp[aA]) bU bU) ⟨0,n,Ω,Ω,rfl,rfl,rfl⟩ ?_;rintro k st ⟨i,j,v,x,U,d,rfl⟩ q e;clear q e;simp;refine cN (fun c=>?_) (fun l=>?_)
 ·simp at c;have hw:IntKind.u64.wrap ((i:Int)+j)=i+j:=by simp[IntKind.wrap,IntKind.bits,IntKind.signed];omega
  obtain⟨m,hm⟩:∃m,m=(i+j)/2:=⟨_,rfl⟩;have t:Int.fdiv ((i:Int)+j) 2=(m:Int):=by rw[Int.fdiv_eq_ediv_of_nonneg _ Ω];omega
  have o:nW.wrap (m:Int)=m:=by rw[IntWalk.i64_in];omega
  have f:IntKind.u64.bits=64:=rfl;simp[hw,dX,f,t,o];refine⟨by unfold r3;omega,?_⟩;refine CallDo.ob (u m Ω) a bU bU (by simp[aA]) ?_;rintro r b ⟨rfl,rfl⟩;refine⟨dW.refl _,?_⟩;simp[jz];(with_reducible repeat' first|((first|apply cN|apply cT|apply cS)<;>intro h<;>try simp at h)|refine aS ?_|simp)
  ·simp only[yq];refine⟨j-(m+1),_,Ω,fc.ob a (by simp[aA]) bU bU,m+1,j,Ω,Ω,rfl,?_,rfl⟩;rw[<-d];conv=>rhs;unfold iG
   simp[c,<-hm,h]
  ·simp only[yq];refine⟨m-i,_,Ω,fc.ob a (by simp[aA]) bU bU,i,m,Ω,Ω,rfl,?_,rfl⟩;rw[<-d];conv=>rhs;unfold iG
   simp[c,<-hm,h]
 ·simp at l;have:iG p 0 n=i:=by rw[<-d];unfold iG;rw[bH Ω]
  rw[this];simp;refine eX.at s (.inl rfl) a (dW.refl s) bU bU ?_;simp[fZ,bq,bD,ba]
def mm(l:List bc)(v:Int):Int:=
 let i:=iG (fun i=>match l[i]? with|some b=>decide (v<=b.v)|none=>false) 0 l.length
 match l[i]? with|some b=>if b.v=v then i else-1|none=> -1
def NB(l:List bc)(v:Int)(i:Nat)(b:bc)(c:l[i]? =some b):cf aG 196 [aB i,.ptr (.obj 101) 0,.ptr (.obj 102) 0] ⟨[(.obj 101,[gv (l.map bc.e)]),(.obj 102,[aB v])],[]⟩ fun r d=>r= .bool (decide (v<=b.v))/\d=⟨[(.obj 101,[gv (l.map bc.e)]),(.obj 102,[aB v])],[]⟩:=by have a:eB ⟨[(.obj 101,[gv (l.map bc.e)]),(.obj 102,[aB v])],[]⟩:=(eB.of ⟨by intro m;simp[ab],by intro m;simp[ab]⟩ (by simp[aV,aR,a7,ab]) (by simp[aV,aR,a7,ab]));have g:i<l.length:=(eQ.1 c).1;refine cf.mk mixed bC Tryz.func196 Rf Ψ a.obj fun f e=>?_;unfold Dq;simp[c];(repeat' first|refine aS ?_|simp);refine eX.at _ (.inl rfl) a (dW.refl _) bU bU ?_;simp[fZ,bq,bD,ba]
def Jz(l:List bc)(v:Int)(e:l.length<=1000000):ct aG 139 [gv (l.map bc.e),aB v] (aB (mm l v)):=by
 refine cb bC Tryz.func139 Re fun f=>?_;unfold Dp;simp;have d:eB ⟨[(.obj 101,[gv (l.map bc.e)]),(.obj 102,[aB v])],[]⟩:=(eB.of ⟨by intro m;simp[ab],by intro m;simp[ab]⟩ (by simp[aV,aR,a7,ab]) (by simp[aV,aR,a7,ab]));refine CallDo.ob (Nx ⟨[(.obj 101,[gv (l.map bc.e)]),(.obj 102,[aB v])],[]⟩ d l.length 196 e [.ptr (.obj 101) 0,.ptr (.obj 102) 0] (by simp[a7]) Ψ (fun i=>match l[i]? with|some b=>decide (v<=b.v)|none=>false) fun i az=>?_) d bU bU (by simp[a7]) ?_
 ·obtain⟨b,a⟩:∃b,l[i]? =some b:=⟨_,cl az⟩;simp only[a];exact NB l v i b a
 rintro r g ⟨rfl,rfl⟩;refine⟨dW.refl _,?_⟩;unfold mm;generalize iG _ 0 l.length=i;cases a:l[i]? with
 |none=>
  have c:¬i<l.length:=by simpa using a
  simp[dy,c];exact eA
 |some b=>
  have c:i<l.length:=(eQ.1 a).1;simp[dy,a,c];((repeat' first|refine aS ?_|simp[a]|((first|apply cN|apply cT|apply cS)<;>intro h<;>try simp at h))<;>(try exact ev));all_goals simp[b3,bq,bD,ba]
  all_goals simp_all
def nM(l:List bc)(v:Int):aT T:=if mm l v<0 then none else(l[(mm l v).toNat]?).map (·.t)
def Nl(l:List bc)(v:Int):mm l v<l.length/\ -1<=mm l v:=by
 unfold mm;simp only;split
 ·rename_i b a;have:=(eQ.1 a).1;split<;>omega
 ·omega
def E8(l:List bc)(v:Int)(e:l.length<=1000000)(o:aT T)(ag:o=nM l v):cf aG 138 [aB v,.ptr (.obj 201) 0] ⟨[(.obj 201,[gv (l.map bc.e)])],[]⟩ fun r f=>r= .tuple [(o.getD .nil).e,.bool o.isSome]/\f=⟨[(.obj 201,[gv (l.map bc.e)])],[]⟩:=by
 have c:eB ⟨[(.obj 201,[gv (l.map bc.e)])],[]⟩:=(eB.of ⟨by intro m;simp[ab],by intro m;simp[ab]⟩ (by simp[aV,aR,a7,ab]) (by simp[aV,aR,a7,ab]));have j:=(Nl l v).1;unfold nM at ag;refine cf.mk mixed bC Tryz.func138 Rn Ψ c.obj fun i g=>?_;unfold Dy;simp;(with_reducible repeat' first|((first|apply cN|apply cT|apply cS)<;>intro h<;>try simp at h)|refine aS ?_|refine be (Jz l v e) ?_|refine bf (Jz l v e) ?_|simp)
 ·obtain⟨b,d⟩:∃b,l[(mm l v).toNat]? =some b:=⟨_,cl Ω⟩;have a:o=some b.t:=by rw[ag,bH Ω,d];rfl
  simp[d];(with_reducible repeat' first|((first|apply cN|apply cT|apply cS)<;>intro h<;>try simp at h)|refine aS ?_|simp[d]);refine eX.at _ (.inl rfl) c (dW.refl _) bU bU ?_;simp[fZ,bq,bD,ba];simp[a]
 ·have a:o=none:=by rw[ag,if_pos h]
  refine eX.at _ (.inl rfl) c (dW.refl _) bU bU ?_;simp[fZ,bq,bD,ba];simp[a]
def NK(s:b1)(c:eB s)(g:Nat)(cx:List aa)(aA:aV (a7 s) cx)(dX:bt cx=cx)(f:Int->Int)(o:∀v,-1<=f v)(t:T)(j:∀v,t.occ v=true->cf aG g (aB v::cx) s fun r e=>r=aB (f v)/\e=s):
  cf aG 192 [t.e,.func g cx] s fun r e=>r=aB (hU f t)/\e=s:=by
 have d:∀m,ab (.loc m) s.b=none:=c.obj.1;have hu:∀m cs,bW (.loc m) cs s.b=s.b++[(.loc m,cs)]:=fun m cs=>o7 (d m);have ag:∀m,ar.loc m∉b2 s:=pO c.obj;induction t with
 |pair a b q p=>
  have w:=x6 f o a;have u:=x6 f o b;refine cf.mk mixed bC Tryz.func192 Bq Ψ c.obj fun l k=>?_;unfold vv;simp[hu,ag,dM,d,dX];(repeat' first|refine aS ?_|simp[hu,ag,dM,d]);refine CallDo.ob (q fun v i=>j v (by simp[T.occ,i])) c bU bU (by simp[aA]) ?_;rintro r e ⟨rfl,rfl⟩;refine⟨dW.refl _,?_⟩;simp[jz,lC,dy,d];(with_reducible repeat' first|((first|apply cN|apply cT|apply cS)<;>intro h<;>try simp at h)|refine aS ?_|simp[hu,ag,dM,d])
  ·refine eX.at e (.inl rfl) c (dW.refl _) bU bU ?_;simp[fZ,bq,bD,ba];simp[hU];omega
  ·rw[dX];refine CallDo.ob (p fun v i=>j v (by simp[T.occ,i])) c bU bU (by simp[aA]) ?_;rintro r s2 ⟨rfl,rfl⟩;refine⟨dW.refl _,?_⟩;simp[jz,lC,dy,d];(with_reducible repeat' first|((first|apply cN|apply cT|apply cS)<;>intro h<;>try simp at h)|refine aS ?_|simp[hu,ag,dM,d]);refine eX.at s2 (.inl rfl) c (dW.refl _) bU bU ?_;simp[fZ,bq,bD,ba];simp[hU];omega
 |var n=>refine cf.mk mixed bC Tryz.func192 Bq Ψ c.obj fun l k=>?_;unfold vv;simp[hu,ag,dM,d,dX];(repeat' first|refine aS ?_|simp[hu,ag,dM,d]);refine CallDo.ob (j n (by simp[T.occ])) c bU bU (by simp[aA]) ?_;rintro r e ⟨rfl,rfl⟩;refine⟨dW.refl _,?_⟩;simp[jz,lC,dy,d];refine eX.at e (.inl rfl) c (dW.refl _) bU bU ?_;simp[fZ,bq,bD,ba];simp[hU]
 |_=>refine cf.mk mixed bC Tryz.func192 Bq Ψ c.obj fun l k=>?_;unfold vv;simp[hu,ag,dM,d,dX];(repeat' first|refine aS ?_|simp[hu,ag,dM,d]);refine eX.at s (.inl rfl) c (dW.refl _) bU bU ?_;simp[fZ,bq,bD,ba];simp[hU]
def NF(s:b1)(d:eB s)(g:Nat)(cx:List aa)(aA:aV (a7 s) cx)(dX:bt cx=cx)(f:Int->aT T)(t:T)(k:∀v,t.occ v=true->cf aG g (aB v::cx) s fun r i=>r= .tuple [((f v).getD .nil).e,.bool (f v).isSome]/\i=s):
  cf aG 194 [t.e,.func g cx] s fun r i=>r=(t.sub f).e/\i=s:=by
 have c:∀m,ab (.loc m) s.b=none:=d.obj.1;have o:∀m,ab (.loc m) s.e=none:=d.obj.2;have hu:∀m cs,bW (.loc m) cs s.b=s.b++[(.loc m,cs)]:=fun m cs=>o7 (c m);have ag:∀m,ar.loc m∉b2 s:=pO d.obj;have e:∀m p r,bW (.loc m) p (s.b++r)=s.b++bW (.loc m) p r:=fun m p r=>Jp (c m);induction t with
 |pair a b w u=>refine cf.mk mixed bC Tryz.func194 Bo Ψ d.obj fun q l=>?_;unfold vt;simp[hu,ag,dM,c,o,dX,e];(repeat' first|refine aS ?_|simp[hu,ag,dM,c,o,e]);refine jY.ob (w fun v j=>k v (by simp[T.occ,j])) d d (dW.refl _) bU bU (by simp[aA]) ?_;simp[jz,lC,dy,c,dX];refine jY.ob (u fun v j=>k v (by simp[T.occ,j])) d d (dW.refl _) bU bU (by simp[aA]) ?_;simp[jz,lC,dy,c,dX];(repeat' first|refine aS ?_|refine be (JJ _ _) ?_|refine bf (JJ _ _) ?_|simp);refine eX.at s (.inl rfl) d (dW.refl _) bU bU ?_;simp[fZ,bq,bD,ba,dM,c];simp[T.sub]
 |var n=>
  refine cf.mk mixed bC Tryz.func194 Bo Ψ d.obj fun q l=>?_;unfold vt;simp[hu,ag,dM,c,dX,e];(repeat' first|refine aS ?_|simp[hu,ag,dM,c,e]);refine CallDo.ob (k n (by simp[T.occ])) d bU bU (by simp[aA]) ?_;rintro r i ⟨rfl,rfl⟩;refine⟨dW.refl _,?_⟩;simp[jz,lC,dy,c,hu,ag,dM];(with_reducible repeat' first|((first|apply cN|apply cT|apply cS)<;>intro h<;>try simp at h)|refine aS ?_|refine be (Jv _) ?_|refine bf (Jv _) ?_|simp[hu,ag,dM,c,e]);all_goals refine eX.at i (.inl rfl) d (dW.refl _) bU bU ?_
  all_goals simp[fZ,bq,bD,ba,dM,c]
  all_goals cases x:f n<;>simp_all[T.sub]
 |_=>refine cf.mk mixed bC Tryz.func194 Bo Ψ d.obj fun q l=>?_;unfold vt;simp[hu,ag,dM,c,dX,e];(with_reducible repeat' first|((first|apply cN|apply cT|apply cS)<;>intro h<;>try simp at h)|refine aS ?_|simp[hu,ag,dM,c,e]);refine eX.at s (.inl rfl) d (dW.refl _) bU bU ?_;simp[fZ,bq,bD,ba,dM,c];simp[T.sub]
def j1(l:List bc):b1:=⟨[(.obj 201,[gv (l.map bc.e)])],[]⟩
def me(l:List bc):b1:=⟨[(.obj 201,[gv (l.map bc.e)]),(.obj 202,[.func 138 [.ptr (.obj 201) 0]])],[]⟩
def sZ(l:List bc):eB (j1 l):=by unfold j1;exact(eB.of ⟨by intro m;simp[ab],by intro m;simp[ab]⟩ (by simp[aV,aR,a7,ab]) (by simp[aV,aR,a7,ab]))
def yu(l:List bc):eB (me l):=by unfold me;exact(eB.of ⟨by intro m;simp[ab],by intro m;simp[ab]⟩ (by simp[aV,aR,a7,ab]) (by simp[aV,aR,a7,ab]))
def oi(l:List bc)(v:Int):Int:=match nM l v with|some x=>dO x.tm 5000|none=>1
def Nv(l:List bc)(v:Int): -1<=oi l v:=by
 unfold oi;split
 ·rename_i x _;rcases uq x.tm 5000 with h|h<;>omega
 ·omega
def JI(t:T):ct aG 131 [t.e,aB 5000] (aB (dO t.tm 5000)):=by have:=JH t.tm.sz t.tm (di _) 5000 Ω;rwa[fQ]at this
def NI(l:List bc)(v:Int)(c:l.length<=1000000):cf aG 193 [aB v,.ptr (.obj 202) 0] (me l) fun r b=>r=aB (oi l v)/\b=me l:=by
 have a:=yu l;unfold me at a⊢;refine cf.mk mixed bC Tryz.func193 Rp Ψ a.obj fun e d=>?_;unfold DA;simp;refine CallDo.ob (E8 l v c _ rfl) (sZ l) bU bU (by simp[a7]) ?_;rintro r b ⟨rfl,rfl⟩;refine⟨dW.refl _,?_⟩;simp[dy];(with_reducible repeat' first|((first|apply cN|apply cT|apply cS)<;>intro h<;>try simp at h)|refine aS ?_|refine be (JI _) ?_|refine bf (JI _) ?_|simp);all_goals refine eX.at _ (.inl rfl) a (dW.refl _) bU bU ?_
 all_goals simp[fZ,bq,bD,ba]
 all_goals unfold oi
 all_goals cases f:nM l v<;>simp_all
def uD(l:List bc)(t:T):T:=t.sub (nM l)
def nN(l:List bc)(t:T):Bool:=decide (hU (oi l) t<=5000)
def NH(l:List bc)(t:T)(c:l.length<=1000000):cf aG 137 [t.e,.func 138 [.ptr (.obj 201) 0]] (j1 l) fun r b=>r= .tuple [(if nN l t then uD l t else .nil).e,.bool (nN l t)]/\b=j1 l:=by
 have a:=sZ l;unfold j1 at a⊢;refine cf.mk mixed bC Tryz.func137 Ro Ψ a.obj fun f e=>?_;unfold Dz;simp;refine CallDo.ob (NK (me l) (yu l) 193 [.ptr (.obj 202) 0] (by simp[a7,me]) Ψ (oi l) (Nv l) t fun v d=>NI l v c) (yu l) (by unfold me;exact bU) (by unfold me;exact bU) (by simp[a7,me]) ?_;rintro r b ⟨rfl,rfl⟩;refine⟨dW.refl _,?_⟩;unfold me;simp[dy];(with_reducible repeat' first|((first|apply cN|apply cT|apply cS)<;>intro h<;>try simp at h)|refine aS ?_|simp)
 ·refine eX.at _ (.inl rfl) a (dW.refl _) bU bU ?_;simp[fZ,bq,bD,ba];have:nN l t=false:=by simp[nN];omega
  simp[this]
 ·refine CallDo.ob (NF (j1 l) (sZ l) 138 [.ptr (.obj 201) 0] (by simp[a7,j1]) Ψ (nM l) t fun v d=>E8 l v c _ rfl) (sZ l) (by unfold j1;exact bU) (by unfold j1;exact bU) (by simp[a7,j1]) ?_;rintro r b ⟨rfl,rfl⟩;refine⟨dW.refl _,?_⟩;unfold j1;simp[dy];refine eX.at _ (.inl rfl) a (dW.refl _) bU bU ?_;simp[fZ,bq,bD,ba];have:nN l t=true:=by simp[nN];omega
  simp[this,uD]
def Ty(l:List bc)(t:T)(a:l.length<=1000000):ct aG 69 [gv (l.map bc.e),t.e] (.tuple [(if nN l t then uD l t else .nil).e,.bool (nN l t)]):=by refine cb bC Tryz.func69 Rm fun b=>?_;unfold Dx;simp;refine CallDo.ob (NH l t a) (sZ l) (by unfold j1;exact bU) (by unfold j1;exact bU) (by simp[a7,j1]) ?_;rintro r c ⟨rfl,rfl⟩;refine⟨dW.refl _,?_⟩;unfold j1;simp[dy];simp[b3,bq,bD,ba]
def B6(p:Nat->Bool)(n:Nat)(hm:∀k aQ,k<=aQ->aQ<n->p k=true->p aQ=true):∀(m i j:Nat),j-i<=m->i<=j->j<=n->(∀k,k<i->p k=false)->(∀k,j<=k->k<n->p k=true)->
  (i<=iG p i j/\iG p i j<=j)/\(∀k,k<iG p i j->p k=false)/\(∀k,iG p i j<=k->k<n->p k=true)
 |m,i,j,h,f,d,I,J=>by
  rw[iG];split
  ·rename_i g;obtain⟨m,rfl⟩:∃c,m=c+1:=⟨m-1,Ω⟩;split
   ·rename_i a;have:=B6 p n hm m i ((i+j)/2) Ω Ω Ω I (fun k U e=>hm _ k U e a);exact⟨⟨this.1.1,Ω⟩,this.2⟩
   ·rename_i a;have:=B6 p n hm m ((i+j)/2+1) j Ω Ω d (fun k U=>by
     by_cases b:p k=true
     ·exact absurd (hm k ((i+j)/2) Ω Ω b) a
     ·simpa using b) J
    exact⟨⟨Ω,this.1.2⟩,this.2⟩
  ·obtain rfl:i=j:=Ω
   exact⟨⟨di _,di _⟩,I,J⟩
def HB{l:List bc}(F:mb l)(v:Int):nM l v=gY l v:=by
 have g:∀(i j:Nat) (x y:bc),i<j->l[i]? =some x->l[j]? =some y->x.v<y.v:=by intro i j x y A G H;obtain⟨I,rfl⟩:=eQ.1 G;obtain⟨J,rfl⟩:=eQ.1 H;exact List.pairwise_iff_getElem.1 F i j I J A
 obtain⟨p,s⟩:∃p:Nat->Bool,p=(fun i=>match l[i]? with|some b=>decide (v<=b.v)|none=>false):=⟨_,rfl⟩;have c:∀i b,l[i]? =some b->p i=decide (v<=b.v):=fun i b a=>by rw[s];simp[a]
 have hm:∀k aQ,k<=aQ->aQ<l.length->p k=true->p aQ=true:=by
  intro k aQ U B h;have q:l[k]? =some l[k]:=cl Ω;have t:l[aQ]? =some l[aQ]:=cl B;rw[c k _ q]at h;rw[c aQ _ t];simp only[e3]at h⊢;rcases Nat.lt_or_eq_of_le U with w|rfl
  ·have:=g k aQ _ _ w q t;omega
  ·exact h
 obtain⟨⟨_,hle⟩,hbef,haft⟩:=B6 p l.length hm l.length 0 l.length Ω Ω (di _) (fun k U=>Ω) (fun k I J=>Ω);have f:mm l v=(match l[iG p 0 l.length]? with|some b=>if b.v=v then((iG p 0 l.length:Nat):Int)else-1|none=> -1):=by rw[s];rfl
 generalize iG p 0 l.length=r at hle hbef haft f;by_cases hex:∃(k:Nat) (b:bc),l[k]? =some b/\b.v=v
 ·obtain⟨k,b,a,u⟩:=hex;have n:k<l.length:=(eQ.1 a).1;have z:r<=k:=by
   rcases Nat.lt_or_ge k r with h|h
   ·have:=hbef k h;rw[c k b a]at this;simp at this;omega
   ·exact h
  have o:l[r]? =some l[r]:=cl Ω;have m:=haft r (di _) Ω;rw[c r _ o]at m;simp only[e3]at m;have K:r=k:=by
   rcases Nat.lt_or_eq_of_le z with h|h
   ·have:=g r k _ _ h o a;omega
   ·exact h
  subst K;have d:mm l v=r:=by rw[f,a];simp[u]
  have I:nM l v=some b.t:=by unfold nM;rw[d,bH Ω];simp[a]
  have J:l.find? (fun b=>b.v==v)=some b:=by
   rw[List.find?_eq_some_iff_getElem];refine⟨by simp[u],r,n,?_,fun j E=>?_⟩
   ·rw[cl n]at a;simpa using a
   ·have:=g j r l[j] b E (cl Ω) a;simp;omega
  rw[I];simp[gY,J]
 ·have J:l.find? (fun b=>b.v==v)=none:=by rw[List.find?_eq_none];intro b a;obtain⟨k,U,rfl⟩:=List.mem_iff_getElem.1 a;simp;intro e;exact hex ⟨k,l[k],cl U,e⟩
  have d:mm l v= -1:=by
   rw[f];split
   ·rename_i b a;rw[bH (fun e=>hex ⟨r,b,a,e⟩)]
   ·rfl
  unfold nM;rw[d];simp[gY,J]
def pj(s:List bc):Prop:= ∀b∈s,b.t.fit=true
def Nu{l:List bc}(a:mb l)(h:pj l)(v:Int):oi l v=(eI l v).size:=by
 unfold oi eI;rw[HB a];cases b:gY l v with
 |none=>simp[T.size]
 |some x=>have:=h _ (C3 b);simp only[T.fit,bN,e3]at this;simp only[Option.getD_some];rw[xo,if_pos ⟨this.1,Ω⟩]
def SB{l:List bc}(e:mb l)(h:pj l)(t:T):hU (oi l) t=cut (t.ap (eI l)).size:=by
 induction t with
 |var n=>simp only[hU,Nu e h,T.ap];rfl
 |pair a b d c=>have f:=T.size_pos (b.ap (eI l));simp only[hU,d,c,T.ap,T.size];unfold cut;(repeat' split)<;>omega
 |_=>simp[hU,T.ap,T.size,cut]
def R5{l:List bc}(a:mb l)(h:pj l)(t:T):nN l t=decide ((t.ap (eI l)).size<=5000):=by unfold nN;rw[SB a h];unfold cut;split<;>simp<;>omega
def R6{l:List bc}(a:mb l)(t:T):uD l t=t.ap (eI l):=by unfold uD;rw[I4];exact Kj fun v _=>by rw[HB a];rfl
def Tz(l:List bc)(t:T)(b:l.length<=1000000)(a:mb l)(h:pj l):ct aG 69 [gv (l.map bc.e),t.e] (.tuple [(if(t.ap (eI l)).size<=5000 then t.ap (eI l)else .nil).e,.bool (decide ((t.ap (eI l)).size<=5000))]):=by have:=Ty l t b;rw[R5 a h,R6 a]at this;simpa using this
def G5(l:List (Int×T)):List aa:=jb (l.map fun x=>(x.1,x.2.e))
@[simp]def Wh:G5 []=jb []:=rfl
@[simp]def WQ(l:List (Int×T)):et (G5 l)=false:=rfl
end
end Go.Proofs.YtahlgcidhnjlbaaGreat
namespace Go.Proofs
section
open Go.Shelf
def Tryz.lays191_ren:Go.Shelf.Ren:=⟨fun|191=>191|189=>220|125=>213|257=>250|128=>236|129=>237|294=>261|295=>262|296=>263|297=>264|298=>265|299=>266|216=>267|300=>268|301=>269|328=>272|329=>273|330=>274|331=>275|332=>276|215=>277|343=>278|n=>n,fun|28=>76|0=>0|3=>3|46=>192|51=>206|53=>208|4=>4|183=>230|182=>229|131=>214|5=>5|9=>9|218=>238|222=>226|228=>241|229=>236|n=>n,fun|n=>n⟩
def Tryz.lays191:Go.Proofs.Lays.n191 aG Tryz.lays191_ren:={
 mixed:=ac
 f125:=Tryz.func213.trans (eR some ac)
 f128:=Tryz.func236.trans (eR some ac)
 f129:=Tryz.func237.trans (eR some ac)
 f189:=Tryz.func220.trans (eR some ac)
 f191:=Tryz.func191.trans (eR some ac)
 f215:=Tryz.func277.trans (eR some ac)
 f216:=Tryz.func267.trans (eR some ac)
 f257:=Tryz.func250.trans (eR some ac)
 f294:=Tryz.func261.trans (eR some ac)
 f295:=Tryz.func262.trans (eR some ac)
 f296:=Tryz.func263.trans (eR some ac)
 f297:=Tryz.func264.trans (eR some ac)
 f298:=Tryz.func265.trans (eR some ac)
 f299:=Tryz.func266.trans (eR some ac)
 f300:=Tryz.func268.trans (eR some ac)
 f301:=Tryz.func269.trans (eR some ac)
 f328:=Tryz.func272.trans (eR some ac)
 f329:=Tryz.func273.trans (eR some ac)
 f330:=Tryz.func274.trans (eR some ac)
 f331:=Tryz.func275.trans (eR some ac)
 f332:=Tryz.func276.trans (eR some ac)
 f343:=Tryz.func278.trans (eR some ac)
 t0:=Tryz.underlying0
 a0:=Tryz.isAgg0
 z0:=Tryz.sizeOf0
 v0:=Tryz.zeroValue0
 t3:=Tryz.underlying3
 a3:=Tryz.isAgg3
 z3:=Tryz.sizeOf3
 v3:=Tryz.zeroValue3
 t4:=Tryz.underlying4
 a4:=Tryz.isAgg4
 z4:=Tryz.sizeOf4
 v4:=Tryz.zeroValue4
 t5:=Tryz.underlying5
 a5:=Tryz.isAgg5
 z5:=Tryz.sizeOf5
 v5:=Tryz.zeroValue5
 t9:=Tryz.underlying9
 a9:=Tryz.isAgg9
 z9:=Tryz.sizeOf9
 v9:=Tryz.zeroValue9
 t28:=Tryz.underlying76
 a28:=Tryz.isAgg76
 z28:=Tryz.sizeOf76
 v28:=Tryz.zeroValue76
 t46:=Tryz.underlying192
 a46:=Tryz.isAgg192
 z46:=Tryz.sizeOf192
 v46:=Tryz.zeroValue192
 t51:=Tryz.underlying206
 a51:=Tryz.isAgg206
 z51:=Tryz.sizeOf206
 v51:=Tryz.zeroValue206
 t53:=Tryz.underlying208
 a53:=Tryz.isAgg208
 z53:=Tryz.sizeOf208
 v53:=Tryz.zeroValue208
 t131:=Tryz.underlying214
 a131:=Tryz.isAgg214
 z131:=Tryz.sizeOf214
 v131:=Tryz.zeroValue214
 t182:=Tryz.underlying229
 a182:=Tryz.isAgg229
 z182:=Tryz.sizeOf229
 v182:=Tryz.zeroValue229
 t183:=Tryz.underlying230
 a183:=Tryz.isAgg230
 z183:=Tryz.sizeOf230
 v183:=Tryz.zeroValue230
 t218:=Tryz.underlying238
 a218:=Tryz.isAgg238
 z218:=Tryz.sizeOf238
 v218:=Tryz.zeroValue238
 t222:=Tryz.underlying226
 a222:=Tryz.isAgg226
 z222:=Tryz.sizeOf226
 v222:=Tryz.zeroValue226
 t228:=Tryz.underlying241
 a228:=Tryz.isAgg241
 z228:=Tryz.sizeOf241
 v228:=Tryz.zeroValue241
 t229:=Tryz.underlying236
 a229:=Tryz.isAgg236
 z229:=Tryz.sizeOf236
 v229:=Tryz.zeroValue236}
end
end Go.Proofs

namespace Go.Proofs.YtahlgcidhnjlbaaGreat
section
open Go Go.Pv
def c0(xs:List Int):List aa:=xs.map (aa.int .i64)
def Ir{w:World}{ν:aC}:∀{xs:List Int} {us:List Value},b7 w ν 1 (c0 xs) us->us=xs.map (Value.int .i64)
 |[],us,h=>by simpa[c0,b7]using h
 |x::xs,us,h=>by simp only[c0,gG,b7]at h;obtain⟨u,a,rfl,⟨I,_,_⟩,J⟩:=h;simp only[aw]at I;subst I;rw[Ir J];rfl
def Gs(w:World)(ν:aC):∀xs:List Int,b7 w ν 1 (c0 xs) (xs.map (Value.int .i64))
 |[]=>by simp[c0,b7]
 |x::xs=>by simp only[c0,gG,b7];exact⟨.int .i64 x,_,rfl,⟨by simp[aw],rfl,by intro c aA;simp[jV]at aA;subst aA;rfl⟩,Gs w ν xs⟩
def jh(K:Nat)(xs:List Int):b1:=⟨[],[(.obj K,⟨xs.length,3,1,some (c0 xs)⟩)]⟩
def nE(S:ar->Prop)(xs:List Int):aV S (c0 xs):=by
 induction xs with
 |nil=>simp[c0,aV]
 |cons x r a=>simp only[c0,gG,aV,aR];exact⟨trivial,a⟩
def yx(K:Nat)(xs:List Int):eB (jh K xs):=by unfold jh;refine eB.of ⟨by intro m;simp[ab],by intro m;simp[ab]⟩ Ψ ?_;intro x a ys b;simp at a;subst a;simp at b;subst b;exact nE _ xs
def k0(xs:List Int):List Int:=xs.mergeSort fun x y=>decide (x<=y)
def IY(xs:List Int):(k0 xs).length=xs.length:=List.length_mergeSort xs
def NL(K:Nat)(xs:List Int)(Y:xs.length<=1000000):cf aG 191 [.row 1 (.obj K) xs.length] (jh K xs) fun r N=>r= .tuple []/\N=jh K (k0 xs):=by
 refine cf.sem (yx K xs).obj fun w ν aJ E c=>?_;refine .inl ⟨⟨Tryz.f191,Tryz.func191,by kernel_rfl,by kernel_rfl⟩,?_⟩;have b:=c.slot 0;simp only[fG,Pv.get,if_true]at b;have f:ab (.obj K) (jh K xs).e=some ⟨xs.length,3,1,some (c0 xs)⟩:=by simp[jh,ab]
 obtain⟨v,us,t,l,W,L⟩:=c.good.own (.obj K) _ f;obtain⟨X,F,S⟩:=L _ rfl;have z:=Ir F;subst z;simp only[aw]at b;obtain⟨⟨Kp,KB,y⟩,_,n',u,d,Z,O⟩:=b;rw[t]at d;simp only[dq,ho]at d;obtain⟨rfl,rfl⟩:=d;have p:=O rfl;have P:aJ= #[v]:=by
  have I:aJ.size=1:=by simpa using E
  apply Array.ext (by simpa using I);intro i J m;simp at m;subst m;rw[<-p];simp[Array.getD,I]
 have H:v≠ .slice none 0 0:=by rw[<-p,y];simp
 obtain⟨g,cap,rfl,_,A,R,OB,Q,x⟩:=Lib.holds_of_ownsRow l H;have aA:=Any.sort_Ints Tryz.lays191 g 0 cap xs w x A Ω;subst P;refine aA.mono ?_;rintro e w' ⟨rfl,n,os,rfl⟩;have a:=IY xs;have h:=Lib.ownsRow_putRow (q:=n) (k:=xs.length) (ys:=k0 xs) l a (di _);rw[lG Ω]at h;obtain⟨G,V,_⟩:=c.setRowM (w':=Sort.putRow (Value.int .i64) (Sort.ahead w n) g 0 (k0 xs).toArray) f rfl t (bl:=g) rfl (v':= .slice (some ⟨g,0,none⟩) xs.length cap) rfl (xs':=c0 (k0 xs)) (us:=(k0 xs).map (Value.int .i64)) (.inl ⟨by simp[c0,a],rfl⟩) rfl rfl rfl
  (fun j M=>by simp[Sort.putRow,Sort.mapBlock,Sort.ahead,Array.getElem?_modify,Ne.symm M]) (by simp[Sort.putRow,Sort.mapBlock,Sort.ahead]) (by simpa[c0,a]using h) (Gs _ _ _)
 have B:=G.grown (w':=Sort.grow (Sort.putRow (Value.int .i64) (Sort.ahead w n) g 0 (k0 xs).toArray) os) ⟨rfl,rfl,rfl,Ψ,fun k U _=>Sort.heap_grow_old _ _ U⟩;refine⟨_,_,_,_,.tuple [],jh K (k0 xs),rfl,B,by simp[aw,bT],by simp[jh,iD],?_,?_,?_,(yx K _).obj,by simp[aR,aV],rfl,rfl⟩
 ·simp[jh,iD,a7,ab]
 ·intro k cs U;simp[jh,ab]at U
 ·intro k o U;have hm:=oO U;simp[jh]at hm;obtain⟨rfl,rfl⟩:=hm;refine⟨by simp[jh,ab,bW,c0,a],.inr (by simp[U]),fun ys s=>?_⟩;simp at s;subst s;exact nE _ _
def j4(l:List Int):List aa:=jb (l.map fun x=>(x,.bool true))
def pM(S:ar->Prop)(l:List Int):aV S (j4 l):=by
 have:∀l:List Int,aV S (flat (l.map fun x=>(x,.bool true))):=by
  intro l;induction l with
  |nil=>simp[flat,aV]
  |cons x r a=>simp[flat,aV,a,aR]
 simp[j4,jb,aV,this,aR]
def iN(v:Int)(l:List Int):List Int:=if v∈l then l else l++[v]
def CW(k:Int):∀l:List Int,lL k (.bool true) (l.map fun x=>(x,aa.bool true))=if k∈l then some (l.map fun x=>(x,aa.bool true))else none
 |[]=>rfl
 |i::r=>by
  by_cases h:k=i
  ·simp[lL,h]
  ·by_cases J:k∈r<;>simp[lL,h,J,CW k r]
@[simp]def Wu(k:Int)(l:List Int):pR .i (aB k) (.bool true) (j4 l)=some (j4 (iN k l)):=by
 simp only[j4,QS,yB,CW,iN];split<;>rename_i h
 ·split at h
  ·simp at h;subst h;simp[*]
  ·cases h
 ·split at h
  ·cases h
  ·simp[*]
@[simp]def Um:j4 []=jb []:=rfl
@[simp]def WN(l:List Int):et (j4 l)=false:=rfl
@[simp]def WW(m:ar)(l:List Int):sD m (j4 l)=some (ep l.length [] m):=by simp[j4]
def Qw(f:ar->aT (List aa))(ff mk:ar)(n:Nat)(seen:List Nat)(b:Nat)(l:List Int)(x:Int)(az:f ff=some (ep n (seen++[b]) mk))(hm:f mk=some (j4 l))(c:n=l.length)(a:l[b]? =some x):nI f (.ptr ff 0)=some (True,.tuple [aB x,.bool true]):=by rw[Qy f ff mk n seen b _ az hm (by simpa using c)];simp[a]
def Lz{st:aN}{d:Nat}{K:aN->Prop}{ff mk:ar}{n:Nat}{seen:List Nat}{l:List Int}(az:ab ff st.b=some (ep n seen mk))(hm:ab mk st.b=some (j4 l))(g:n=l.length)
  (I:(∀b,b<l.length->b∈seen)->K {st with t:=Pv.put d (.tuple [.bool false]) st.t}) (J:∀b x,l[b]? =some x->b∉seen->K {st with t:=Pv.put d (.tuple [.bool true,aB x,.bool true]) st.t,b:=bW ff (ep n (seen++[b]) mk) st.b}):
  qm st d (.ptr ff 0) K:=by
 refine LA az hm (by simpa using g) (fun h=>I fun b a=>h b Ω) (fun b k v a e=>?_);simp only[List.getElem?_map,ih]at a;obtain⟨x,f,c⟩:=a;simp only[ho]at c;obtain⟨rfl,rfl⟩:=c;exact J b x f e
def _root_.Go.Pv.T.fold{α:Type}(f:Int->α->α):T->α->α
 | .var n,a=>f n a
 | .pair x y,a=>y.fold f (x.fold f a)
 |_,a=>a
def E4{α:Type}(S:α->b1)(hx:∀a,eB (S a))(nB:∀a b,dW (S a) (S b))(g:Nat)(cx:List aa)(aA:∀a,aV (a7 (S a)) cx)(dX:bt cx=cx)(f:Int->α->α)(l:∀v a,cf aG g (aB v::cx) (S a) fun r e=>r= .tuple []/\e=S (f v a))(t:T):
  ∀a,cf aG 134 [t.e,.func g cx] (S a) fun r e=>r= .tuple []/\e=S (t.fold f a):=by
 have c:∀a m,ab (.loc m) (S a).b=none:=fun a=>(hx a).obj.1;have hu:∀a m cs,bW (.loc m) cs (S a).b=(S a).b++[(.loc m,cs)]:=fun a m cs=>o7 (c a m);have ag:∀a m,ar.loc m∉b2 (S a):=fun a=>pO (hx a).obj;induction t with
 |pair x y k j=>intro a;have d:=hx a;refine cf.mk mixed bC Tryz.func134 Bn Ψ d.obj fun i h=>?_;unfold vs;simp[hu,ag,dM,c,dX];(repeat' first|refine aS ?_|simp[hu,ag,dM,c]);refine CallDo.ob (k a) d bU bU (by simp[aA]) ?_;rintro r e ⟨rfl,rfl⟩;refine⟨nB _ _,?_⟩;simp[jz,lC,dy,c];(repeat' first|refine aS ?_|simp[hu,ag,dM,c]);rw[dX];refine CallDo.ob (j (x.fold f a)) (hx (x.fold f a)) bU bU (by simp[aA]) ?_;rintro r e ⟨rfl,rfl⟩;refine⟨nB _ _,?_⟩;simp[jz,lC,dy,c];refine eX.at (S (y.fold f (x.fold f a))) (.inr rfl) (hx _) (nB _ _) bU bU ?_;simp[fZ,bq,bD,ba];simp[T.fold]
 |var n=>intro a;have d:=hx a;refine cf.mk mixed bC Tryz.func134 Bn Ψ d.obj fun i h=>?_;unfold vs;simp[hu,ag,dM,c,dX];(repeat' first|refine aS ?_|simp[hu,ag,dM,c]);refine CallDo.ob (l n a) d bU bU (by simp[aA]) ?_;rintro r e ⟨rfl,rfl⟩;refine⟨nB _ _,?_⟩;simp[jz,lC,dy,c,dM];refine eX.at (S (f n a)) (.inr rfl) (hx _) (nB _ _) bU bU ?_;simp[fZ,bq,bD,ba];simp[T.fold]
 |_=>intro a;have d:=hx a;refine cf.mk mixed bC Tryz.func134 Bn Ψ d.obj fun i h=>?_;unfold vs;simp[hu,ag,dM,c,dX];(repeat' first|refine aS ?_|simp[hu,ag,dM,c]);refine eX.at (S a) (.inr rfl) d (dW.refl _) bU bU ?_;simp[fZ,bq,bD,ba];simp[T.fold]
def kC(l:List Int):b1:=⟨[(.obj 304,j4 l),(.obj 305,[.gmap (.obj 304)])],[]⟩
def vf(l:List Int):eB (kC l):=by unfold kC;exact eB.of ⟨by intro m;simp[ab],by intro m;simp[ab]⟩ (by simp[pM,aV,aR,a7,ab]) Ψ
def yz(l a:List Int):dW (kC l) (kC a):=by refine⟨fun k=>?_,fun k=>rfl⟩;simp only[kC,ab];split<;>rfl
def Nz(v:Int)(l:List Int):cf aG 135 [aB v,.ptr (.obj 305) 0] (kC l) fun r c=>r= .tuple []/\c=kC (iN v l):=by have b:=vf l;have a:=vf (iN v l);have nB:=yz l (iN v l);unfold kC at b a nB⊢;refine cf.mk mixed bC Tryz.func135 Q8 Ψ b.obj fun e d=>?_;unfold Dj;simp;refine eX.at _ (.inr rfl) a nB bU bU ?_;simp[fZ,bq,bD,ba]
def n2(l:List Int):b1:=⟨[(.obj 304,j4 l)],[]⟩
def CO(l:List Int):eB (n2 l):=by unfold n2;exact eB.of ⟨by intro m;simp[ab],by intro m;simp[ab]⟩ (by simp[pM,aV,aR,a7,ab]) Ψ
end
section
open Go Go.Pv
section
variable {α:Type} (S:α->b1) (hx:∀a,eB (S a)) (nB:∀a b,dW (S a) (S b)) (g:Nat) (cx:List aa) (aA:∀a,aV (a7 (S a)) cx) (dX:bt cx=cx)
end
end
end Go.Proofs.YtahlgcidhnjlbaaGreat
namespace Go.Pv
section
open Go Go.RowKit
section
variable {P:bp} {ob:List ar} {st:aN} {Q:Exit->aN->Prop} {c:C} {α:Type}
def lf(b:List Nat)(cs:Nat->α->List (Nat×aa))(n:Nat)(d:Nat->α->Prop)(a0:α)(hw:fc ob st (kU st b (cs 0 a0)))(g:d 0 a0)(e:∀a,d n a->(∀i,gZ (get i (kU st b (cs n a)).t))->b5 P ob c (cP ob (rl (fun i a=>kU st b (cs i a)) n d) 0 Q) (kU st b (cs n a)))
  (f:∀i a,i<n->d i a->(∀j,gZ (get j (kU st b (cs i a)).t))->b5 P ob c (cP ob (rl (fun i a=>kU st b (cs i a)) n d) (n-i) Q) (kU st b (cs i a))):b5 P ob (.loop c) Q st:=
 kG (fun i a=>kU st b (cs i a)) n d a0 hw g e f
def zc(b:List Nat)(cs:α->List (Nat×aa))(μ:α->Nat)(d:α->Prop)(a0:α)(hw:fc ob st (kU st b (cs a0)))(f:d a0)
  (e:∀a,d a->(∀j,gZ (get j (kU st b (cs a)).t))->b5 P ob c (cP ob (va (fun a=>kU st b (cs a)) μ d) (μ a) Q) (kU st b (cs a))):b5 P ob (.loop c) Q st:=
 lg (fun a=>kU st b (cs a)) μ d a0 hw f e
end
attribute [simp] QN
end
end Go.Pv
namespace Go.Proofs.YtahlgcidhnjlbaaGreat
section
open Go Go.Pv
section
variable {α:Type} (e:α->aa)
def xf(l:List (Int×α)):List aa:=jb (l.map fun x=>(x.1,e x.2))
@[simp]def WU(l:List (Int×α)):et (xf e l)=false:=rfl
end
def Qq:List (Int×Int)->List aa:=xf (aa.int .i64)
def G4:List (Int×Bool)->List aa:=xf aa.bool
def Qr:List (Int×T)->List aa:=xf T.e
@[simp]def WR(l):et (Qq l)=false:=rfl
@[simp]def WO(l):et (G4 l)=false:=rfl
@[simp]def WT(l):et (Qr l)=false:=rfl
def SY:aa:= .agg [aB 0,aB 0,.str [],.slice 4 .nil []]
def Je(o:aT T):aa:=(o.map T.e).getD SY
@[simp]def Wi:[aa.hdm 0 []]=jb []:=rfl
end
section
open Go Go.Pv
@[simp]def Wg:G4 []=jb []:=rfl
@[simp]def XO(t:T):Je (some t)=t.e:=rfl
@[simp]def XN:Je none= .agg [aB 0,aB 0,.str [],.slice 4 .nil []]:=rfl
def SG{a b:List Int}(h:a.Perm b):k0 a=k0 b:=by
 have e:∀a b c:Int,(decide (a<=b))=true->(decide (b<=c))=true->(decide (a<=c))=true:=by intro a b c;simp;omega
 have d:∀a b:Int,(decide (a<=b)||decide (b<=a))=true:=by intro a b;simp;omega
 have I:=List.pairwise_mergeSort e d a;have J:=List.pairwise_mergeSort e d b;refine JX (le:=fun x y:Int=>(decide (x<=y))=true) (fun x y _ _ I J=>by simp at I J;omega) I J ?_;exact(List.mergeSort_perm a _).trans (h.trans (List.mergeSort_perm b _).symm)
def PV(l:List Int)(k:Nat)(st:aN):Prop:=∃(seen:List Nat) (xs:List Int),seen.Nodup/\(∀b∈seen,b<l.length)/\k=l.length-seen.length/\xs=seen.filterMap (fun b=>l[b]?)/\xs.length=seen.length/\st=⟨[(3,.row 1 (.obj 306) xs.length),(7,.ptr (.loc 0) 0)],[(.obj 304,j4 l),(.loc 0,ep l.length seen (.obj 304))],[(.obj 306,⟨xs.length,3,1,some (c0 xs)⟩)],1,[.obj 306,.obj 304]⟩
@[simp]def w1(xs:List Int):(c0 xs).length=xs.length:=by simp[c0]
@[simp]def XK(xs:List Int):bt (c0 xs)=c0 xs:=by
 induction xs with
 |nil=>rfl
 |cons x r a=>simp only[c0,gG,bt,bE]at a⊢;rw[a]
@[simp]def VK:c0 []=[]:=rfl
def PR(xs:List Int)(x:Int):c0 xs++[aB x]=c0 (xs++[x]):=by simp[c0]
def NN(l:List Int)(w:l.length<=1000000):cf aG 136 [.gmap (.obj 304)] (n2 l) fun r m=>r=hW (c0 (k0 l))/\m=n2 l:=by
 have e:=CO l;unfold n2 at e⊢;refine cf.mk mixed bC Tryz.func136 Rq Ψ e.obj fun v j=>?_;unfold DB;simp;refine mj (PV l) l.length _ ⟨by simp[fresh,aV,aR,ep,a7,ab,pM,nE],k1 (by simp[fresh,aV,aR,ep,a7,ab,pM,nE]),k2 (by simp[fresh,aV,aR,hh,a7,ab,pM,nE]),Ψ⟩ ⟨[],[],Ψ,Ψ,Ψ,Ψ,Ψ,rfl⟩ ?_;rintro k st ⟨seen,xs,d,a,U,h,p,rfl⟩ q j;clear q j;have hle:=IT d a;simp;refine Lz (mk:= .obj 304) (seen:=seen) (l:=l) Ψ Ψ rfl (fun s=>?_) (fun b x g n=>?_)
 ·simp;have o:=Sx d a s;rw[<-h]at o;refine CallDo.ob (NL 306 xs Ω) (yx 306 xs) (by unfold jh;exact bU) (by unfold jh;exact bU) (by simp[jh,a7,ab]) ?_;rintro r m ⟨rfl,rfl⟩;refine⟨⟨fun _=>rfl,fun k=>by simp only[jh,ab];split<;>rfl⟩,?_⟩;unfold jh;simp[dy,IY];refine eX.at _ (.inl rfl) e (dW.refl _) bU bU ?_;simp[fZ,bq,bD,ba];rw[SG o];simp[aR,nE]
 ·have t:∀f:ar->aT (List aa),f (.loc 0)=some (ep l.length (seen++[b]) (.obj 304))->f (.obj 304)=some (j4 l)->nI f (.ptr (.loc 0) 0)=some (True,.tuple [aB x,.bool true]):=fun f I J=>Qw f (.loc 0) (.obj 304) l.length seen b l x I J rfl g;have i:b<l.length:=(eQ.1 g).1;have u:=Sy d a i n;simp[t,PR];refine⟨by unfold cH;omega,?_⟩;refine cP.next (l.length-(seen.length+1)) Ω ⟨seen++[b],xs++[x],Q0 d n,(by simp;intro c aA;rcases aA with aA|rfl;exact a c aA;exact i),Ψ,by rw[List.filterMap_append,<-h];simp[g],by simp[p],rfl⟩ ⟨by simp[fresh,aV,aR,ep,a7,ab,pM,nE],k1 (by simp[fresh,aV,aR,ep,a7,ab,pM,nE]),k2 (by simp[fresh,aV,aR,hh,a7,ab,pM,nE]),Ψ⟩
@[simp]def VS(S:ar->Prop)(xs:List Int):aV S (c0 xs)=True:=eq_true (nE S xs)
def Np(t:T):∀l:List Int,(t.fold iN l).length<=l.length+t.size:=by
 induction t with
 |var n=>intro l;simp only[T.fold,iN,T.size];split<;>simp
 |pair a b d c=>intro l;simp only[T.fold,T.size];have:=d l;have:=c (a.fold iN l);omega
 |_=>intro l;simp[T.fold,T.size]
def rb(t:T):List Int:=if t.fit then k0 (t.fold iN [])else []
@[simp]def UD:cells .junk=[.junk]:=rfl
def Th(t:T):ct aG 66 [t.e] (hW (c0 (rb t))):=by
 refine cb bC Tryz.func66 Q7 fun c=>?_;unfold Di;simp;(with_reducible repeat' first|((first|apply cN|apply cT|apply cS)<;>intro h<;>try simp at h)|refine aS ?_|refine be (Ct _) ?_|refine bf (Ct _) ?_|simp)
 ·simp[b3,bq,bD,ba];simp[rb,h]
 ·have hlen:(t.fold iN []).length<=1000000:=by have I:=Np t [];simp[T.fit]at h I;omega
  refine CallDo.ob (E4 kC vf yz 135 [.ptr (.obj 305) 0] (by intro a;simp[a7,kC,ab,aV,aR]) Ψ iN Nz t []) (vf []) (by unfold kC;exact bU) (by unfold kC;exact bU) (by simp[a7,kC,ab]) ?_;rintro r b ⟨rfl,rfl⟩;refine⟨yz _ _,?_⟩;unfold kC;simp[dy];refine CallDo.ob (NN (t.fold iN []) hlen) (CO _) (by unfold n2;exact bU) (by unfold n2;exact bU) (by simp[a7,n2,ab]) ?_;rintro r b ⟨rfl,rfl⟩;refine⟨dW.refl _,?_⟩;unfold n2;simp[dy];simp[b3,bq,bD,ba];simp[rb,h]
def IC(o:aT (List bc)):aa:= .tuple [gv ((o.getD []).map bc.e),.bool o.isSome]
def C2(v:Int):aa:= .agg [aB v,aB 0,aB 0,.str [],.slice 4 .nil []]
@[simp]def Xd(v:Int):dd (C2 v)=true:=rfl
@[simp]def Up(v:Int):cells (C2 v)=[aB v,aB 0,aB 0,.str [],.slice 4 .nil []]:=rfl
def uY:∀{a b:T},a.tm=b.tm->a=b:=by
 intro a;induction a with
 |pair x y d c=>intro b h;cases b<;>simp[T.tm]at h;rw[d h.1,c h.2]
 |_=>intro b h;cases b<;>simp[T.tm]at h⊢ <;>exact h
def J9(l:List iL):Prop:= ∃s:List bc,l=s.map bc.b/\Hm s/\vj s/\u9 s
open Classical in
noncomputable def ko(l:List iL):Bool:=decide (J9 l)
structure Sv (s:List bc):Prop where
 ok:Hm s
 sol:vj s
 fits:u9 s
def uX{α:Type}{t:List α}{i:Nat}{b:α}(a:t[i]? =some b):t.take (i+1)=t.take i++[b]:=by rw[List.take_succ,a];rfl
def QU(s t:List bc):List bc:=t.filter fun b=>(gY s b.v).isNone
def Ks(t:T)(n:Int):Prop:= ∀v,t.occ v=true->v<n
def Kr(l:List bc)(n:Int):Prop:= ∀b∈l,b.v<n/\Ks b.t n
def uW(b:List bc)(k:List gH)(m:List fy)(d:List bc):Prop:= ∃x,QC b (Lw d)=some x/\¬(Il x k []=none\/Im x m []=none)/\QU b x=d/\d≠[]
def Qi{α:Type}{s:List α}{i:Nat}{t:α}(h:s[i]? =some t):s.drop i=t::s.drop (i+1):=by obtain⟨az,e⟩:=eQ.1 h;rw[l9 az,e]
def iv(n:Int)(x:List iL):Prop:= ∃s:List bc,x=s.map bc.b/\Sv s/\Kr s n
def DK:C:=(al [ed 2 0] (al [cp 4 20] (al [ae 8 4,cp 5 0,ae 6 8] (.seq (.block 0 (.loop (.seq (al [ae 9 6,ae 10 1,bV 11 .leq 9 10] (bz 11 .skip (.exit 0))) (.block 1 (al [bP 12 2 2,ae 13 5,ae 14 6,gW 15 231 [.t 12,.t 13,.t 14]] (al [ae 16 6,ae 5 16] (.region [ae 17 6,ae 18 4,bV 19 .add 17 18,ae 6 19]))))))) (al [bP 20 2 2,ae 21 5,ae 22 1,gW 23 231 [.t 20,.t 21,.t 22]] (.block 2 (.loop (.seq (al [ae 24 4,ae 25 1,bV 26 .lss 24 25] (bz 26 .skip (.exit 2))) (.block 3 (al [ae 27 4,cd 28 (.bin .mul false (fI 2) (.t 27)),cp 5 0,ae 6 28] (.seq (.block 4 (.loop (.seq (al [ae 29 6,ae 30 1,bV 31 .leq 29 30] (bz 31 .skip (.exit 4))) (.block 5 (al [bP 32 2 2,ae 33 5,ae 34 5,ae 35 4,bV 36 .add 34 35,ae 37 6,gW 38 232 [.t 32,.t 33,.t 36,.t 37]] (al [ae 39 6,ae 5 39] (.region [ae 40 6,ae 41 4,cd 42 (.bin .mul false (fI 2) (.t 41)),bV 43 .add 40 42,ae 6 43]))))))) (.seq (al [ae 44 5,ae 45 4,bV 46 .add 44 45,ae 7 46] (al [ae 47 7,ae 48 1,bV 49 .lss 47 48] (bz 49 (.region [bP 50 2 2,ae 51 5,ae 52 7,ae 53 1,gW 54 232 [.t 50,.t 51,.t 52,.t 53]]) .skip))) (.region [ae 55 4,br 56 .mul 55 2,ae 4 56])))))))))))))
def DI:C:=(al [ed 3 0] (al [ae 8 1,br 9 .add 8 1,ae 6 9] (.block 0 (.loop (.seq (al [ae 10 6,ae 11 2,bV 12 .lss 10 11] (bz 12 .skip (.exit 0))) (.seq (.block 1 (al [ae 15 6,ae 7 15] (.block 2 (.loop (.seq (al [ae 16 7,ae 17 1,bV 18 .gtr 16 17,ae 19 18,bk 19 true (bu 20 0 1 3),bk 19 true (bh 21 1 20),dc 19 true 22 7,dc 19 true 23 7,bk 19 true (br 24 .sub 23 1),bk 19 true (lD 25 21 [.t 22,.t 24]),fL 26 19 25] (bz 26 .skip (.exit 2))) (.seq (.block 3 (.region [bu 29 1 1 3,bh 30 1 29,ae 31 7,ae 32 7,br 33 .sub 32 1,lD 34 30 [.t 31,.t 33]])) (.region [ae 27 7,br 28 .sub 27 1,ae 7 28]))))))) (.region [ae 13 6,br 14 .add 13 1,ae 6 14])))))))
def vx:C:=(al [ae 164 16,ae 165 22,bV 166 .lss 164 165,ae 167 166,dc 167 true 168 22,dc 167 true 169 3,bk 167 true (bV 170 .lss 168 169),fL 171 167 170] (bz 171 (.region [bP 172 2 4,ae 173 16,ae 174 22,ae 175 3,gW 176 232 [.t 172,.t 173,.t 174,.t 175]]) .skip))
def vz:C:=(.seq (al [ae 151 1,ae 152 18,bV 153 .lss 151 152,ae 154 153,dc 154 true 155 18,dc 154 true 156 16,bk 154 true (bV 157 .lss 155 156),fL 158 154 157] (bz 158 (.region [bP 159 2 4,ae 160 1,ae 161 18,ae 162 16,gW 163 232 [.t 159,.t 160,.t 161,.t 162]]) .skip)) vx)
def yN:C:=(.seq (al [ae 138 18,ae 139 2,bV 140 .lss 138 139,ae 141 140,dc 141 true 142 2,dc 141 true 143 22,bk 141 true (bV 144 .lss 142 143),fL 145 141 144] (bz 145 (.region [bP 146 2 4,ae 147 18,ae 148 2,ae 149 22,gW 150 251 [.t 146,.t 147,.t 148,.t 149]]) .skip)) vz)
def yO:C:=(al [ae 113 17,br 114 .sub 113 1,ae 20 114] (.seq (.block 8 (.loop (.seq (al [ae 115 18,ae 116 19,bV 117 .lss 115 116] (bz 117 .skip (.exit 8))) (.block 9 (al [ae 118 18,ae 119 19,bV 120 .add 118 119,cd 121 (.conv .u64 (.t 120)),cd 122 (.bin .shr false (.t 121) (.c (.int .u64 1))),cd 123 (.conv .i64 (.t 122)),ae 21 123] (al [bu 124 0 1 4,bh 125 1 124,ae 126 20,ae 127 21,bV 128 .sub 126 127,ae 129 21,lD 130 125 [.t 128,.t 129],gU 131 130] (bz 131 (.region [ae 132 21,br 133 .add 132 1,ae 18 133]) (.region [ae 134 21,ae 19 134])))))))) (al [ae 135 17,ae 136 18,bV 137 .sub 135 136,ae 22 137] yN)))
def DM:C:=(al [ed 4 0] (.seq (al [ae 23 2,ae 24 1,bV 25 .sub 23 24,br 26 .eql 25 1] (bz 26 (al [ae 27 2,ae 8 27] (al [ae 28 3,ae 9 28] (.seq (.block 0 (.loop (.seq (al [ae 29 8,ae 30 9,bV 31 .lss 29 30] (bz 31 .skip (.exit 0))) (.block 1 (al [ae 32 8,ae 33 9,bV 34 .add 32 33,cd 35 (.conv .u64 (.t 34)),cd 36 (.bin .shr false (.t 35) (.c (.int .u64 1))),cd 37 (.conv .i64 (.t 36)),ae 10 37] (al [bu 38 0 1 4,bh 39 1 38,ae 40 10,ae 41 1,lD 42 39 [.t 40,.t 41]] (bz 42 (.region [ae 43 10,br 44 .add 43 1,ae 8 44]) (.region [ae 45 10,ae 9 45])))))))) (.seq (al [ae 46 1,ae 11 46] (.block 2 (.loop (.seq (al [ae 47 11,ae 48 8,br 49 .sub 48 1,bV 50 .lss 47 49] (bz 50 .skip (.exit 2))) (.seq (.block 3 (.region [bu 53 1 1 4,bh 54 1 53,ae 55 11,ae 56 11,br 57 .add 56 1,lD 58 54 [.t 55,.t 57]])) (.region [ae 51 11,br 52 .add 51 1,ae 11 52])))))) .ret)))) .skip)) (.seq (al [ae 59 3,ae 60 2,bV 61 .sub 59 60,br 62 .eql 61 1] (bz 62 (al [ae 63 1,ae 12 63] (al [ae 64 2,ae 13 64] (.seq (.block 4 (.loop (.seq (al [ae 65 12,ae 66 13,bV 67 .lss 65 66] (bz 67 .skip (.exit 4))) (.block 5 (al [ae 68 12,ae 69 13,bV 70 .add 68 69,cd 71 (.conv .u64 (.t 70)),cd 72 (.bin .shr false (.t 71) (.c (.int .u64 1))),cd 73 (.conv .i64 (.t 72)),ae 14 73] (al [bu 74 0 1 4,bh 75 1 74,ae 76 2,ae 77 14,lD 78 75 [.t 76,.t 77],gU 79 78] (bz 79 (.region [ae 80 14,br 81 .add 80 1,ae 12 81]) (.region [ae 82 14,ae 13 82])))))))) (.seq (al [ae 83 2,ae 15 83] (.block 6 (.loop (.seq (al [ae 84 15,ae 85 12,bV 86 .gtr 84 85] (bz 86 .skip (.exit 6))) (.seq (.block 7 (.region [bu 89 1 1 4,bh 90 1 89,ae 91 15,ae 92 15,br 93 .sub 92 1,lD 94 90 [.t 91,.t 93]])) (.region [ae 87 15,br 88 .sub 87 1,ae 15 88])))))) .ret)))) .skip)) (al [ae 95 1,ae 96 3,bV 97 .add 95 96,cd 98 (.conv .u64 (.t 97)),cd 99 (.bin .shr false (.t 98) (.c (.int .u64 1))),cd 100 (.conv .i64 (.t 99)),ae 16 100] (al [ae 101 16,ae 102 2,bV 103 .add 101 102,ae 17 103] (al [cp 18 0,cp 19 0] (.seq (al [ae 104 2,ae 105 16,bV 106 .gtr 104 105] (bz 106 (al [ae 107 17,ae 108 3,bV 109 .sub 107 108,ae 18 109] (.region [ae 110 16,ae 19 110])) (al [ae 111 1,ae 18 111] (.region [ae 112 2,ae 19 112])))) yO)))))))
def DJ:C:=(al [ed 4 0] (al [ae 10 2,ae 11 1,bV 12 .sub 10 11,ae 8 12] (al [ae 13 3,ae 14 2,bV 15 .sub 13 14,ae 9 15] (.seq (.block 0 (.loop (.seq (al [ae 16 8,ae 17 9,bV 18 .neq 16 17] (bz 18 .skip (.exit 0))) (.block 1 (al [ae 19 8,ae 20 9,bV 21 .gtr 19 20] (bz 21 (al [bP 22 2 4,ae 23 2,ae 24 8,bV 25 .sub 23 24,ae 26 2,ae 27 9,gW 28 270 [.t 22,.t 25,.t 26,.t 27]] (.region [ae 29 8,ae 30 9,bV 31 .sub 29 30,ae 8 31])) (al [bP 32 2 4,ae 33 2,ae 34 8,bV 35 .sub 33 34,ae 36 2,ae 37 9,bV 38 .add 36 37,ae 39 8,bV 40 .sub 38 39,ae 41 8,gW 42 270 [.t 32,.t 35,.t 40,.t 41]] (.region [ae 43 9,ae 44 8,bV 45 .sub 43 44,ae 9 45])))))))) (.region [bP 46 2 4,ae 47 2,ae 48 8,bV 49 .sub 47 48,ae 50 2,ae 51 8,gW 52 270 [.t 46,.t 49,.t 50,.t 51]])))))
def DL:C:=(al [ed 4 0] (al [cp 8 0] (.block 0 (.loop (.seq (al [ae 9 8,ae 10 3,bV 11 .lss 9 10] (bz 11 .skip (.exit 0))) (.seq (.block 1 (.region [bu 14 1 1 4,bh 15 1 14,ae 16 1,ae 17 8,bV 18 .add 16 17,ae 19 2,ae 20 8,bV 21 .add 19 20,lD 22 15 [.t 18,.t 21]])) (.region [ae 12 8,br 13 .add 12 1,ae 8 13])))))))
def Rz:cJ aE DK [] 2 Tryz.f199=true:=ac
def Rx:cJ aE DI [] 3 Tryz.f231=true:=ac
def RB:cJ aE DM [] 4 Tryz.f232=true:=ac
def Ry:cJ aE DJ [] 4 Tryz.f251=true:=ac
def RA:cJ aE DL [] 4 Tryz.f270=true:=ac
end
section
open Go Go.Pv
structure hr {α:Type} (S:List α->b1) (n:Nat) (g cv:Nat) (lc cr:List aa) (lt:α->α->Bool):Prop where
 ok:∀l,eB (S l)
 same:∀l a1,l.length=n->a1.length=n->dW (S l) (S a1)
 klc:∀l,l.length=n->aV (a7 (S l)) lc
 ksc:∀l,l.length=n->aV (a7 (S l)) cr
 slc:bt lc=lc
 ssc:bt cr=cr
 le:n<=68719476736
 less:∀l,l.length=n->∀(i j:Nat) x y,l[i]? =some x->l[j]? =some y->cf aG g (aB i::aB j::lc) (S l) fun r ak=>r= .bool (lt x y)/\ak=S l
 swap:∀l,l.length=n->2<=n->∀i j:Nat,i<n->j<n->cf aG cv (aB i::aB j::cr) (S l) fun r ak=>r= .tuple []/\ak=S (fE l i j)
variable {α:Type} {S:List α->b1} {n g cv:Nat} {lc cr:List aa} {lt:α->α->Bool}
def h1(g cv:Nat)(lc cr:List aa):aa:= .agg [.func g lc,.func cv cr]
def zv(H:hr S n g cv lc cr lt)(l:List α)(f:l.length=n)(a b c:Nat)(t:a+c<=b)(w:b+c<=n):
  cf aG 270 [h1 g cv lc cr,aB a,aB b,aB c] (S l) fun r p=>r= .tuple []/\∃o,p=S o/\eC a (b+c) l o/\∀k,o[k]? =l[mR a b c k]?:=by
 have j:=H.ok l;have e:∀l m,ab (.loc m) (S l).b=none:=fun l=>(H.ok l).obj.1;have hu:∀l m cs,bW (.loc m) cs (S l).b=(S l).b++[(.loc m,cs)]:=fun l m cs=>o7 (e l m);have ag:∀m,ar.loc m∉b2 (S l):=pO j.obj;have hle:=H.le;refine cf.mk mixed bC Tryz.func270 RA Ψ j.obj fun v u=>?_;unfold DL;simp[h1,hu,ag,dM,e,H.slc,H.ssc];refine kG (fun i (d:List α)=>⟨[(1,aB a),(2,aB b),(3,aB c),(4,.ptr (.loc 0) 0),(8,aB i)],[(.loc 0,[.func g lc,.func cv cr])]++(S d).b,(S d).e,1,b2 (S l)⟩) c (fun i d=>d.length=n/\eC a (b+c) l d/\∀k,d[k]? =l[mR a b i k]?) l
  (fc.obL j (dW.refl _) (by simp[aR]) (by simp[dM,e,aR,aV,sn (H.klc l f),sn (H.ksc l f)]) bU bU) ⟨f,.refl _,fun k=>by simp[mR];split<;>(try split)<;>(try rfl)<;>(exfalso;omega)⟩ ?_ ?_
 ·rintro d ⟨I,J,h⟩ _;simp;refine eX.at (S d) (.inr rfl) (H.ok d) (H.same _ _ f I) bU bU ?_;simp[fZ,bq,bD,ba];exact⟨d,rfl,J,h⟩
 ·rintro i d az ⟨I,J,h⟩ _;have q:((a:Int)+i)=(a+i:Nat):=Ω
  have s:((b:Int)+i)=(b+i:Nat):=Ω
  simp[az,dM,e,H.ssc];(repeat' first|refine aS ?_|simp);rw[q,s];refine CallDo.ob (H.swap d I Ω (a+i) (b+i) Ω Ω) (H.ok d) bU bU (by simp[H.ksc d I]) ?_;rintro r p ⟨rfl,rfl⟩;refine⟨H.same _ _ I (by simp[I]),?_⟩;simp[jz,lC,dy,e];(repeat' first|refine aS ?_|simp);refine cP.rng (fE d (a+i) (b+i)) az ⟨by simp[I],.step J Ω Ω Ω Ω Ω Ω,fun k=>?_⟩ (fc.obL (L:=[(.loc 0,[.func g lc,.func cv cr])]) (H.ok _) (H.same _ _ f (by simp[I])) (by simp[aR]) (by simp[dM,e,aR,aV,sn (H.klc (fE d (a+i) (b+i)) (by simp[I])),sn (H.ksc (fE d (a+i) (b+i)) (by simp[I]))]) bU bU);rw[sg _ _ _ _ Ω Ω,h,h,h];have:mR a b (i+1) k=if k=a+i then mR a b i (b+i)else if k=b+i then mR a b i (a+i)else mR a b i k:=by
   simp only[mR];repeat' split
   all_goals omega
  rw[this];split
  ·rfl
  ·split<;>rfl
section
variable (H:hr S n g cv lc cr lt)
include H
theorem hr.loc{l:List α}(m:Nat):ab (.loc m) (S l).b=none:=(H.ok l).obj.1 m
theorem hr.weak{l a:List α}(d:l.length=n)(U:a.length=n){st:aN}{t':List (Nat×aa)}(c:∀x∈t',Pv.get x.1 st.t=x.2/\aR (pU (S a) 1) x.2)(b:ab (.loc 0) st.b=some [.func g lc,.func cv cr])
  (e:∀k cs,ab k (S a).b=some cs->ab k st.b=some cs) (he:∀k o,ab k (S a).e=some o->ab k st.e=some o):
  fc (b2 (S l)) st ⟨t',(.loc 0,[.func g lc,.func cv cr])::(S a).b,(S a).e,1,b2 (S l)⟩:=
 fc.obL (L:=[(.loc 0,[.func g lc,.func cv cr])]) (H.ok _) (H.same _ _ d U) c (by simp[b,aR,aV,sn (H.klc a U),sn (H.ksc a U)]) e he
theorem hr.weakC{l a:List α}(d:l.length=n)(U:a.length=n){t t':List (Nat×aa)}{q:Nat}{o:List ar}(c:∀x∈t',Pv.get x.1 t=x.2/\aR (pU (S a) 1) x.2):
  fc (b2 (S l)) ⟨t,(.loc 0,[.func g lc,.func cv cr])::(S a).b,(S a).e,q,o⟩ ⟨t',(.loc 0,[.func g lc,.func cv cr])::(S a).b,(S a).e,1,b2 (S l)⟩:=
 H.weak d U c (by simp[ab]) (fun k cs b=>by
  cases k with
  |loc m=>rw[H.loc m]at b;cases b
  |obj m=>simpa[ab]using b) (fun _ _ b=>b)
theorem hr.call{a:List α}(I:a.length=n){f:Nat}{args:List aa}{R:aa->List α->Prop}(j:cf aG f args (S a) fun r g=> ∃b,g=S b/\R r b)(cR:∀r b,R r b->b.length=n)(U:aV (a7 (S a)) args){t:List (Nat×aa)}{fN:List aa}{o:List ar}{d:aT Nat}{K:aN->Prop}
  (h:∀r b,R r b->K ⟨dH d r t,(.loc 0,fN)::(S b).b,(S b).e,1,o++b2 (S b)⟩):CallDo aG f args ⟨t,(.loc 0,fN)::(S a).b,(S a).e,1,o⟩ d K:=by
 refine CallDo.ob j (H.ok a) (fun k cs c=>?_) (fun _ _ c=>c) U ?_
 ·cases k with
  |loc m=>rw[H.loc m]at c;cases c
  |obj m=>simpa[ab]using c
 ·rintro r g ⟨b,rfl,e⟩;refine⟨H.same _ _ I (cR _ _ e),?_⟩;have i:dy (S a).b ((.loc 0,fN)::(S a).b)=[(.loc 0,fN)]:=by have:=lC (S a).b [(ar.loc 0,fN)] (S a).b;rw[jz]at this;simpa[dy,H.loc]using this
  have l:dy (S a).e (S a).e=[]:=jz _;have:=h _ _ e;simp only[i,l];exact this
theorem hr.doSwap{a:List α}(I:a.length=n)(i j:Nat)(az:i<n)(c:j<n)(J:2<=n){t:List (Nat×aa)}{fN:List aa}{o:List ar}{d:aT Nat}{K:aN->Prop}
  (h:K ⟨dH d (.tuple []) t,(.loc 0,fN)::(S (fE a i j)).b,(S (fE a i j)).e,1,o++b2 (S (fE a i j))⟩):CallDo aG cv (aB i::aB j::cr) ⟨t,(.loc 0,fN)::(S a).b,(S a).e,1,o⟩ d K:=
 H.call I (R:=fun r b=>r= .tuple []/\b=fE a i j) ((H.swap a I J i j az c).mono fun r k ⟨f,g⟩=>⟨_,g,f,rfl⟩) (fun r b ⟨_,e⟩=>by rw[e];simp[I]) (by simp[aR,aV,H.ksc a I]) (by rintro r b ⟨rfl,rfl⟩;exact h)
theorem hr.doLess{a:List α}(I:a.length=n)(i j:Nat){x y:α}(az:a[i]? =some x)(c:a[j]? =some y){t:List (Nat×aa)}{fN:List aa}{o:List ar}{d:aT Nat}{K:aN->Prop}
  (h:K ⟨dH d (.bool (lt x y)) t,(.loc 0,fN)::(S a).b,(S a).e,1,o++b2 (S a)⟩):CallDo aG g (aB i::aB j::lc) ⟨t,(.loc 0,fN)::(S a).b,(S a).e,1,o⟩ d K:=
 H.call I (R:=fun r b=>r= .bool (lt x y)/\b=a) ((H.less a I i j x y az c).mono fun r l ⟨f,k⟩=>⟨_,k,f,rfl⟩) (fun r b ⟨_,e⟩=>by rw[e];exact I) (by simp[aR,aV,H.klc a I]) (by rintro r b ⟨rfl,rfl⟩;exact h)
theorem hr.doFn{b:List α}(I:b.length=n){f:Nat}{args:List aa}{R:List α->Prop}(j:cf aG f args (S b) fun r c=>r= .tuple []/\∃a,c=S a/\R a)(cR:∀a,R a->a.length=n)(U:aV (a7 (S b)) args){t:List (Nat×aa)}{fN:List aa}{o:List ar}{d:aT Nat}{K:aN->Prop}
  (h:∀a,R a->K ⟨dH d (.tuple []) t,(.loc 0,fN)::(S a).b,(S a).e,1,o++b2 (S a)⟩):CallDo aG f args ⟨t,(.loc 0,fN)::(S b).b,(S b).e,1,o⟩ d K:=
 H.call I (R:=fun r a=>r= .tuple []/\R a) (j.mono fun r c ⟨g,a,k,i⟩=>⟨a,k,g,i⟩) (fun r a h=>cR a h.2) U (by rintro r a ⟨rfl,e⟩;exact h a e)
theorem hr.kdata{a:List α}(I:a.length=n):aR (a7 (S a)) (h1 g cv lc cr):=by simp[h1,aR,aV,H.klc a I,H.ksc a I]
theorem hr.ret{l a:List α}(d:l.length=n)(I:a.length=n){Q:aa->b1->Prop}{e:Exit}(he:e= .ret\/e= .normal){t:List (Nat×aa)}{fN:List aa}{q:Nat}{o:List ar}(c:Q (.tuple []) (S a)):eX [] (S l) Q e ⟨t,(.loc 0,fN)::(S a).b,(S a).e,q,o⟩:=by
 refine eX.at (S a) he (H.ok a) (H.same _ _ d I) (fun k cs b=>?_) (fun _ _ b=>b) ?_
 ·cases k with
  |loc m=>rw[H.loc m]at b;cases b
  |obj m=>simpa[ab]using b
 ·simp[fZ,bq,ba,aR,aV,c]
end
def nR(H:hr S n g cv lc cr lt):bE (h1 g cv lc cr)=h1 g cv lc cr:=by simp[h1,bE,bt,H.slc,H.ssc]
def ng:aa.agg [.func g lc,.func cv cr]=h1 g cv lc cr:=rfl
def NJ(H:hr S n g cv lc cr lt)(l:List α)(f:l.length=n)(a m b:Nat)(E:a<m)(B:m<b)(K:b<=n):
  cf aG 251 [h1 g cv lc cr,aB a,aB m,aB b] (S l) fun r z=>r= .tuple []/\∃c,z=S c/\eC a b l c/\∀k,c[k]? =l[fv a m b k]?:=by
 have w:=H.ok l;have s:∀l m,ab (.loc m) (S l).b=none:=fun l=>(H.ok l).obj.1;have hu:∀l m cs,bW (.loc m) cs (S l).b=(S l).b++[(.loc m,cs)]:=fun l m cs=>o7 (s l m);have ag:∀m,ar.loc m∉b2 (S l):=pO w.obj;have hle:=H.le;refine cf.mk mixed bC Tryz.func251 Ry Ψ w.obj fun G F=>?_;unfold DJ;simp[h1,hu,ag,dM,s];(repeat' first|refine aS ?_|simp[hu,ag,dM,s]);refine lg (fun(x:(Nat×Nat)×List α)=>⟨[(2,aB m),(4,.ptr (.loc 0) 0),(8,aB x.1.1),(9,aB x.1.2)],(.loc 0,[.func g lc,.func cv cr])::(S x.2).b,(S x.2).e,1,b2 (S l)⟩) (fun x=>x.1.1+x.1.2)
  (fun x=>x.2.length=n/\0<x.1.1/\0<x.1.2/\a+x.1.1<=m/\m+x.1.2<=b/\eC a b l x.2/\∀k,l[fv a m b k]? =x.2[fv (m-x.1.1) m (m+x.1.2) k]?) ((m-a,b-m),l)
  (H.weak f f (by simp[aR];omega) (by simp[dM,s]) bU bU) ⟨f,by simp;omega,by simp;omega,by simp;omega,by simp;omega,.refl _,fun k=>by simp[show m-(m-a)=a by omega,show m+(b-m)=b by omega]⟩ ?_
 rintro⟨⟨i,j⟩,t⟩ ⟨I,az,v,y,u,J,q⟩ _;simp only at I az v y u J q;simp[ab];((repeat' first|refine aS ?_|simp[ab]|((first|apply cN|apply cT|apply cS)<;>intro h<;>try simp at h))<;>(try exact ev))
 ·have p:((m:Int)-i)=(m-i:Nat):=Ω
  simp only[nR H,H.slc,H.ssc,p,ng];refine H.doFn I (zv H t I (m-i) m j Ω Ω) (fun c h=>by rw[h.1.length];exact I) (by simp[aV,aR,H.kdata I]) ?_;rintro c ⟨d,o⟩;have e:c.length=n:=by rw[d.length];exact I
  simp;((repeat' first|refine aS ?_|simp|((first|apply cN|apply cT|apply cS)<;>intro h<;>try simp at h))<;>(try exact ev));refine cP.whl ((i-j,j),c) (by simp;omega) ⟨e,by simp;omega,v,by simp;omega,u,J.trans (d.mono Ω Ω),fun k=>?_⟩ (H.weakC f e (by simp[aR];omega));rw[q,o];congr 1;simp only[fv,mR];repeat' split
  all_goals omega
 ·have p:((m:Int)-i)=(m-i:Nat):=Ω
  have A:((m:Int)+j-i)=(m+j-i:Nat):=Ω
  simp only[nR H,H.slc,H.ssc,p,A,ng];refine H.doFn I (zv H t I (m-i) (m+j-i) i Ω Ω) (fun c h=>by rw[h.1.length];exact I) (by simp[aV,aR,H.kdata I]) ?_;rintro c ⟨d,o⟩;have e:c.length=n:=by rw[d.length];exact I
  simp;(repeat' first|refine aS ?_|simp);refine cP.whl ((i,j-i),c) (by simp;omega) ⟨e,az,by simp;omega,y,by simp;omega,J.trans (d.mono Ω Ω),fun k=>?_⟩ (H.weakC f e (by simp[aR];omega));rw[q,o];congr 1;simp only[fv,mR];repeat' split
  all_goals omega
 ·have p:((m:Int)-i)=(m-i:Nat):=Ω
  simp only[nR H,H.slc,H.ssc,p,ng];refine H.doFn I (zv H t I (m-i) m i Ω Ω) (fun c h=>by rw[h.1.length];exact I) (by simp[aV,aR,H.kdata I]) ?_;rintro c ⟨d,o⟩;have e:c.length=n:=by rw[d.length];exact I
  simp;refine H.ret f e (.inr rfl) ⟨rfl,c,rfl,J.trans (d.mono Ω Ω),fun k=>?_⟩;rw[q,o];congr 1;simp only[fv,mR];repeat' split
  all_goals omega
end
section
open Go Go.Pv
variable {α:Type} {S:List α->b1} {n g cv:Nat} {lc cr:List aa} {lt:α->α->Bool}
def n3(lt:α->α->Bool)(a b j:Nat)(l:List α):Prop:= ∀p q x y,a<=p->p<q->q<b->q≠j->l[p]? =some x->l[q]? =some y->lt y x=false
def n3.swap(n:lI lt){a b j:Nat}{l:List α}(h:n3 lt a b (j+1) l)(r:a<=j)(s:j+1<b)(o:j+1<l.length){x y:α}(g:l[j+1]? =some x)(d:l[j]? =some y)(k:lt x y=true):n3 lt a b j (fE l (j+1) j):=by
 intro p q u v i m f t hu c;rw[sg _ _ _ _ o Ω]at hu c;rw[bH (by omega:¬(q=j))]at c;split at c
 ·rename_i e;subst e;rw[d]at c;cases c;split at hu
  ·omega
  ·split at hu
   ·rw[g]at hu;cases hu;exact n.asym _ _ k
   ·exact h p j u y i Ω Ω Ω hu d
 ·split at hu
  ·rename_i e;subst e;rw[d]at hu;cases hu;exact h j q y v r Ω f Ω d c
  ·split at hu
   ·rename_i e;subst e;rw[g]at hu;cases hu;exact h (p+1) q x v Ω Ω f Ω g c
   ·exact h p q u v i m f Ω hu c
def n3.done(m:lI lt){a b j:Nat}{l:List α}(h:n3 lt a b (j+1) l)(s:a<=j)(r:j+1<b){x y:α}(n:l[j+1]? =some x)(g:l[j]? =some y)(d:lt x y=false):dD lt a b l:=by
 intro p q u v f i k hu c;by_cases e:q=j+1
 ·subst e;rw[n]at c;cases c;by_cases o:p=j
  ·subst o;rw[g]at hu;cases hu;exact d
  ·exact m.ntr _ _ _ (h p j u y f Ω Ω Ω hu g) d
 ·exact h p q u v f i k e hu c
def n3.first{a b:Nat}{l:List α}(h:n3 lt a b a l):dD lt a b l:=fun p q u v e c d hu f=>h p q u v e c d Ω hu f
def dD.but{a b:Nat}{l:List α}(h:dD lt a b l):n3 lt a (b+1) b l:=fun p q u v d c f g hu e=>h p q u v d c Ω hu e
def E6(H:hr S n g cv lc cr lt)(A:lI lt)(l:List α)(d:l.length=n)(a b:Nat)(R:a<=b)(X:b<=n):
  cf aG 231 [h1 g cv lc cr,aB a,aB b] (S l) fun r G=>r= .tuple []/\∃v,G=S v/\eC a b l v/\dD lt a b v:=by
 have B:=H.ok l;have s:∀l m,ab (.loc m) (S l).b=none:=fun l=>(H.ok l).obj.1;have hu:∀l m cs,bW (.loc m) cs (S l).b=(S l).b++[(.loc m,cs)]:=fun l m cs=>o7 (s l m);have ag:∀m,ar.loc m∉b2 (S l):=pO B.obj;have hle:=H.le;refine cf.mk mixed bC Tryz.func231 Rx Ψ B.obj fun V U=>?_;unfold DI;simp[h1,hu,ag,dM,s];(repeat' first|refine aS ?_|simp[hu,ag,dM,s]);refine lg (fun(x:Nat×List α)=>⟨[(1,aB a),(2,aB b),(3,.ptr (.loc 0) 0),(6,aB x.1)],(.loc 0,[.func g lc,.func cv cr])::(S x.2).b,(S x.2).e,1,b2 (S l)⟩) (fun x=>b+1-x.1)
  (fun x=>x.2.length=n/\a<x.1/\x.1<=b+1/\(x.1<=b\/x.1=a+1)/\eC a b l x.2/\dD lt a x.1 x.2) (a+1,l)
  (H.weak d d (by simp[aR]) (by simp[dM,s]) bU bU) ⟨d,Ψ,by simp;omega,.inr rfl,.refl _,fun i j x y I J f=>by simp at f;omega⟩ ?_
 rintro⟨i,z⟩ ⟨I,E,Q,O,J,f⟩ _;simp only at I E Q O J f;simp;((repeat' first|refine aS ?_|simp|((first|apply cN|apply cT|apply cS)<;>intro h<;>try simp at h))<;>(try exact ev))
 ·refine lg (fun(x:Nat×List α)=>⟨[(1,aB a),(2,aB b),(3,.ptr (.loc 0) 0),(6,aB i),(7,aB x.1)],(.loc 0,[.func g lc,.func cv cr])::(S x.2).b,(S x.2).e,1,b2 (S l)⟩) (fun x=>x.1)
   (fun x=>x.2.length=n/\a<=x.1/\x.1<=i/\eC a b l x.2/\n3 lt a (i+1) x.1 x.2) (i,z)
   (H.weakC d I (by simp[aR])) ⟨I,by simp;omega,Ψ,J,dD.but f⟩ ?_
  rintro⟨j,e⟩ ⟨c,P,N,o,k⟩ _;simp only at c P N o k;simp[ab];((repeat' first|refine aS ?_|simp[ab]|((first|apply cN|apply cT|apply cS)<;>intro h<;>try simp at h))<;>(try exact ev))
  ·obtain⟨cU,rfl⟩:∃cU,j=cU+1:=⟨j-1,Ω⟩;obtain⟨x,t⟩:∃x,e[cU+1]? =some x:=⟨_,cl Ω⟩;obtain⟨y,u⟩:∃y,e[cU]? =some y:=⟨_,cl Ω⟩;have K:(((cU+1:Nat):Int)-1)=(cU:Nat):=Ω
   rw[H.slc,K];refine H.doLess c (cU+1) cU t u ?_;simp;cases w:lt x y with
   |true=>
    simp[ab];(repeat' first|refine aS ?_|simp[ab]);have L:((cU:Int)+1)=(cU+1:Nat):=Ω
    rw[H.ssc,L];refine H.doSwap c (cU+1) cU Ω Ω Ω ?_;simp;(repeat' first|refine aS ?_|simp);refine cP.whl (cU,fE e (cU+1) cU) Ψ ⟨by simp[c],by simp;omega,by simp;omega,.step o Ω Ω Ω Ω Ω Ω,k.swap A Ω Ω Ω t u w⟩ (H.weakC d (by simp[c]) (by simp[aR]))
   |false=>simp;((repeat' first|refine aS ?_|simp|((first|apply cN|apply cT|apply cS)<;>intro h<;>try simp at h))<;>(try exact ev));refine cP.whl (i+1,e) (by simp;omega) ⟨c,by simp;omega,by simp;omega,by simp;omega,o,k.done A Ω Ω t u w⟩ (H.weakC d c (by simp[aR]))
  ·obtain rfl:j=a:=Ω
   refine cP.whl (i+1,e) (by simp;omega) ⟨c,by simp;omega,by simp;omega,by simp;omega,o,k.first⟩ (H.weakC d c (by simp[aR]))
 ·refine H.ret d I (.inr rfl) ⟨rfl,z,rfl,J,fun p q x y M F W=>f p q x y M F Ω⟩
end
section
open Go Go.Pv
variable {α:Type} [Inhabited α] {S:List α->b1} {n g cv:Nat} {lc cr:List aa} {lt:α->α->Bool}
section
variable (H:hr S n g cv lc cr lt)
include H
end
section
variable (H:hr S n g cv lc cr lt)
include H
end
end
section
open Go Go.Pv
end
section
open Go Go.Pv
variable {α:Type} [Inhabited α] {S:List α->b1} {n g cv:Nat} {lc cr:List aa} {lt:α->α->Bool}
end
section
open Go Go.Pv
variable {α:Type} [Inhabited α] {S:List α->b1} {n g cv:Nat} {lc cr:List aa} {lt:α->α->Bool}
end
section
open Go Go.Pv
variable {α:Type} [Inhabited α] {S:List α->b1} {n g cv:Nat} {lc cr:List aa} {lt:α->α->Bool}
end
section
open Go Go.Pv
variable {α:Type} [Inhabited α] {S:List α->b1} {n g cv:Nat} {lc cr:List aa} {lt:α->α->Bool}
end
section
open Go Go.Pv
variable {α:Type} [Inhabited α] {S:List α->b1} {n g cv:Nat} {lc cr:List aa} {lt:α->α->Bool}
end
section
open Go Go.Pv
variable {α:Type} [Inhabited α] {S:List α->b1} {n g cv:Nat} {lc cr:List aa} {lt:α->α->Bool}
end
section
open Go Go.Pv
variable {α:Type} [Inhabited α] {S:List α->b1} {n g cv:Nat} {lc cr:List aa} {lt:α->α->Bool}
end
section
open Go Go.Pv
variable {α:Type} [Inhabited α] {S:List α->b1} {n g cv:Nat} {lc cr:List aa} {lt:α->α->Bool}
attribute [local simp] kJ
section
variable {bG dR cH:Nat} {cG:Array α} {t:List (Nat×aa)} {o:List ar} {ob:List ar} {Q:Exit->aN->Prop}
end
end
section
open Go Go.Pv
variable {α:Type} {S:List α->b1} {n g cv:Nat} {lc cr:List aa} {lt:α->α->Bool}
def QA(s:lI lt){l j:List α}{a b i:Nat}(u:a+1<=i)(F:i<=b)(A:b<=l.length)(e:dD lt (a+1) b l){z:α}(g:l[a]? =some z)(r:∀h x,a+1<=h->h<i->l[h]? =some x->lt x z=true)(o:∀h x,i<=h->h<b->l[h]? =some x->lt x z=false)
  (t:∀k,j[k]? =l[fv a (a+1) i k]?):dD lt a b j:=by
 intro p q x y B v m c d;rw[t]at c d;simp only[fv]at c d;rw[bH Ω]at c d;by_cases E:q<i-1
 ·rw[if_pos Ω]at c d;exact e _ _ _ _ Ω Ω Ω c d
 ·rw[bH Ω]at d;by_cases n:q<i
  ·rw[if_pos n,show q-(i-(a+1))=a by omega,g]at d;cases d;rw[if_pos Ω]at c;exact s.asym _ _ (r _ _ Ω Ω c)
  ·rw[bH n]at d;by_cases w:p<i-1
   ·rw[if_pos Ω]at c;exact e _ _ _ _ Ω Ω Ω c d
   ·rw[bH Ω]at c;by_cases f:p<i
    ·rw[if_pos f,show p-(i-(a+1))=a by omega,g]at c;cases c;exact o _ _ Ω m d
    ·rw[bH f]at c;exact e _ _ _ _ Ω Ω m c d
def QB(s:lI lt){l j:List α}{a m i:Nat}(v:a<=i)(F:i<=m)(E:m+1<=l.length)(d:dD lt a m l){z:α}(g:l[m]? =some z)(o:∀h x,a<=h->h<i->l[h]? =some x->lt z x=false)(n:∀h x,i<=h->h<m->l[h]? =some x->lt z x=true)
  (t:∀k,j[k]? =l[fv i m (m+1) k]?):dD lt a (m+1) j:=by
 intro p q x y e r A b c;rw[t]at b c;simp only[fv]at b c;by_cases u:q<i
 ·rw[if_pos Ω]at b c;exact d _ _ _ _ e r Ω b c
 ·rw[bH u]at c;by_cases B:q=i
  ·rw[if_pos Ω,show q+(m-i)=m by omega,g]at c;cases c;rw[if_pos Ω]at b;exact o _ _ e Ω b
  ·rw[bH Ω,if_pos Ω]at c;by_cases f:p<i
   ·rw[if_pos f]at b;exact d _ _ _ _ e Ω Ω b c
   ·rw[bH f]at b;by_cases w:p=i
    ·rw[if_pos Ω,show p+(m-i)=m by omega,g]at b;cases b;exact s.asym _ _ (n _ _ Ω Ω c)
    ·rw[bH Ω,if_pos Ω]at b;exact d _ _ _ _ Ω Ω Ω b c
structure vb (lt:α->α->Bool) (a s m e b mid:Nat) (bs:List α):Prop where
 s1:dD lt a s bs
 s2:dD lt s mid bs
 s3:dD lt mid e bs
 s4:dD lt e b bs
 cross:∀p q x y,a<=p->p<mid->mid<=q->q<b->bs[p]? =some x->bs[q]? =some y->lt y x=false
def dD.le(g:lI lt){a b:Nat}{l:List α}(h:dD lt a b l){i j:Nat}{x y:α}(I:a<=i)(J:i<=j)(k:j<b)(d:l[i]? =some x)(c:l[j]? =some y):lt y x=false:=by
 by_cases e:i=j
 ·subst e;rw[d]at c;cases c;cases f:lt x x with
  |false=>rfl
  |true=>have:=g.asym _ _ f;rw[f]at this;exact this
 ·exact h _ _ _ _ I Ω k d c
def QE(f:lI lt){l h:List α}{a m b mid s e:Nat}(has:a<=s)(nB:s<=m)(N:m<=e)(O:e<=b)(M:b<=l.length)(L:s+e=mid+m)(I:dD lt a m l)(J:dD lt m b l)
  (r:s=a\/e=b\/ ∃x y,l[s-1]? =some x/\l[e]? =some y/\lt y x=false) (t:s=m\/e=m\/ ∃x y,l[s]? =some x/\l[e-1]? =some y/\lt y x=true) (n:∀k,h[k]? =l[fv s m e k]?):vb lt a s m e b mid h:=by
 have g1:∀p,p<s->h[p]? =l[p]?:=fun p g=>by rw[n];simp[fv,g]
 have g2:∀p,s<=p->p<mid->h[p]? =l[p+(m-s)]?:=fun p B G=>by rw[n];simp only[fv];rw[bH Ω,if_pos Ω]
 have g3:∀p,mid<=p->p<e->h[p]? =l[p-(e-m)]?:=fun p B G=>by rw[n];simp only[fv];rw[bH Ω,bH Ω,if_pos Ω]
 have g4:∀p,e<=p->h[p]? =l[p]?:=fun p B=>by
  rw[n];simp only[fv];rw[bH Ω];by_cases H:p<s+(e-m)
  ·omega
  ·rw[bH H,bH Ω]
 refine⟨fun p q x y g j i d c=>?_,fun p q x y g j i d c=>?_,fun p q x y g j i d c=>?_,fun p q x y g j i d c=>?_,fun p q x y g K i E d c=>?_⟩
 ·rw[g1 _ Ω]at d c;exact I _ _ _ _ g j Ω d c
 ·rw[g2 _ Ω Ω]at d c;exact J _ _ _ _ Ω Ω Ω d c
 ·rw[g3 _ Ω Ω]at d c;exact I _ _ _ _ Ω Ω Ω d c
 ·rw[g4 _ Ω]at d c;exact J _ _ _ _ Ω Ω Ω d c
 ·by_cases F:p<s
  ·rw[g1 _ F]at d;by_cases A:q<e
   ·rw[g3 _ i A]at c;exact I _ _ _ _ g Ω Ω d c
   ·rw[g4 _ Ω]at c;rcases r with r|r|⟨u,v,w,z,o⟩
    ·omega
    ·omega
    ·exact f.ntr _ _ _ (f.ntr _ _ _ (dD.le f I g Ω Ω d w) o) (dD.le f J Ω Ω E z c)
  ·rw[g2 _ Ω K]at d;by_cases A:q<e
   ·rw[g3 _ i A]at c;rcases t with t|t|⟨u,v,w,z,o⟩
    ·omega
    ·omega
    ·exact f.ntr _ _ _ (f.ntr _ _ _ (dD.le f J Ω Ω Ω d z) (f.asym _ _ o)) (dD.le f I Ω Ω Ω w c)
   ·rw[g4 _ Ω]at c;exact J _ _ _ _ Ω Ω E d c
def QF{a mid b:Nat}(u:a<=mid){g e f:List α}(I:eC a mid g e)(s1:dD lt a mid e)(J:eC mid b e f)(s2:dD lt mid b f)(t:∀p q x y,a<=p->p<mid->mid<=q->q<b->g[p]? =some x->g[q]? =some y->lt y x=false):dD lt a b f:=by
 intro p q x y l i j c d;by_cases n:q<mid
 ·rw[J.out _ (.inl Ω)]at c;rw[J.out _ (.inl Ω)]at d;exact s1 _ _ _ _ l i n c d
 ·by_cases o:mid<=p
  ·exact s2 _ _ _ _ o i j c d
  ·rw[J.out _ (.inl Ω)]at c;refine J.all (fun y=>lt y x=false) (fun k y h m d=>?_) q y Ω j d;rw[I.out _ (.inr h)]at d;exact I.all (fun x=>lt y x=false) (fun aQ x s r c=>t aQ k x y s r h m c d) p x l Ω c
end
end Go.Proofs.YtahlgcidhnjlbaaGreat
