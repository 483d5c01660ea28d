/- Contracts: sorting integers. -/
import Derived.Deep.LoopGhost
import Derived.Test.YtlnndmgfngfeiaaGreatDoorProg
import Derived.Lib.ItoaNum
import Derived.Lib.AtoiAll
import Derived.Shelf.Sort.Plain
import Derived.Ground.NamesProg
import Derived.Sort.OwnSortedInts
import Derived.Lib.OwnBridge
import Derived.Test.YtlnndmgfngfeiaaGreatDoorF1
set_option linter.all false
set_option maxHeartbeats 4000000
set_option maxRecDepth 4000
open Bool renaming and_eq_true->bE,false_eq_true->jX
open Decidable renaming not_not->YJ
open Go renaming Program->bM,TypeId->eZ
open Go.Proofs.Tryz renaming prog->aF
open Go.Region renaming wanted->ls
open Go.Result renaming andThen_ok->eo
open Go.Sem renaming run_bind->ef,run_pure->eU
open Go.Value renaming cells->km,int->kY
open Go.Value.slice renaming injEq->YP
open List renaming all_eq_true->kZ,cons_append->oA,eq_nil_of_length_eq_zero->pE,getElem?_append_left->nC,getElem?_eq_getElem->cB,getElem?_eq_some_iff->dw,length_append->dh,length_cons->hy,length_nil->l5,length_pos_iff->oB,map_cons->ez,mem_append->nD,mem_append_left->nE,mem_cons->hT,mem_of_getElem?->e9,nodup_append->oC,take_length->jY
open List.Nodup renaming length_le_of_subset->Us
open List.cons renaming injEq->tb
open Nat renaming le_refl->c7,lt_or_ge->ko
open Option renaming isSome_iff_exists->eK,map_eq_some_iff->jZ
open Option.some renaming inj->fo,injEq->dt
open Prod.mk renaming injEq->hz
open UInt8 renaming ofNat->nF
open _root_ renaming False->dz,Option->bf,UInt8->bt,beq_eq_false_iff_ne->fN,beq_iff_eq->cD,congrArg->fa,decide_eq_false->ha,decide_eq_true->j0,decide_eq_true_eq->fY,if_neg->bu
namespace Go.Pv
section
open Go Go.RowKit
structure cv where
 t:Nat->ae
 b:aw->bf (List ae)
 e:aw->bf da
 F:aw->Prop
structure iJ where
 d:bf Nat
 p:ae
 bw:List (aw×List ae)
 ew:List (aw×da)
 rm:bf aw
def gQ{α:Type}(l:List (aw×α))(f:aw->bf α):aw->bf α:=fun k=>match look k l with|some x=>some x|none=>f k
def cv.do(A:cv)(x:iJ):cv:={t:=fun i=>if x.d=some i then x.p else A.t i,b:=gQ x.bw A.b,e:=gQ x.ew A.e,F:=fun k=>A.F k/\x.rm≠some k}
structure iJ.apart (x y:iJ):Prop where
 d:∀i,x.d=some i->y.d≠some i
 b:∀k,(look k x.bw).isSome->look k y.bw=none
 e:∀k,(look k x.ew).isSome->look k y.ew=none
theorem cv.do_comm(A:cv){x y:iJ}(h:x.apart y):(A.do x).do y=(A.do y).do x:=by
 simp only[cv.do,cv.mk.injEq];refine⟨?_,?_,?_,?_⟩
 ·funext i;by_cases I:x.d=some i
  ·have:=h.d i I;simp[I,this]
  ·simp[I]
 ·funext k;simp only[gQ];cases ab:look k x.bw with
  |none=>cases look k y.bw<;>rfl
  |some u=>rw[h.b k (by simp[ab])]
 ·funext k;simp only[gQ];cases ab:look k x.ew with
  |none=>cases look k y.ew<;>rfl
  |some u=>rw[h.e k (by simp[ab])]
 ·funext k;exact propext ⟨fun h=>⟨⟨h.1.1,h.2⟩,h.1.2⟩,fun h=>⟨⟨h.1.1,h.2⟩,h.1.2⟩⟩
def cF(t:Nat->ae):ct->ae
 | .t i=>t i
 | .c p=>p
def oc(b:aw->bf (List ae))(e:aw->bf da)(agg:Bool)(sz:Nat):ae->bf (Prop×ae)
 | .rptr cJ k n i f=>sQ agg sz cJ n i f (e k)
 | .ptr k off=>
  match b k with
  |some cs=>if agg then some (gH cs=true/\off+sz<=cs.length,.agg ((cs.drop off).take sz))else(cs[off]?).map fun p=>(gH cs=true,p)
  |none=>none
 | .eptr p=>if agg then some (isAgg sz p,p)else some (dE p=true/\cells p=[p],p)
 |_=>none
def rS(t:Nat->ae):List ae->List (Nat×Nat×ct)->bf (Prop×List ae)
 |cs,[]=>some (True,cs)
 |cs,(off,sz,x)::r=>
  match rS t (lq cs off (cells (cF t x))) r with
  |some (c,cs')=>some ((dE (cF t x)=true/\(cells (cF t x)).length=sz/\off+sz<=cs.length)/\c,cs')
  |none=>none
def l4(t:Nat->ae)(b:aw->bf (List ae))(e:aw->bf da):eV->bf (Prop×ae)
 | .mov x=>some (True,cF t x)
 | .pick c x y=>yU (cF t c) (cF t x) (cF t y)
 | .load agg sz x=>oc b e agg sz (cF t x)
 | .faddr off agg sz x=>lI off agg sz (cF t x)
 | .fld off agg sz x=>oW off agg sz (cF t x)
 | .iaddr sz x i=>tZ sz (cF t x) (cF t i)
 | .sidx x i=>ze (cF t x) (cF t i)
 | .ssl x lo aq=>zg (cF t x) (lo.map (cF t)) (aq.map (cF t))
 | .lsl sz x lo aq=>yz sz (cF t x) (lo.map (cF t)) (aq.map (cF t))
 | .bin op wr x y=>j3 op wr (cF t x) (cF t y)
 | .notB x=>yO (cF t x)
 | .neg x=>yK (cF t x)
 | .conv k x=>xo k (cF t x)
 | .ext i x=>xA i (cF t x)
 | .len x=>uh (cF t x)
 | .slen x=>wN (cF t x)
 | .build zero parts=>(rS t zero parts).map fun(c,cs)=>(c,.agg cs)
 | .nck x=>uo (cF t x)
 | .min2 x y=>yD (cF t x) (cF t y)
 | .mkf n xs=>some (True,.func n (xs.map (cF t)))
 | .mget bO zero ok x k=>nm b bO zero ok (cF t x) (cF t k)
 | .ment x=>pe b (cF t x)
 | .mlen x=>um b (cF t x)
 | .beq neg cU x y=>xb neg cU (cF t x) (cF t y)
 | .max2 x y=>yB (cF t x) (cF t y)
 | .mkif n x=>some (True,.iface n (cF t x))
 | .loadB agg sz x=>oc b (fun _=>none) agg sz (cF t x)
 | .mgetB bO zero ok x k=>nm b bO zero ok (cF t x) (cF t k)
 | .loadZ agg sz x=>vp agg sz (cF t x)
 | .b2s x=>xa (cF t x)
 | .isn neg x=>yl neg (cF t x)
structure jj (st:a6) (A:cv):Prop where
 t:∀i,get i st.t=A.t i
 b:∀k,look k st.b=A.b k
 e:∀k,look k st.e=A.e k
theorem hd{st:a6}{A:cv}(h:jj st A)(x:ct):bA st.t x=cF A.t x:=by
 cases x
 ·exact h.t _
 ·rfl
theorem pT{st:a6}{A:cv}(h:jj st A):bA st.t=cF A.t:=funext (hd h)
theorem Ql{st:a6}{A:cv}(h:jj st A)(agg:Bool)(sz:Nat)(p:ae):kg st.b st.e agg sz p=oc A.b A.e agg sz p:=by
 cases p<;>simp only[kg,oc]
 ·rw[h.b];try rfl
 ·rw[h.e]
theorem Qm{st:a6}{A:cv}(h:jj st A)(agg:Bool)(sz:Nat)(p:ae):kg st.b [] agg sz p=oc A.b (fun _=>none) agg sz p:=by
 cases p<;>simp only[kg,oc]
 ·rw[h.b];try rfl
 ·rfl
theorem DE{st:a6}{A:cv}(h:jj st A):∀(parts:List (Nat×Nat×ct)) (cs:List ae),pL st.t cs parts=rS A.t cs parts
 |[],cs=>rfl
 |(off,sz,x)::r,cs=>by simp only[pL,rS,hd h,DE h r];try rfl
theorem Jt{st:a6}{A:cv}(h:jj st A)(i:eV):fx st i=l4 A.t A.b A.e i:=by have af:(fun k=>look k st.b)=A.b:=funext h.b;cases i<;>simp only[fx,l4,pT h,Ql h,Qm h,DE h,af]
def fl:ct->List Nat
 | .t i=>[i]
 | .c _=>[]
def B4:bf ct->List Nat
 |some x=>fl x
 |none=>[]
def eV.looks:eV->List Nat
 | .mov x| .load _ _ x| .loadB _ _ x| .loadZ _ _ x| .faddr _ _ _ x| .fld _ _ _ x| .notB x| .neg x| .conv _ x| .ext _ x| .len x| .slen x| .nck x| .ment x| .mlen x| .mkif _ x| .b2s x| .isn _ x=>fl x
 | .pick c x y=>fl c++fl x++fl y
 | .iaddr _ x i| .sidx x i=>fl x++fl i
 | .ssl x lo aq| .lsl _ x lo aq=>fl x++B4 lo++B4 aq
 | .bin _ _ x y| .min2 x y| .max2 x y| .beq _ _ x y=>fl x++fl y
 | .build _ bD=>bD.flatMap fun p=>fl p.2.2
 | .mkf _ xs=>xs.flatMap fl
 | .mget _ _ _ x k| .mgetB _ _ _ x k=>fl x++fl k
def df.looks:df->List Nat
 | .v _ i=>i.looks
 | .box _ _ x=>fl x
 | .alloc _ _ _=>[]
 | .store _ x y=>fl x++fl y
 | .storeE _ x y=>fl x++fl y
 | .bsl _ _ _ xs=>xs.flatMap fl
 | .app _ _ _ x y=>fl x++fl y
 | .bslm _ _ _ _ xs=>xs.flatMap fl
 | .mks _ _ _ _ _ x=>fl x
 | .apps _ _ x y=>fl x++fl y
 | .appm _ _ _ _ x y=>fl x++fl y
 | .mkmap _ _=>[]
 | .mput _ x k y=>fl x++fl k++fl y
 | .range _ _ x=>fl x
def ds.looks:ds->List Nat
 | .s i=>i.looks
 | .call _ f xs=>fl f++xs.flatMap fl
 | .next _ x=>fl x
 | .opn _ f xs=>fl f++xs.flatMap fl
def cm.looks(g:cm):List Nat:=(match g.g with|some (s,_)=>[s]|none=>[])++g.i.looks
def l8(l:List Nat)(t ek:Nat->ae):Prop:= ∀i∈l,t i=ek i
theorem fc{t ek:Nat->ae}{x:ct}(h:l8 (fl x) t ek):cF t x=cF ek x:=by
 cases x
 ·exact h _ (by simp[fl])
 ·rfl
theorem iq{l e2:List Nat}{t ek:Nat->ae}(h:l8 (l++e2) t ek):l8 l t ek/\l8 e2 t ek:=⟨fun i aq=>h i (by simp[aq]),fun i aq=>h i (by simp[aq])⟩
theorem xy{t ek:Nat->ae}{x:bf ct}(h:l8 (B4 x) t ek):x.map (cF t)=x.map (cF ek):=by
 cases x
 ·rfl
 ·simp[fc h]
theorem DD{t ek:Nat->ae}:∀{parts:List (Nat×Nat×ct)} {cs:List ae},l8 (parts.flatMap fun p=>fl p.2.2) t ek->rS t cs parts=rS ek cs parts
 |[],cs,_=>rfl
 |(off,sz,x)::r,cs,h=>by simp only[List.flatMap_cons]at h;obtain⟨I,J⟩:=iq h;simp only[rS,fc I,DD J]
theorem yA{t ek:Nat->ae}:∀{xs:List ct},l8 (xs.flatMap fl) t ek->xs.map (cF t)=xs.map (cF ek)
 |[],_=>rfl
 |x::xs,h=>by simp only[List.flatMap_cons]at h;obtain⟨I,J⟩:=iq h;simp[fc I,yA J]
def eV.isLoad:eV->Bool
 | .load _ _ _=>true
 | .loadB _ _ _=>true
 | .mgetB _ _ _ _ _=>true
 | .mget _ _ _ _ _=>true
 | .ment _=>true
 | .mlen _=>true
 |_=>false
theorem Tn{t ek:Nat->ae}{b fu:aw->bf (List ae)}{e gD:aw->bf da}{i:eV}(h:l8 i.looks t ek)(af:i.isLoad=false):l4 t b e i=l4 ek fu gD i:=by
 cases i<;>simp only[eV.looks]at h<;>simp only[l4];case load agg sz x=>simp[eV.isLoad]at af
 case loadB agg sz x=>simp[eV.isLoad]at af
 case pick c x y=>obtain⟨I,ak⟩:=iq h;obtain⟨I,J⟩:=iq I;rw[fc I,fc J,fc ak]
 case iaddr=>obtain⟨I,J⟩:=iq h;rw[fc I,fc J]
 case sidx=>obtain⟨I,J⟩:=iq h;rw[fc I,fc J]
 case ssl=>obtain⟨I,ak⟩:=iq h;obtain⟨I,J⟩:=iq I;rw[fc I,xy J,xy ak]
 case lsl=>obtain⟨I,ak⟩:=iq h;obtain⟨I,J⟩:=iq I;rw[fc I,xy J,xy ak]
 case bin=>obtain⟨I,J⟩:=iq h;rw[fc I,fc J]
 case min2=>obtain⟨I,J⟩:=iq h;rw[fc I,fc J]
 case build=>rw[DD h]
 case mkf=>rw[yA h]
 case mget=>simp[eV.isLoad]at af
 case mgetB=>simp[eV.isLoad]at af
 case ment=>simp[eV.isLoad]at af
 case mlen=>simp[eV.isLoad]at af
 case max2=>obtain⟨I,J⟩:=iq h;rw[fc I,fc J]
 case beq=>obtain⟨I,J⟩:=iq h;rw[fc I,fc J]
 all_goals rw[fc h]
def QG(A:cv)(s aE:dH)(rm:bf aw):Prop:=(∀k,(look k aE.b).isSome->(look k s.b).isSome\/rm=some k)/\(∀k,(look k aE.e).isSome->(look k s.e).isSome\/rm=some k)/\(∀k,(look k s.b).isSome->(look k aE.b).isSome)/\(∀k,(look k s.e).isSome->(look k aE.e).isSome)/\
 (∀k,rm=some k->(∃j,k= .obj j)/\A.F k/\A.b k=none/\A.e k=none/\((look k aE.b).isSome\/(look k aE.e).isSome))
def J3(P:bM)(n:Nat)(args:List ae)(A:cv)(d:bf Nat)(x:iJ):Prop:=
 ∃s aE r rm,(∀k cs,look k s.b=some cs->A.b k=some cs/\aB (aK s) cs)/\(∀k o,look k s.e=some o->A.e k=some o/\dJ (aK s) o)/\hP s/\hP aE/\QG A s aE rm/\aB (aK s) args/\
  dP P n args s (fun fK ek=>fK=r/\ek=aE)/\x=⟨d,r,aE.b,aE.e,rm⟩
def J4(P:bM)(n0 n:Nat)(args:List ae)(A:cv)(d:bf Nat)(x:iJ):Prop:=
 ∃e3 r,d=some e3/\(A.F (.loc (n0+e3))/\A.b (.loc (n0+e3))=none/\A.e (.loc (n0+e3))=none)/\aB (fun _=>dz) args/\
  zt P n (n0+e3) args ⟨[],[]⟩ (fun fK ek=>fK=r/\ek=⟨[],[]⟩)/\x=⟨d,r,[],[],some (.loc (n0+e3))⟩
def sA:ae->Bool
 | .ptr (.loc _) _=>true
 | .eptr _=>true
 |_=>false
def eV.isB:eV->Bool
 | .loadB _ _ _=>true
 | .mgetB _ _ _ _ _=>true
 |_=>false
def eV.ptrOf(t:Nat->ae):eV->ae
 | .load _ _ x=>cF t x
 | .loadB _ _ x=>cF t x
 |_=>.junk
def de(P:bM)(q:Bool)(n0:Nat):ds->cv->iJ->Prop
 | .s (.v d i),A,x=> ∃c p,l4 A.t A.b A.e i=some (c,p)/\c/\(i.isLoad=true->i.isB=true\/q=true\/sA (i.ptrOf A.t)=true)/\x=⟨some d,p,[],[],none⟩
 | .s (.box d none v),A,x=>(A.F (.loc (n0+d))/\A.b (.loc (n0+d))=none/\A.e (.loc (n0+d))=none)/\dE (cF A.t v)=true/\x=⟨some d,.ptr (.loc (n0+d)) 0,[(.loc (n0+d),cells (cF A.t v))],[],some (.loc (n0+d))⟩
 | .s (.alloc d none z),A,x=>(A.F (.loc (n0+d))/\A.b (.loc (n0+d))=none/\A.e (.loc (n0+d))=none)/\x=⟨some d,.ptr (.loc (n0+d)) 0,[(.loc (n0+d),cells z)],[],some (.loc (n0+d))⟩
 | .s (.store sz u v),A,x=> ∃k off cs,cF A.t u= .ptr k off/\A.b k=some cs/\(gH cs=true/\dE (cF A.t v)=true/\(cells (cF A.t v)).length=sz/\off+sz<=cs.length)/\x=⟨none,.junk,[(k,lq cs off (cells (cF A.t v)))],[],none⟩
 | .s (.bsl d sz el xs),A,x=>(A.F (.loc (n0+d))/\A.b (.loc (n0+d))=none/\A.e (.loc (n0+d))=none)/\nI sz (xs.map (cF A.t))/\x=⟨some d,.slice sz (.own (.loc (n0+d))) (xs.map (cF A.t)),[],[(.loc (n0+d),⟨xs.length,el,sz,none⟩)],some (.loc (n0+d))⟩
 | .s (.app d sz el u v),A,x=> ∃tag xs iT ys,cF A.t u= .slice sz tag xs/\cF A.t v= .slice sz iT ys/\
   ((∃k o,tag= .own k/\A.e k=some o/\(o.xs=none/\o.n=xs.length/\o.el=el/\o.sz=sz/\xs.length+ys.length<=aX)/\x=⟨some d,.slice sz (.own k) (xs++ys),[],[(k,⟨xs.length+ys.length,el,sz,none⟩)],none⟩)\/
    (tag= .nil/\ys.length<=aX/\(A.F (.loc (n0+d))/\A.b (.loc (n0+d))=none/\A.e (.loc (n0+d))=none)/\x=⟨some d,.slice sz (.own (.loc (n0+d))) ys,[],[(.loc (n0+d),⟨ys.length,el,sz,none⟩)],some (.loc (n0+d))⟩))
 | .s (.appm d _ sz el u v),A,x=> ∃k n xs iT ys,cF A.t u= .row sz k n/\cF A.t v= .slice sz iT ys/\A.e k=some ⟨n,el,sz,some xs⟩/\xs.length+ys.length<=aX/\x=⟨some d,.row sz k (xs.length+ys.length),[],[(k,⟨xs.length+ys.length,el,sz,some (xs++ys)⟩)],none⟩
 | .s (.storeE sz u v),A,x=> ∃k n i f el cJ xs q,cF A.t u= .rptr cJ k n i f/\A.e k=some ⟨n,el,cJ,some xs⟩/\xs[i]? =some q/\(dE q=true/\dE (cF A.t v)=true/\(cells (cF A.t v)).length=sz/\f+sz<=(cells q).length/\0<sz)/\x=⟨none,.junk,[],[(k,⟨n,el,cJ,some (xs.set i (lX q f (cells (cF A.t v))))⟩)],none⟩
 | .s (.mkmap d (some m)),A,x=>(A.F (.obj m)/\A.b (.obj m)=none/\A.e (.obj m)=none)/\x=⟨some d,.gmap (.obj m),[(.obj m,[.hdm 0 []])],[],some (.obj m)⟩
 | .s (.mput bO u k v),A,x=> ∃m cs cs',cF A.t u= .gmap m/\A.b m=some cs/\qg bO (cF A.t k) (cF A.t v) cs=some cs'/\x=⟨none,.junk,[(m,cs')],[],none⟩
 | .call d f xs,A,x=> ∃n cY,cF A.t f= .func n cY/\((J3 P n (cd (xs.map (cF A.t)++cY)) A d x/\(q=true->x.bw=[]/\x.ew=[]))\/J4 P n0 n (cd (xs.map (cF A.t)++cY)) A d x)
 |_,_,_=>dz
inductive u1 where
 |v|l|n|s|w|a|c|m|r|k
 deriving DecidableEq
def ds.mode:ds->u1
 | .s (.v _ (.loadB _ _ _))=>.m
 | .s (.v _ (.mgetB _ _ _ _ _))=>.m
 | .s (.v _ i)=>if i.isLoad then .l else .v
 | .s (.storeE _ _ _)=>.r
 | .s (.box _ _ _)=>.n
 | .s (.alloc _ _ _)=>.n
 | .s (.store _ _ _)=>.w
 | .s (.bsl _ _ _ _)=>.s
 | .s (.app _ _ _ _ _)=>.a
 | .s (.bslm _ _ _ _ _)=>.w
 | .s (.mks _ _ _ _ _ _)=>.w
 | .s (.apps _ _ _ _)=>.w
 | .s (.appm _ _ _ _ _ _)=>.r
 | .s (.mkmap _ _)=>.k
 | .s (.mput _ _ _ _)=>.w
 | .s (.range _ _ _)=>.w
 | .call _ _ _=>.c
 | .next _ _=>.w
 | .opn _ _ _=>.w
structure zx (q:Bool) (n0:Nat) (m:u1) (dst:bf Nat) (A:cv) (x:iJ):Prop where
 d:x.d=dst
 b:∀k,(look k x.bw).isSome->(m= .n/\∃d,dst=some d/\k= .loc (n0+d)/\A.b k=none/\A.e k=none)\/m= .w\/(m= .c/\(∃j,k= .obj j)/\q=false)\/(m= .k/\(∃j,k= .obj j)/\A.b k=none/\A.e k=none)
 e:∀k,(look k x.ew).isSome->(m= .s/\∃d,dst=some d/\k= .loc (n0+d)/\A.b k=none/\A.e k=none)\/(m= .a/\(A.e k≠none\/ ∃d,dst=some d/\k= .loc (n0+d)/\A.b k=none/\A.e k=none))\/(m= .c/\(∃j,k= .obj j)/\q=false)\/(m= .r/\∃o,A.e k=some o/\o.xs≠none)
 r:∀k,x.rm=some k->(∃d,dst=some d/\k= .loc (n0+d))\/((m= .c\/m= .k)/\(∃j,k= .obj j)/\((look k x.bw).isSome\/(look k x.ew).isSome))
 ex:m= .a->∀k o,(look k x.ew).isSome->A.e k=some o->o.xs=none
 xn:m= .a\/m= .s->∀k o,look k x.ew=some o->o.xs=none
theorem pc{α:Type}{k be:aw}{x:α}(h:(look k [(be,x)]).isSome):k=be:=by
 simp only[look]at h;split at h
 ·rename_i e;exact e.symm
 ·cases h
theorem BC{k be:aw}{n el sz:Nat}{o:da}(h:look k [(be,(⟨n,el,sz,none⟩:da))]=some o):o.xs=none:=by
 simp only[look]at h;split at h
 ·cases h;rfl
 ·cases h
theorem Jn{P:bM}{q:Bool}{n0:Nat}{i:ds}{A:cv}{x:iJ}(h:de P q n0 i A x):zx q n0 i.mode i.dst A x:=by
 cases i with
 |s i=>
  cases i with
  |v d i=>simp only[de]at h;obtain⟨c,p,_,_,_,rfl⟩:=h;exact⟨rfl,fun k aa=>by simp[look]at aa,fun k aa=>by simp[look]at aa,fun k aa=>by simp at aa,fun _ k o aa=>by simp[look]at aa,fun _ k o aa=>by simp[look]at aa⟩
  |box d key v=>
   cases key with
   |some m=>simp only[de]at h
   |none=>simp only[de]at h;obtain⟨⟨_,J,ak⟩,_,rfl⟩:=h;exact⟨rfl,fun k aa=>by obtain rfl:=pc aa;exact .inl ⟨rfl,d,rfl,rfl,J,ak⟩,fun k aa=>by simp[look]at aa,fun k aa=>by simp at aa;exact .inl ⟨d,rfl,aa.symm⟩,fun _ k o aa=>by simp[look]at aa,fun _ k o aa=>by simp[look]at aa⟩
  |alloc d key z=>
   cases key with
   |some m=>simp only[de]at h
   |none=>simp only[de]at h;obtain⟨⟨_,J,ak⟩,rfl⟩:=h;exact⟨rfl,fun k aa=>by obtain rfl:=pc aa;exact .inl ⟨rfl,d,rfl,rfl,J,ak⟩,fun k aa=>by simp[look]at aa,fun k aa=>by simp at aa;exact .inl ⟨d,rfl,aa.symm⟩,fun _ k o aa=>by simp[look]at aa,fun _ k o aa=>by simp[look]at aa⟩
  |store sz u v=>simp only[de]at h;obtain⟨k,off,cs,_,_,_,rfl⟩:=h;exact⟨rfl,fun k aa=>.inr (.inl rfl),fun k aa=>by simp[look]at aa,fun k aa=>by simp at aa,fun _ k o aa=>by simp[look]at aa,fun _ k o aa=>by simp[look]at aa⟩
  |bsl d sz el xs=>simp only[de]at h;obtain⟨⟨_,J,ak⟩,_,rfl⟩:=h;exact⟨rfl,fun k aa=>by simp[look]at aa,fun k aa=>by obtain rfl:=pc aa;exact .inl ⟨rfl,d,rfl,rfl,J,ak⟩,fun k aa=>by simp at aa;exact .inl ⟨d,rfl,aa.symm⟩,fun e=>by simp[ds.mode]at e,fun _ k o aa=>BC aa⟩
  |app d sz el u v=>
   simp only[de]at h;obtain⟨tag,xs,iT,ys,_,_,h⟩:=h;rcases h with⟨k,o,_,I,⟨kU,_⟩,rfl⟩|⟨_,_,⟨_,J,ak⟩,rfl⟩
   ·exact⟨rfl,fun k aa=>by simp[look]at aa,fun k aa=>by obtain rfl:=pc aa;exact .inr (.inl ⟨rfl,.inl (by rw[I];simp)⟩),fun k aa=>by simp at aa,fun _ be o' aa ah=>by obtain rfl:=pc aa;rw[I]at ah;cases ah;exact kU,fun _ k o aa=>BC aa⟩
   ·exact⟨rfl,fun k aa=>by simp[look]at aa,fun k aa=>by obtain rfl:=pc aa;exact .inr (.inl ⟨rfl,.inr ⟨d,rfl,rfl,J,ak⟩⟩),fun k aa=>by simp at aa;exact .inl ⟨d,rfl,aa.symm⟩,fun _ be o' aa ah=>(by obtain rfl:=pc aa;rw[ak]at ah;cases ah),fun _ k o aa=>BC aa⟩
  |bslm d key sz el xs=>simp only[de]at h
  |mks d key sz el z x=>simp only[de]at h
  |apps d el x y=>simp only[de]at h
  |appm d key sz el u v=>simp only[de]at h;obtain⟨k,n,xs,iT,ys,_,_,I,_,rfl⟩:=h;exact⟨rfl,fun k aa=>by simp[look]at aa,fun k aa=>by obtain rfl:=pc aa;exact .inr (.inr (.inr ⟨rfl,_,I,Ψ⟩)),fun k aa=>by simp at aa,fun e=>by simp[ds.mode]at e,fun e=>by simp[ds.mode]at e⟩
  |storeE sz u v=>simp only[de]at h;obtain⟨k,n,i,f,el,cJ,xs,q,_,I,_,_,rfl⟩:=h;exact⟨rfl,fun k aa=>by simp[look]at aa,fun k aa=>by obtain rfl:=pc aa;exact .inr (.inr (.inr ⟨rfl,_,I,Ψ⟩)),fun k aa=>by simp at aa,fun e=>by simp[ds.mode]at e,fun e=>by simp[ds.mode]at e⟩
  |mkmap d key=>
   cases key with
   |none=>simp only[de]at h
   |some m=>simp only[de]at h;obtain⟨⟨_,J,ak⟩,rfl⟩:=h;exact⟨rfl,fun k aa=>by obtain rfl:=pc aa;exact .inr (.inr (.inr ⟨rfl,⟨m,rfl⟩,J,ak⟩)),fun k aa=>by simp[look]at aa,fun k aa=>by simp at aa;subst aa;exact .inr ⟨.inr rfl,⟨m,rfl⟩,.inl (by simp[look])⟩,fun e=>by simp[ds.mode]at e,fun e=>by simp[ds.mode]at e⟩
  |mput bO x k v=>simp only[de]at h;obtain⟨m,cs,cs',_,_,_,rfl⟩:=h;exact⟨rfl,fun k aa=>.inr (.inl rfl),fun k aa=>by simp[look]at aa,fun k aa=>by simp at aa,fun e=>by simp[ds.mode]at e,fun e=>by simp[ds.mode]at e⟩
  |range d key x=>simp only[de]at h
 |next d x=>simp only[de]at h
 |opn d f x=>simp only[de]at h
 |call d f xs=>
  simp only[de]at h;obtain⟨n,cY,_,h⟩:=h;rcases h with⟨⟨s,aE,r,rm,_,_,_,ah,Gt,_,_,rfl⟩,bP⟩|⟨e3,r,rfl,_,_,_,rfl⟩;rotate_left
  ·exact⟨rfl,fun k aa=>by simp[look]at aa,fun k aa=>by simp[look]at aa,fun k aa=>by simp at aa;exact .inl ⟨e3,rfl,aa.symm⟩,fun _ k o aa=>by simp[look]at aa,fun _ k o aa=>by simp[look]at aa⟩
  refine⟨rfl,fun k aa=>.inr (.inr (.inl ⟨rfl,?_,?_⟩)),fun k aa=>.inr (.inr (.inl ⟨rfl,?_,?_⟩)),fun k aa=>.inr ⟨.inl rfl,(Gt.2.2.2.2 k aa).1,(Gt.2.2.2.2 k aa).2.2.2.2⟩,fun e=>by simp[ds.mode]at e,fun e=>by simp[ds.mode]at e⟩
  ·cases k with
   |loc m=>rw[ah.1 m]at aa;cases aa
   |obj m=>exact⟨m,rfl⟩
  ·cases q with
   |false=>rfl
   |true=>rw[(bP rfl).1]at aa;simp[look]at aa
  ·cases k with
   |loc m=>rw[ah.2 m]at aa;cases aa
   |obj m=>exact⟨m,rfl⟩
  ·cases q with
   |false=>rfl
   |true=>rw[(bP rfl).2]at aa;simp[look]at aa
theorem Dm{P:bM}{q:Bool}{n0:Nat}{i:ds}{A A':cv}{x:iJ}(h:de P q n0 i A x)(aG:l8 i.looks A.t A'.t)
  (aA:i.mode= .l->∀k,(q=true\/ ∃m,k= .loc m)->A.b k≠none->A'.b k=A.b k) (qW:i.mode= .m->∀k,A.b k≠none->A'.b k=A.b k)
  (Pq:i.mode= .l->q=true->∀k o,A.e k=some o->o.xs≠none->A'.e k=some o)
  (aS:∀d,i.dst=some d->(i.mode= .n\/i.mode= .s\/i.mode= .a\/i.mode= .c)->(A.F (.loc (n0+d))/\A.b (.loc (n0+d))=none/\A.e (.loc (n0+d))=none)->(A'.F (.loc (n0+d))/\A'.b (.loc (n0+d))=none/\A'.e (.loc (n0+d))=none))
  (bU:i.mode= .a->∀k o,A.e k=some o->A'.e k=some o) (hw:i.mode= .w->∀k,A'.b k=A.b k) (qa:i.mode= .k->∀m,(A.F (.obj m)/\A.b (.obj m)=none/\A.e (.obj m)=none)->(A'.F (.obj m)/\A'.b (.obj m)=none/\A'.e (.obj m)=none)) (vR:i.mode= .r->∀k o,A.e k=some o->o.xs≠none->A'.e k=some o)
  (aQ:i.mode= .c->∀m,A'.b (.obj m)=A.b (.obj m)/\A'.e (.obj m)=A.e (.obj m)/\(A.F (.obj m)->A'.F (.obj m))):de P q n0 i A' x:=by
 cases i with
 |s i=>
  cases i with
  |v d i=>
   simp only[de]at h⊢;obtain⟨c,p,I,J,ak,aV⟩:=h;by_cases hB:∃agg sz y,i= .loadB agg sz y
   ·obtain⟨agg,sz,y,rfl⟩:=hB;simp only[ds.looks,df.looks,eV.looks]at aG;have sg:=fc aG;refine⟨c,p,?_,J,fun _=>.inl rfl,aV⟩;rw[<-I];simp only[l4,<-sg];have hm:=qW (by simp[ds.mode]);simp only[l4]at I;cases bB:cF A.t y<;>simp only[oc];rename_i key off;rw[bB]at I;simp only[oc]at I;cases af:A.b key with
    |none=>simp[af]at I
    |some cs=>have:A'.b key=A.b key:=hm key (by rw[af];simp);rw[this,af]
   by_cases xO:∃bO zero ok y z,i= .mgetB bO zero ok y z
   ·obtain⟨bO,zero,ok,y,z,rfl⟩:=xO;simp only[ds.looks,df.looks,eV.looks]at aG;obtain⟨t1,t2⟩:=iq aG;refine⟨c,p,?_,J,fun _=>.inl rfl,aV⟩;simp only[l4]at I⊢;rw[<-fc t1,<-fc t2];exact Hz (qW (by simp[ds.mode])) I
   replace ak:i.isLoad=true->q=true\/sA (i.ptrOf A.t)=true:=fun kQ=>(ak kQ).resolve_left (fun af=>by cases i<;>simp[eV.isB]at af;exact hB ⟨_,_,_,rfl⟩;exact xO ⟨_,_,_,_,_,rfl⟩);have O9:i.isLoad=true->(ds.s (.v d i)).mode= .l:=by intro kQ;cases i<;>simp only[eV.isLoad]at kQ<;>first|(cases kQ;done)|(simp[ds.mode,eV.isLoad];done)|exact absurd ⟨_,_,_,rfl⟩ hB|exact absurd ⟨_,_,_,_,_,rfl⟩ xO
   by_cases kQ:i.isLoad=true
   ·have bP:∀(bB:sA (i.ptrOf A.t)=false),∀k,A.b k≠none->A'.b k=A.b k:=fun bB k aa=>aA (O9 kQ) k (.inl ((ak kQ).resolve_right (by rw[bB];simp))) aa;cases i<;>simp only[eV.isLoad]at kQ<;>try(cases kQ;done)
    case mget bO zero ok y z=>simp only[ds.looks,df.looks,eV.looks]at aG;obtain⟨t1,t2⟩:=iq aG;refine⟨c,p,?_,J,fun _=>.inr (ak rfl),aV⟩;simp only[l4]at I⊢;rw[<-fc t1,<-fc t2];exact Hz (bP rfl) I
    case ment y=>simp only[ds.looks,df.looks,eV.looks]at aG;refine⟨c,p,?_,J,fun _=>.inr (ak rfl),aV⟩;simp only[l4]at I⊢;rw[<-fc aG];exact Qu (bP rfl) I
    case mlen y=>simp only[ds.looks,df.looks,eV.looks]at aG;refine⟨c,p,?_,J,fun _=>.inr (ak rfl),aV⟩;simp only[l4]at I⊢;rw[<-fc aG];exact Qz (bP rfl) I
    case loadB agg sz y=>exact absurd ⟨_,_,_,rfl⟩ hB
    case mgetB=>exact absurd ⟨_,_,_,_,_,rfl⟩ xO
    rename_i agg sz y;simp only[ds.looks,df.looks,eV.looks]at aG;have sg:=fc aG;refine⟨c,p,?_,J,fun _=>.inr (by have:=ak rfl;simpa only[eV.ptrOf,<-sg]using this),aV⟩;rw[<-I];simp only[l4,<-sg];have hm:=aA (by simp[ds.mode,eV.isLoad]);simp only[l4]at I;have vu:=ak rfl;simp only[eV.ptrOf]at vu;cases bB:cF A.t y<;>simp only[oc]
    ·rename_i key off;rw[bB]at I vu;simp only[oc]at I;cases af:A.b key with
     |none=>simp[af]at I
     |some cs=>have:A'.b key=A.b key:=hm key (by rcases vu with h|h;exact .inl h;cases key;exact .inr ⟨_,rfl⟩;simp[sA]at h) (by rw[af];simp);rw[this,af]
    ·rename_i cJ key n i f;rw[bB]at I vu;simp only[oc]at I;have Pm:q=true:=vu.resolve_right (by simp[sA]);unfold sQ at I;split at I
     ·rename_i n' el hs xs he;rw[he,Pq (by simp[ds.mode,eV.isLoad]) Pm key _ he Ψ]
     ·cases I
   ·have kQ:i.isLoad=false:=by simpa using kQ
    refine⟨c,p,?_,J,(fun e=>by rw[kQ]at e;cases e),aV⟩;rw[<-I];exact(Tn (by simpa only[ds.looks,df.looks]using aG) kQ).symm
  |box d key v=>
   cases key with
   |some m=>simp only[de]at h
   |none=>simp only[de,ds.looks,df.looks]at h aG⊢;obtain⟨I,J,ak⟩:=h;rw[<-fc aG];exact⟨aS d rfl (.inl rfl) I,J,ak⟩
  |alloc d key z=>
   cases key with
   |some m=>simp only[de]at h
   |none=>simp only[de]at h⊢;exact⟨aS d rfl (.inl rfl) h.1,h.2⟩
  |store sz u v=>simp only[de,ds.looks,df.looks]at h aG⊢;obtain⟨I,J⟩:=iq aG;rw[<-fc I,<-fc J];obtain⟨k,off,cs,g1,g2,g3,g4⟩:=h;exact⟨k,off,cs,g1,by rw[hw rfl];exact g2,g3,g4⟩
  |bsl d sz el xs=>simp only[de,ds.looks,df.looks]at h aG⊢;rw[<-yA aG];exact⟨aS d rfl (.inr (.inl rfl)) h.1,h.2⟩
  |app d sz el u v=>
   simp only[de,ds.looks,df.looks]at h aG⊢;obtain⟨I,J⟩:=iq aG;rw[<-fc I,<-fc J];obtain⟨tag,xs,iT,ys,g1,g2,h⟩:=h;refine⟨tag,xs,iT,ys,g1,g2,?_⟩;rcases h with⟨k,o,aj,aR,bm⟩|⟨aj,aR,bm,c1⟩
   ·exact .inl ⟨k,o,aj,bU rfl k o aR,bm⟩
   ·exact .inr ⟨aj,aR,aS d rfl (.inr (.inr (.inl rfl))) bm,c1⟩
  |bslm d key sz el xs=>simp only[de]at h
  |mks d key sz el z x=>simp only[de]at h
  |apps d el x y=>simp only[de]at h
  |appm d key sz el u v=>simp only[de,ds.looks,df.looks]at h aG⊢;obtain⟨I,J⟩:=iq aG;rw[<-fc I,<-fc J];obtain⟨k,n,xs,iT,ys,g1,g2,g3,g4,g5⟩:=h;exact⟨k,n,xs,iT,ys,g1,g2,vR rfl k _ g3 Ψ,g4,g5⟩
  |storeE sz u v=>simp only[de,ds.looks,df.looks]at h aG⊢;obtain⟨I,J⟩:=iq aG;rw[<-fc I,<-fc J];obtain⟨k,n,i,f,el,cJ,xs,q,g1,g2,g3⟩:=h;exact⟨k,n,i,f,el,cJ,xs,q,g1,vR rfl k _ g2 Ψ,g3⟩
  |mkmap d key=>
   cases key with
   |none=>simp only[de]at h
   |some m=>simp only[de]at h⊢;exact⟨qa rfl m h.1,h.2⟩
  |mput bO u k v=>simp only[de,ds.looks,df.looks]at h aG⊢;obtain⟨t1,t3⟩:=iq aG;obtain⟨t1,t2⟩:=iq t1;obtain⟨m,cs,cs',g1,g2,g3,g4⟩:=h;rw[<-fc t1,<-fc t2,<-fc t3];exact⟨m,cs,cs',g1,by rw[hw rfl];exact g2,g3,g4⟩
  |range d key x=>simp only[de]at h
 |next d x=>simp only[de]at h
 |opn d f x=>simp only[de]at h
 |call d f xs=>
  simp only[de,ds.looks]at h aG⊢;obtain⟨I,J⟩:=iq aG;rw[<-fc I,<-yA J];obtain⟨n,cY,g1,h⟩:=h;rcases h with⟨⟨s,aE,r,rm,cp,c2,c3,c4,c5,hp⟩,g3⟩|⟨e3,r,rfl,cp,c2⟩;rotate_left
  ·exact⟨n,cY,g1,.inr ⟨e3,r,rfl,aS e3 rfl (.inr (.inr (.inr rfl))) cp,c2⟩⟩
  refine⟨n,cY,g1,.inl ⟨⟨s,aE,r,rm,fun k cs aa=>?_,fun k o aa=>?_,c3,c4,⟨c5.1,c5.2.1,c5.2.2.1,c5.2.2.2.1,fun k aa=>?_⟩,hp⟩,g3⟩⟩
  ·cases k with
   |loc m=>rw[c3.1 m]at aa;cases aa
   |obj m=>rw[(aQ rfl m).1];exact cp _ _ aa
  ·cases k with
   |loc m=>rw[c3.2 m]at aa;cases aa
   |obj m=>rw[(aQ rfl m).2.1];exact c2 _ _ aa
  ·obtain⟨⟨j,rfl⟩,d2,d3,d4,d5⟩:=c5.2.2.2.2 k aa;exact⟨⟨j,rfl⟩,(aQ rfl j).2.2 d2,by rw[(aQ rfl j).1];exact d3,by rw[(aQ rfl j).2.1];exact d4,d5⟩
def je(d:bf Nat):iJ:=⟨d,.tuple [],[],[],none⟩
def iK(P:bM)(q:Bool)(n0:Nat)(g:cm)(A:cv)(x:iJ):Prop:=
 match g.g with
 |none=>de P q n0 g.i A x
 |some (s,w)=>match A.t s with
  | .bool b=>(b=w/\de P q n0 g.i A x)\/(b= !w/\x=je g.i.dst)
  | .tuple []=>x=je g.i.dst
  |_=>dz
def ej:u1->u1->Bool
 | .v,_=>true
 |_,.v=>true
 | .l,.l| .l,.n| .l,.s| .l,.a| .l,.c=>true
 | .n,.n| .n,.s| .n,.a| .n,.c=>true
 | .s,.l| .s,.n| .s,.s| .s,.c=>true
 | .a,.l| .a,.n| .a,.s=>true
 | .c,.l| .c,.n| .c,.s=>true
 | .l,.m| .m,.l| .m,.m| .m,.n| .m,.s| .m,.a| .s,.m| .a,.m=>true
 | .l,.k| .m,.k| .n,.k| .s,.k=>true
 | .m,.r| .r,.m| .r,.n| .r,.s| .n,.r| .s,.r| .r,.w| .w,.r=>true
 |_,_=>false
def tE(g h:cm):Bool:=(match g.i.dst with|some d=> !(h.looks.contains d)&&h.i.dst !=some d|none=>true)&&(match h.i.dst with|some d=> !(g.looks.contains d)|none=>true)&&ej g.i.mode h.i.mode
theorem Jo(q:Bool)(n0:Nat)(m:u1)(d:bf Nat)(A:cv):zx q n0 m d A (je d):=⟨rfl,fun k aa=>by simp[je,look]at aa,fun k aa=>by simp[je,look]at aa,fun k aa=>by simp[je]at aa,fun _ k o aa=>by simp[je,look]at aa,fun _ k o aa=>by simp[je,look]at aa⟩
theorem CV{P:bM}{q:Bool}{n0:Nat}{g:cm}{A:cv}{x:iJ}(h:iK P q n0 g A x):zx q n0 g.i.mode g.i.dst A x:=by
 unfold iK at h;split at h
 ·exact Jn h
 ·split at h
  ·rcases h with⟨_,h⟩|⟨_,rfl⟩
   ·exact Jn h
   ·exact Jo _ _ _ _ _
  ·subst h;exact Jo _ _ _ _ _
  ·exact h.elim
theorem oQ{A:cv}{x:iJ}{k:aw}(h:look k x.bw=none):(A.do x).b k=A.b k:=by simp[cv.do,gQ,h]
theorem oR{A:cv}{x:iJ}{k:aw}(h:look k x.ew=none):(A.do x).e k=A.e k:=by simp[cv.do,gQ,h]
theorem zY{A:cv}{x:iJ}{k:aw}(h:(A.do x).b k=none):A.b k=none:=by
 simp only[cv.do,gQ]at h;split at h
 ·cases h
 ·exact h
theorem zZ{A:cv}{x:iJ}{k:aw}(h:(A.do x).e k=none):A.e k=none:=by
 simp only[cv.do,gQ]at h;split at h
 ·cases h
 ·exact h
theorem jC{α:Type}{o:bf α}(h:¬o.isSome):o=none:=by cases o<;>simp at h⊢
theorem Dp{P:bM}{q:Bool}{n0:Nat}{g:cm}{A A':cv}{x:iJ}(h:iK P q n0 g A x)(aG:l8 g.looks A.t A'.t)(hm:de P q n0 g.i A x->de P q n0 g.i A' x):iK P q n0 g A' x:=by
 unfold iK at h⊢;cases aT:g.g with
 |none=>simp only[aT]at h⊢;exact hm h
 |some sY=>
  obtain⟨s,w⟩:=sY;have:A.t s=A'.t s:=aG s (by simp[cm.looks,aT]);simp only[aT,this]at h⊢;split at h
  ·rcases h with⟨I,J⟩|h
   ·exact .inl ⟨I,hm J⟩
   ·exact .inr h
  ·exact h
  ·exact h
theorem S2{P:bM}{q:Bool}{n0:Nat}{g h:cm}(Gh:tE g h=true){A:cv}{x y:iJ}(ab:iK P q n0 g A x)(bG:iK P q n0 h (A.do x) y):
  iK P q n0 h A y/\iK P q n0 g (A.do y) x/\x.apart y:=by
 simp only[tE,bE]at Gh;obtain⟨⟨o0,tP⟩,hm⟩:=Gh;have l1:=CV ab;have dI:∀d iu,g.i.dst=some d->h.i.dst=some iu->d≠iu:=by intro d iu aj aR e;simp only[aj,bE,bne_iff_ne]at o0;exact o0.2 (by rw[aR,e])
 have xS:l8 h.looks (A.do x).t A.t:=by intro i aq;simp only[cv.do];rw[bu];intro e;rw[l1.d]at e;simp only[e,bE,Bool.not_eq_true',List.contains_eq_mem,decide_eq_false_iff_not]at o0;exact o0.1 aq
 have qX:∀k,(look k x.bw).isSome->_:=l1.b;have hle:∀k,(look k x.ew).isSome->_:=l1.e;have G9:iK P q n0 h A y:=by
  refine Dp bG xS fun jL=>Dm jL (fun i aq=>xS i (by simp[cm.looks,aq])) (fun e k aa af=>?_) (fun e k af=>?_) (fun e bP k o ah kU=>?_) (fun d bj Gq ju=>?_) (fun e k o ah=>?_) (fun e k=>?_) (fun e m ju=>⟨ju.1.1,zY ju.2.1,zZ ju.2.2⟩) (fun e k o ah kU=>?_) (fun e m=>?_)
  ·rw[oQ (jC fun al=>?_)];rcases qX k al with⟨aj,_⟩|aj|⟨aj,⟨j,aR⟩,bm⟩|⟨aj,_⟩;rotate_left 3
   ·rw[e,aj]at hm;simp[ej]at hm
   ·rw[e,aj]at hm;simp[ej]at hm
   ·rw[e,aj]at hm;simp[ej]at hm
   ·rcases aa with aa|⟨m,aa⟩
    ·rw[aa]at bm;cases bm
    ·rw[aa]at aR;cases aR
  ·rw[oQ (jC fun al=>?_)];rcases qX k al with⟨aj,_⟩|aj|⟨aj,_⟩|⟨aj,_⟩<;>(rw[e,aj]at hm;simp[ej]at hm)
  ·rw[e]at hm;cases gT:look k x.ew with
   |none=>rw[oR gT]at ah;exact ah
   |some o'=>
    exfalso;have AW:(A.do x).e k=some o':=by simp[cv.do,gQ,gT]
    rw[AW]at ah;cases ah;rcases hle k (by simp[gT])with⟨aj,_⟩|⟨aj,_⟩|⟨aj,_,bm⟩|⟨aj,_⟩
    ·exact kU (l1.xn (.inr aj) k _ gT)
    ·exact kU (l1.xn (.inl aj) k _ gT)
    ·rw[bP]at bm;cases bm
    ·rw[aj]at hm;simp[ej]at hm
  ·exact⟨ju.1.1,zY ju.2.1,zZ ju.2.2⟩
  ·rw[oR (jC fun al=>?_)]at ah
   ·exact ah
   ·rw[e]at hm;rcases hle k al with⟨aj,_⟩|⟨aj,_⟩|⟨aj,_⟩|⟨aj,_⟩<;>(rw[aj]at hm;simp[ej]at hm)
  ·rw[oQ (jC fun al=>?_)];rw[e]at hm;rcases qX k al with⟨aj,_⟩|aj|⟨aj,_⟩|⟨aj,_⟩<;>(rw[aj]at hm;simp[ej]at hm)
  ·rw[e]at hm;cases gT:look k x.ew with
   |none=>rw[oR gT]at ah;exact ah
   |some o'=>
    exfalso;have AW:(A.do x).e k=some o':=by simp[cv.do,gQ,gT]
    rw[AW]at ah;cases ah;rcases hle k (by simp[gT])with⟨aj,_⟩|⟨aj,_⟩|⟨aj,_⟩|⟨aj,_⟩
    ·exact kU (l1.xn (.inr aj) k _ gT)
    ·rw[aj]at hm;simp[ej]at hm
    ·rw[aj]at hm;simp[ej]at hm
    ·rw[aj]at hm;simp[ej]at hm
  ·rw[e]at hm;refine⟨?_,?_,fun eR=>eR.1⟩
   ·rw[oQ (jC fun al=>?_)];rcases qX _ al with⟨aj,d,_,aR,_⟩|aj|⟨aj,_⟩|⟨aj,_⟩;rotate_left 3
    ·rw[aj]at hm;simp[ej]at hm
    ·cases aR
    ·rw[aj]at hm;simp[ej]at hm
    ·rw[aj]at hm;simp[ej]at hm
   ·rw[oR (jC fun al=>?_)];rcases hle _ al with⟨aj,d,_,aR,_⟩|⟨aj,_⟩|⟨aj,_⟩|⟨aj,_⟩
    ·cases aR
    ·rw[aj]at hm;simp[ej]at hm
    ·rw[aj]at hm;simp[ej]at hm
    ·rw[aj]at hm;simp[ej]at hm
 have ty:=CV G9;have F6:l8 g.looks A.t (A.do y).t:=by intro i aq;simp only[cv.do];rw[bu];intro e;rw[ty.d]at e;simp only[e,Bool.not_eq_true',List.contains_eq_mem,decide_eq_false_iff_not]at tP;exact tP aq
 refine⟨G9,?_,?_⟩
 ·refine Dp ab F6 fun jL=>Dm jL (fun i aq=>F6 i (by simp[cm.looks,aq])) (fun e k aa af=>?_) (fun e k af=>?_) (fun e bP k o ah kU=>?_) (fun d bj Gq ju=>?_) (fun e k o ah=>?_) (fun e k=>?_) (fun e m ju=>?_) (fun e k o ah kU=>?_) (fun e m=>?_)
  ·refine oQ (jC fun al=>?_);rcases ty.b k al with⟨aj,d,_,_,aR,_⟩|aj|⟨aj,⟨j,aR⟩,bm⟩|⟨_,_,aR,_⟩;rotate_left 3
   ·exact af aR
   ·exact af aR
   ·rw[e,aj]at hm;simp[ej]at hm
   ·rcases aa with aa|⟨m,aa⟩
    ·rw[aa]at bm;cases bm
    ·rw[aa]at aR;cases aR
  ·refine oQ (jC fun al=>?_);rcases ty.b k al with⟨aj,d,_,_,aR,_⟩|aj|⟨aj,_⟩|⟨_,_,aR,_⟩;rotate_left 3
   ·exact af aR
   ·exact af aR
   ·rw[e,aj]at hm;simp[ej]at hm
   ·rw[e,aj]at hm;simp[ej]at hm
  ·rw[oR (jC fun al=>?_)]
   ·exact ah
   ·rcases ty.e k al with⟨aj,d,_,_,_,aR⟩|⟨aj,aR⟩|⟨aj,_,bm⟩|⟨aj,_⟩
    ·rw[aR]at ah;cases ah
    ·exact kU (ty.ex aj k o al ah)
    ·rw[bP]at bm;cases bm
    ·rw[e,aj]at hm;simp[ej]at hm
  ·refine⟨⟨ju.1,fun pQ=>?_⟩,?_,?_⟩
   ·rcases ty.r _ pQ with⟨iu,aj,aR⟩|⟨_,⟨j,aR⟩,_⟩
    ·simp only[aw.loc.injEq]at aR;exact dI d iu bj aj Ω
    ·cases aR
   ·rw[oQ (jC fun al=>?_)]
    ·exact ju.2.1
    ·rcases ty.b _ al with⟨aj,iu,aR,bm,_⟩|aj|⟨aj,⟨j,aR⟩,_⟩|⟨aj,⟨j,aR⟩,_⟩;rotate_left 3
     ·cases aR
     ·simp only[aw.loc.injEq]at bm;exact dI d iu bj aR Ω
     ·rcases Gq with aR|aR|aR|aR<;>(rw[aj,aR]at hm;simp[ej]at hm)
     ·cases aR
   ·rw[oR (jC fun al=>?_)]
    ·exact ju.2.2
    ·rcases ty.e _ al with⟨aj,iu,aR,bm,_⟩|⟨aj,aR⟩|⟨aj,⟨j,aR⟩,_⟩|⟨aj,o,aR,_⟩
     ·simp only[aw.loc.injEq]at bm;exact dI d iu bj aR Ω
     ·rcases aR with aR|⟨iu,aR,bm,_⟩
      ·exact aR ju.2.2
      ·simp only[aw.loc.injEq]at bm;exact dI d iu bj aR Ω
     ·cases aR
     ·rw[ju.2.2]at aR;cases aR
  ·rw[oR (jC fun al=>?_)]
   ·exact ah
   ·rw[e]at hm;rcases ty.e k al with⟨aj,d,_,_,_,aR⟩|⟨aj,_⟩|⟨aj,_⟩|⟨aj,_⟩
    ·rw[aR]at ah;cases ah
    ·rw[aj]at hm;simp[ej]at hm
    ·rw[aj]at hm;simp[ej]at hm
    ·rw[aj]at hm;simp[ej]at hm
  ·refine oQ (jC fun al=>?_);rw[e]at hm;rcases ty.b k al with⟨aj,_⟩|aj|⟨aj,_⟩|⟨aj,_⟩<;>(rw[aj]at hm;simp[ej]at hm)
  ·rw[e]at hm;refine⟨⟨ju.1,fun pQ=>?_⟩,?_,?_⟩
   ·rcases ty.r _ pQ with⟨iu,aj,aR⟩|⟨aj|aj,_⟩
    ·cases aR
    ·rw[aj]at hm;simp[ej]at hm
    ·rw[aj]at hm;simp[ej]at hm
   ·rw[oQ (jC fun al=>?_)]
    ·exact ju.2.1
    ·rcases ty.b _ al with⟨aj,_⟩|aj|⟨aj,_⟩|⟨aj,_⟩<;>(rw[aj]at hm;simp[ej]at hm)
   ·rw[oR (jC fun al=>?_)]
    ·exact ju.2.2
    ·rcases ty.e _ al with⟨aj,_⟩|⟨aj,_⟩|⟨aj,_⟩|⟨aj,o,aR,_⟩
     ·rw[aj]at hm;simp[ej]at hm
     ·rw[aj]at hm;simp[ej]at hm
     ·rw[aj]at hm;simp[ej]at hm
     ·rw[ju.2.2]at aR;cases aR
  ·rw[oR (jC fun al=>?_)]
   ·exact ah
   ·rw[e]at hm;rcases ty.e k al with⟨aj,d,_,_,_,aR⟩|⟨aj,_⟩|⟨aj,_⟩|⟨aj,_⟩
    ·rw[aR]at ah;cases ah
    ·rw[aj]at hm;simp[ej]at hm
    ·rw[aj]at hm;simp[ej]at hm
    ·rw[aj]at hm;simp[ej]at hm
  ·rw[e]at hm;refine⟨?_,?_,fun eR=>⟨eR,fun pQ=>?_⟩⟩;rotate_left 2
   ·rcases ty.r _ pQ with⟨iu,_,aR⟩|⟨aR|aR,_⟩
    ·cases aR
    ·rw[aR]at hm;simp[ej]at hm
    ·rw[aR]at hm;simp[ej]at hm
   ·refine oQ (jC fun al=>?_);rcases ty.b _ al with⟨aj,d,_,aR,_⟩|aj|⟨aj,_⟩|⟨aj,_⟩;rotate_left 3
    ·rw[aj]at hm;simp[ej]at hm
    ·cases aR
    ·rw[aj]at hm;simp[ej]at hm
    ·rw[aj]at hm;simp[ej]at hm
   ·refine oR (jC fun al=>?_);rcases ty.e _ al with⟨aj,d,_,aR,_⟩|⟨aj,_⟩|⟨aj,_⟩|⟨aj,_⟩
    ·cases aR
    ·rw[aj]at hm;simp[ej]at hm
    ·rw[aj]at hm;simp[ej]at hm
    ·rw[aj]at hm;simp[ej]at hm
 ·refine⟨fun i aq e=>?_,fun k aa=>jC fun al=>?_,fun k aa=>jC fun al=>?_⟩
  ·rw[l1.d]at aq;rw[ty.d]at e;exact dI i i aq e rfl
  ·rcases qX k aa with⟨bQ,d,a2,a3,_⟩|bQ|⟨bQ,⟨j,a2⟩,_⟩|⟨bQ,_⟩<;>rcases ty.b k al with⟨bH,iu,bR,ea,_⟩|bH|⟨bH,⟨ei,bR⟩,_⟩|⟨bH,⟨ei,bR⟩,_⟩;all_goals first|(rw[bQ,bH]at hm;simp[ej]at hm;done)|skip
   ·rw[a3]at ea;simp only[aw.loc.injEq]at ea;exact dI d iu a2 bR Ω
   ·rw[a3]at bR;cases bR
   ·rw[a3]at bR;cases bR
   ·rw[a2]at ea;cases ea
  ·rcases hle k aa with⟨bQ,d,a2,a3,_,a4⟩|⟨bQ,a2⟩|⟨bQ,⟨j,a2⟩,_⟩|⟨bQ,jW,a2,_⟩<;>rcases ty.e k al with⟨bH,iu,bR,ea,_,ic⟩|⟨bH,bR⟩|⟨bH,⟨ei,bR⟩,_⟩|⟨bH,iC,bR,_⟩
   ·rw[a3]at ea;simp only[aw.loc.injEq]at ea;exact dI d iu a2 bR Ω
   ·rw[bQ,bH]at hm;simp[ej]at hm
   ·rw[a3]at bR;cases bR
   ·rw[a4]at bR;cases bR
   ·rcases a2 with a2|⟨d,a2,a3,_⟩
    ·exact a2 ic
    ·rw[a3]at ea;simp only[aw.loc.injEq]at ea;exact dI d iu a2 bR Ω
   ·rw[bQ,bH]at hm;simp[ej]at hm
   ·rw[bQ,bH]at hm;simp[ej]at hm
   ·rw[bQ,bH]at hm;simp[ej]at hm
   ·rw[a2]at ea;cases ea
   ·rw[bQ,bH]at hm;simp[ej]at hm
   ·rw[bQ,bH]at hm;simp[ej]at hm
   ·rw[bQ,bH]at hm;simp[ej]at hm
   ·rw[ic]at a2;cases a2
   ·rw[bQ,bH]at hm;simp[ej]at hm
   ·rw[bQ,bH]at hm;simp[ej]at hm
   ·rw[bQ,bH]at hm;simp[ej]at hm
def rM(C:dM)(A:cv)(a:Act)(w:World):Prop:= ∃st ν,jj st A/\(∀k,A.F k->fresh st.n st.o k)/\bX C st a w ν
theorem Bx{st:a6}{A:cv}(h:jj st A)(d:Nat)(p:ae):jj {st with t:=put d p st.t} (A.do ⟨some d,p,[],[],none⟩):=by
 refine⟨fun i=>?_,fun k=>?_,fun k=>?_⟩
 ·simp only[cv.do,mg,dt,h.t]
 ·simpa[cv.do,gQ,look]using h.b k
 ·simpa[cv.do,gQ,look]using h.e k
theorem Hr{st:a6}{A:cv}(h:jj st A)(d:Nat)(p:ae)(o':List aw)(rm:bf aw):jj {st with t:=put d p st.t,o:=o'} (A.do ⟨some d,p,[],[],rm⟩):=by have:=Bx h d p;exact⟨this.t,this.b,this.e⟩
theorem JN{α:Type}{β:Type}:∀l:List (aw×α),ch ([]:List (aw×β)) l=l
 |[]=>rfl
 |(k,x)::r=>by simp[ch,look,JN r]
theorem uj{st:a6}{A:cv}(h:jj st A)(d:Nat)(p:ae)(κ:aw)(cs:List ae)(n':Nat)(o':List aw)(rm:bf aw):jj ⟨put d p st.t,cx κ cs st.b,st.e,n',o'⟩ (A.do ⟨some d,p,[(κ,cs)],[],rm⟩):=by
 refine⟨fun i=>?_,fun k=>?_,fun k=>?_⟩
 ·simp only[cv.do,mg,dt,h.t]
 ·simp only[cv.do,gQ,look,hO,h.b];by_cases e:κ=k<;>simp[e]
 ·simpa[cv.do,gQ,look]using h.e k
theorem yw{st:a6}{A:cv}(h:jj st A)(κ:aw)(cs:List ae)(p:ae):jj {st with b:=cx κ cs st.b} (A.do ⟨none,p,[(κ,cs)],[],none⟩):=by
 refine⟨fun i=>?_,fun k=>?_,fun k=>?_⟩
 ·simpa[cv.do]using h.t i
 ·simp only[cv.do,gQ,look,hO,h.b];by_cases e:κ=k<;>simp[e]
 ·simpa[cv.do,gQ,look]using h.e k
theorem rb{st:a6}{A:cv}(h:jj st A)(d:Nat)(p:ae)(κ:aw)(o:da)(n':Nat)(o':List aw)(rm:bf aw):jj ⟨put d p st.t,st.b,cx κ o st.e,n',o'⟩ (A.do ⟨some d,p,[],[(κ,o)],rm⟩):=by
 refine⟨fun i=>?_,fun k=>?_,fun k=>?_⟩
 ·simp only[cv.do,mg,dt,h.t]
 ·simpa[cv.do,gQ,look]using h.b k
 ·simp only[cv.do,gQ,look,hO,h.e];by_cases e:κ=k<;>simp[e]
theorem Hq{st:a6}{A:cv}(h:jj st A)(κ:aw)(o:da)(p:ae):jj {st with e:=cx κ o st.e} (A.do ⟨none,p,[],[(κ,o)],none⟩):=by
 refine⟨fun i=>?_,fun k=>?_,fun k=>?_⟩
 ·simpa[cv.do]using h.t i
 ·simpa[cv.do,gQ,look]using h.b k
 ·simp only[cv.do,gQ,look,hO];by_cases e:κ=k<;>simp[e,h.e]
theorem BI{α:Type}{k:aw}:∀{l:List (aw×α)},k∈l.map (·.1)->(look k l).isSome
 |[],h=>by simp at h
 |(i,x)::r,h=>by
  simp only[look];split
  ·rfl
  ·rename_i e;simp only[ez,hT]at h;rcases h with h|h
   ·exact absurd h.symm e
   ·exact BI h
theorem qH{n:Nat}{o:List aw}{κ:aw}:∀j,fresh n (κ::o) j->fresh n o j/\j≠κ:=by intro j ai;simp only[fresh,hT,not_or]at ai⊢;exact⟨⟨ai.1,ai.2.2⟩,ai.2.1⟩
theorem Nz{n:Nat}{o:List aw}{κ j:aw}(h:fresh n o j)(ai:some κ≠some j):fresh n (κ::o) j:=by simp only[fresh,hT,not_or]at h⊢;exact⟨h.1,fun e=>ai (by rw[e]),h.2⟩
theorem Dn{P:bM}{bc:List (Nat×cR)}(aG:fm P bc=true){C:dM}{q:Bool}{n0:Nat}{i:ds}{o:Oper}(ah:pj C.N bc i o=true){A:cv}{x:iJ}(ab:de P q n0 i A x){a:Act}{w:World}(ao:rM C A a w)
  {K:Act->World->Prop} {Q:Exit->Act->World->Prop} (cN:∀cy w',rM C (A.do x) cy w'->K cy w'):o.wp P a w K Q:=by
 obtain⟨st,ν,aA,eR,ao⟩:=ao;have r6:∀(t:List (Nat×ae)) (b:List (aw×List ae)) (e:List (aw×da)) (d:bf Nat) (p:ae) (bw:List (aw×List ae)) (ew:List (aw×da)),∀k,(A.do ⟨d,p,bw,ew,none⟩).F k->fresh st.n st.o k:=fun t b e d p bw ew k aa=>eR k aa.1;have mi:∀(d:bf Nat) (p:ae) (bw:List (aw×List ae)) (ew:List (aw×da)) (κ:aw),∀k,(A.do ⟨d,p,bw,ew,some κ⟩).F k->fresh st.n (κ::st.o) k:=fun d p bw ew κ k aa=>Nz (eR k aa.1) aa.2;cases i with
 |s i=>
  have gV:nu C.N bc i o=true:=by simpa only[pj]using ah
  cases i with
  |v d i=>simp only[de]at ab;obtain⟨c,p,I,J,_,rfl⟩:=ab;rw[<-Jt aA]at I;refine hR (κ:= .loc 0) (n':=0) (o₁:=[]) aG ao gV (fun h=>by simp[df.makes]at h) (fun h=>by simp[df.makes]at h) (st':={st with t:=put d p st.t}) (by simp only[dx,I]) J fun cy w' ν' bS=>cN _ _ ⟨_,ν',Bx aA d p,fun k aa=>eR k aa.1,bS⟩
  |box d key v=>
   cases key with
   |some m=>simp only[de]at ab
   |none=>simp only[de]at ab;obtain⟨⟨I,_⟩,J,rfl⟩:=ab;rw[<-hd aA]at J;refine hR (κ:= .loc (n0+d)) (n':=st.n) (o₁:= .loc (n0+d)::st.o) aG ao gV (fun _=>eR _ I) (fun _=>qH) (st':=⟨put d (.ptr (.loc (n0+d)) 0) st.t,cx (.loc (n0+d)) (cells (bA st.t v)) st.b,st.e,st.n,.loc (n0+d)::st.o⟩) (by simp only[dx]) J fun cy w' ν' bS=>cN _ _ ⟨_,ν',?_,mi _ _ _ _ _,bS⟩;rw[hd aA];exact uj aA d _ _ _ _ _ _
  |alloc d key z=>
   cases key with
   |some m=>simp only[de]at ab
   |none=>simp only[de]at ab;obtain⟨⟨I,_⟩,rfl⟩:=ab;refine hR (κ:= .loc (n0+d)) (n':=st.n) (o₁:= .loc (n0+d)::st.o) aG ao gV (fun _=>eR _ I) (fun _=>qH) (st':=⟨put d (.ptr (.loc (n0+d)) 0) st.t,cx (.loc (n0+d)) (cells z) st.b,st.e,st.n,.loc (n0+d)::st.o⟩) (by simp only[dx]) trivial fun cy w' ν' bS=>cN _ _ ⟨_,ν',uj aA d _ _ _ _ _ _,mi _ _ _ _ _,bS⟩
  |store sz u v=>simp only[de]at ab;obtain⟨k,off,cs,I,J,ak,rfl⟩:=ab;rw[<-hd aA]at I ak;rw[<-aA.b]at J;refine hR (κ:= .loc 0) (n':=0) (o₁:=[]) aG ao gV (fun h=>by simp[df.makes]at h) (fun h=>by simp[df.makes]at h) (st':={st with b:=cx k (lq cs off (cells (bA st.t v))) st.b}) (by simp only[dx,I,J]) ak fun cy w' ν' bS=>cN _ _ ⟨{st with b:=cx k (lq cs off (cells (bA st.t v))) st.b},ν',by rw[hd aA];exact yw aA k _ _,fun k aa=>eR k aa.1,bS⟩
  |bsl d sz el xs=>simp only[de]at ab;obtain⟨⟨I,_⟩,J,rfl⟩:=ab;rw[<-pT aA]at J;refine hR (κ:= .loc (n0+d)) (n':=st.n) (o₁:= .loc (n0+d)::st.o) aG ao gV (fun _=>eR _ I) (fun _=>qH) (st':=⟨put d (.slice sz (.own (.loc (n0+d))) (xs.map (bA st.t))) st.t,st.b,cx (.loc (n0+d)) ⟨xs.length,el,sz,none⟩ st.e,st.n,.loc (n0+d)::st.o⟩) (by simp only[dx]) J fun cy w' ν' bS=>cN _ _ ⟨_,ν',?_,mi _ _ _ _ _,bS⟩;rw[pT aA];exact rb aA d _ _ _ _ _ _
  |app d sz el u v=>
   simp only[de]at ab;obtain⟨tag,xs,iT,ys,I,J,ab⟩:=ab;rw[<-hd aA]at I J;rcases ab with⟨k,ow,rfl,ak,aV,rfl⟩|⟨rfl,ak,⟨aV,_⟩,rfl⟩
   ·rw[<-aA.e]at ak;refine hR (κ:= .loc 0) (n':=0) (o₁:=[]) aG ao gV (fun h=>by simp[df.makes,I]at h) (fun h=>by simp[df.makes,I]at h) (st':=⟨put d (.slice sz (.own k) (xs++ys)) st.t,st.b,cx k ⟨xs.length+ys.length,el,sz,none⟩ st.e,st.n,st.o⟩) (by simp only[dx,I,J,ak,and_self,if_true]) aV.2 fun cy w' ν' bS=>cN _ _ ⟨_,ν',rb aA d _ _ _ _ _ _,fun k aa=>eR k aa.1,bS⟩
   ·refine hR (κ:= .loc (n0+d)) (n':=st.n) (o₁:= .loc (n0+d)::st.o) aG ao gV (fun _=>eR _ aV) (fun _=>qH) (st':=⟨put d (.slice sz (.own (.loc (n0+d))) ys) st.t,st.b,cx (.loc (n0+d)) ⟨ys.length,el,sz,none⟩ st.e,st.n,.loc (n0+d)::st.o⟩) (by simp only[dx,I,J,and_self,if_true]) ak fun cy w' ν' bS=>cN _ _ ⟨_,ν',rb aA d _ _ _ _ _ _,mi _ _ _ _ _,bS⟩
  |bslm d key sz el xs=>simp only[de]at ab
  |mks d key sz el z x=>simp only[de]at ab
  |apps d el x y=>simp only[de]at ab
  |appm d key sz el u v=>simp only[de]at ab;obtain⟨k,n,xs,iT,ys,I,J,ak,aV,rfl⟩:=ab;rw[<-hd aA]at I J;rw[<-aA.e]at ak;refine hR (κ:= .loc 0) (n':=0) (o₁:=[]) aG ao gV (fun h=>by simp[df.makes,I]at h) (fun h=>by simp[df.makes,I]at h) (st':=⟨put d (.row sz k (xs.length+ys.length)) st.t,st.b,cx k ⟨xs.length+ys.length,el,sz,some (xs++ys)⟩ st.e,st.n,st.o⟩) (by simp only[dx,oN,I,J,ak,and_self,if_true]) aV fun cy w' ν' bS=>cN _ _ ⟨_,ν',rb aA d _ _ _ _ _ _,fun k aa=>eR k aa.1,bS⟩
  |storeE sz u v=>simp only[de]at ab;obtain⟨k,n,i,f,el,cJ,xs,q,I,J,ak,aV,rfl⟩:=ab;rw[<-hd aA]at I aV;rw[<-aA.e]at J;refine hR (κ:= .loc 0) (n':=0) (o₁:=[]) aG ao gV (fun h=>by simp[df.makes]at h) (fun h=>by simp[df.makes]at h) (st':={st with e:=cx k ⟨n,el,cJ,some (xs.set i (lX q f (cells (bA st.t v))))⟩ st.e}) (by simp only[dx,nx,I,J,ak,and_self,if_true]) aV fun cy w' ν' bS=>cN _ _ ⟨{st with e:=cx k ⟨n,el,cJ,some (xs.set i (lX q f (cells (bA st.t v))))⟩ st.e},ν',by rw[hd aA];exact Hq aA k _ _,fun k aa=>eR k aa.1,bS⟩
  |mkmap d key=>
   cases key with
   |none=>simp only[de]at ab
   |some m=>simp only[de]at ab;obtain⟨⟨I,_⟩,rfl⟩:=ab;refine hR (κ:= .obj m) (n':=st.n) (o₁:= .obj m::st.o) (hB:=fun e=>DA gV (by cases e;rfl)) aG ao gV (fun _=>eR _ I) (fun _=>qH) (st':=⟨put d (.gmap (.obj m)) st.t,cx (.obj m) [.hdm 0 []] st.b,st.e,st.n,.obj m::st.o⟩) (by simp only[dx]) trivial fun cy w' ν' bS=>cN _ _ ⟨_,ν',uj aA d _ _ _ _ _ _,mi _ _ _ _ _,bS⟩
  |mput bO u k v=>simp only[de]at ab;obtain⟨m,cs,cs',I,J,ak,rfl⟩:=ab;rw[<-hd aA]at I;rw[<-hd aA,<-hd aA]at ak;rw[<-aA.b]at J;exact hR (κ:= .loc 0) (n':=0) (o₁:=[]) aG ao gV (fun h=>by simp[df.makes]at h) (fun h=>by simp[df.makes]at h) (st':={st with b:=cx m cs' st.b}) (by simp only[dx,I,J,ak]) trivial fun cy w' ν' bS=>cN _ _ ⟨{st with b:=cx m cs' st.b},ν',yw aA m _ _,fun k aa=>eR k aa.1,bS⟩
  |range d key x=>simp only[de]at ab
 |next d x=>simp only[de]at ab
 |opn d f x=>simp only[de]at ab
 |call d f xs=>
  simp only[de]at ab;obtain⟨n,cY,I,ab⟩:=ab;rw[<-hd aA]at I;rcases ab with⟨⟨s,aE,r,rm,cp,c2,c3,c4,c5,hp,lD,rfl⟩,_⟩|⟨e3,r,rfl,cp,c2,c3,rfl⟩;rotate_left
  ·rw[<-pT aA]at c2 c3;simp only[pj]at ah;split at ah
   ·rename_i kq args ts gM;simp only[bE,cD]at ah;obtain⟨⟨⟨aj,aR⟩,bm⟩,c1⟩:=ah;have ml:=dc ao bm;rw[I]at ml;refine EA ao gM aj aR ml (uG ao c1) (K:=fun st'=>st'={st with t:=put e3 r st.t,o:= .loc (n0+e3)::st.o}) ⟨⟨[],[]⟩,_,some (n0+e3),st.n,fun _=>.loc (n0+e3)::st.o,fun k cs aa=>by simp[look]at aa,fun k cs aa=>by simp[look]at aa,⟨fun _=>rfl,fun _=>rfl⟩,q7 (fun _ h=>h.elim) _ c2,c3,fun m hm=>?_,fun k fK aE bP aa=>?_,?_⟩ ?_
    ·cases hm;exact eR _ cp.1
    ·obtain⟨_,rfl⟩:=bP;have:=qH k aa;exact⟨by simpa[fs]using this.1,fun m hm=>by cases hm;exact this.2⟩
    ·rintro fK lp ⟨rfl,rfl⟩;refine⟨⟨fun m hm=>by simp[look]at hm,fun m hm=>by simp[look]at hm⟩,?_⟩;simp[after,JN,eD]
    ·rintro st' cy w' ν' rfl bS;exact cN _ _ ⟨_,ν',Hr aA e3 r _ _,mi _ _ _ _ _,bS⟩
   ·cases ah
  rw[<-pT aA]at hp lD;simp only[pj]at ah;split at ah
  ·rename_i kq args ts gM;simp only[bE,cD]at ah;obtain⟨⟨⟨aj,aR⟩,bm⟩,c1⟩:=ah;have ml:=dc ao bm;rw[I]at ml;obtain⟨b5,cE,fA,h5,lP⟩:=c5;refine Ez ao gM aj aR ml (uG ao c1) (K:=fun st'=>st'=after st s aE d r) (.inl ⟨s,_,fun k cs aa=>⟨by rw[aA.b];exact(cp k cs aa).1,.inl (by simp[aa]),(cp k cs aa).2⟩,fun k o' aa=>⟨by rw[aA.e];exact(c2 k o' aa).1,.inr (by simp[aa]),(c2 k o' aa).2⟩,c3,hp,lD,?_⟩) ?_
   ·rintro fK lp ⟨rfl,rfl⟩;refine⟨⟨fun m hm=>?_,fun m hm=>?_⟩,rfl⟩
    ·rcases b5 _ hm with h|h
     ·exact .inl h
     ·exact .inr (eR _ (lP _ h).2.1).2
    ·rcases cE _ hm with h|h
     ·exact .inl h
     ·exact .inr (eR _ (lP _ h).2.1).2
   ·rintro st' cy w' ν' rfl bS;refine cN _ _ ⟨_,ν',⟨fun i=>?_,fun k=>?_,fun k=>?_⟩,fun k aa=>?_,bS⟩
    ·simp only[after,cv.do];cases d with
     |none=>simpa[eD]using aA.t i
     |some d=>simp only[eD,mg,dt,aA.t]
    ·simp only[after,cv.do,gQ,sE,pd];by_cases al:(look k s.b).isSome
     ·have:=fA k al;obtain⟨y,bG⟩:=eK.1 this;simp[al,bG]
     ·cases aS:look k aE.b with
      |none=>simp only[al,aA.b];cases A.b k<;>simp
      |some y=>
       rcases b5 k (by simp[aS])with h|h
       ·exact absurd h al
       ·have:=lP k h;simp[al,aA.b,this]
    ·simp only[after,cv.do,gQ,sE,pd];by_cases al:(look k s.e).isSome
     ·have:=h5 k al;obtain⟨y,bG⟩:=eK.1 this;simp[al,bG]
     ·cases aS:look k aE.e with
      |none=>simp only[al,aA.e];cases A.e k<;>simp
      |some y=>
       rcases cE k (by simp[aS])with h|h
       ·exact absurd h al
       ·have:=lP k h;simp[al,aA.e,this]
    ·have AK:=eR k aa.1;have lg:=ao.lookNone AK;simp only[after];refine⟨AK.1,fun jP=>?_⟩;rcases nD.1 jP with jP|jP
     ·exact AK.2 jP
     ·rcases nD.1 jP with jP|jP
      ·rcases b5 k (BI jP)with h|h
       ·obtain⟨y,bG⟩:=eK.1 h;have:=(cp k y bG).1;rw[<-aA.b,lg.1]at this;cases this
       ·exact aa.2 h
      ·rcases cE k (BI jP)with h|h
       ·obtain⟨y,bG⟩:=eK.1 h;have:=(c2 k y bG).1;rw[<-aA.e,lg.2]at this;cases this
       ·exact aa.2 h
  ·cases ah
theorem J5{P:bM}{bc:List (Nat×cR)}(aG:fm P bc=true){C:dM}{q:Bool}{n0:Nat}{ops:Array Oper}{g:cm}{o:Oper}{j:Nat}(ai:ops[j]? =some o)(ah:vq C.N bc ops.toList g o=true){A:cv}{x:iJ}(ab:iK P q n0 g A x){a:Act}{w:World}(ao:rM C A a w)
  {K:Act->World->Prop} {Q:Exit->Act->World->Prop} (cN:∀cy w',rM C (A.do x) cy w'->K cy w'):wpOp P ops Q j K a w:=by
 unfold wpOp;rw[ai];simp only;simp only[vq,bE]at ah;obtain⟨j9,tQ⟩:=ah;unfold iK at ab;cases vB:g.g with
 |none=>
  cases dX:o.guard with
  |some x=>simp[dX,vB]at j9
  |none=>
   have hw:ls o (yielded ops a.tmps)=true:=by simp[ls,dX]
   rw[if_pos hw];simp only[vB]at ab;exact .inl (Dn aG tQ ab ao cN)
 |some sY=>
  obtain⟨s,want⟩:=sY;cases dX:o.guard with
  |none=>simp[dX,vB]at j9
  |some Ul=>
   obtain⟨WJ,fu⟩:=Ul;simp only[dX,vB,bE,cD,fY]at j9;obtain⟨⟨⟨⟨rfl,J⟩,ak⟩,aV⟩,bn⟩:=j9;obtain⟨st,ν,aA,eR,cO⟩:=id ao;obtain⟨w1,w2⟩:=JS cO J ak;simp only[vB]at ab;have GH:∀(h:x=je g.i.dst),K (a.put o.dst undef) w:=by
    rintro rfl;rw[aV];refine cN _ _ ⟨_,ν,?_,fun k aa=>?_,cO.put bn (p:= .tuple []) (by simp[aJ,b4,undef])⟩
    ·refine⟨fun i=>?_,fun k=>?_,fun k=>?_⟩
     ·simp only[cv.do,je];cases g.i.dst with
      |none=>simpa[eD]using aA.t i
      |some d=>simp only[eD,mg,dt,aA.t]
     ·simpa[cv.do,gQ,look,je]using aA.b k
     ·simpa[cv.do,gQ,look,je]using aA.e k
    ·exact eR k aa.1
   split at ab
   ·rename_i b af;have bG:=w1 b (by rw[aA.t];exact af);rcases ab with⟨rfl,ab⟩|⟨rfl,ab⟩
    ·have hw:ls o (yielded ops a.tmps)=true:=by simp[ls,dX,bG]
     rw[if_pos hw];exact .inl (Dn aG tQ ab ao cN)
    ·have hw:¬(ls o (yielded ops a.tmps)=true):=by simp[ls,dX,bG]
     rw[bu hw];exact GH ab
   ·rename_i af;have bG:=w2 (by rw[aA.t];exact af);have hw:¬(ls o (yielded ops a.tmps)=true):=by simp[ls,dX,bG]
    rw[bu hw];exact GH ab
   ·exact ab.elim
def qD(P:bM)(q:Bool)(n0:Nat)(K:cv->Prop):List (Nat×cm)->cv->Prop
 |[],A=>K A
 |(_,g)::r,A=> ∃x,iK P q n0 g A x/\qD P q n0 K r (A.do x)
theorem DC{P:bM}{q:Bool}{n0:Nat}{K:cv->Prop}{i:Nat}{g:cm}:∀(k1 lz:List (Nat×cm)) (A:cv),(∀x∈k1,tE x.2 g=true)->qD P q n0 K (k1++(i,g)::lz) A->∃x,iK P q n0 g A x/\qD P q n0 K (k1++lz) (A.do x)
 |[],lz,A,_,h=>h
 |(j,gj)::k1,lz,A,aQ,h=>by simp only[oA,qD]at h;obtain⟨y,bG,h⟩:=h;obtain⟨x,ab,h⟩:=DC k1 lz (A.do y) (fun z dS=>aQ z (List.mem_cons_of_mem _ dS)) h;obtain⟨s1,s2,Cu⟩:=S2 (aQ _ (List.mem_cons_self ..)) bG ab;refine⟨x,s1,y,s2,?_⟩;rw[<-cv.do_comm A Cu];exact h
def rem(listed:Array Bool):Nat->List cm->List (Nat×cm)
 |_,[]=>[]
 |k,g::r=>if listed.getD k false then rem listed (k+1) r else(k,g)::rem listed (k+1) r
theorem Is{l e2:Array Bool}:∀(gs:List cm) (k:Nat),(∀j,k<=j->l.getD j false=e2.getD j false)->rem l k gs=rem e2 k gs
 |[],_,_=>rfl
 |g::r,k,h=>by simp only[rem,h k (c7 _),Is r (k+1) fun j ai=>h j Ω]
theorem xJ{l:Array Bool}{i j:Nat}(h:i<l.size):(l.setIfInBounds i true).getD j false=if i=j then true else l.getD j false:=by
 simp only[Array.getD_eq_getD_getElem?];by_cases e:i=j
 ·subst e;simp[h]
 ·simp[e]
theorem Ci{l:Array Bool}{i:Nat}(aq:i<l.size)(aS:l.getD i false=false):∀(gs:List cm) (k:Nat),k<=i->i<k+gs.length->∃k1 lz g,gs[i-k]? =some g/\rem l k gs=k1++(i,g)::lz/\rem (l.setIfInBounds i true) k gs=k1++lz/\
  ∀x∈k1,gs[x.1-k]? =some x.2/\k<=x.1/\x.1<i/\l.getD x.1 false=false
 |[],k,I,J=>by simp at J;omega
 |g::r,k,I,J=>by
  by_cases e:k=i
  ·subst e;refine⟨[],rem l (k+1) r,g,Ψ,by simp[rem,aS],?_,fun x ab=>by simp at ab⟩;simp only[rem,xJ aq,if_true,List.nil_append];exact Is r (k+1) fun j ai=>by rw[xJ aq,bu Ω]
  ·obtain⟨k1,lz,du,aj,aR,bm,c1⟩:=Ci aq aS r (k+1) Ω (by simp at J;omega);have qR:i-k=(i-(k+1))+1:=Ω
   have jv:(l.setIfInBounds i true).getD k false=l.getD k false:=by rw[xJ aq,bu Ω]
   by_cases aa:l.getD k false=true
   ·refine⟨k1,lz,du,by rw[qR];simpa using aj,by simp only[rem,aa,if_true,aR],by simp only[rem,jv,aa,if_true,bm],fun x ab=>?_⟩;obtain⟨f1,f2,f3,f4⟩:=c1 x ab;refine⟨?_,Ω,f3,f4⟩;have:x.1-k=(x.1-(k+1))+1:=Ω
    rw[this];simpa using f1
   ·have aa:l.getD k false=false:=by simpa using aa
    refine⟨(k,g)::k1,lz,du,by rw[qR];simpa using aj,by simp[rem,aa,aR],by simp[rem,jv,aa,bm],fun x ab=>?_⟩;rcases hT.1 ab with rfl|ab
    ·exact⟨Ψ,c7 _,by simp;omega,aa⟩
    ·obtain⟨f1,f2,f3,f4⟩:=c1 x ab;refine⟨?_,Ω,f3,f4⟩;have:x.1-k=(x.1-(k+1))+1:=Ω
     rw[this];simpa using f1
def qf(acc:List Nat):List Edge->Nat
 |[]=>0
 |e::r=>if Region.binds .any e then(2 ^ e.on)|||(acc.getD e.on 0)|||qf acc r else qf acc r
def oe(acc:List Nat):List Oper->List Nat
 |[]=>acc
 |o::os=>oe (acc++[qf acc o.after.toList]) os
def wJ(m:Nat)(h:cm):Nat->List cm->Bool
 |_,[]=>true
 |i,g::r=>(m.testBit i||tE g h)&&wJ m h (i+1) r
def wv:List cm->List cm->List Nat->Bool
 |_,[],_=>true
 |pre,h::r,m::ms=>wJ m h 0 pre&&wv (pre++[h]) r ms
 |_,_,[]=>false
def vi:Nat->List Oper->Bool
 |_,[]=>true
 |k,o::os=>o.after.toList.all (fun e=> !Region.binds .any e||decide (e.on<k))&&vi (k+1) os
def va(gs:List cm)(ops:List Oper):Bool:=vi 0 ops&&wv [] gs (oe [] ops)
theorem BE{acc:List Nat}{j:Nat}:∀{es:List Edge},(qf acc es).testBit j=true->∃e∈es,Region.binds .any e=true/\(j=e.on\/(acc.getD e.on 0).testBit j=true)
 |[],h=>by simp[qf]at h
 |e::r,h=>by
  simp only[qf]at h;split at h
  ·rename_i af;simp only[Nat.testBit_or,Bool.or_eq_true]at h;rcases h with(h|h)|h
   ·refine⟨e,Ψ,af,.inl ?_⟩;rw[Nat.testBit_two_pow]at h;have bS:e.on=j:=by simpa using h
    exact bS.symm
   ·exact⟨e,Ψ,af,.inr h⟩
   ·obtain⟨gD,I,J⟩:=BE h;exact⟨gD,by simp[I],J⟩
  ·obtain⟨gD,I,J⟩:=BE h;exact⟨gD,by simp[I],J⟩
theorem BF:∀(os:List Oper) (acc:List Nat) (k:Nat),k<acc.length->(oe acc os)[k]? =acc[k]?
 |[],acc,k,_=>rfl
 |o::os,acc,k,h=>by simp only[oe];rw[BF os _ k (by simp;omega),nC h]
theorem Hv:∀(os:List Oper) (acc:List Nat) (k:Nat) (o:Oper),os[k]? =some o->∃pJ,(oe acc os)[acc.length+k]? =some (qf pJ o.after.toList)/\pJ.length=acc.length+k/\∀i,i<pJ.length->pJ[i]? =(oe acc os)[i]?
 |[],acc,k,o,h=>by simp at h
 |o'::os,acc,0,o,h=>by
  simp only[List.getElem?_cons_zero,dt]at h;subst h;refine⟨acc,?_,Ψ,fun i aq=>?_⟩
  ·simp only[oe,Nat.add_zero];rw[BF os _ _ Ψ];simp
  ·simp only[oe];rw[BF os _ i (by simp;omega),nC aq]
 |o'::os,acc,k+1,o,h=>by simp only[List.getElem?_cons_succ]at h;obtain⟨pJ,I,J,ak⟩:=Hv os (acc++[qf acc o'.after.toList]) k o h;refine⟨pJ,?_,by rw[J];simp;omega,fun i aq=>by rw[ak i aq];rfl⟩;simp only[oe];rw[show acc.length+(k+1)=(acc++[qf acc o'.after.toList]).length+k from by simp;omega];exact I
def Dj(ops:Array Oper)(listed:Array Bool):Prop:= ∀k o,ops[k]? =some o->listed.getD k false=true->∀e∈o.after.toList,Region.binds .any e=true->listed.getD e.on false=true
theorem Qs{ops:Array Oper}{listed:Array Bool}(bj:Dj ops listed):∀(k:Nat) (o:Oper),ops[k]? =some o->(∀e∈o.after.toList,Region.binds .any e=true->listed.getD e.on false=true)->∀j,((oe [] ops.toList).getD k 0).testBit j=true->listed.getD j false=true:=by
 intro k;induction k using Nat.strongRecOn with
 |_ k bb=>
  intro o ah aA j ai;obtain⟨pJ,I,J,ak⟩:=Hv ops.toList [] k o (by simpa using ah);simp only[l5,Nat.zero_add]at I J;rw[List.getD_eq_getElem?_getD,I]at ai;obtain⟨e,he,af,ck⟩:=BE ai;rcases ck with rfl|ck
  ·exact aA e he af
  ·by_cases cM:e.on<pJ.length
   ·have hm:pJ.getD e.on 0=(oe [] ops.toList).getD e.on 0:=by rw[List.getD_eq_getElem?_getD,ak _ cM,List.getD_eq_getElem?_getD]
    have aa:k<ops.size:=(Array.getElem?_eq_some_iff.1 ah).1;have gV:ops[e.on]? =some ops[e.on]:=Array.getElem?_eq_getElem Ω;rw[hm]at ck;exact bb e.on Ω _ gV (fun gD OG gf=>bj e.on _ gV (aA e he af) gD OG gf) j ck
   ·rw[List.getD_eq_getElem?_getD,List.getElem?_eq_none Ω]at ck;simp at ck
theorem IL{m:Nat}{h:cm}:∀{gs:List cm} {i0:Nat},wJ m h i0 gs=true->∀i g,gs[i]? =some g->m.testBit (i0+i)=true\/tE g h=true
 |[],i0,_,i,g,aT=>by simp at aT
 |du::r,i0,ao,0,g,aT=>by simp only[wJ,bE,Bool.or_eq_true]at ao;simp only[List.getElem?_cons_zero,dt]at aT;subst aT;simpa using ao.1
 |du::r,i0,ao,i+1,g,aT=>by simp only[wJ,bE]at ao;have:=IL ao.2 i g (by simpa using aT);rwa[show i0+1+i=i0+(i+1)from by omega]at this
theorem HZ:∀{gs pre:List cm} {ms:List Nat},wv pre gs ms=true->∀j h,gs[j]? =some h->∀i g,i<pre.length+j->(pre++gs)[i]? =some g->(ms.getD j 0).testBit i=true\/tE g h=true
 |[],pre,ms,_,j,h,ai,_,_,_,_=>by simp at ai
 |bS::r,pre,[],bB,j,h,ai,_,_,_,_=>by simp[wv]at bB
 |bS::r,pre,m::ms,bB,j,h,ai,i,g,aq,aT=>by
  simp only[wv,bE]at bB;cases j with
  |zero=>simp only[List.getElem?_cons_zero,dt]at ai;subst ai;rw[nC Ω]at aT;simpa using IL bB.1 i g aT
  |succ j=>have:=HZ bB.2 j h (by simpa using ai) i g (by simp;omega) (by simpa using aT);simpa using this
theorem E2:∀{os:List Oper} {k:Nat},vi k os=true->∀i o,os[i]? =some o->∀e∈o.after.toList,Region.binds .any e=true->e.on<k+i
 |[],k,_,i,o,ah,_,_,_=>by simp at ah
 |o'::os,k,h,0,o,ah,e,he,af=>by simp only[vi,bE,kZ]at h;simp only[List.getElem?_cons_zero,dt]at ah;subst ah;have:=h.1 e he;simpa[af]using this
 |o'::os,k,h,i+1,o,ah,e,he,af=>by simp only[vi,bE]at h;have:=E2 h.2 i o (by simpa using ah) e he af;omega
theorem FV{N:Nat}{bc:List (Nat×cR)}{ops:List Oper}:∀{gs:List cm} {os:List Oper},iv N bc ops gs os=true->∀(i:Nat) (g:cm),gs[i]? =some g->∃o,os[i]? =some o/\vq N bc ops g o=true
 |[],[],_,i,g,h=>by simp at h
 |[],_::_,h,_,_,_=>by simp[iv]at h
 |_::_,[],h,_,_,_=>by simp[iv]at h
 |du::gs,o::os,h,0,g,aT=>by simp only[iv,bE]at h;simp only[List.getElem?_cons_zero,dt]at aT;subst aT;exact⟨o,Ψ,h.1⟩
 |du::gs,o::os,h,i+1,g,aT=>by simp only[iv,bE]at h;obtain⟨o',I,J⟩:=FV h.2 i g (by simpa using aT);exact⟨o',by simpa using I,J⟩
theorem Av{N:Nat}{bc:List (Nat×cR)}{ops:List Oper}:∀{gs:List cm} {os:List Oper},iv N bc ops gs os=true->gs.length=os.length
 |[],[],_=>rfl
 |[],_::_,h=>by simp[iv]at h
 |_::_,[],h=>by simp[iv]at h
 |g::gs,o::os,h=>by simp only[iv,bE]at h;simp[Av h.2]
theorem It{l:Array Bool}:∀(gs:List cm) (k:Nat),rem l k gs=[]\/ ∃i g,i<gs.length/\gs[i]? =some g/\l.getD (k+i) false=false/\∀j,j<i->l.getD (k+j) false=true
 |[],_=>.inl rfl
 |g::r,k=>by
  by_cases h:l.getD k false=true
  ·rcases It (l:=l) r (k+1)with I|⟨i,du,I,J,ak,aV⟩
   ·left;simp only[rem,h,if_true,I]
   ·refine .inr ⟨i+1,du,by simp;omega,by simpa using J,by rw[show k+(i+1)=k+1+i from by omega];exact ak,fun j ai=>?_⟩;cases j with
    |zero=>simpa using h
    |succ j=>rw[show k+(j+1)=k+1+j from by omega];exact aV j Ω
  ·exact .inr ⟨0,g,Ψ,Ψ,by simpa using h,fun j ai=>Ω⟩
theorem Ke{P:bM}{bc:List (Nat×cR)}(aG:fm P bc=true){C:dM}{q:Bool}{n0:Nat}{ops:Array Oper}{gs:List cm}(ix:iv C.N bc ops.toList gs ops.toList=true)(xT:va gs ops.toList=true){K:cv->Prop}{Q:Exit->Act->World->Prop}
  (tH:∀A a w,K A->rM C A a w->Q .normal a w):∀(fuel:Nat) (listed:Array Bool) (A:cv) (a:Act) (w:World),listed.size=ops.size->Dj ops listed->(rem listed 0 gs).length<=fuel->qD P q n0 K (rem listed 0 gs) A->rM C A a w->wpAny P .any ops Q fuel listed a w:=by
 simp only[va,bE]at xT;obtain⟨Ay,Pj⟩:=xT;have hlen:gs.length=ops.size:=by simpa using Av ix
 have Gf:∀(listed:Array Bool) (A:cv) (a:Act) (w:World),listed.size=ops.size->qD P q n0 K (rem listed 0 gs) A->rM C A a w->Region.ready .any ops listed=[]->Q .normal a w:=by
  intro listed A a w dR oY ao yb;rcases It (l:=listed) gs 0 with h|⟨i,g,I,J,ak,aV⟩
  ·rw[h]at oY;exact tH A a w oY ao
  ·exfalso;have aq:i<ops.size:=Ω
   have jP:i∈Region.ready .any ops listed:=by
    unfold Region.ready;simp only[List.mem_filter,List.mem_range,bE,Bool.not_eq_true'];refine⟨aq,?_,?_⟩
    ·rw[Nat.zero_add]at ak;simp only[Array.getD_eq_getD_getElem?]at ak⊢;rw[Array.getElem?_eq_getElem Ω]at ak⊢;simpa using ak
    ·rw[Array.getElem?_eq_getElem aq];simp only[Option.map_some,Option.getD_some];rw[<-Array.all_toList,kZ];intro e he;by_cases af:Region.binds .any e=true
     ·have cM:=E2 Ay i ops[i] (by simp[aq]) e he af;have:=aV e.on Ω;rw[Nat.zero_add]at this;simp[this]
     ·simp[af]
   rw[yb]at jP;simp at jP
 intro fuel;induction fuel with
 |zero=>
  intro listed A a w dR bj av oY ao;have Pf:rem listed 0 gs=[]:=pE Ω;have yb:Region.ready .any ops listed=[]:=by
   rw[List.eq_nil_iff_forall_not_mem];intro i aq;unfold Region.ready at aq;simp only[List.mem_filter,List.mem_range,bE,Bool.not_eq_true']at aq;obtain⟨I,J,_⟩:=aq;have aS:listed.getD i false=false:=by simp only[Array.getD_eq_getD_getElem?]at J⊢;rw[Array.getElem?_eq_getElem Ω]at J⊢;simpa using J
   obtain⟨k1,lz,g,_,aR,_⟩:=Ci Ω aS gs 0 Ω Ω;rw[Pf]at aR;simp at aR
  exact⟨yb,Gf listed A a w dR oY ao yb⟩
 |succ fuel bb=>
  intro listed A a w dR bj av oY ao;refine⟨Gf listed A a w dR oY ao,fun i aq=>?_⟩;unfold Region.ready at aq;simp only[List.mem_filter,List.mem_range,bE,Bool.not_eq_true']at aq;obtain⟨I,J,ak⟩:=aq;have aS:listed.getD i false=false:=by simp only[Array.getD_eq_getD_getElem?]at J⊢;rw[Array.getElem?_eq_getElem Ω]at J⊢;simpa using J
  have ah:ops[i]? =some ops[i]:=Array.getElem?_eq_getElem I;have Gg:∀e∈ops[i].after.toList,Region.binds .any e=true->listed.getD e.on false=true:=by rw[ah]at ak;simp only[Option.map_some,Option.getD_some]at ak;rw[<-Array.all_toList,kZ]at ak;intro e he af;simpa[af]using ak e he
  obtain⟨k1,lz,g,aj,aR,bm,c1⟩:=Ci Ω aS gs 0 Ω Ω;simp only[Nat.sub_zero]at aj c1;rw[aR]at oY;obtain⟨x,ab,Ot⟩:=DC k1 lz A (fun y bG=>by
   obtain⟨f1,f2,f3,f4⟩:=c1 y bG;rcases HZ Pj i g aj y.1 y.2 (by simpa using f3) (by simpa using f1)with h|h
   ·have:=Qs bj i ops[i] ah Gg y.1 h;rw[f4]at this;cases this
   ·exact h) oY
  obtain⟨o',g1,g2⟩:=FV ix i g aj;have:o'=ops[i]:=by rw[Array.getElem?_toList,ah]at g1;exact(fo g1).symm
  subst this;refine J5 aG ah g2 ab ao fun cy w' cO=>?_;refine bb (listed.setIfInBounds i true) (A.do x) cy w' (by simpa using dR) ?_ ?_ (by rw[bm];exact Ot) cO
  ·intro k o aa aA e he af;rw[xJ Ω]at aA⊢;split
   ·rfl
   ·by_cases qR:i=k
    ·subst qR;rw[ah]at aa;cases aa;exact Gg e he af
    ·rw[bu qR]at aA;exact bj k o aa aA e he af
  ·rw[bm];rw[aR]at av;simp at av⊢;omega
def r0(n0 d:Nat)(st:a6):Prop:= .loc (n0+d)∉st.o/\look (.loc (n0+d)) st.b=none/\look (.loc (n0+d)) st.e=none
def eV.loadO(q:Bool)(t:List (Nat×ae)):eV->Prop
 | .load _ _ x=>q=true\/sA (bA t x)=true
 | .loadB _ _ _=>True
 | .mgetB _ _ _ _ _=>True
 | .mget _ _ _ _ _=>q=true
 | .ment _=>q=true
 | .mlen _=>q=true
 |_=>True
def jo(q:Bool)(nw:List Nat)(n0:Nat)(st:a6):df->Prop
 | .v _ i=>i.loadO q st.t
 | .box d none _=>r0 n0 d st
 | .alloc d none _=>r0 n0 d st
 | .box _ (some _) _=>dz
 | .alloc _ (some _) _=>dz
 | .store _ x _=>match bA st.t x with| .ptr _ _=>True|_=>dz
 | .bslm _ _ _ _ _=>dz
 | .mks _ _ _ _ _ _=>dz
 | .apps _ _ _ _=>dz
 | .appm _ _ _ _ x _=>match bA st.t x with| .row _ _ _=>True|_=>dz
 | .storeE _ _ _=>True
 | .mkmap _ none=>dz
 | .mkmap _ (some m)=>m∈nw/\look (.obj m) st.b=none/\look (.obj m) st.e=none
 | .mput _ _ _ _=>True
 | .range _ _ _=>dz
 | .bsl d _ _ _=>r0 n0 d st
 | .app d _ _ x _=>match bA st.t x with
  | .slice _ .nil _=>r0 n0 d st
  | .slice _ (.own k) _=>(look k st.e).bind (·.xs)=none
  |_=>True
def lF(n0:Nat):df->aw
 | .mkmap _ (some m)=>.obj m
 | .v d _| .box d _ _| .alloc d _ _| .bsl d _ _ _| .app d _ _ _ _| .bslm d _ _ _ _| .appm d _ _ _ _ _| .mkmap d _| .range d _ _| .mks d _ _ _ _ _| .apps d _ _ _=>.loc (n0+d)
 | .store _ _ _| .mput _ _ _ _| .storeE _ _ _=>.loc n0
def Qb(nw:List Nat)(st:a6)(s aE:dH)(rm:bf aw):Prop:=(∀k,(look k aE.b).isSome->(look k s.b).isSome\/rm=some k)/\(∀k,(look k aE.e).isSome->(look k s.e).isSome\/rm=some k)/\(∀k,(look k s.b).isSome->(look k aE.b).isSome)/\(∀k,(look k s.e).isSome->(look k aE.e).isSome)/\
 (∀k,rm=some k->(∃j,j∈nw/\k= .obj j)/\look k st.b=none/\look k st.e=none/\((look k aE.b).isSome\/(look k aE.e).isSome))
def lu(P:bM)(q:Bool)(nw:List Nat)(n:Nat)(args:List ae)(st:a6)(d:bf Nat)(K:a6->Prop):Prop:=
 (∃e3 r,d=some e3/\r0 st.n e3 st/\aB (fun _=>dz) args/\zt P n (st.n+e3) args ⟨[],[]⟩ (fun fK ek=>fK=r/\ek=⟨[],[]⟩)/\K {st with t:=put e3 r st.t,o:= .loc (st.n+e3)::st.o})\/
 ∃s aE r rm,mI (aK s) s.b st.b/\mJ (aK s) s.e st.e/\hP s/\hP aE/\Qb nw st s aE rm/\aB (aK s) args/\dP P n args s (fun fK ek=>fK=r/\ek=aE)/\(q=true->aE.b=[]/\aE.e=[])/\K {after st s aE d r with o:=st.o}
def hX(P:bM)(q:Bool)(nw:List Nat)(n0:Nat)(st:a6)(K:a6->Prop):ds->Prop
 | .s i=>match dx (lF n0 i) st.n (lF n0 i::st.o) st i with
  |some (c,st')=>jo q nw n0 st i/\c/\K st'
  |none=>dz
 | .call d f xs=>match bA st.t f with
  | .func n cY=>lu P q nw n (cd (xs.map (bA st.t)++cY)) st d K
  |_=>dz
 | .next _ _=>dz
 | .opn _ _ _=>dz
def gv(P:bM)(q:Bool)(nw:List Nat)(n0:Nat):List cm->a6->(a6->Prop)->Prop
 |[],st,K=>K st
 |⟨none,i⟩::r,st,K=>hX P q nw n0 st (fun st'=>gv P q nw n0 r st' K) i
 |⟨some (s,want),i⟩::r,st,K=>match get s st.t with
  | .bool b=>(b=want->hX P q nw n0 {st with t:=put s (.bool want) st.t} (fun st'=>gv P q nw n0 r st' K) i)/\(b= !want->gv P q nw n0 r {st with t:=eD i.dst (.tuple []) (put s (.bool !want) st.t)} K)
  | .tuple []=>gv P q nw n0 r {st with t:=eD i.dst (.tuple []) st.t} K
  |_=>dz
structure oD (nw:List Nat) (n0 N:Nat) (kD:List aw) (st:a6) (A:cv):Prop where
 like:jj st A
 n:st.n=n0
 F:∀k,fresh n0 st.o k->(∀j∈nw,k≠ .obj j)->A.F k
 o:∀k∈st.o,k∈kD\/(∃d,d<N/\k= .loc (n0+d))\/ ∃j∈nw,k= .obj j
def u2(nw:List Nat)(A:cv):Prop:= ∀j∈nw,A.b (.obj j)=none->A.e (.obj j)=none->A.F (.obj j)
theorem u2.do{P:bM}{q:Bool}{n0:Nat}{nw:List Nat}{A:cv}(h:u2 nw A){g:cm}{x:iJ}(ab:iK P q n0 g A x):u2 nw (A.do x):=by
 intro j ai af he;refine⟨h j ai (zY af) (zZ he),fun pQ=>?_⟩;rcases(CV ab).r _ pQ with⟨d,_,e⟩|⟨_,_,al⟩
 ·cases e
 ·rcases al with al|al
  ·obtain⟨y,bG⟩:=eK.1 al;simp[cv.do,gQ,bG]at af
  ·obtain⟨y,bG⟩:=eK.1 al;simp[cv.do,gQ,bG]at he
theorem E9{P:bM}{q:Bool}{nw:List Nat}{n0 N:Nat}{kD:List aw}{i:ds}(bj:∀d,i.dst=some d->d<N){st:a6}{A:cv}(h:oD nw n0 N kD st A)(gR:u2 nw A){K:a6->Prop}(he:hX P q nw n0 st K i):∃x st',de P q n0 i A x/\K st'/\oD nw n0 N kD st' (A.do x):=by
 have aA:=h.like;have si:∀d,r0 n0 d st->(A.F (.loc (n0+d))/\A.b (.loc (n0+d))=none/\A.e (.loc (n0+d))=none):=fun d av=>⟨h.F _ ⟨Ψ,av.1⟩ (fun _ _ e=>by cases e),by rw[<-aA.b];exact av.2.1,by rw[<-aA.e];exact av.2.2⟩;have mi:∀(d:bf Nat) (p:ae) (bw:List (aw×List ae)) (ew:List (aw×da)) (κ:aw),∀k,fresh n0 (κ::st.o) k->(∀j∈nw,k≠ .obj j)->(A.do ⟨d,p,bw,ew,some κ⟩).F k:=fun d p bw ew κ k aa ai=>⟨h.F k (qH k aa).1 ai,fun e=>(qH k aa).2 (fo e).symm⟩;have r6:∀(d:bf Nat) (p:ae) (bw:List (aw×List ae)) (ew:List (aw×da)),∀k,fresh n0 st.o k->(∀j∈nw,k≠ .obj j)->(A.do ⟨d,p,bw,ew,none⟩).F k:=fun d p bw ew k aa ai=>⟨h.F k aa ai,Ψ⟩;have vL:∀d,d<N->∀k∈aw.loc (n0+d)::st.o,k∈kD\/(∃d,d<N/\k= .loc (n0+d))\/ ∃j∈nw,k= .obj j:=fun d bj k aa=>by
  rcases hT.1 aa with rfl|aa
  ·exact .inr (.inl ⟨d,bj,rfl⟩)
  ·exact h.o k aa
 cases i with
 |s i=>
  cases i with
  |v d i=>
   simp only[hX,dx]at he;cases ba:fx st i with
   |none=>simp[ba]at he
   |some Li=>
    obtain⟨c,p⟩:=Li;simp only[ba]at he;obtain⟨I,J,ak⟩:=he;refine⟨⟨some d,p,[],[],none⟩,_,⟨c,p,by rw[<-Jt aA];exact ba,J,fun kQ=>?_,rfl⟩,ak,Bx aA d p,h.n,r6 _ _ _ _,h.o⟩;cases i<;>simp only[eV.isLoad]at kQ<;>try(cases kQ;done)
    case mget=>exact .inr (.inl I)
    case ment=>exact .inr (.inl I)
    case mlen=>exact .inr (.inl I)
    case loadB=>exact .inl rfl
    case mgetB=>exact .inl rfl
    simp only[jo,eV.loadO,hd aA]at I;exact .inr (by simpa only[eV.ptrOf]using I)
  |box d key v=>
   cases key with
   |some m=>simp only[hX,dx,jo,false_and]at he
   |none=>simp only[hX,dx,jo,lF]at he;obtain⟨I,J,ak⟩:=he;rw[hd aA]at J;refine⟨_,_,⟨si d I,J,rfl⟩,ak,?_,h.n,mi _ _ _ _ _,vL d (bj d rfl)⟩;rw[hd aA];exact uj aA d _ _ _ _ _ _
  |alloc d key z=>
   cases key with
   |some m=>simp only[hX,dx,jo,false_and]at he
   |none=>simp only[hX,dx,jo,lF]at he;obtain⟨I,J,ak⟩:=he;exact⟨_,_,⟨si d I,rfl⟩,ak,uj aA d _ _ _ _ _ _,h.n,mi _ _ _ _ _,vL d (bj d rfl)⟩
  |store sz u v=>
   simp only[hX,dx]at he;cases hu:bA st.t u with
   |ptr k off=>
    cases af:look k st.b with
    |none=>simp[hu,af]at he
    |some cs=>simp only[hu,af]at he;obtain⟨I,J,ak⟩:=he;rw[hd aA]at J hu;refine⟨⟨none,.junk,[(k,lq cs off (cells (cF A.t v)))],[],none⟩,_,⟨k,off,cs,hu,by rw[<-aA.b];exact af,J,rfl⟩,ak,?_,h.n,r6 _ _ _ _,h.o⟩;rw[hd aA];exact yw aA k _ _
   |_=>
    exfalso;simp only[hu]at he;split at he
    ·have:=he.1;simp[jo,hu]at this
    ·exact he
  |bsl d sz el xs=>simp only[hX,dx,jo,lF]at he;obtain⟨I,J,ak⟩:=he;rw[pT aA]at J;refine⟨_,_,⟨si d I,J,rfl⟩,ak,?_,h.n,mi _ _ _ _ _,vL d (bj d rfl)⟩;rw[pT aA];exact rb aA d _ _ _ _ _ _
  |app d sz el u v=>
   simp only[hX,dx]at he;cases hu:bA st.t u with
   |slice cJ tag xs=>
    cases ba:bA st.t v with
    |slice hs iT ys=>
     simp only[hu,ba]at he;by_cases ep:cJ=sz/\hs=sz
     ·obtain⟨rfl,rfl⟩:=ep;rw[hd aA]at hu ba;cases tag with
      |no=>simp at he
      |tr k j=>simp at he
      |lo k=>simp at he
      |nil=>simp only[and_self,if_true,jo,hd aA,hu,lF]at he;obtain⟨I,J,ak⟩:=he;exact⟨_,_,⟨.nil,xs,iT,ys,hu,ba,.inr ⟨rfl,J,si d I,rfl⟩⟩,ak,rb aA d _ _ _ _ _ _,h.n,mi _ _ _ _ _,vL d (bj d rfl)⟩
      |own k=>
       cases aa:look k st.e with
       |none=>simp[aa]at he
       |some o=>simp only[and_self,if_true,aa]at he;obtain⟨I,J,ak⟩:=he;exact⟨_,_,⟨.own k,xs,iT,ys,hu,ba,.inl ⟨k,o,rfl,by rw[<-aA.e];exact aa,⟨by simpa[jo,hd aA,hu,aa]using I,J⟩,rfl⟩⟩,ak,rb aA d _ _ _ _ _ _,h.n,r6 _ _ _ _,h.o⟩
     ·simp[ep]at he
    |_=>simp[hu,ba]at he
   |_=>simp[hu]at he
  |bslm d key sz el xs=>simp only[hX,dx,jo,false_and]at he
  |mks d key sz el z x=>simp only[hX,dx,jo,false_and]at he;split at he<;>simp at he
  |apps d el x y=>simp only[hX,dx,jo,false_and]at he;split at he<;>simp at he
  |appm d key sz el u v=>
   simp only[hX,dx]at he;cases hu:bA st.t u with
   |row cJ k n=>
    cases ba:bA st.t v with
    |slice hs iT ys=>
     simp only[hu,ba,oN]at he;by_cases ep:cJ=sz/\hs=sz
     ·obtain⟨rfl,rfl⟩:=ep;rw[hd aA]at hu ba;simp only[and_self,if_true]at he;cases aa:look k st.e with
      |none=>simp[aa]at he
      |some o=>
       obtain⟨n',dU,rB,B5⟩:=o;cases B5 with
       |none=>simp[aa]at he
       |some xs=>
        simp only[aa]at he;by_cases nV:n'=n/\dU=el/\rB=hs
        ·obtain⟨rfl,rfl,rfl⟩:=nV;simp only[and_self,if_true]at he;obtain⟨I,J,ak⟩:=he;exact⟨_,_,⟨k,n',xs,iT,ys,hu,ba,by rw[<-aA.e];exact aa,J,rfl⟩,ak,rb aA d _ _ _ _ _ _,h.n,r6 _ _ _ _,h.o⟩
        ·simp[nV]at he
     ·simp[ep]at he
    |_=>simp[hu,ba,oN]at he
   |slice cJ tag xs=>
    exfalso;simp only[hu]at he;split at he
    ·have:=he.1;simp[jo,hu]at this
    ·exact he
   |_=>simp[hu,oN]at he
  |storeE sz u v=>
   simp only[hX,dx]at he;cases hu:bA st.t u with
   |rptr cJ k n i f=>
    cases aa:look k st.e with
    |none=>simp[hu,nx,aa]at he
    |some o=>
     obtain⟨n',el,rB,B5⟩:=o;cases B5 with
     |none=>simp[hu,nx,aa]at he
     |some xs=>
      simp only[hu,nx,aa]at he;by_cases nV:n'=n/\rB=cJ
      ·obtain⟨rfl,rfl⟩:=nV;simp only[and_self,if_true]at he;cases bP:xs[i]? with
       |none=>simp[bP]at he
       |some q=>simp only[bP]at he;obtain⟨I,J,ak⟩:=he;rw[hd aA]at J hu;refine⟨⟨none,.junk,[],[(k,⟨n',el,rB,some (xs.set i (lX q f (cells (cF A.t v))))⟩)],none⟩,_,⟨k,n',i,f,el,rB,xs,q,hu,by rw[<-aA.e];exact aa,bP,J,rfl⟩,ak,?_,h.n,r6 _ _ _ _,h.o⟩;rw[hd aA];exact Hq aA k _ _
      ·simp[nV]at he
   |_=>simp[hu,nx]at he
  |mkmap d key=>
   cases key with
   |none=>simp only[hX,dx,jo,false_and]at he
   |some m=>
    simp only[hX,dx,jo,lF]at he;obtain⟨⟨a1,I,J⟩,_,ak⟩:=he;rw[aA.b]at I;rw[aA.e]at J;refine⟨_,_,⟨⟨gR m a1 I J,I,J⟩,rfl⟩,ak,uj aA d _ _ _ _ _ _,h.n,mi _ _ _ _ _,fun k aa=>?_⟩;rcases hT.1 aa with rfl|aa
    ·exact .inr (.inr ⟨m,a1,rfl⟩)
    ·exact h.o k aa
  |mput bO u k v=>
   simp only[hX,dx,jo]at he;cases hu:bA st.t u with
   |gmap m=>
    cases af:look m st.b with
    |none=>simp[hu,af]at he
    |some cs=>
     cases hm:qg bO (bA st.t k) (bA st.t v) cs with
     |none=>simp[hu,af,hm]at he
     |some cs'=>simp only[hu,af,hm]at he;rw[hd aA]at hu;rw[hd aA,hd aA]at hm;exact⟨⟨none,.junk,[(m,cs')],[],none⟩,_,⟨m,cs,cs',hu,by rw[<-aA.b];exact af,hm,rfl⟩,he.2.2,yw aA m _ _,h.n,r6 _ _ _ _,h.o⟩
   |_=>simp[hu]at he
  |range d key x=>simp only[hX,jo,false_and]at he;split at he<;>exact he.elim
 |next d x=>simp only[hX]at he
 |opn d f x=>simp only[hX]at he
 |call d f xs=>
  simp only[hX]at he;cases av:bA st.t f with
  |func n cY=>
   simp only[av]at he;rw[hd aA]at av;rcases he with⟨e3,r,rfl,cp,c2,c3,c4⟩|⟨s,aE,r,rm,cp,c2,c3,c4,c5,hp,lD,Ko,c9⟩
   ·rw[pT aA]at c2 c3;have aS:=h.n;subst aS;refine⟨⟨some e3,r,[],[],some (.loc (st.n+e3))⟩,_,⟨n,cY,av,.inr ⟨e3,r,rfl,si e3 cp,c2,c3,rfl⟩⟩,c4,Hr aA e3 r _ _,rfl,mi _ _ _ _ _,vL e3 (bj e3 rfl)⟩
   rw[pT aA]at hp lD;obtain⟨b5,cE,fA,h5,lP⟩:=c5;refine⟨⟨d,r,aE.b,aE.e,rm⟩,_,⟨n,cY,av,.inl ⟨⟨s,aE,r,rm,fun k cs aa=>⟨by rw[<-aA.b];exact(cp k cs aa).1,(cp k cs aa).2.2⟩,fun k o aa=>⟨by rw[<-aA.e];exact(c2 k o aa).1,(c2 k o aa).2.2⟩,c3,c4,⟨b5,cE,fA,h5,fun k aa=>?_⟩,hp,lD,rfl⟩,Ko⟩⟩,c9,⟨fun i=>?_,fun k=>?_,fun k=>?_⟩,h.n,fun k aa ai=>⟨h.F k aa ai,fun pQ=>?_⟩,h.o⟩
   ·obtain⟨⟨j,ai,rfl⟩,aR,bm,c1⟩:=lP k aa;rw[aA.b]at aR;rw[aA.e]at bm;exact⟨⟨j,rfl⟩,gR j ai aR bm,aR,bm,c1⟩
   ·simp only[after,cv.do];cases d with
    |none=>simpa[eD]using aA.t i
    |some d=>simp only[eD,mg,dt,aA.t]
   ·simp only[after,cv.do,gQ,sE,pd];by_cases al:(look k s.b).isSome
    ·have:=fA k al;obtain⟨y,bG⟩:=eK.1 this;simp[al,bG]
    ·cases aS:look k aE.b with
     |none=>simp only[al,aA.b];cases A.b k<;>simp
     |some y=>
      rcases b5 k (by simp[aS])with h|h
      ·exact absurd h al
      ·have:=lP k h;simp[al,this]
   ·simp only[after,cv.do,gQ,sE,pd];by_cases al:(look k s.e).isSome
    ·have:=h5 k al;obtain⟨y,bG⟩:=eK.1 this;simp[al,bG]
    ·cases aS:look k aE.e with
     |none=>simp only[al,aA.e];cases A.e k<;>simp
     |some y=>
      rcases cE k (by simp[aS])with h|h
      ·exact absurd h al
      ·have:=lP k h;simp[al,this]
   ·obtain⟨⟨j,kO,rfl⟩,_⟩:=lP k pQ;exact ai j kO rfl
  |_=>simp[av]at he
def tx(N:Nat):List cm->Bool
 |[]=>true
 |g::r=>gu N g.i.dst&&tx N r
def s9:Nat->List cm->List (Nat×cm)
 |_,[]=>[]
 |k,g::r=>(k,g)::s9 (k+1) r
theorem Dt{nw:List Nat}{n0 N:Nat}{kD:List aw}{st:a6}{A:cv}(h:oD nw n0 N kD st A){s:Nat}{p:ae}(al:get s st.t=p):oD nw n0 N kD {st with t:=put s p st.t} A:=by
 refine⟨⟨fun i=>?_,h.like.b,h.like.e⟩,h.n,h.F,h.o⟩;simp only[mg];split
 ·rename_i e;subst e;rw[<-al];exact h.like.t _
 ·exact h.like.t i
theorem Du{nw:List Nat}{n0 N:Nat}{kD:List aw}{st:a6}{A:cv}(h:oD nw n0 N kD st A)(d:bf Nat):oD nw n0 N kD {st with t:=eD d (.tuple []) st.t} (A.do (je d)):=by
 refine⟨⟨fun i=>?_,fun k=>?_,fun k=>?_⟩,h.n,fun k aa ai=>⟨h.F k aa ai,by simp[je]⟩,h.o⟩
 ·simp only[cv.do,je];cases d with
  |none=>simpa[eD]using h.like.t i
  |some d=>simp only[eD,mg,dt,h.like.t]
 ·simpa[cv.do,gQ,look,je]using h.like.b k
 ·simpa[cv.do,gQ,look,je]using h.like.e k
theorem vj{P:bM}{q:Bool}{nw:List Nat}{n0 N:Nat}{kD:List aw}{K:a6->Prop}:∀(gs:List cm) (k:Nat),tx N gs=true->∀(st:a6) (A:cv),oD nw n0 N kD st A->u2 nw A->gv P q nw n0 gs st K->qD P q n0 (fun A'=> ∃st',K st'/\oD nw n0 N kD st' A') (s9 k gs) A
 |[],k,_,st,A,h,_,he=>⟨st,he,h⟩
 |⟨As,i⟩::r,k,bj,st,A,h,gR,he=>by
  simp only[tx,bE]at bj;have o1:∀d,i.dst=some d->d<N:=fun d e=>by have:=bj.1;rw[e]at this;simpa[gu]using this
  simp only[s9,qD];cases As with
  |none=>simp only[gv]at he;obtain⟨x,st',I,J,ak⟩:=E9 o1 h gR he;have aT:iK P q n0 ⟨none,i⟩ A x:=I;exact⟨x,aT,vj r (k+1) bj.2 st' _ ak (gR.do aT) J⟩
  |some sY=>
   obtain⟨s,want⟩:=sY;simp only[gv]at he;split at he
   ·rename_i b af;by_cases e:b=want
    ·subst e;obtain⟨x,st',I,J,ak⟩:=E9 o1 (Dt h af) gR (he.1 rfl);have aT:iK P q n0 ⟨some (s,b),i⟩ A x:=by unfold iK;simp only[<-h.like.t,af];exact .inl ⟨trivial,I⟩
     exact⟨x,aT,vj r (k+1) bj.2 st' _ ak (gR.do aT) J⟩
    ·have gf:b= !want:=by cases b<;>cases want<;>simp at e⊢
     subst gf;have aT:iK P q n0 ⟨some (s,want),i⟩ A (je i.dst):=by unfold iK;simp only[<-h.like.t,af];exact .inr ⟨trivial,trivial⟩
     exact⟨je i.dst,aT,vj r (k+1) bj.2 _ _ (Du (Dt h af) i.dst) (gR.do aT) (he.2 rfl)⟩
   ·rename_i af;have aT:iK P q n0 ⟨some (s,want),i⟩ A (je i.dst):=by unfold iK;simp only[<-h.like.t,af]
    exact⟨je i.dst,aT,vj r (k+1) bj.2 _ _ (Du h i.dst) (gR.do aT) he⟩
   ·exact he.elim
theorem Ch:∀(gs:List cm) (l:Array Bool) (k:Nat),(∀j,l.getD j false=false)->rem l k gs=s9 k gs
 |[],_,_,_=>rfl
 |g::r,l,k,h=>by simp only[rem,h k,s9,Ch r l (k+1) h];simp
def pF(n:Nat)(o:List aw)(K:a6->Prop)(st:a6):Prop:=K {st with n:=n,o:=o}
theorem Good.like{pr:Nat->Prop}{w:World}{ν:aM}{b fu:List (aw×List ae)}{e gD:List (aw×da)}(h:Good pr w ν b e)(af:∀k,look k fu=look k b)(he:∀k,look k gD=look k e):Good pr w ν fu gD:=
 ⟨h.alt,fun k cs aa=>h.box k cs (by rw[<-af];exact aa),fun k be bl I J=>h.inj k be bl (by rw[<-af];exact I) (by rw[<-af];exact J),fun g o aT=>h.own g o (by rw[<-he];exact aT),
  fun g du n n' v v' bl I J=>h.oinj g du n n' v v' bl (by rw[<-he];exact I) (by rw[<-he];exact J),fun g k n v bl I J=>h.obx g k n v bl (by rw[<-he];exact I) (by rw[<-af];exact J),h.one,
  fun bl aG=>h.otr bl (aG.imp (fun⟨k,bQ,a2⟩=>⟨k,by rw[<-af];exact bQ,a2⟩) (fun⟨g,n,v,bQ,a2⟩=>⟨g,n,v,by rw[<-he];exact bQ,a2⟩))⟩
theorem Fb{P:bM}(hm:P.follows .mixedOrders=true){bc:List (Nat×cR)}(aG:fm P bc=true){C:dM}{q:Bool}{nw:List Nat}{id:Nat}{ops:Array Oper}{gs:List cm}(ix:iv C.N bc ops.toList gs ops.toList=true)(xT:va gs ops.toList=true)(gx:tx C.N gs=true)
  {K:a6->Prop} {Q:Exit->Act->World->Prop} (tH:∀st' cy w' ν',K st'->bX C st' cy w' ν'->Q .normal cy w') {st:a6} {a:Act} {w:World} {ν:aM} (Ph:∀j∈nw,.obj j∉st.o) (he:gv P q nw st.n gs st (pF (st.n+C.N) (nw.map aw.obj++st.o) K)) (ao:bX C st a w ν):(Code.region id ops true).wp P Q a w:=by
 refine wp_region_any hm ?_;have cO:bX C st a {w with drawn:=w.drawn+1} ν:=ao.drawn _;let A:cv:=⟨fun i=>get i st.t,fun k=>look k st.b,fun k=>look k st.e,fresh st.n st.o⟩
 have jt:oD nw st.n C.N st.o st A:=⟨⟨fun _=>rfl,fun _=>rfl,fun _=>rfl⟩,rfl,fun k aa _=>aa,fun k aa=>.inl aa⟩;have oY:=vj gs 0 gx st A jt (fun j ai _ _=>⟨trivial,Ph j ai⟩) he;have lg:∀j,(Array.replicate ops.size false).getD j false=false:=fun j=>by simp[Array.getD_eq_getD_getElem?,Array.getElem?_replicate];split<;>rfl
 refine Ke aG ix xT (q:=q) (n0:=st.n) (K:=fun A'=> ∃st',pF (st.n+C.N) (nw.map aw.obj++st.o) K st'/\oD nw st.n C.N st.o st' A') ?_ ops.size _ A a _ Ψ ?_ ?_ (by rw[Ch gs _ 0 lg];exact oY) ⟨st,ν,jt.like,fun k aa=>aa,cO⟩
 ·rintro A' cy w' ⟨st',aa,bU⟩ ⟨Yf,ν',et,Oa,mr⟩;refine tH _ cy w' ν' aa ⟨mr.good.like (fun k=>by rw[et.b,<-bU.like.b]) (fun k=>by rw[et.e,<-bU.like.e]),mr.fr,mr.defers,mr.size,fun i=>?_,fun k tU=>?_,mr.ext,fun m hm av=>cO.obk m hm (r1 (Nat.le_add_right _ _) (fun _ h=>List.mem_append_right _ h) av)⟩
  ·have:=mr.slot i;rw[et.t,<-bU.like.t]at this;exact this
  ·refine mr.new k (Oa k (bU.F k ?_ fun j ai e=>tU.2 (by subst e;exact nE _ (List.mem_map_of_mem ai))));simp only at tU;refine⟨(r1 (Nat.le_add_right st.n C.N) (fun _ h=>h) tU).1,fun jP=>?_⟩;rcases bU.o k jP with h|⟨d,bj,rfl⟩|⟨j,ai,rfl⟩;rotate_left 2
   ·exact tU.2 (nE _ (List.mem_map_of_mem ai))
   ·exact tU.2 (List.mem_append_right _ h)
   ·have:=tU.1;simp at this;omega
 ·intro k o aa aA;rw[lg]at aA;cases aA
 ·rw[Ch gs _ 0 lg];have:∀(gs:List cm) k,(s9 k gs).length=gs.length:=by
   intro gs;induction gs with
   |nil=>intro k;rfl
   |cons g r bb=>intro k;simp[s9,bb]
  rw[this];have:=Av ix;simp at this;omega
mutual
def fM:ae->List (aw×Nat)
 | .slice _ tag _=>match tag with| .tr k i=>[(k,i)]|_=>[]
 | .agg cs=>iE cs
 |_=>[]
def iE:List ae->List (aw×Nat)
 |[]=>[]
 |x::xs=>fM x++iE xs
end
mutual
def jc:ae->Prop
 | .int _ _=>True
 | .bool _=>True
 | .str _=>True
 | .slice _ tag xs=>match tag with| .tr k _=>k≠po|_=>xs=[]
 | .agg cs=>pf cs
 |_=>dz
def pf:List ae->Prop
 |[]=>True
 |x::xs=>jc x/\pf xs
end
def jB(ν:aM)(l:List (aw×Nat))(b:Nat):Prop:= ∃k i,(k,i)∈l/\ν.tr k i b
theorem uq{ν:aM}{l e2:List (aw×Nat)}(h:∀x∈l,x∈e2)(b:Nat)(af:jB ν l b):jB ν e2 b:=by obtain⟨k,i,I,J⟩:=af;exact⟨k,i,h _ I,J⟩
theorem BN{ν:aM}(fi:∀k j be ei b,ν.tr k j b->ν.tr be ei b->k=be/\j=ei){l e2:List (aw×Nat)}(h:(l++e2).Nodup)(b:Nat)(I:jB ν l b):¬jB ν e2 b:=by rintro⟨be,hh,ak,aV⟩;obtain⟨k,i,I,J⟩:=I;obtain⟨rfl,rfl⟩:=fi k i be hh b J aV;rw[oC]at h;exact h.2.2 _ I _ ak rfl
mutual
theorem BV{w:World}{ν:aM}(fi:∀k j be ei b,ν.tr k j b->ν.tr be ei b->k=be/\j=ei):∀(p:ae) (v:Value),aJ w ν p v->jc p->(fM p).Nodup->cW true w ν.A (jB ν (fM p)) (cg p) v
 | .int k n,v,h,_,_=>by simpa only[aJ,cg,cW]using h
 | .bool b,v,h,_,_=>by simpa only[aJ,cg,cW]using h
 | .str s,v,h,_,_=>by simpa only[aJ,cg,cW]using h
 | .slice sz tag xs,v,h,ah,_=>by
  simp only[aJ]at h;obtain⟨⟨a,cap,I,J,ak,aV⟩,_,_,hY,_⟩:=h;by_cases aG:∃k i,tag= .tr k i
  ·obtain⟨k,i,rfl⟩:=aG;refine xG _ _ v (r2 (fun _ _ h=>⟨h,rfl⟩) (fun _ _ _=>rfl) _ _ _ v (fun b af=>?_) (hY k i rfl));exact⟨k,i,by simp[fM],af⟩
  ·have ab:xs=[]:=by
    simp only[jc]at ah;split at ah
    ·exact absurd ⟨_,_,rfl⟩ aG
    ·exact ah
   subst ab;simp only[cg,cd,cW];exact⟨a,cap,I,J,ak,.inl trivial⟩
 | .agg cs,v,h,ah,aS=>by simp only[aJ,jc,fM,cg,cW]at h ah aS⊢;obtain⟨us,I,J⟩:=h;exact⟨us,I,HK fi cs _ J ah aS⟩
 | .junk,_,_,ah,_=>by simp[jc]at ah
 | .ptr _ _,_,_,ah,_=>by simp[jc]at ah
 | .eptr _,_,_,ah,_=>by simp[jc]at ah
 | .iface _ _,_,_,ah,_=>by simp[jc]at ah
 | .nilp,_,_,ah,_=>by simp[jc]at ah
 | .tuple _,_,_,ah,_=>by simp[jc]at ah
 | .func _ _,_,_,ah,_=>by simp[jc]at ah
 | .gmap _,_,_,ah,_=>by simp[jc]at ah
 | .row _ _ _,_,_,ah,_=>by simp[jc]at ah
 | .rptr _ _ _ _ _,_,_,ah,_=>by simp[jc]at ah
 | .hdm _ _,_,_,ah,_=>by simp[jc]at ah
 | .hdi _ _ _,_,_,ah,_=>by simp[jc]at ah
 | .cst _,_,_,ah,_=>by simp[jc]at ah
theorem HK{w:World}{ν:aM}(fi:∀k j be ei b,ν.tr k j b->ν.tr be ei b->k=be/\j=ei):∀(cs:List ae) (us:List Value),bW w ν cs us->pf cs->(iE cs).Nodup->la true w ν.A (jB ν (iE cs)) (cd cs) us
 |[],us,h,_,_=>by simpa only[bW,cd,la]using h
 |c::cs,us,h,ah,aS=>by simp only[bW,pf,iE,cd,la]at h ah aS⊢;obtain⟨u,bh,I,⟨J,ak⟩,aV⟩:=h;have h0:=oC.1 aS;exact⟨u,bh,jB ν (fM c),jB ν (iE cs),I,⟨uq (fun x ab=>nE _ ab),uq (fun x ab=>List.mem_append_right _ ab),fun _ b af=>BN fi aS b af⟩,⟨BV fi c u J ah.1 h0.1,ak⟩,HK fi cs bh aV ah.2 h0.2.1⟩
end
theorem BW{w:World}{ν:aM}(fi:∀k j be ei b,ν.tr k j b->ν.tr be ei b->k=be/\j=ei){sz:Nat}:∀(cs:List ae) (us:List Value),cf w ν sz cs us->pf cs->(iE cs).Nodup->k9 true w ν.A (jB ν (iE cs)) sz (cd cs) us
 |[],us,h,_,_=>by simpa only[cf,cd,k9]using h
 |c::cs,us,h,ah,aS=>by simp only[cf,pf,iE,cd,k9]at h ah aS⊢;obtain⟨u,bh,I,⟨J,ak⟩,aV⟩:=h;have h0:=oC.1 aS;exact⟨u,bh,jB ν (fM c),jB ν (iE cs),I,⟨uq (fun x ab=>nE _ ab),uq (fun x ab=>List.mem_append_right _ ab),fun _ b af=>BN fi aS b af⟩,⟨BV fi c u J ah.1 h0.1,ak⟩,BW fi cs bh aV ah.2 h0.2.1⟩
mutual
theorem Ap{t:Bool}{w:World}{A:Nat->Nat->Prop}{ν:aM}(aY:∀b o,A b o->ν.A b o):∀(p:ae) (F:Nat->Prop) (v:Value),cW t w A F p v->aJ w ν (cg p) v
 | .int k n,_,_,h=>by simpa only[aJ,cg,cW]using h
 | .bool b,_,_,h=>by simpa only[aJ,cg,cW]using h
 | .str s,_,_,h=>by simpa only[aJ,cg,cW]using h
 | .slice sz tag xs,F,v,h=>by
  simp only[cW,cg,aJ]at h⊢;obtain⟨a,cap,I,J,ak,aV⟩:=h;refine⟨⟨a,cap,by rw[kj];exact I,by rw[kj];exact J,by rw[kj];exact ak,?_⟩,fun e=>(by cases e),fun g e=>(by cases e),fun _ _ e=>(by cases e),fun _ e=>(by cases e)⟩;rcases aV with rfl|⟨b,off,us,G,aj,_,_,c1,_,hI⟩
  ·exact .inl rfl
  ·exact .inr ⟨b,off,us,aj,ra (fun b o h=>⟨aY b o h,rfl⟩) _ _ c1,FG aY xs G us hI⟩
 | .agg cs,F,v,h=>by simp only[cW,cg,aJ]at h⊢;obtain⟨us,I,J⟩:=h;exact⟨us,I,FI aY cs F _ J⟩
 | .junk,_,_,h=>by simp[cW]at h
 | .ptr _ _,_,_,h=>by simp[cW]at h
 | .eptr _,_,_,h=>by simp[cW]at h
 | .iface _ _,_,_,h=>by simp[cW]at h
 | .nilp,_,_,h=>by simp[cW]at h
 | .tuple _,_,_,h=>by simp[cW]at h
 | .func _ _,_,_,h=>by simp[cW]at h
 | .gmap _,_,_,h=>by simp[cW]at h
 | .row _ _ _,_,_,h=>by simp[cW]at h
 | .rptr _ _ _ _ _,_,_,h=>by simp[cW]at h
 | .hdm _ _,_,_,h=>by simp[cW]at h
 | .hdi _ _ _,_,_,h=>by simp[cW]at h
 | .cst _,_,_,h=>by simp[cW]at h
theorem FI{t:Bool}{w:World}{A:Nat->Nat->Prop}{ν:aM}(aY:∀b o,A b o->ν.A b o):∀(cs:List ae) (F:Nat->Prop) (us:List Value),la t w A F cs us->bW w ν (cd cs) us
 |[],_,_,h=>by simpa only[la,cd,bW]using h
 |c::cs,F,us,h=>by simp only[la,cd,bW]at h⊢;obtain⟨u,bh,hU,hV,I,_,⟨bn,cb⟩,eC⟩:=h;exact⟨u,bh,I,⟨Ap aY c hU u bn,cb⟩,FI aY cs hV bh eC⟩
theorem FG{t:Bool}{w:World}{A:Nat->Nat->Prop}{ν:aM}(aY:∀b o,A b o->ν.A b o){sz:Nat}:∀(cs:List ae) (F:Nat->Prop) (us:List Value),k9 t w A F sz cs us->cf w ν sz (cd cs) us
 |[],_,_,h=>by simpa only[k9,cd,cf]using h
 |c::cs,F,us,h=>by simp only[k9,cd,cf]at h⊢;obtain⟨u,bh,hU,hV,I,_,⟨bn,cb⟩,eC⟩:=h;exact⟨u,bh,I,⟨Ap aY c hU u bn,cb⟩,FG aY cs hV bh eC⟩
end
mutual
theorem CL:∀p:ae,cg (cg p)=cg p
 | .slice _ _ xs=>by simp[cg,rz xs]
 | .agg cs=>by simp[cg,rz cs]
 | .tuple vs=>by simp[cg,rz vs]
 | .eptr x=>by simp[cg,CL x]
 | .iface t x=>by simp[cg,CL x]
 | .func f cY=>by simp[cg,rz cY]
 | .junk=>rfl
 | .int _ _=>rfl
 | .bool _=>rfl
 | .str _=>rfl
 | .ptr _ _=>rfl
 | .nilp=>rfl
 | .gmap _=>rfl
 | .row _ _ _=>rfl
 | .rptr _ _ _ _ _=>rfl
 | .hdm _ _=>rfl
 | .hdi _ _ _=>rfl
 | .cst _=>rfl
theorem rz:∀xs:List ae,cd (cd xs)=cd xs
 |[]=>rfl
 |x::xs=>by simp[cd,CL x,rz xs]
end
mutual
def eB:ae->List aw
 | .slice _ tag _=>match tag with| .own k=>[k]|_=>[]
 | .row _ k _=>[k]
 | .agg cs=>kV cs
 | .tuple cs=>kV cs
 |_=>[]
def kV:List ae->List aw
 |[]=>[]
 |x::xs=>eB x++kV xs
end
def qq(e:List (aw×da))(k:aw):List ae:=((look k e).bind (·.xs)).getD []
mutual
def fk(e:List (aw×da)):ae->List (aw×Nat)
 | .slice _ tag xs=>match tag with| .tr k i=>[(k,i)]| .own _=>iE xs|_=>[]
 | .row _ k _=>iE (qq e k)
 | .agg cs=>lS e cs
 | .tuple cs=>lS e cs
 |_=>[]
def lS(e:List (aw×da)):List ae->List (aw×Nat)
 |[]=>[]
 |x::xs=>fk e x++lS e xs
end
mutual
def gY(e:List (aw×da)):ae->Prop
 | .int _ _=>True
 | .bool _=>True
 | .str _=>True
 | .slice sz tag xs=>match tag with| .tr k _=>k≠po| .own k=>True/\(∃el,look k e=some ⟨xs.length,el,sz,none⟩)/\pf xs/\0<sz|_=>xs=[]
 | .row sz k n=>True/\(∃xs el,look k e=some ⟨n,el,sz,some xs⟩/\pf xs)/\0<sz
 | .agg cs=>oh e cs
 | .tuple cs=>oh e cs
 |_=>dz
def oh(e:List (aw×da)):List ae->Prop
 |[]=>True
 |x::xs=>gY e x/\oh e xs
end
mutual
def pO:ae->Nat
 | .slice _ _ _=>1
 | .row _ _ _=>1
 | .agg cs=>vf cs
 | .tuple cs=>vf cs
 |_=>0
def vf:List ae->Nat
 |[]=>0
 |x::xs=>pO x+vf xs
end
mutual
def fold(κ:Nat)(e:List (aw×da)):Nat->ae->ae
 |j,.slice sz _ xs=>.slice sz (.tr (.loc κ) j) (cd xs)
 |j,.row sz k _=>.slice sz (.tr (.loc κ) j) (cd (qq e k))
 |j,.agg cs=>.agg (pV κ e j cs)
 |j,.tuple cs=>.tuple (pV κ e j cs)
 |_,p=>p
def pV(κ:Nat)(e:List (aw×da)):Nat->List ae->List ae
 |_,[]=>[]
 |j,x::xs=>fold κ e j x::pV κ e (j+pO x) xs
end
def ki(ν:aM)(k:aw)(b:Nat):Prop:= ∃n v,ν.ow k=some (n,v)/\v.ownBlock=some b
mutual
def dV(ν:aM)(R:Nat->Prop)(e:List (aw×da)):ae->List (Nat->Prop)
 | .slice _ tag xs=>match tag with| .tr k i=>[fun b=>ν.tr k i b/\¬R b]| .own k=>[fun b=>ki ν k b\/(jB ν (iE xs) b/\¬R b)]|_=>[fun _=>dz]
 | .row _ k _=>[fun b=>ki ν k b\/(jB ν (iE (qq e k)) b/\¬R b)]
 | .agg cs=>kW ν R e cs
 | .tuple cs=>kW ν R e cs
 |_=>[]
def kW(ν:aM)(R:Nat->Prop)(e:List (aw×da)):List ae->List (Nat->Prop)
 |[]=>[]
 |x::xs=>dV ν R e x++kW ν R e xs
end
mutual
theorem sW(ν:aM)(R:Nat->Prop)(e:List (aw×da)):∀p,(dV ν R e p).length=pO p
 | .slice _ tag _=>by cases tag<;>simp[dV,pO]
 | .row _ k _=>by simp[dV,pO]
 | .agg cs=>by simp[dV,pO,CF ν R e cs]
 | .tuple cs=>by simp[dV,pO,CF ν R e cs]
 | .int _ _=>rfl
 | .bool _=>rfl
 | .str _=>rfl
 | .junk=>rfl
 | .ptr _ _=>rfl
 | .eptr _=>rfl
 | .iface _ _=>rfl
 | .nilp=>rfl
 | .func _ _=>rfl
 | .gmap _=>rfl
 | .rptr _ _ _ _ _=>rfl
 | .hdm _ _=>rfl
 | .hdi _ _ _=>rfl
 | .cst _=>rfl
theorem CF(ν:aM)(R:Nat->Prop)(e:List (aw×da)):∀p,(kW ν R e p).length=vf p
 |[]=>rfl
 |x::xs=>by simp[kW,vf,sW ν R e x,CF ν R e xs]
end
def xE(ν:aM)(R:Nat->Prop)(ns:List (aw×Nat))(rw:List aw)(b:Nat):Prop:=(∃k∈rw,ki ν k b)\/(jB ν ns b/\¬R b)
mutual
theorem zh{ν:aM}{R:Nat->Prop}{e:List (aw×da)}:∀(p:ae) (i:Nat) (S:Nat->Prop),(dV ν R e p)[i]? =some S->∀b,S b->xE ν R (fk e p) (eB p) b
 | .slice _ tag _,i,S,h,b,af=>by
  cases tag<;>(simp only[dV]at h;cases i<;>simp at h;subst h);all_goals first|exact af.elim|skip
  ·rcases af with af|af
   ·exact .inl ⟨_,by simp[eB],af⟩
   ·exact .inr (by simpa only[fk]using af)
  ·exact .inr ⟨⟨_,_,by simp[fk],af.1⟩,af.2⟩
 | .row _ k _,i,S,h,b,af=>by
  simp only[dV]at h;cases i<;>simp at h;subst h;rcases af with af|af
  ·exact .inl ⟨k,by simp[eB],af⟩
  ·exact .inr (by simpa only[fk]using af)
 | .agg cs,i,S,h,b,af=>by simp only[dV,fk,eB]at h⊢;exact wP cs i S h b af
 | .tuple cs,i,S,h,b,af=>by simp only[dV,fk,eB]at h⊢;exact wP cs i S h b af
 | .int _ _,_,_,h,_,_=>by simp[dV]at h
 | .bool _,_,_,h,_,_=>by simp[dV]at h
 | .str _,_,_,h,_,_=>by simp[dV]at h
 | .junk,_,_,h,_,_=>by simp[dV]at h
 | .ptr _ _,_,_,h,_,_=>by simp[dV]at h
 | .eptr _,_,_,h,_,_=>by simp[dV]at h
 | .iface _ _,_,_,h,_,_=>by simp[dV]at h
 | .nilp,_,_,h,_,_=>by simp[dV]at h
 | .func _ _,_,_,h,_,_=>by simp[dV]at h
 | .gmap _,_,_,h,_,_=>by simp[dV]at h
 | .rptr _ _ _ _ _,_,_,h,_,_=>by simp[dV]at h
 | .hdm _ _,_,_,h,_,_=>by simp[dV]at h
 | .hdi _ _ _,_,_,h,_,_=>by simp[dV]at h
 | .cst _,_,_,h,_,_=>by simp[dV]at h
theorem wP{ν:aM}{R:Nat->Prop}{e:List (aw×da)}:∀(p:List ae) (i:Nat) (S:Nat->Prop),(kW ν R e p)[i]? =some S->∀b,S b->xE ν R (lS e p) (kV p) b
 |[],i,S,h,b,af=>by simp[kW]at h
 |x::xs,i,S,h,b,af=>by
  simp only[kW]at h;simp only[lS,kV];by_cases aq:i<(dV ν R e x).length
  ·rw[nC aq]at h;rcases zh x i S h b af with⟨k,I,J⟩|⟨I,J⟩
   ·exact .inl ⟨k,nE _ I,J⟩
   ·exact .inr ⟨uq (fun _ h=>nE _ h) b I,J⟩
  ·rw[List.getElem?_append_right Ω]at h;rcases wP xs _ S h b af with⟨k,I,J⟩|⟨I,J⟩
   ·exact .inl ⟨k,List.mem_append_right _ I,J⟩
   ·exact .inr ⟨uq (fun _ h=>List.mem_append_right _ h) b I,J⟩
end
structure u0 (ν:aM) (R:Nat->Prop) (rw:List aw):Prop where
 trd:∀k j be ei b,ν.tr k j b->ν.tr be ei b->k=be/\j=ei
 inj:∀k be b,k∈rw->be∈rw->ki ν k b->ki ν be b->k=be
 R:∀k b,k∈rw->ki ν k b->R b
theorem FF{ν:aM}{R:Nat->Prop}{rw:List aw}(he:u0 ν R rw){e6 ey:List (aw×Nat)}{dr eO:List aw}(aS:(e6++ey).Nodup)(ao:(dr++eO).Nodup)(I:∀k∈dr,k∈rw)(J:∀k∈eO,k∈rw)(b:Nat)(af:xE ν R e6 dr b):¬xE ν R ey eO b:=by
 rintro gf;rcases af with⟨k,b5,cE⟩|⟨b5,cE⟩<;>rcases gf with⟨be,pb,yt⟩|⟨pb,yt⟩
 ·have:=he.inj k be b (I k b5) (J be pb) cE yt;subst this;exact(oC.1 ao).2.2 _ b5 _ pb rfl
 ·exact yt (he.R k b (I k b5) cE)
 ·exact cE (he.R be b (J be pb) yt)
 ·exact BN he.trd aS b b5 pb
mutual
theorem IW{ν:aM}{R:Nat->Prop}{rw:List aw}(he:u0 ν R rw){e:List (aw×da)}:∀(p:ae),(fk e p).Nodup->(eB p).Nodup->(∀k∈eB p,k∈rw)->∀(i hh:Nat) (S jk:Nat->Prop),(dV ν R e p)[i]? =some S->(dV ν R e p)[hh]? =some jk->∀b,S b->jk b->i=hh
 | .slice sz tag xs,_,_,_,i,hh,S,jk,h,bS,b,_,_=>by have aA:(dV ν R e (.slice sz tag xs)).length=1:=sW ν R e _;have:=(dw.1 h).1;have:=(dw.1 bS).1;omega
 | .row sz k n,_,_,_,i,hh,S,jk,h,bS,b,_,_=>by have aA:(dV ν R e (.row sz k n)).length=1:=sW ν R e _;have:=(dw.1 h).1;have:=(dw.1 bS).1;omega
 | .agg cs,aS,ao,aa,i,hh,S,jk,h,bS,b,af,gf=>by simp only[dV,fk,eB]at h bS aS ao aa;exact CE he cs aS ao aa i hh S jk h bS b af gf
 | .tuple cs,aS,ao,aa,i,hh,S,jk,h,bS,b,af,gf=>by simp only[dV,fk,eB]at h bS aS ao aa;exact CE he cs aS ao aa i hh S jk h bS b af gf
 | .int _ _,_,_,_,_,_,_,_,h,_,_,_,_=>by simp[dV]at h
 | .bool _,_,_,_,_,_,_,_,h,_,_,_,_=>by simp[dV]at h
 | .str _,_,_,_,_,_,_,_,h,_,_,_,_=>by simp[dV]at h
 | .junk,_,_,_,_,_,_,_,h,_,_,_,_=>by simp[dV]at h
 | .ptr _ _,_,_,_,_,_,_,_,h,_,_,_,_=>by simp[dV]at h
 | .eptr _,_,_,_,_,_,_,_,h,_,_,_,_=>by simp[dV]at h
 | .iface _ _,_,_,_,_,_,_,_,h,_,_,_,_=>by simp[dV]at h
 | .nilp,_,_,_,_,_,_,_,h,_,_,_,_=>by simp[dV]at h
 | .func _ _,_,_,_,_,_,_,_,h,_,_,_,_=>by simp[dV]at h
 | .gmap _,_,_,_,_,_,_,_,h,_,_,_,_=>by simp[dV]at h
 | .rptr _ _ _ _ _,_,_,_,_,_,_,_,h,_,_,_,_=>by simp[dV]at h
 | .hdm _ _,_,_,_,_,_,_,_,h,_,_,_,_=>by simp[dV]at h
 | .hdi _ _ _,_,_,_,_,_,_,_,h,_,_,_,_=>by simp[dV]at h
 | .cst _,_,_,_,_,_,_,_,h,_,_,_,_=>by simp[dV]at h
theorem CE{ν:aM}{R:Nat->Prop}{rw:List aw}(he:u0 ν R rw){e:List (aw×da)}:∀(p:List ae),(lS e p).Nodup->(kV p).Nodup->(∀k∈kV p,k∈rw)->∀(i hh:Nat) (S jk:Nat->Prop),(kW ν R e p)[i]? =some S->(kW ν R e p)[hh]? =some jk->∀b,S b->jk b->i=hh
 |[],_,_,_,i,hh,S,jk,h,_,_,_,_=>by simp[kW]at h
 |x::xs,aS,ao,aa,i,hh,S,jk,h,bS,b,af,gf=>by
  simp only[kW]at h bS;simp only[lS]at aS;simp only[kV]at ao aa;have b5:∀k∈eB x,k∈rw:=fun k ck=>aa k (nE _ ck);have cE:∀k∈kV xs,k∈rw:=fun k ck=>aa k (List.mem_append_right _ ck);by_cases aq:i<(dV ν R e x).length<;>by_cases vC:hh<(dV ν R e x).length
  ·rw[nC aq]at h;rw[nC vC]at bS;exact IW he x (oC.1 aS).1 (oC.1 ao).1 b5 i hh S jk h bS b af gf
  ·rw[nC aq]at h;rw[List.getElem?_append_right Ω]at bS;exact absurd (wP xs _ jk bS b gf) (FF he aS ao b5 cE b (zh x i S h b af))
  ·rw[List.getElem?_append_right Ω]at h;rw[nC vC]at bS;exact absurd (wP xs _ S h b af) (FF he aS ao b5 cE b (zh x hh jk bS b gf))
  ·rw[List.getElem?_append_right Ω]at h bS;have:=CE he xs (oC.1 aS).2.1 (oC.1 ao).2.1 cE _ _ S jk h bS b af gf;omega
end
end
section
open Go Go.RowKit
theorem CW{w:World}{μ:aM}{k:aw}{j sz:Nat}{tag:ti}{ys:List ae}{v:Value}(h:cW true w μ.A (μ.tr k j) (.slice sz tag ys) v)(bG:cd ys=ys):aJ w μ (.slice sz (.tr k j) ys) v:=by have I:=Ap (ν:=μ) (fun _ _ h=>h) _ _ _ h;simp only[cg,bG]at I;simp only[aJ]at I⊢;refine⟨I.1,fun e=>(by cases e),fun _ e=>(by cases e),fun be ei e=>?_,fun _ e=>(by cases e)⟩;cases e;simp only[cW]at h⊢;exact h
section
variable {pr:Nat->Prop} {w:World} {ν μ:aM} {B:List (aw×List ae)} {e:List (aw×da)} {R:Nat->Prop} {rw:List aw} {κ:Nat}
 (aT:Good pr w ν B e) (he:u0 ν R rw) (aW:∀b,R b->∀k j,¬ν.tr k j b) (vv:∀b o,ν.A b o->μ.A b o) (F0:∀k∈rw,∀own,look k e=some own->∀b,ki ν k b->∀o,o<own.n*own.sz->μ.A b o)
include aT he aW vv F0
mutual
theorem Ao:∀(p:ae) (v:Value) (j:Nat),aJ w ν p v->gY e p->(fk e p).Nodup->(∀k∈eB p,k∈rw)->(∀i S,(dV ν R e p)[i]? =some S->∀b,S b->μ.tr (.loc κ) (j+i) b)->aJ w μ (fold κ e j p) v
 | .int k n,v,_,h,_,_,_,_=>by simpa only[aJ,fold]using h
 | .bool b,v,_,h,_,_,_,_=>by simpa only[aJ,fold]using h
 | .str s,v,_,h,_,_,_,_=>by simpa only[aJ,fold]using h
 | .slice sz tag xs,v,j,h,ah,aS,aa,al=>by
  simp only[aJ]at h;obtain⟨⟨a,cap,I,J,ak,aV⟩,_,eC,hY,_⟩:=h;simp only[fold];refine CW (tag:= .no) ?_ (rz xs);by_cases aG:∃k i,tag= .tr k i
  ·obtain⟨k,i,rfl⟩:=aG;have av:=Aq .no v (hY k i rfl);refine r2 (fun b o h=>⟨vv b o h,rfl⟩) (fun _ _ _=>rfl) _ _ _ v (fun b af=>?_) av;simpa using al 0 (fun b=>ν.tr k i b/\¬R b) (by simp[dV]) b ⟨af,fun ao=>aW b ao _ _ af⟩
  by_cases vW:∃k,tag= .own k
  ·obtain⟨k,rfl⟩:=vW;simp only[gY]at ah;obtain⟨_,⟨el,aA⟩,kS,dR⟩:=ah;obtain⟨n',u,g1,g2,g3⟩:=eC k rfl;obtain⟨v0,dO,bK,b6,cH,dd⟩:=aT.own k _ aA;simp only at bK b6 cH;rw[g1]at bK;simp only[dt,hz]at bK;obtain⟨rfl,rfl⟩:=bK;have Bd:=g3 rfl;subst Bd;have x5:k∈rw:=aa k (by simp[eB]);simp only[cW];refine⟨a,cap,by rw[kj];exact I,by rw[kj];exact J,by rw[kj];exact ak,?_⟩;rcases aV with rfl|⟨b,off,us,aj,c1,hI⟩
   ·exact .inl rfl
   by_cases nl:xs=[]
   ·left;rw[nl];rfl
   right;subst aj;rcases b6.2 with⟨aj,_⟩|⟨g,tv,cur,f1,f2,f3,f4,f5,f6,f7⟩
   ·rw[aj]at I;cases I
   have iA:v.ownBlock=some g:=by rw[f1];rfl
   have tX:ki ν k g:=⟨_,_,g1,iA⟩;have tI:∀b,(ki ν k b\/(jB ν (iE xs) b/\¬R b))->μ.tr (.loc κ) j b:=fun b af=>by simpa using al 0 (fun b=>ki ν k b\/(jB ν (iE xs) b/\¬R b)) (by simp[dV]) b af
   rw[f1]at I;simp only[YP,dt,Addr.mk.injEq]at I;obtain⟨⟨rfl,rfl,_⟩,_,rfl⟩:=I;have hlen:=nr hI;refine⟨g,0,us,fun c=>jB ν (iE xs) c/\¬R c,rfl,tI g (.inl tX),fun c aQ=>⟨tI c (.inr aQ),fun _ z6=>aQ.2 (by rw[z6];exact he.R k g x5 tX)⟩,ra (fun b o h=>⟨vv b o h,rfl⟩) _ _ c1,fun _=>⟨rfl,?_,el,?_⟩,?_⟩
   ·rw[hlen];exact Nat.mul_pos (oB.2 nl) dR
   ·simp only[shape,f3,f6]
   ·have I:=BW he.trd xs us hI kS (by simpa only[fk]using aS);exact xF (fun b o h=>⟨vv b o h,rfl⟩) (fun _ _ _=>rfl) _ _ _ us (fun b af=>⟨af,fun ao=>by obtain⟨be,hh,_,aG⟩:=af;exact aW b ao _ _ aG⟩) I
  ·have ab:xs=[]:=by
    simp only[gY]at ah;split at ah
    ·exact absurd ⟨_,_,rfl⟩ aG
    ·exact absurd ⟨_,rfl⟩ vW
    ·exact ah
   subst ab;simp only[cd,cW];exact⟨a,cap,I,J,ak,.inl trivial⟩
 | .row sz k n,v,j,h,ah,aS,aa,al=>by
  simp only[gY]at ah;obtain⟨⟨m,hm⟩,⟨xs,el,aA,kS⟩,dR⟩:=ah;have kU:qq e k=xs:=by simp[qq,aA]
  simp only[aJ]at h;obtain⟨⟨Kg,c0,GJ⟩,ee,n',u,g1,g2,g3⟩:=h;obtain⟨v0,us,bK,b6,cH,dd⟩:=aT.own k _ aA;simp only at bK b6 cH;rw[g1]at bK;simp only[dt,hz]at bK;obtain⟨rfl,rfl⟩:=bK;have Bd:=g3 rfl;subst Bd;obtain⟨cz,iQ,om⟩:=dd xs rfl;simp only at cz iQ;have x5:k∈rw:=aa k (by simp[eB]);rcases b6.2 with⟨aj,_⟩|⟨g,cap,cur,f1,f2,f3,f4,f5,f6,f7⟩
  ·rw[aj]at GJ;cases GJ
  have iA:v.ownBlock=some g:=by rw[f1];rfl
  have tX:ki ν k g:=⟨_,_,g1,iA⟩;have tI:∀b,(ki ν k b\/(jB ν (iE (qq e k)) b/\¬R b))->μ.tr (.loc κ) j b:=fun b af=>by simpa using al 0 (fun b=>ki ν k b\/(jB ν (iE (qq e k)) b/\¬R b)) (by simp[dV]) b af
  rw[kU]at tI;simp only[fold,kU];refine CW (tag:= .no) ?_ (rz xs);simp only[cW];refine⟨some ⟨g,0,none⟩,cap,by rw[kj,cz];exact f1,by rw[kj,cz];exact f4,⟨f5,by rw[kj,cz];exact ee⟩,?_⟩;by_cases nl:xs=[]
  ·left;rw[nl];rfl
  ·right;have hlen:=nr iQ;refine⟨g,0,us,fun c=>jB ν (iE xs) c/\¬R c,rfl,tI g (.inl tX),fun c aQ=>⟨tI c (.inr aQ),fun _ z6=>aQ.2 (by rw[z6];exact he.R k g x5 tX)⟩,ug us 0 fun i u aq=>?_,fun _=>⟨rfl,?_,el,?_⟩,?_⟩
   ·have jO:i<us.length:=(dw.1 aq).1;refine⟨F0 k x5 _ aA g tX _ (by simp only;rw[b6.1]at jO;omega),?_⟩;have:=b6.cells iA i u aq;rwa[k4]at this
   ·rw[hlen];exact Nat.mul_pos (oB.2 nl) dR
   ·simp only[shape,f3,f6]
   ·have I:=BW he.trd xs us iQ kS (by simpa only[fk,kU]using aS);exact xF (fun b o h=>⟨vv b o h,rfl⟩) (fun _ _ _=>rfl) _ _ _ us (fun b af=>⟨af,fun ao=>by obtain⟨be,hh,_,aG⟩:=af;exact aW b ao _ _ aG⟩) I
 | .agg cs,v,j,h,ah,aS,aa,al=>by simp only[aJ,gY,fk,eB,dV,fold]at h ah aS aa al⊢;obtain⟨us,I,J⟩:=h;exact⟨us,I,FC cs _ j J ah aS aa al⟩
 | .tuple cs,v,j,h,ah,aS,aa,al=>by simp only[aJ,gY,fk,eB,dV,fold]at h ah aS aa al⊢;obtain⟨us,I,J⟩:=h;exact⟨us,I,FD cs _ j J ah aS aa al⟩
 | .junk,_,_,_,ah,_,_,_=>by simp[gY]at ah
 | .ptr _ _,_,_,_,ah,_,_,_=>by simp[gY]at ah
 | .eptr _,_,_,_,ah,_,_,_=>by simp[gY]at ah
 | .iface _ _,_,_,_,ah,_,_,_=>by simp[gY]at ah
 | .nilp,_,_,_,ah,_,_,_=>by simp[gY]at ah
 | .func _ _,_,_,_,ah,_,_,_=>by simp[gY]at ah
 | .gmap _,_,_,_,ah,_,_,_=>by simp[gY]at ah
 | .rptr _ _ _ _ _,_,_,_,ah,_,_,_=>by simp[gY]at ah
 | .hdm _ _,_,_,_,ah,_,_,_=>by simp[gY]at ah
 | .hdi _ _ _,_,_,_,ah,_,_,_=>by simp[gY]at ah
 | .cst _,_,_,_,ah,_,_,_=>by simp[gY]at ah
theorem FC:∀(cs:List ae) (us:List Value) (j:Nat),bW w ν cs us->oh e cs->(lS e cs).Nodup->(∀k∈kV cs,k∈rw)->(∀i S,(kW ν R e cs)[i]? =some S->∀b,S b->μ.tr (.loc κ) (j+i) b)->bW w μ (pV κ e j cs) us
 |[],us,j,h,_,_,_,_=>by simpa only[bW,pV]using h
 |c::cs,us,j,h,ah,aS,aa,al=>by
  simp only[bW,oh,lS,kV,kW,pV]at h ah aS aa al⊢;obtain⟨u,bh,I,⟨J,ak⟩,aV⟩:=h;have h0:=oC.1 aS;refine⟨u,bh,I,⟨Ao c u j J ah.1 h0.1 (fun k ck=>aa k (nE _ ck)) (fun i S aq b af=>al i S (by rw[nC (dw.1 aq).1];exact aq) b af),ak⟩,
   FC cs bh _ aV ah.2 h0.2.1 (fun k ck=>aa k (List.mem_append_right _ ck)) (fun i S aq b af=>?_)⟩
  have:=al (pO c+i) S (by rw[List.getElem?_append_right (by rw[sW];omega),sW];simpa using aq) b af;rwa[<-Nat.add_assoc]at this
theorem FD:∀(cs:List ae) (us:List Value) (j:Nat),b4 w ν cs us->oh e cs->(lS e cs).Nodup->(∀k∈kV cs,k∈rw)->(∀i S,(kW ν R e cs)[i]? =some S->∀b,S b->μ.tr (.loc κ) (j+i) b)->b4 w μ (pV κ e j cs) us
 |[],us,j,h,_,_,_,_=>by simpa only[b4,pV]using h
 |c::cs,us,j,h,ah,aS,aa,al=>by
  simp only[b4,oh,lS,kV,kW,pV]at h ah aS aa al⊢;obtain⟨u,bh,I,J,aV⟩:=h;have h0:=oC.1 aS;refine⟨u,bh,I,Ao c u j J ah.1 h0.1 (fun k ck=>aa k (nE _ ck)) (fun i S aq b af=>al i S (by rw[nC (dw.1 aq).1];exact aq) b af),
   FD cs bh _ aV ah.2 h0.2.1 (fun k ck=>aa k (List.mem_append_right _ ck)) (fun i S aq b af=>?_)⟩
  have:=al (pO c+i) S (by rw[List.getElem?_append_right (by rw[sW];omega),sW];simpa using aq) b af;rwa[<-Nat.add_assoc]at this
end
end
end
section
open Go Go.RowKit
mutual
theorem QN:∀p:ae,jc p->∀x∈fM p,x.1≠po
 | .slice _ tag xs,ah,x,ab=>by cases tag<;>simp only[fM,jc]at ah ab<;>simp at ab;subst ab;exact ah
 | .agg cs,ah,x,ab=>by simp only[fM,jc]at ah ab;exact yQ cs ah x ab
 | .int _ _,_,_,ab=>by simp[fM]at ab
 | .bool _,_,_,ab=>by simp[fM]at ab
 | .str _,_,_,ab=>by simp[fM]at ab
 | .junk,_,_,ab=>by simp[fM]at ab
 | .ptr _ _,_,_,ab=>by simp[fM]at ab
 | .eptr _,_,_,ab=>by simp[fM]at ab
 | .iface _ _,_,_,ab=>by simp[fM]at ab
 | .nilp,_,_,ab=>by simp[fM]at ab
 | .tuple _,_,_,ab=>by simp[fM]at ab
 | .func _ _,_,_,ab=>by simp[fM]at ab
 | .gmap _,_,_,ab=>by simp[fM]at ab
 | .row _ _ _,_,_,ab=>by simp[fM]at ab
 | .rptr _ _ _ _ _,_,_,ab=>by simp[fM]at ab
 | .hdm _ _,_,_,ab=>by simp[fM]at ab
 | .hdi _ _ _,_,_,ab=>by simp[fM]at ab
 | .cst _,_,_,ab=>by simp[fM]at ab
theorem yQ:∀p:List ae,pf p->∀x∈iE p,x.1≠po
 |[],_,x,ab=>by simp[iE]at ab
 |c::cs,ah,x,ab=>by
  simp only[iE,pf,nD]at ah ab;rcases ab with ab|ab
  ·exact QN c ah.1 x ab
  ·exact yQ cs ah.2 x ab
end
mutual
theorem HI{e:List (aw×da)}:∀p:ae,gY e p->∀x∈fk e p,x.1≠po
 | .slice _ tag xs,ah,x,ab=>by
  cases tag with
  |own k=>simp only[fk,gY]at ah ab;exact yQ xs ah.2.2.1 x ab
  |tr k i=>simp only[fk,gY]at ah ab;simp at ab;subst ab;exact ah
  |no=>simp[fk]at ab
  |nil=>simp[fk]at ab
  |lo k=>simp[fk]at ab
 | .row _ k _,ah,x,ab=>by simp only[fk,gY]at ah ab;obtain⟨_,⟨xs,el,aA,kS⟩,_⟩:=ah;rw[show qq e k=xs from by simp[qq,aA]]at ab;exact yQ xs kS x ab
 | .agg cs,ah,x,ab=>by simp only[fk,gY]at ah ab;exact BT cs ah x ab
 | .tuple cs,ah,x,ab=>by simp only[fk,gY]at ah ab;exact BT cs ah x ab
 | .int _ _,_,_,ab=>by simp[fk]at ab
 | .bool _,_,_,ab=>by simp[fk]at ab
 | .str _,_,_,ab=>by simp[fk]at ab
 | .junk,_,_,ab=>by simp[fk]at ab
 | .ptr _ _,_,_,ab=>by simp[fk]at ab
 | .eptr _,_,_,ab=>by simp[fk]at ab
 | .iface _ _,_,_,ab=>by simp[fk]at ab
 | .nilp,_,_,ab=>by simp[fk]at ab
 | .func _ _,_,_,ab=>by simp[fk]at ab
 | .gmap _,_,_,ab=>by simp[fk]at ab
 | .rptr _ _ _ _ _,_,_,ab=>by simp[fk]at ab
 | .hdm _ _,_,_,ab=>by simp[fk]at ab
 | .hdi _ _ _,_,_,ab=>by simp[fk]at ab
 | .cst _,_,_,ab=>by simp[fk]at ab
theorem BT{e:List (aw×da)}:∀p:List ae,oh e p->∀x∈lS e p,x.1≠po
 |[],_,x,ab=>by simp[lS]at ab
 |c::cs,ah,x,ab=>by
  simp only[lS,oh,nD]at ah ab;rcases ab with ab|ab
  ·exact HI c ah.1 x ab
  ·exact BT cs ah.2 x ab
end
mutual
theorem HJ{e:List (aw×da)}:∀p:ae,gY e p->∀k∈eB p,∃own,look k e=some own
 | .row sz k n,ah,be,aa=>by simp only[eB,gY]at ah aa;obtain⟨_,⟨xs,el,aA,kS⟩,_⟩:=ah;simp at aa;subst aa;exact⟨_,aA⟩
 | .agg cs,ah,x,ab=>by simp only[eB,gY]at ah ab;exact BU cs ah x ab
 | .tuple cs,ah,x,ab=>by simp only[eB,gY]at ah ab;exact BU cs ah x ab
 | .slice sz tag xs,ah,be,aa=>by
  cases tag with
  |own k=>simp only[eB,gY]at ah aa;obtain⟨_,⟨el,aA⟩,_⟩:=ah;simp at aa;subst aa;exact⟨_,aA⟩
  |tr k i=>simp[eB]at aa
  |no=>simp[eB]at aa
  |nil=>simp[eB]at aa
  |lo k=>simp[eB]at aa
 | .int _ _,_,_,ab=>by simp[eB]at ab
 | .bool _,_,_,ab=>by simp[eB]at ab
 | .str _,_,_,ab=>by simp[eB]at ab
 | .junk,_,_,ab=>by simp[eB]at ab
 | .ptr _ _,_,_,ab=>by simp[eB]at ab
 | .eptr _,_,_,ab=>by simp[eB]at ab
 | .iface _ _,_,_,ab=>by simp[eB]at ab
 | .nilp,_,_,ab=>by simp[eB]at ab
 | .func _ _,_,_,ab=>by simp[eB]at ab
 | .gmap _,_,_,ab=>by simp[eB]at ab
 | .rptr _ _ _ _ _,_,_,ab=>by simp[eB]at ab
 | .hdm _ _,_,_,ab=>by simp[eB]at ab
 | .hdi _ _ _,_,_,ab=>by simp[eB]at ab
 | .cst _,_,_,ab=>by simp[eB]at ab
theorem BU{e:List (aw×da)}:∀p:List ae,oh e p->∀k∈kV p,∃own,look k e=some own
 |[],_,x,ab=>by simp[kV]at ab
 |c::cs,ah,x,ab=>by
  simp only[kV,oh,nD]at ah ab;rcases ab with ab|ab
  ·exact HJ c ah.1 x ab
  ·exact BU cs ah.2 x ab
end
end
section
open Go Go.RowKit
mutual
def fH(N:List aw):ae->ae
 | .slice sz (.tr k j) xs=>if k∈N\/k=po then .slice sz .no (fO N xs)else .slice sz (.tr k j) (cd xs)
 | .slice sz (.own k) xs=>.slice sz (.own k) (fO N xs)
 | .slice sz .nil xs=>.slice sz .nil (fO N xs)
 | .slice sz .no xs=>.slice sz .no (fO N xs)
 | .slice sz (.lo _) xs=>.slice sz .no (fO N xs)
 | .agg cs=>.agg (fO N cs)
 | .eptr x=>.eptr (fH N x)
 | .iface t x=>.iface t (fH N x)
 | .tuple vs=>.tuple (fO N vs)
 | .func f cY=>.func f (fO N cY)
 |p=>p
def fO(N:List aw):List ae->List ae
 |[]=>[]
 |x::xs=>fH N x::fO N xs
end
theorem rU(N:List aw):∀xs,(fO N xs).length=xs.length
 |[]=>rfl
 |x::xs=>by simp[fO,rU N xs]
section
variable {w:World} {ν μ:aM} {N:List aw} (aY:∀b o,ν.A b o->μ.A b o) (af:μ.bx=ν.bx) (ah:μ.ow=ν.ow) (aG:∀k,k∉N->∀j b,ν.tr k j b->μ.tr k j b)
 (fi:∀k j be ei b,ν.tr k j b->ν.tr be ei b->k=be/\j=ei)
include aY af ah aG fi
mutual
theorem uI:∀(p:ae) (v:Value),aJ w ν p v->aJ w μ (fH N p) v
 | .junk,_,_=>by simp[fH,aJ]
 | .int _ _,_,h=>by simpa only[fH,aJ]using h
 | .bool _,_,h=>by simpa only[fH,aJ]using h
 | .str _,_,h=>by simpa only[fH,aJ]using h
 | .slice sz tag xs,v,h=>by
  have hw:=h;simp only[aJ]at h;obtain⟨I,J,ak,aV,bn⟩:=h;obtain⟨a0,EC,bK,b6,cH,dd⟩:=I;have vH:∃a cap,v= .slice a (fO N xs).length cap/\(fO N xs).length<=cap/\(cap<=maxLen/\(fO N xs).length<=aX)/\(fO N xs=[]\/ ∃b off us,a=some ⟨b,off,none⟩/\ik w μ.A b off us/\cf w μ sz (fO N xs) us):=by
   refine⟨a0,EC,by rw[rU];exact bK,by rw[rU];exact b6,by rw[rU];exact cH,?_⟩;rcases dd with aV|⟨b,off,us,aj,aR,bm⟩
   ·exact .inl (by rw[aV];rfl)
   ·exact .inr ⟨b,off,us,aj,ra (fun b o h=>⟨aY b o h,rfl⟩) _ _ aR,Ck sz xs us bm⟩
  cases tag with
  |no=>simp only[fH,aJ];exact⟨vH,fun e=>(by cases e),fun _ e=>(by cases e),fun _ _ e=>(by cases e),fun _ e=>(by cases e)⟩
  |lo k=>simp only[fH,aJ];exact⟨vH,fun e=>(by cases e),fun _ e=>(by cases e),fun _ _ e=>(by cases e),fun _ e=>(by cases e)⟩
  |nil=>simp only[fH,aJ];exact⟨vH,fun _=>J rfl,fun _ e=>(by cases e),fun _ _ e=>(by cases e),fun _ e=>(by cases e)⟩
  |own k=>simp only[fH,aJ];refine⟨vH,fun e=>(by cases e),fun g e=>?_,fun _ _ e=>(by cases e),fun _ e=>(by cases e)⟩;rw[ah,rU];exact ak g e
  |tr k j=>
   simp only[fH];by_cases aa:k∈N\/k=po
   ·rw[if_pos aa];simp only[aJ];exact⟨vH,fun e=>(by cases e),fun _ e=>(by cases e),fun _ _ e=>(by cases e),fun _ e=>(by cases e)⟩
   ·rw[bu aa];have fP:=not_or.1 aa;have av:=BV fi _ v hw (by simp only[jc];exact fP.2) (by simp[fM]);have gS:=r2 (A':=μ.A) (fun b o h=>⟨aY b o h,rfl⟩) (fun _ _ _=>rfl) _ _ (μ.tr k j) _ (fun b af=>by obtain⟨be,i,hm,af⟩:=af;simp only[fM,List.mem_singleton,hz]at hm;obtain⟨rfl,rfl⟩:=hm;exact aG _ fP.1 _ _ af) av
    simp only[cg]at gS;exact CW gS (rz xs)
 | .agg cs,v,h=>by simp only[aJ,fH]at h⊢;obtain⟨us,I,J⟩:=h;exact⟨us,I,Cm cs _ J⟩
 | .ptr key off,v,h=>by simp only[aJ,fH]at h⊢;rw[af];exact h
 | .eptr x,v,h=>by simp only[aJ,fH]at h⊢;obtain⟨b,off,u,I,J,ak⟩:=h;exact⟨b,off,u,I,uI x u J,ra (fun b o h=>⟨aY b o h,rfl⟩) _ _ ak⟩
 | .iface t x,v,h=>by simp only[aJ,fH]at h⊢;obtain⟨u,I,J⟩:=h;exact⟨u,I,uI x u J⟩
 | .nilp,_,h=>by simpa only[fH,aJ]using h
 | .tuple vs,v,h=>by simp only[aJ,fH]at h⊢;obtain⟨us,I,J⟩:=h;exact⟨us,I,wH vs _ J⟩
 | .func f cY,v,h=>by simp only[aJ,fH]at h⊢;obtain⟨us,I,J⟩:=h;exact⟨us,I,wH cY _ J⟩
 | .gmap key,v,h=>by simp only[aJ,fH]at h⊢;rw[af];exact h
 | .row sz k n,v,h=>by simp only[aJ,fH]at h⊢;rw[ah];exact h
 | .rptr sz k n i f,v,h=>by simp only[aJ,fH]at h⊢;rw[ah];exact h
 | .hdm _ _,_,h=>by simp only[aJ]at h
 | .hdi _ _ _,_,h=>by simp only[aJ]at h
 | .cst _,_,h=>by simpa only[fH,aJ]using h
theorem Cm:∀(cs:List ae) (us:List Value),bW w ν cs us->bW w μ (fO N cs) us
 |[],_,h=>by simpa only[fO,bW]using h
 |c::cs,us,h=>by simp only[bW,fO]at h⊢;obtain⟨u,bh,I,J,ak⟩:=h;exact⟨u,bh,I,⟨uI c u J.1,J.2⟩,Cm cs bh ak⟩
theorem wH:∀(cs:List ae) (us:List Value),b4 w ν cs us->b4 w μ (fO N cs) us
 |[],_,h=>by simpa only[fO,b4]using h
 |c::cs,us,h=>by simp only[b4,fO]at h⊢;obtain⟨u,bh,I,J,ak⟩:=h;exact⟨u,bh,I,uI c u J,wH cs bh ak⟩
theorem Ck(sz:Nat):∀(cs:List ae) (us:List Value),cf w ν sz cs us->cf w μ sz (fO N cs) us
 |[],_,h=>by simpa only[fO,cf]using h
 |c::cs,us,h=>by simp only[cf,fO]at h⊢;obtain⟨u,bh,I,⟨J,pX⟩,ak⟩:=h;exact⟨u,bh,I,⟨uI c u J,pX⟩,Ck sz cs bh ak⟩
end
theorem St{cs:List ae}{us:List Value}(h:gB w ν cs us):gB w μ (fO N cs) us:=by
 have ck:∀c:ae,(∀a b,c≠ .hdm a b)->(∀a b d,c≠ .hdi a b d)->(∀a b,fH N c≠ .hdm a b)/\(∀a b d,fH N c≠ .hdi a b d):=by
  intro c I J;cases c with
  |slice sz tag xs=>cases tag<;>simp only[fH]<;>first|(split<;>simp)|simp
  |hdm a b=>exact absurd rfl (I a b)
  |hdi a b d=>exact absurd rfl (J a b d)
  |_=>simp[fH]
 unfold gB at h;split at h
 ·simp only[fO,fH,gB];exact⟨wH aY af ah aG fi _ _ h.1,⟨by rw[rU];exact h.2.len,h.2.inc,h.2.lt⟩⟩
 ·simp only[fO,fH,gB];exact wH aY af ah aG fi _ _ h
 ·rename_i e6 ey;have ao:=Cm aY af ah aG fi _ _ h;rw[lT]
  ·exact ao
  ·exact sO ao
end
theorem Lb(N:List aw)(cs:List ae)(us:Array Value)(el:eZ):hl (fO N cs) us el=hl cs us el:=by
 cases cs with
 |nil=>rfl
 |cons c r=>
  cases c with
  |slice sz tag xs=>
   cases tag with
   |tr k j=>by_cases aa:k∈N\/k=po<;>simp[fO,fH,hl,aa]
   |_=>rfl
  |_=>rfl
def ve(N:List aw)(l:List (Nat×ae)):List (Nat×ae):=l.map fun x=>(x.1,fH N x.2)
def vd(N:List aw)(l:List (aw×List ae)):List (aw×List ae):=l.map fun x=>(x.1,fO N x.2)
def xm(N:List aw)(o:da):da:=⟨o.n,o.el,o.sz,o.xs.map (fO N)⟩
def tw(N:List aw)(rw:List aw)(l:List (aw×da)):List (aw×da):=(l.filter fun x=>decide (x.1∉rw)).map fun x=>(x.1,xm N x.2)
theorem FM(N:List aw)(i:Nat):∀l,get i (ve N l)=fH N (get i l)
 |[]=>by simp[ve,get,fH]
 |(j,p)::r=>by
  have bb:=FM N i r;simp only[ve,ez,get]at bb⊢;split
  ·rfl
  ·exact bb
theorem Bz(N:List aw)(k:aw):∀l,look k (vd N l)=(look k l).map (fO N)
 |[]=>rfl
 |(j,p)::r=>by
  have bb:=Bz N k r;simp only[vd,ez,look]at bb⊢;split
  ·rfl
  ·exact bb
theorem BA(N rw:List aw)(k:aw):∀l,look k (tw N rw l)=if k∈rw then none else(look k l).map (xm N)
 |[]=>by simp[tw,look]
 |(j,p)::r=>by
  have bb:=BA N rw k r;simp only[tw]at bb⊢;by_cases ai:j∈rw
  ·rw[List.filter_cons_of_neg (by simpa using ai),bb];simp only[look];by_cases aa:k∈rw
   ·simp[aa]
   ·have:j≠k:=fun e=>aa (e▸ai);simp[aa,this]
  ·rw[List.filter_cons_of_pos (by simpa using ai)];simp only[ez,look];by_cases e:j=k
   ·subst e;simp[ai]
   ·rw[bu e,bb,bu e]
def tA(st:a6)(p:ae):List aw:=(fk st.e p).map (·.1)
def tB(st:a6)(s:Nat):a6:=⟨put s (fold st.n st.e 0 (get s st.t)) (ve (tA st (get s st.t)) st.t),vd (tA st (get s st.t)) st.b,tw (tA st (get s st.t)) (eB (get s st.t)) st.e,st.n+1,st.o⟩
def vo(ob:List aw)(st:a6)(s:Nat):Prop:=gY st.e (get s st.t)/\(fk st.e (get s st.t)).Nodup/\(eB (get s st.t)).Nodup/\ .loc st.n∉st.o/\(∀k∈tA st (get s st.t),k∉ob)/\∀k∈eB (get s st.t),∃j,k= .loc j
def aM.fd(ν:aM)(R:Nat->Prop)(rw:List aw)(e:List (aw×da))(T:List (Nat->Prop))(N:List aw)(n:Nat):aM:=
 {A:=fun b o=>ν.A b o\/ ∃k,k∈rw/\∃own,look k e=some own/\ki ν k b/\o<own.n*own.sz,
  bx:=ν.bx,ow:=ν.ow,
  tr:=fun k j b=>(k∉N/\ν.tr k j b)\/(k= .loc n/\∃S,T[j]? =some S/\S b)}
theorem No{C:dM}{st:a6}{a:Act}{w:World}{ν:aM}(h:bX C st a w ν){s:Nat}(aQ:vo C.ob st s):∃ν',bX C (tB st s) a w ν':=by
 obtain⟨ok,BM,wE,si,Gu,Gp⟩:=aQ;unfold tB;generalize bB:get s st.t=p at ok BM wE Gu Gp⊢;have jQ:aJ w ν p (a.tmps.getD s undef):=by rw[<-bB];exact h.slot s
 let R:Nat->Prop:=fun b=> ∃k,k∈eB p/\ki ν k b
 have ye:=h.new (.loc st.n) ⟨c7 _,si⟩;have o6:∀k b,k∈eB p->ki ν k b->∃own,look k st.e=some own/\C.w0.heap.size<=b/\b<w.heap.size/\(∀k j,¬ν.tr k j b)/\(∀be,(look be st.b).isSome->ν.bx be≠some b)/\∀g n v,(look g st.e).isSome->ν.ow g=some (n,v)->v.ownBlock=some b->g=k:=by rintro k b aa ⟨n,v,I,J⟩;obtain⟨own,n1⟩:=HJ _ ok k aa;obtain⟨j,rfl⟩:=Gp k aa;exact⟨own,n1,h.fr.nrow j n v b I J,h.good.ownLt n1 I J,h.good.otr b (.inr ⟨_,_,_,by simp[n1],I,J⟩),fun be fP iM=>h.good.obx _ be _ _ b (by simp[n1]) fP I J iM,fun g n' v' aT aj aR=>h.good.oinj g _ n' n v' v b aT (by simp[n1]) aj I aR J⟩
 have xY:u0 ν R (eB p):=by refine⟨h.fr.trd,fun k be b aa fP I J=>?_,fun k b aa h=>⟨k,aa,h⟩⟩;obtain⟨n,v,bQ,a2⟩:=I;obtain⟨_,cp,_⟩:=o6 k b aa ⟨n,v,bQ,a2⟩;obtain⟨_,_,_,_,_,_,c2⟩:=o6 be b fP J;exact c2 k n v (by simp[cp]) bQ a2
 let N:=tA st p
 let μ:aM:=ν.fd R (eB p) st.e (dV ν R st.e p) N st.n
 have aY:∀b o,ν.A b o->μ.A b o:=fun b o h=>.inl h;have fi:∀k,k∉N->∀j b,ν.tr k j b->μ.tr k j b:=fun k aa j b af=>.inl ⟨aa,af⟩;have Ou:∀q v,aJ w ν q v->aJ w μ (fH N q) v:=uI aY rfl rfl fi h.fr.trd;have Ov:∀sz q v,cf w ν sz q v->cf w μ sz (fO N q) v:=fun sz=>Ck aY rfl rfl fi h.fr.trd sz;have gW:∀(j:Nat) (S:Nat->Prop) (b:Nat),(dV ν R st.e p)[j]? =some S->S b->(∃k∈eB p,ki ν k b)\/ ∃k i,(k,i)∈fk st.e p/\ν.tr k i b:=by
  intro j S b ai j7;rcases zh _ j S ai b j7 with⟨k,aa,I⟩|⟨⟨k,i,I,J⟩,_⟩
  ·exact .inl ⟨k,aa,I⟩
  ·exact .inr ⟨k,i,I,J⟩
 have qW:∀k,(look k (vd N st.b)).isSome->(look k st.b).isSome:=fun k aa=>by rw[Bz]at aa;simpa using aa
 have sk:∀k,(look k (tw N (eB p) st.e)).isSome->k∉eB p/\(look k st.e).isSome:=fun k aa=>by
  rw[BA]at aa;split at aa
  ·cases aa
  ·rename_i e;exact⟨e,by simpa using aa⟩
 have Gv:∀g n v b,g∉eB p->(look g st.e).isSome->ν.ow g=some (n,v)->v.ownBlock=some b->∀k∈eB p,¬ki ν k b:=by intro g n v b aT aA aj aR k aa ao;obtain⟨_,_,_,_,_,_,c⟩:=o6 k b aa ao;exact aT (c g n v aA aj aR▸aa)
 have OL:aJ w μ (fold st.n st.e 0 p) (a.tmps.getD s undef):=by refine Ao (μ:=μ) h.good xY (fun b aW=>?_) aY (fun k aa own n1 b gf o ah=>.inr ⟨k,aa,own,n1,gf,ah⟩) p _ 0 jQ ok BM (fun k aa=>aa) (fun i S aq b j7=>.inr ⟨rfl,S,by simpa using aq,j7⟩);obtain⟨k,aa,gf⟩:=aW;obtain⟨_,_,_,_,aV,_⟩:=o6 k b aa gf;exact aV
 refine⟨μ,⟨fun bl o aY=>?_,fun k cs aa=>?_,fun k be bl I J=>h.good.inj k be bl (qW k I) (qW be J),fun g o aT=>?_,fun g du n n' v v' bl I J=>h.good.oinj g du n n' v v' bl (sk g I).2 (sk du J).2,fun g k n v bl I J=>h.good.obx g k n v bl (sk g I).2 (qW k J),h.good.one,fun bl aG k j Pz=>?_⟩,
  ⟨h.fr.os,h.fr.tape,h.fr.output,h.fr.size,h.fr.block,fun b o bU=>⟨.inl (h.fr.keep b o bU).1,(h.fr.keep b o bU).2⟩,fun b o bU=>?_,h.fr.obj,h.fr.obn,h.fr.row,h.fr.obr,fun k j be ei b I J=>?_,fun k j b af=>?_,fun k j b af=>?_,h.fr.sh,h.fr.nrow⟩,
  h.defers,h.size,fun i=>?_,fun k aa=>?_,fun x ab=>?_,fun m hm av=>h.obk m hm (r1 (Nat.le_succ _) (fun _ h=>h) av)⟩
 ·rcases aY with aY|⟨k,aa,own,_,gf,_⟩
  ·exact h.good.alt bl o aY
  ·obtain⟨_,_,_,ak,_⟩:=o6 k bl aa gf;exact ak
 ·simp only at aa;rw[Bz]at aa;cases aA:look k st.b with
  |none=>rw[aA]at aa;cases aa
  |some dA=>
   rw[aA]at aa;simp only[Option.map_some,dt]at aa;subst aa;obtain⟨bl,us,el,aj,aR,bm,c1,gE⟩:=h.good.box k dA aA;refine⟨bl,us,el,aj,aR,fun o bU=>?_,by rw[Lb];exact c1,St aY rfl rfl fi h.fr.trd gE⟩;rcases bU with bU|⟨be,fP,own,_,gf,_⟩
   ·exact bm o bU
   ·obtain⟨_,_,_,_,_,bn,_⟩:=o6 be bl fP gf;exact bn k (by simp[aA]) aj
 ·simp only at aT;have AM:=sk g (by rw[aT];rfl);rw[BA,bu AM.1]at aT;cases aA:look g st.e with
  |none=>rw[aA]at aT;cases aT
  |some kD=>
   rw[aA]at aT;simp only[Option.map_some,dt]at aT;subst aT;obtain⟨v,us,aj,aR,bm,c1⟩:=h.good.own g kD aA;have gU:∀bl,v.ownBlock=some bl->∀j,μ.A bl j->ν.A bl j:=by
    intro bl af j bU;rcases bU with bU|⟨be,fP,own,_,gf,_⟩
    ·exact bU
    ·exact absurd gf (Gv g _ v bl AM.1 AM.2 aj af be fP)
   refine⟨v,us,aj,aR,fun bl af=>⟨(bm bl af).1,fun j bU=>(bm bl af).2 j (gU bl af j bU)⟩,fun xs ab=>?_⟩;simp only[xm]at ab;cases kS:kD.xs with
   |none=>rw[kS]at ab;cases ab
   |some ys=>rw[kS]at ab;simp only[Option.map_some,dt]at ab;subst ab;obtain⟨f1,f2,f3⟩:=c1 ys kS;exact⟨by rw[rU];exact f1,Ov _ _ _ f2,fun bl af j bU=>f3 bl af j (gU bl af j bU)⟩
 ·have hold:∀k j,¬ν.tr k j bl:=by refine h.good.otr bl (aG.imp (fun⟨k,bQ,a2⟩=>⟨k,qW k bQ,a2⟩) fun⟨g,n,v,bQ,a2,a3⟩=>⟨g,n,v,(sk g bQ).2,a2,a3⟩)
  rcases Pz with⟨_,af⟩|⟨_,S,j7,af⟩
  ·exact hold k j af
  ·rcases gW j S bl j7 af with⟨be,fP,ao⟩|⟨be,i,_,gf⟩
   ·rcases aG with⟨cE,bQ,a2⟩|⟨g,n,v,bQ,a2,a3⟩
    ·obtain⟨_,_,_,_,_,bn,_⟩:=o6 be bl fP ao;exact bn cE (qW cE bQ) a2
    ·exact Gv g n v bl (sk g bQ).1 (sk g bQ).2 a2 a3 be fP ao
   ·exact hold be i gf
 ·rcases bU with bU|⟨k,aa,own,_,gf,_⟩
  ·exact h.fr.fresh b o bU
  ·obtain⟨_,_,J,_⟩:=o6 k b aa gf;exact .inr (.inr J)
 ·have mixed:∀(k:aw) (j ei:Nat) (S:Nat->Prop),k∉N->ν.tr k j b->(dV ν R st.e p)[ei]? =some S->S b->dz:=by
   intro k j ei S aa af j7 gf;rcases gW ei S b j7 gf with⟨be,fP,ao⟩|⟨be,i,hm,oX⟩
   ·obtain⟨_,_,_,_,aV,_⟩:=o6 be b fP ao;exact aV k j af
   ·obtain⟨rfl,_⟩:=h.fr.trd k j be i b af oX;exact aa (List.mem_map.2 ⟨_,hm,rfl⟩)
  rcases I with⟨e6,bH⟩|⟨rfl,S,s1,bH⟩<;>rcases J with⟨ey,bR⟩|⟨rfl,jk,s2,bR⟩
  ·exact h.fr.trd k j be ei b bH bR
  ·exact(mixed k j ei jk e6 bH s2 bR).elim
  ·exact(mixed be ei j S ey bR s1 bH).elim
  ·exact⟨rfl,IW xY p BM wE (fun k aa=>aa) j ei S jk s1 s2 b bH bR⟩
 ·rcases af with⟨_,af⟩|⟨_,S,j7,af⟩
  ·exact h.fr.trb k j b af
  ·rcases gW j S b j7 af with⟨be,fP,ao⟩|⟨be,i,hm,oX⟩
   ·obtain⟨_,_,J,ak,_⟩:=o6 be b fP ao;exact⟨.inr J,ak⟩
   ·have:=h.fr.trb be i b oX;exact⟨.inr (this.1.resolve_left (HI _ ok _ hm)),this.2⟩
 ·rcases af with⟨_,af⟩|⟨rfl,_⟩
  ·exact h.fr.trn k j b af
  ·exact⟨ye.1,ye.2.1⟩
 ·simp only[mg];split
  ·rename_i e;subst e;exact OL
  ·rw[FM];exact Ou _ _ (h.slot i)
 ·have av:fresh st.n st.o k:=r1 (Nat.le_succ _) (fun _ h=>h) aa;obtain⟨e6,ey,fJ⟩:=h.new k av;refine⟨e6,ey,fun j b af=>?_⟩;rcases af with⟨_,af⟩|⟨rfl,_⟩
  ·exact fJ j b af
  ·have:=aa.1;simp only at this;omega
 ·obtain⟨aj,aR⟩:=h.ext x ab;refine⟨oq (S:=fun k=>k∉N) (w:=w) (ν:=ν) (w':=w) (ν':=μ) ⟨fun b o h=>⟨.inl h,rfl⟩,fun _ _ _ h=>h,fun g n u _ h=>⟨n,u,h,.inl ⟨rfl,rfl⟩⟩,fun _ _ _=>rfl,fun k j b aa af=>.inl ⟨aa,af⟩⟩ _ _ (sD (fun k aa aS=>Gu k aS aa) _ aR) aj,aR⟩
end
section
open Go Go.RowKit
def e0:List ae->Prop
 |[]=>True
 |p::bD=>(match p with| .slice _ _ xs=>xs.length<=aX| .str s=>s.length<=aX|_=>True)/\e0 bD
def eQ:ae->Prop
 | .slice _ _ xs=>xs.length<=aX
 | .str s=>s.length<=aX
 | .agg cs=>e0 cs
 |_=>True
def fb:List ae->Prop
 |[]=>True
 |p::r=>eQ p/\fb r
theorem Cl{w:World}{ν:aM}:∀{cs:List ae} {us:List Value},bW w ν cs us->e0 cs
 |[],_,_=>trivial
 |c::cs,us,h=>by
  simp only[bW]at h;obtain⟨u,bh,_,I,J⟩:=h;refine⟨?_,Cl J⟩;cases c<;>simp only<;>have ak:=I.1<;>simp only[aJ]at ak
  ·exact ak.2
  ·obtain⟨⟨a,cap,_,_,aV,_⟩,_⟩:=ak;exact aV.2
theorem Iu{w:World}{ν:aM}{cs:List ae}{us:List Value}(h:gB w ν cs us):gH cs=true->e0 cs:=fun bB=>by rw[lT bB]at h;exact Cl h
theorem IJ{w:World}{ν:aM}{p:ae}{v:Value}(h:aJ w ν p v):eQ p:=by
 cases p<;>simp only[eQ]<;>simp only[aJ]at h
 ·exact h.2
 ·obtain⟨⟨a,cap,_,_,aV,_⟩,_⟩:=h;exact aV.2
 ·obtain⟨us,_,J⟩:=h;exact Cl J
theorem IG{w:World}{ν:aM}:∀{cs:List ae} {us:List Value},b4 w ν cs us->fb cs
 |[],_,_=>trivial
 |c::cs,us,h=>by simp only[b4]at h;obtain⟨u,bh,_,I,J⟩:=h;exact⟨IJ I,IG J⟩
inductive C where
 |skip
 |region (gs:List cm)
 |drawn (q:Bool) (N:Nat) (gs:List cm)
 |drawnW (nw:List Nat) (N:Nat) (gs:List cm)
 |seq (a b:C)
 |cond (x:ct) (t e:C)
 |block (id:Nat) (c:C)
 |loop (c:C)
 |exit (id:Nat)
 |ret
 |pub (s:Nat) (c:C)
 |pubB (s:Nat) (c:C)
 |fg (lN:Bool) (s:Nat) (c:C)
 |fz (agg:Bool) (s:Nat) (c:C)
 |fd (s:Nat) (c:C)
 |no
def wy(st:a6):ae->bf (ae×List (aw×da))
 | .row sz k n=>match look k st.e with
  |some ⟨n',el,cJ,some xs⟩=>if n'=n/\cJ=sz then some (.slice sz (.own k) xs,cx k ⟨n,el,sz,none⟩ st.e)else none
  |_=>none
 |_=>none
def qh(st:a6)(s:Nat):bf a6:=
 match wy st (get s st.t)with
 |some (p,e)=>some {st with t:=put s p st.t,e:=e}
 |none=>none
def uw(st:a6)(s:Nat):bf a6:=
 match get (s%1000) st.t with
 | .ptr k off=>match look k st.b with
  |some cs=>match cs[off+s/1000]? with
   |some p=>match wy st p with
    |some (uu,e)=>if gH cs then some {st with b:=cx k (cs.set (off+s/1000) uu) st.b,e:=e}else none
    |none=>none
   |none=>none
  |none=>none
 |_=>none
theorem Cg{C:dM}{st:a6}{a:Act}{w:World}{ν:aM}(h:bX C st a w ν){s:Nat}{p:ae}(al:aJ w ν p (a.tmps.getD s undef)):bX C {st with t:=put s p st.t} a w ν:=by
 refine⟨h.good,h.fr,h.defers,h.size,fun i=>?_,h.new,h.ext,h.obk⟩;have:=h.slot i;simp only[mg];split
 ·rename_i e;subst e;exact al
 ·exact this
theorem H7{C:dM}{st:a6}{a:Act}{w:World}{ν:aM}(h:bX C st a w ν){p uu:ae}{e:List (aw×da)}{v:Value}(bB:aJ w ν p v)(he:wy st p=some (uu,e)):
  ∃ν',bX C {st with e:=e} a w ν'/\aJ w ν' uu v/\jH w ν w ν':=by
 unfold wy at he;split at he
 ·rename_i sz k n;split at he
  ·rename_i n' el cJ xs aa;split at he
   ·rename_i aQ;obtain⟨rfl,rfl⟩:=aQ;cases he;simp only[aJ]at bB;obtain⟨_,aA,n0,u,I,J,ak⟩:=bB;obtain⟨v0,dO,bK,b6,cH,dd⟩:=h.good.own k _ aa;rw[I]at bK;simp only[dt,hz]at bK;obtain⟨rfl,rfl⟩:=bK;have ba:v=u:=ak rfl;subst ba;obtain⟨cz,_,_⟩:=dd xs rfl;simp only at cz;obtain⟨g1,g2⟩:=h.publish aa rfl I (by rw[cz];exact aA);refine⟨_,g1,g2,⟨fun b o aY=>⟨.inl aY,rfl⟩,fun j b _ ai=>ai,fun g n u _ hg=>⟨n,u,?_,.inl ⟨rfl,rfl⟩⟩,fun _ _ _=>rfl,fun _ _ _ _ h=>h⟩⟩;simp only[aM.withRowOf];split
    ·rename_i e;subst e;rw[I]at hg;exact hg
    ·exact hg
   ·cases he
  ·cases he
 ·cases he
def tC(lN:Bool):ae->ae
 | .slice sz tag xs=>.slice sz (if lN then tag else .no) (cd xs)
 |p=>cg p
theorem Np{w:World}{ν:aM}{lN:Bool}{p:ae}{v:Value}(h:aJ w ν p v):aJ w ν (tC lN p) v:=by
 have I:=sP p v h;cases p with
 |slice sz tag xs=>
  simp only[tC];cases lN with
  |false=>simpa only[jX,if_false,cg]using I
  |true=>
   simp only[if_true];simp only[aJ,cg]at h I⊢;refine⟨I.1,fun e=>h.2.1 e,fun g e=>?_,fun k j e=>?_,fun k e=>?_⟩
   ·obtain⟨n,u,aj,aR,bm⟩:=h.2.2.1 g e;exact⟨n,u,aj,by rw[kj];exact aR,by rw[kj];exact bm⟩
   ·exact Aq _ _ (h.2.2.2.1 k j e)
   ·exact Aq _ _ (h.2.2.2.2 k e)
 |_=>exact I
theorem RK{C:dM}{st st':a6}{a:Act}{w:World}{ν:aM}(h:bX C st a w ν){s:Nat}(he:qh st s=some st'):∃ν',bX C st' a w ν':=by
 unfold qh at he;split at he
 ·rename_i p e bB;cases he;obtain⟨ν',I,J,_⟩:=H7 h (h.slot s) bB;exact⟨_,Cg I J⟩
 ·cases he
theorem IE{w:World}{ν:aM}:∀{cs:List ae} {us:List Value} {i:Nat} {p q:ae} {v:Value},bW w ν cs us->cs[i]? =some p->us[i]? =some v->aJ w ν q v->bW w ν (cs.set i q) us
 |[],_,_,_,_,_,_,h,_,_=>by simp at h
 |c::cs,us,0,p,q,v,h,_,ba,bP=>by simp only[bW]at h;obtain⟨u,bh,rfl,I,J⟩:=h;simp only[List.getElem?_cons_zero,dt]at ba;subst ba;simp only[List.set_cons_zero,bW];exact⟨_,_,rfl,⟨bP,I.2⟩,J⟩
 |c::cs,us,i+1,p,q,v,h,bB,ba,bP=>by simp only[bW]at h;obtain⟨u,bh,rfl,I,J⟩:=h;simp only[List.set_cons_succ,bW];exact⟨_,_,rfl,I,IE J (by simpa using bB) (by simpa using ba) bP⟩
theorem RJ{C:dM}{st st':a6}{a:Act}{w:World}{ν:aM}(h:bX C st a w ν){s:Nat}(he:uw st s=some st'):∃ν',bX C st' a w ν':=by
 unfold uw at he;split at he
 ·rename_i k QM aa;generalize QM+s/1000=off at he;split at he
  ·rename_i cs cA;split at he
   ·rename_i p bB;split at he
    ·rename_i uu e Pl;split at he
     ·rename_i hN;cases he;obtain⟨bl,us,el,g1,g2,g3,g4,g5⟩:=h.good.box k cs cA;rw[lT hN]at g5;have cM:off<us.toList.length:=by rw[lW g5];exact(dw.1 bB).1
      obtain⟨v,ba⟩:∃v,us.toList[off]? =some v:=⟨_,cB cM⟩;have A1:aJ w ν p v:=by have:=uE off g5;rw[List.drop_eq_getElem_cons (dw.1 bB).1,List.drop_eq_getElem_cons cM]at this;simp only[bW]at this;obtain⟨u,bh,aj,aR,_⟩:=this;rw[(dw.1 bB).2]at aR;rw[(dw.1 ba).2]at aj;cases aj;exact aR.1
      obtain⟨ν',I,J,ak⟩:=H7 h A1 Pl;have q2:bW w ν' (cs.set off uu) us.toList:=IE (ID ak g5) bB ba J;have GC:=sO q2;refine⟨ν',⟨I.good.alt,fun j dA ai=>?_,fun j ei b ai kO=>I.good.inj j ei b ?_ ?_,I.good.own,I.good.oinj,fun g j n v b aT ai=>I.good.obx g j n v b aT ?_,I.good.one,fun bl af=>I.good.otr bl (af.imp (fun⟨be,bQ,a2⟩=>⟨be,by rw[hO]at bQ;split at bQ;(rename_i e;subst e;simp[cA]);exact bQ,a2⟩) id)⟩,I.fr,I.defers,I.size,I.slot,I.new,I.ext,I.obk⟩
      ·simp only at ai;rw[hO]at ai;split at ai
       ·rename_i e;subst e;cases ai;obtain⟨gP,bh,dU,f1,f2,f3,f4,f5⟩:=I.good.box k cs cA;have:gP=bl:=by have:=ak.bx k bl trivial g1;rw[this]at f1;cases f1;rfl
        subst this;rw[mF hN]at g4 f4;rw[g4]at f4;injection f4 with f4;injection f4 with f4 f6 f7;refine⟨gP,us,el,f1,f2,f3,by rw[mF GC];exact g4,by rw[lT GC];exact q2⟩
       ·exact I.good.box j dA ai
      ·simp only at ai;rw[hO]at ai;split at ai
       ·rename_i e;subst e;simp[cA]
       ·exact ai
      ·simp only at kO;rw[hO]at kO;split at kO
       ·rename_i e;subst e;simp[cA]
       ·exact kO
      ·simp only at ai;rw[hO]at ai;split at ai
       ·rename_i e;subst e;simp[cA]
       ·exact ai
     ·cases he
    ·cases he
   ·cases he
  ·cases he
 ·cases he
def oP{α:Type}(k:aw)(l:List (aw×α)):List (aw×α):=match l with
 |[]=>[]
 |(i,x)::r=>if i=k then oP k r else(i,x)::oP k r
theorem BB{α:Type}(k j:aw):∀l:List (aw×α),look j (oP k l)=if j=k then none else look j l
 |[]=>by simp[oP,look]
 |(i,x)::r=>by
  simp only[oP];by_cases h:i=k
  ·subst h;rw[if_pos rfl,BB i j r];by_cases J:j=i
   ·simp[J]
   ·have:¬i=j:=fun e=>J e.symm;simp[look,J,this]
  ·rw[bu h];simp only[look];by_cases J:i=j
   ·subst J;simp[h]
   ·simp only[J,if_false];exact BB k j r
def Ar(agg:Bool):List ae->bf ae
 |[p]=>if agg then some (.agg [p])else some p
 |cs=>if agg then some (.agg cs)else none
def qI(st:a6)(agg:Bool)(s:Nat):bf a6:=
 match get s st.t with
 | .ptr k 0=>match look k st.b with
  |some cs=>if gH cs then match Ar agg cs with
    |some x=>some {st with t:=put s (.eptr x) st.t,b:=oP k st.b}
    |none=>none
   else none
  |none=>none
 |_=>none
theorem RC{u:Value}(h:u.oneCell'=true):u.cells.toList=[u]:=by cases u<;>first|rfl|(simp[Value.oneCell']at h)
theorem Hp{w:World}{A:Nat->Nat->Prop}{b:Nat}{us:Array Value}{el:eZ}(af:w.heap[b]? =some (.cells us el))(aY:∀o,o<us.size->A b o):∀(vs:List Value) (off:Nat),us.toList.drop off=vs->ik w A b off vs
 |[],_,_=>trivial
 |v::vs,off,h=>by
  have cM:off<us.toList.length:=by
   rcases ko off us.toList.length with I|I
   ·exact I
   ·rw[List.drop_eq_nil_of_le I]at h;cases h
  have J:=List.drop_eq_getElem_cons cM;rw[h]at J;injection J with J ak;refine⟨⟨aY off (by simpa using cM),?_⟩,Hp af aY vs (off+1) ak.symm⟩;have O6:off<us.size:=by simpa using cM
  simp only[World.cell?,af,Option.isSome_none,jX,if_false];rw[J];simp[O6]
theorem NB{C:dM}{st st':a6}{a:Act}{w:World}{ν:aM}(h:bX C st a w ν){agg:Bool}{s:Nat}(he:qI st agg s=some st'):∃ν',bX C st' a w ν':=by
 unfold qI at he;split at he
 ·rename_i k aa;split at he
  ·rename_i cs cA;split at he
   ·rename_i hN;split at he
    ·rename_i x ab;cases he;obtain⟨bl,us,el,g1,g2,g3,g4,g5⟩:=h.good.box k cs cA;rw[lT hN]at g5;rw[mF hN]at g4;have cM:bl<w.heap.size:=by
      rcases ko bl w.heap.size with I|I
      ·exact I
      ·rw[Array.getElem?_eq_none I]at g4;cases g4
     let ν':aM:={ν with A:=fun b o=>ν.A b o\/(b=bl/\o<us.size)}
     have ah:jH w ν w ν':=⟨fun b o aY=>⟨.inl aY,rfl⟩,fun j b _ ai=>ai,fun g n u _ hg=>⟨n,u,hg,.inl ⟨rfl,rfl⟩⟩,fun _ _ _=>rfl,fun _ _ _ _ h=>h⟩;have gT:∀j dA,look j (oP k st.b)=some dA->j≠k/\look j st.b=some dA:=fun j dA ai=>by
      rw[BB]at ai;split at ai
      ·cases ai
      ·rename_i e;exact⟨e,ai⟩
     have x6:∀j,(look j (oP k st.b)).isSome->(look j st.b).isSome:=fun j ai=>by obtain⟨dA,gx⟩:=eK.1 ai;simp[(gT j dA gx).2]
     have mj:∀(g:aw) (n:Nat) (v:Value),(look g st.e).isSome->ν.ow g=some (n,v)->v.ownBlock=some bl->dz:=fun g n v I J ak=>h.good.obx g k n v bl I (by simp[cA]) J ak g1;have kd:aJ w ν' (.eptr x) (a.tmps.getD s undef):=by
      have al:=h.slot s;rw[aa]at al;simp only[aJ]at al⊢;obtain⟨fu,bK,b6⟩:=al;rw[g1]at bK;cases bK;have aA:ik w ν'.A bl 0 us.toList:=Hp g4 (fun o ah=>.inr ⟨rfl,ah⟩) _ 0 rfl;have g6:bW w ν' cs us.toList:=ID ah g5;unfold Ar at ab;split at ab
      ·rename_i p;simp only[bW]at g6;obtain⟨u,bh,aj,aR,bm⟩:=g6;subst bm;split at ab
       ·cases ab;exact⟨bl,0,.agg us,b6,by simp only[aJ];exact⟨us,rfl,by rw[aj];simp only[bW];exact⟨u,[],rfl,aR,rfl⟩⟩,by simpa[km]using aA⟩
       ·cases ab;refine⟨bl,0,u,b6,aR.1,?_⟩;rw[RC aR.2,<-aj];exact aA
      ·split at ab
       ·cases ab;exact⟨bl,0,.agg us,b6,by simp only[aJ];exact⟨us,rfl,g6⟩,by simpa[km]using aA⟩
       ·cases ab
     refine⟨ν',Cg (ν:=ν') (st:={st with b:=oP k st.b}) ⟨⟨fun b o aY=>?_,fun j dA ai=>?_,fun j ei b I J=>h.good.inj j ei b (x6 j I) (x6 ei J),fun g o aT=>?_,h.good.oinj,fun g j n v b I J=>h.good.obx g j n v b I (x6 j J),h.good.one,fun b aG=>h.good.otr b (aG.imp (fun⟨j,bQ,a2⟩=>⟨j,x6 j bQ,a2⟩) id)⟩,⟨h.fr.os,h.fr.tape,h.fr.output,h.fr.size,h.fr.block,fun b o aY=>⟨.inl (h.fr.keep b o aY).1,(h.fr.keep b o aY).2⟩,fun b o aY=>?_,h.fr.obj,h.fr.obn,h.fr.row,h.fr.obr,h.fr.trd,h.fr.trb,h.fr.trn,h.fr.sh,h.fr.nrow⟩,h.defers,h.size,fun i=>qo ah (h.slot i),h.new,fun x ab=>⟨qo ah (h.ext x ab).1,(h.ext x ab).2⟩,h.obk⟩ kd⟩
     ·rcases aY with aY|⟨rfl,_⟩
      ·exact h.good.alt b o aY
      ·exact cM
     ·obtain⟨dI,kO⟩:=gT j dA ai;obtain⟨gP,bh,dU,f1,f2,f3,f4,f5⟩:=h.good.box j dA kO;refine⟨gP,bh,dU,f1,f2,fun o aY=>?_,f4,lV ah f5⟩;rcases aY with aY|⟨rfl,_⟩
      ·exact f3 o aY
      ·exact dI (h.good.inj j k _ (by simp[kO]) (by simp[cA]) f1 g1)
     ·obtain⟨v0,dO,aj,aR,bm,c1⟩:=h.good.own g o aT;have qM:∀b,v0.ownBlock=some b->∀j,ν'.A b j->ν.A b j:=fun b af j aY=>by
       rcases aY with aY|⟨rfl,_⟩
       ·exact aY
       ·exact(mj g _ v0 (by simp[aT]) aj af).elim
      exact⟨v0,dO,aj,aR,fun b af=>⟨(bm b af).1,fun j aY=>(bm b af).2 j (qM b af j aY)⟩,nt ah qM c1⟩
     ·rcases aY with aY|⟨rfl,_⟩
      ·exact h.fr.fresh b o aY
      ·exact .inr g2
    ·cases he
   ·cases he
  ·cases he
 ·cases he
def oo(st:a6)(x:ct)(b:Bool):a6:=match x with
 | .t i=>{st with t:=put i (.bool b) st.t}
 | .c _=>st
def mD(nw:List Nat)(o:List aw):List Nat:=nw.filter fun j=>decide (aw.obj j∉o)
theorem QI{nw:List Nat}{o:List aw}:∀j∈mD nw o,aw.obj j∉o:=fun j ai=>by have:=(List.mem_filter.1 ai).2;simpa using this
def cu(P:bM)(ob:List aw):C->(Exit->a6->Prop)->a6->Prop
 | .skip,Q,st=>Q .normal st
 | .region gs,Q,st=>gd P ob gs st (Q .normal)
 | .drawn q N gs,Q,st=>gv P q [] st.n gs st (pF (st.n+N) st.o (Q .normal))
 | .drawnW nw N gs,Q,st=>gv P false (mD nw st.o) st.n gs st (pF (st.n+N) ((mD nw st.o).map aw.obj++st.o) (Q .normal))
 | .seq a b,Q,st=>cu P ob a (fun e st'=>match e with| .normal=>cu P ob b Q st'|e=>Q e st') st
 | .cond x t e,Q,st=>match bA st.t x with
  | .bool b=>(b=true->cu P ob t Q (oo st x true))/\(b=false->cu P ob e Q (oo st x false))
  |_=>dz
 | .block id c,Q,st=>cu P ob c (fun e st'=>match e with| .exit j=>if j=id then Q .normal st' else Q (.exit j) st'|e=>Q e st') st
 | .loop c,Q,st=> ∃(hG:Nat->a6->Prop) (m:Nat) (ry:a6),k3 ob st ry/\hG m ry/\
   ∀k s,hG k s->(∀i,eQ (get i s.t))->(∀j cs,look j s.b=some cs->gH cs=true->e0 cs)->cu P ob c (fun e aE=>match e with| .normal=> ∃be lp,be<k/\k3 ob aE lp/\hG be lp|e=>Q e aE) s
 | .exit id,Q,st=>Q (.exit id) st
 | .ret,Q,st=>Q .ret st
 | .pub s c,Q,st=>match qh st s with
  |some st'=>cu P ob c Q st'
  |none=>dz
 | .pubB s c,Q,st=>match uw st s with
  |some st'=>cu P ob c Q st'
  |none=>dz
 | .fg lN s c,Q,st=>cu P ob c Q {st with t:=put s (tC lN (get s st.t)) st.t}
 | .fd s c,Q,st=>vo ob st s/\cu P ob c Q (tB st s)
 | .fz eh s c,Q,st=>match qI st eh s with
  |some st'=>cu P ob c Q st'
  |none=>dz
 | .no,_,_=>dz
def fE(N:Nat)(bc:List (Nat×cR)):C->Code->Bool
 | .skip,.skip=>true
 | .region gs,.region _ ops false=>iv N bc ops.toList gs ops.toList
 | .drawn _ N' gs,.region _ ops true=>N'==N&&iv N bc ops.toList gs ops.toList&&va gs ops.toList&&tx N gs
 | .drawnW _ N' gs,.region _ ops true=>N'==N&&iv N bc ops.toList gs ops.toList&&va gs ops.toList&&tx N gs
 | .seq a b,.seq x y=>fE N bc a x&&fE N bc b y
 | .cond x t e,.cond o ek gD=>db x o&&fE N bc t ek&&fE N bc e gD
 | .block id c,.block wa ho=>id==wa&&fE N bc c ho
 | .loop c,.loop ho=>fE N bc c ho
 | .exit id,.exit wa=>id==wa
 | .ret,.ret=>true
 | .pub _ c,ho=>fE N bc c ho
 | .pubB _ c,ho=>fE N bc c ho
 | .fg _ _ c,ho=>fE N bc c ho
 | .fz _ _ c,ho=>fE N bc c ho
 | .fd _ c,ho=>fE N bc c ho
 | .no,_=>true
 |_,_=>false
theorem FW{N:Nat}{bc:List (Nat×cR)}{ops:List Oper}:∀{gs:List cm} {os:List Oper},iv N bc ops gs os=true->gs.length=os.length
 |[],[],_=>rfl
 |[],_::_,h=>by simp[iv]at h
 |_::_,[],h=>by simp[iv]at h
 |g::gs,o::os,h=>by simp only[iv,bE]at h;simp[FW h.2]
def Dl(P:bM)(C:dM)(c:Code)(Q:Exit->a6->Prop)(st:a6):Prop:= ∀a w ν,bX C st a w ν->c.wp P (fun e cy w'=> ∃st' ν',Q e st'/\bX C st' cy w' ν') a w
theorem nb{P:bM}(hm:P.follows .mixedOrders=true){bc:List (Nat×cR)}(aG:fm P bc=true){X:dM}:∀(c:C) (code:Code) (Q:Exit->a6->Prop) (st:a6),fE X.N bc c code=true->cu P X.ob c Q st->Dl P X code Q st
 | .skip,code,Q,st,ah,he=>by
  cases code<;>simp only[fE]at ah<;>try cases ah
  intro a w ν ao;exact wp_skip ⟨st,ν,he,ao⟩
 | .region gs,code,Q,st,ah,he=>by
  cases code<;>try(simp[fE]at ah;done)
  rename_i id ops draw;cases draw<;>simp only[fE]at ah
  ·intro a w ν ao;refine wp_region ?_;have aA:gs.length=ops.size:=by simpa using FW ah
   rw[List.range_eq_range',<-aA];exact Fc aG (K:=Q .normal) (fun st' cy w' ν' I J=>⟨st',ν',I,J⟩) gs ops.toList 0 Ψ ah st a w ν he ao
  ·cases ah
 | .drawn q N gs,code,Q,st,ah,he=>by
  cases code<;>try(simp[fE]at ah;done)
  rename_i id ops draw;cases draw<;>simp only[fE]at ah
  ·cases ah
  ·simp only[bE,cD]at ah;obtain⟨⟨⟨rfl,I⟩,J⟩,ak⟩:=ah;intro a w ν ao;exact Fb hm aG I J ak (nw:=[]) (K:=Q .normal) (fun st' cy w' ν' I J=>⟨st',ν',I,J⟩) Ψ he ao
 | .drawnW nw N gs,code,Q,st,ah,he=>by
  cases code<;>try(simp[fE]at ah;done)
  rename_i id ops draw;cases draw<;>simp only[fE]at ah
  ·cases ah
  ·simp only[bE,cD]at ah;obtain⟨⟨⟨rfl,I⟩,J⟩,ak⟩:=ah;intro a w ν ao;exact Fb hm aG I J ak (nw:=mD nw st.o) (K:=Q .normal) (fun st' cy w' ν' I J=>⟨st',ν',I,J⟩) QI he ao
 | .seq x y,code,Q,st,ah,he=>by
  cases code<;>try(simp[fE]at ah;done)
  rename_i oO jn;simp only[fE,bE]at ah;intro a w ν ao;refine wp_seq ?_;have I:=nb hm aG x oO _ st ah.1 he a w ν ao;refine wp_mono I fun e cy w' ck=>?_;obtain⟨st',ν',bP,cO⟩:=ck;cases e with
  |normal=>exact nb hm aG y jn Q st' ah.2 bP cy w' ν' cO
  |_=>exact⟨st',ν',bP,cO⟩
 | .cond x t e,code,Q,st,ah,he=>by
  cases code<;>try(simp[fE]at ah;done)
  rename_i o Lj ce;simp only[fE,bE]at ah;intro a w ν ao;simp only[cu]at he;have ab:=dc ao ah.1.1;split at he
  ·rename_i b af;rw[af]at ab;simp only[aJ]at ab;have vR:bX X (oo st x b) a w ν:=by
    unfold oo;split
    ·exact Cf ao (by simpa[bA]using af)
    ·exact ao
   refine wp_cond ab ?_;cases b
   ·exact nb hm aG e ce Q _ ah.2 (he.2 rfl) a w ν vR
   ·exact nb hm aG t Lj Q _ ah.1.2 (he.1 rfl) a w ν vR
  ·exact he.elim
 | .block id c,code,Q,st,ah,he=>by
  cases code<;>try(simp[fE]at ah;done)
  rename_i wa ho;simp only[fE,bE,cD]at ah;obtain⟨rfl,ah⟩:=ah;intro a w ν ao;refine wp_block ?_;refine wp_mono (nb hm aG c ho _ st ah he a w ν ao) fun e cy w' ck=>?_;obtain⟨st',ν',bP,cO⟩:=ck;cases e with
  |exit j=>
   simp only[Exit.inBlock]at bP⊢;by_cases ai:j=id
   ·rw[if_pos ai]at bP⊢;exact⟨st',ν',bP,cO⟩
   ·rw[bu ai]at bP⊢;exact⟨st',ν',bP,cO⟩
  |_=>exact⟨st',ν',bP,cO⟩
 | .loop c,code,Q,st,ah,he=>by
  cases code<;>try(simp[fE]at ah;done)
  rename_i ho;simp only[fE]at ah;intro a w ν ao;simp only[cu]at he;obtain⟨hG,m,ry,hw,aq,n7⟩:=he;refine wp_loop_ghost (fun k a w=> ∃s ν,hG k s/\bX X s a w ν) m ⟨ry,_,aq,ao.weaker hw⟩ ?_;intro k a w Oc;obtain⟨s,ν,al,su⟩:=Oc;have I:=n7 k s al (fun i=>IJ (su.slot i)) (fun j cs ai=>by obtain⟨bl,us,el,_,_,_,_,g5⟩:=su.good.box j cs ai;exact Iu g5);refine wp_mono (nb hm aG c ho _ s ah I a w ν su) fun e cy w' ck=>?_;obtain⟨st',ν',bP,cO⟩:=ck;cases e with
  |normal=>obtain⟨be,lp,aj,aR,bm⟩:=bP;exact⟨be,aj,lp,_,bm,cO.weaker aR⟩
  |_=>exact⟨st',ν',bP,cO⟩
 | .exit id,code,Q,st,ah,he=>by
  cases code<;>try(simp[fE]at ah;done)
  rename_i wa;simp only[fE,cD]at ah;subst ah;intro a w ν ao;exact wp_exit ⟨st,ν,he,ao⟩
 | .ret,code,Q,st,ah,he=>by
  cases code<;>try(simp[fE]at ah;done)
  intro a w ν ao;exact wp_ret ⟨st,ν,he,ao⟩
 | .pub s c,code,Q,st,ah,he=>by
  simp only[fE]at ah;simp only[cu]at he;split at he
  ·rename_i st' al;intro a w ν ao;obtain⟨ν',I⟩:=RK ao al;exact nb hm aG c code Q st' ah he a w ν' I
  ·exact he.elim
 | .pubB s c,code,Q,st,ah,he=>by
  simp only[fE]at ah;simp only[cu]at he;split at he
  ·rename_i st' al;intro a w ν ao;obtain⟨ν',I⟩:=RJ ao al;exact nb hm aG c code Q st' ah he a w ν' I
  ·exact he.elim
 | .fg lN s c,code,Q,st,ah,he=>by simp only[fE]at ah;simp only[cu]at he;intro a w ν ao;exact nb hm aG c code Q _ ah he a w ν (Cg ao (Np (ao.slot s)))
 | .fd s c,code,Q,st,ah,he=>by simp only[fE]at ah;simp only[cu]at he;intro a w ν ao;obtain⟨ν',I⟩:=No ao he.1;exact nb hm aG c code Q _ ah he.2 a w ν' I
 | .fz eh s c,code,Q,st,ah,he=>by
  simp only[fE]at ah;simp only[cu]at he;intro a w ν ao;split at he
  ·rename_i st' fS;obtain⟨ν',I⟩:=NB ao fS;exact nb hm aG c code Q st' ah he a w ν' I
  ·exact he.elim
 | .no,code,Q,st,ah,he=>by simp only[cu]at he
inductive cr where
 |tmp (i:Nat)
 |cell (i:Nat) (agg:Bool) (sz:Nat)
def bz(st:a6):cr->bf (Prop×ae)
 | .tmp i=>some (True,get i st.t)
 | .cell i agg sz=>kg st.b st.e agg sz (get i st.t)
def bp(st:a6):List cr->bf (Prop×List ae)
 |[]=>some (True,[])
 |r::eH=>match bz st r,bp st eH with
  |some (c,p),some (ho,bD)=>some (c/\ho,p::bD)
  |_,_=>none
def mG(bc:List (Nat×cR)):List cr->List ResultVar->Bool
 |[],[]=>true
 | .tmp i::eH,.tmp j::os=>i==j&&mG bc eH os
 | .cell i agg sz::eH,.cell j t::os=>i==j&&(match cX bc t with|some f=>f.size==sz&&f.kind.isAgg==agg|none=>false)&&mG bc eH os
 |_,_=>false
def bo:List ae->ae
 |[p]=>p
 |bD=>.tuple bD
def zb(tmps:Array Value):ResultVar->Sem Value
 | .tmp t=>pure (tmps.getD t undef)
 | .cell x t=>do loadVar t (<-asAddr (tmps.getD x undef))
theorem Su(fn:Func)(tmps:Array Value):results fn tmps=(do let vs<-fn.results.mapM (zb tmps);pure (if h:vs.size=1 then vs[0]else .tuple vs)):=by unfold results;congr 2
theorem Cq{P:bM}{bc:List (Nat×cR)}(aG:fm P bc=true){X:dM}{st:a6}{a:Act}{w:World}{ν:aM}(ao:bX X st a w ν):
  ∀(eH:List cr) (os:List ResultVar) (c:Prop) (bD:List ae),mG bc eH os=true->bp st eH=some (c,bD)->c->
  ∃vs,(os.mapM (zb a.tmps)).run P w= .ok vs w/\b4 w ν bD vs
 |[],[],c,bD,_,he,_=>by simp only[bp]at he;cases he;exact⟨[],Ψ,by simp[b4]⟩
 |[],_::_,_,_,ah,_,_=>by simp[mG]at ah
 | .tmp _::_,[],_,_,ah,_,_=>by simp[mG]at ah
 | .cell _ _ _::_,[],_,_,ah,_,_=>by simp[mG]at ah
 |r::eH,o::os,c,bD,ah,he,aQ=>by
  simp only[bp]at he;split at he
  ·rename_i cp p c2 H6 I J;cases he;cases r with
   |tmp i=>
    cases o with
    |cell _ _=>simp[mG]at ah
    |tmp j=>simp only[mG,bE,cD]at ah;obtain⟨rfl,ah⟩:=ah;simp only[bz]at I;cases I;obtain⟨vs,g1,g2⟩:=Cq aG ao eH os c2 H6 ah J aQ.2;refine⟨a.tmps.getD i undef::vs,?_,by simp only[b4];exact⟨_,_,rfl,ao.slot i,g2⟩⟩;simp only[List.mapM_cons,ef,zb,eU,eo,g1]
   |cell i agg sz=>
    cases o with
    |tmp _=>simp[mG]at ah
    |cell j t=>
     simp only[mG,bE,cD]at ah;obtain⟨⟨rfl,ak⟩,ah⟩:=ah;split at ak
     ·rename_i f av;simp only[bE,cD]at ak;obtain⟨rfl,rfl⟩:=ak;simp only[bz]at I;obtain⟨vs,g1,g2⟩:=Cq aG ao eH os c2 H6 ah J aQ.2;obtain⟨v,f1,f2⟩:=yy aG ao.good av (ao.slot i) I aQ.1;have vP:∃jI,a.tmps.getD i undef= .pointer (some jI):=by
       have al:=ao.slot i;unfold kg at I;split at I
       ·rename_i cJ k n hh kq aa;rw[aa]at al;simp only[aJ]at al;obtain⟨⟨b,o,e⟩,_⟩:=al;exact⟨_,e⟩
       ·rename_i k off aa;rw[aa]at al;simp only[aJ]at al;obtain⟨b,_,e⟩:=al;exact⟨_,e⟩
       ·rename_i q aa;rw[aa]at al;simp only[aJ]at al;obtain⟨b,off,u,e,_⟩:=al;exact⟨_,e⟩
       ·cases I
      obtain⟨jI,F5⟩:=vP;rw[F5]at f1;simp only[Instr.loadAt,Instr.sureAddr,ef,eU,eo]at f1;refine⟨v::vs,?_,by simp only[b4];exact⟨_,_,rfl,f2,g2⟩⟩;have Og:(asAddr (.pointer (some jI)):Sem Addr).run P w= .ok jI w:=rfl;simp only[List.mapM_cons,ef,zb,eU,eo,g1,F5,Og,f1]
     ·cases ak
  ·cases he
theorem wI{w:World}{ν:aM}:∀{bD:List ae} {vs:List Value},b4 w ν bD vs->vs.length=bD.length
 |[],vs,h=>by simp only[b4]at h;subst h;rfl
 |p::bD,vs,h=>by simp only[b4]at h;obtain⟨u,bh,rfl,_,J⟩:=h;simp[wI J]
def iD:Nat->List ae->List (Nat×ae)
 |_,[]=>[]
 |i,p::bD=>(i,p)::iD (i+1) bD
theorem xK:∀(bD:List ae) (i j:Nat),get j (iD i bD)=if i<=j/\j<i+bD.length then bD.getD (j-i) .junk else .junk
 |[],i,j=>by simp[iD,get]
 |p::bD,i,j=>by
  simp only[iD,get];by_cases h:i=j
  ·subst h;simp
  ·rw[bu h,xK bD (i+1) j];by_cases J:i<=j/\j<i+(p::bD).length
   ·rw[if_pos J,if_pos (by simp at J⊢;omega)];have:j-i=(j-(i+1))+1:=Ω
    rw[this];simp
   ·rw[bu J,bu (by simp at J⊢;omega)]
def fC{α:Type}(aE:dH):List (aw×α)->Prop
 |[]=>True
 |(k,_)::r=>aK aE k/\fC aE r
theorem we{α:Type}{aE:dH}:∀{l:List (aw×α)},fC aE l->∀k,(look k l).isSome->aK aE k
 |[],_,k,h=>by simp[look]at h
 |(i,x)::r,aa,k,h=>by
  simp only[fC]at aa;simp only[look]at h;split at h
  ·rename_i e;subst e;exact aa.1
  ·exact we aa.2 k h
def fD(eH:List cr)(s:dH)(Q:ae->dH->Prop)(e:Exit)(st:a6):Prop:=
 (e= .ret\/e= .normal)/\match bp st eH with
  |some (c,bD)=>c/\∃aE,fC aE s.b/\fC aE s.e/\mI (aK aE) aE.b st.b/\mJ (aK aE) aE.e st.e/\hP aE/\aH (aK aE) (cg (bo bD))/\Q (cg (bo bD)) aE
  |none=>dz
theorem dP.ofW{P:bM}{bc:List (Nat×cR)}(aG:fm P bc=true){f:FuncId}{fn:Func}(av:P.funcs[f]? =some fn){code:Code}(af:fn.body=some code)(kR:(fn.name== "runtime.NumGoroutine")=false){eH:List cr}(su:mG bc eH fn.results.toList=true)
  {args:List ae} (aA:args.length<=fn.ntmps) {s:dH} (mv:hP s) {Q:ae->dH->Prop} (he:∀X:dM,X.N=fn.ntmps->X.ob=fs s->X.ex=[]->(∀b o,X.ν0.A b o->b<X.w0.heap.size)->fb args->(∀j cs,look j s.b=some cs->gH cs=true->e0 cs)->Dl P X code (fD eH s Q) ⟨iD 0 args,s.b,s.e,0,fs s⟩):dP P f args s Q:=by
 intro w ν vs gl aT ab ao;refine .inl ⟨⟨fn,av,by simp[af],kR⟩,?_⟩;have nk:=wI ao;have jR:vs.size=args.length:=by simpa using nk
 let X:dM:=⟨w,ν,fy ν s,fn.ntmps,fs s,gl,[]⟩
 have lg:∀k,fresh 0 (fs s) k->ν.bx k=none/\ν.ow k=none/\∀j b,¬ν.tr k j b:=by
  intro k aa;cases k with
  |loc m=>exact⟨(ab _).1 (mv.1 m),(ab _).2.1 (mv.2 m),(ab _).2.2⟩
  |obj m=>
   simp only[fresh,true_and]at aa;refine⟨?_,?_,(ab _).2.2⟩
   ·refine(ab _).1 ?_;cases h:look (.obj m) s.b with
    |none=>rfl
    |some x=>exact absurd (ur (.inl (by simp[h]))) aa
   ·refine(ab _).2.1 ?_;cases h:look (.obj m) s.e with
    |none=>rfl
    |some x=>exact absurd (ur (.inr (by simp[h]))) aa
 have lJ:∀m,(ν.bx (.obj m)≠none\/ν.ow (.obj m)≠none)-> .obj m∈fs s:=by
  intro m hm;refine Classical.byContradiction fun aQ=>?_;obtain⟨I,J,_⟩:=lg (.obj m) ⟨trivial,aQ⟩;rcases hm with hm|hm
  ·exact hm I
  ·exact hm J
 have mu:bX X ⟨iD 0 args,s.b,s.e,0,fs s⟩ {tmps:=vs++Array.replicate (fn.ntmps-vs.size) undef,defers:=[]} w ν:=by
  refine⟨⟨aT.alt,fun k cs aa=>?_,aT.inj,fun g o dX=>?_,aT.oinj,aT.obx,aT.one,aT.otr⟩,⟨rfl,rfl,rfl,c7 _,fun _ _ _=>rfl,fun b o h=>⟨h,rfl⟩,fun b o h=>.inl h,fun n b h=>h,fun n b h=>lJ n (.inl (by rw[h];simp)),fun m n u h=>⟨n,u,h,.inl ⟨rfl,rfl⟩⟩,fun m n u h=>lJ m (.inr (by rw[h];simp)),fun k j _ _ b h=>absurd h ((ab k).2.2 j b),fun k j b h=>absurd h ((ab k).2.2 j b),fun k j b h=>absurd h ((ab k).2.2 j b),fun _ _ _=>rfl,fun j n u b aj _=>(by rw[(ab _).2.1 (mv.2 j)]at aj;cases aj)⟩,rfl,?_,fun i=>?_,lg,fun _ ab=>(by cases ab),fun m hm av=>av.2 hm⟩
  ·obtain⟨bl,us,el,g1,g2,g3⟩:=aT.box k cs aa;exact⟨bl,us,el,g1,.inl g2,g3⟩
  ·obtain⟨v,us,g1,g2,g3,g4⟩:=aT.own g o dX;exact⟨v,us,g1,g2,fun bl dQ=>⟨.inl (g3 bl dQ).1,(g3 bl dQ).2⟩,g4⟩
  ·show(vs++Array.replicate (fn.ntmps-vs.size) undef).size=fn.ntmps;simp;omega
  ·rw[xK];by_cases aq:i<args.length
   ·rw[if_pos Ω];have p4:args[i]? =some args[i]:=cB aq;obtain⟨v,aj,aR⟩:=y6 i ao p4;have ba:(vs++Array.replicate (fn.ntmps-vs.size) undef).getD i undef=v:=by
     have xq:vs[i]? =some v:=by simpa using aj
     rw[Array.getD_eq_getD_getElem?,Array.getElem?_append_left Ω,xq];rfl
    show aJ w ν _ ((vs++Array.replicate (fn.ntmps-vs.size) undef).getD i undef);rw[ba];simpa[List.getD,p4]using aR
   ·rw[bu Ω];simp[aJ]
 have PE:=he X rfl rfl rfl aT.alt (IG ao) (fun j cs ai=>by obtain⟨bl,us,el,_,_,_,_,g5⟩:=aT.box j cs ai;exact Iu g5) _ w ν mu;refine calls_of_wp av af (wp_mono PE fun e cy w' ck=>?_);obtain⟨st',ν',⟨nX,bP⟩,cO⟩:=ck;cases ss:bp st' eH with
 |none=>simp[ss]at bP
 |some x=>
  obtain⟨ho,bD⟩:=x;simp only[ss]at bP;obtain⟨ku,aE,kb,ke,bK,b6,cH,dd,cz⟩:=bP;obtain⟨rv,g1,g2⟩:=Cq aG cO eH fn.results.toList ho bD su ss ku;have A0:=wI g2;have kN:cy.defers=[]/\∃v,(results fn cy.tmps).run P w'= .ok v w'/\(fun(e:Ending) w'=> ∃v r aE ν',e= .returned v/\Q r aE/\aJ w' ν' r v/\Good (fun bl=>fy ν s bl\/w.heap.size<=bl) w' ν' aE.b aE.e/\oS ν' aE/\hP aE/\oH ⟨w,ν,fy ν s,0,fs s,gl,[]⟩ w' ν') (.returned v) w':=by
   refine⟨cO.defers,?_⟩;have fQ:(results fn cy.tmps).run P w'= .ok (if h:rv.toArray.size=1 then rv.toArray[0]else .tuple rv.toArray) w':=by rw[Su];simp only[ef,Array.mapM_eq_mapM_toList,Sem.run_map,g1,eo,eU]
   refine⟨_,fQ,_,cg (bo bD),aE,ν'.cut (aK aE),rfl,cz,?_,cO.good.cut bK b6 (fun bl h _=>h),?_,cH,?_⟩
   ·have jx:aJ w' ν' (bo bD) (if h:rv.toArray.size=1 then rv.toArray[0]else .tuple rv.toArray):=by
     match bD,rv,g2,A0 with
     |[p],[v],g2,_=>simp only[b4]at g2;obtain⟨u,bh,aj,aR,_⟩:=g2;cases aj;simpa[bo]using aR
     |[],[],g2,_=>simp[bo,aJ,b4]
     |p::gA::bD,v::v2::rv,g2,_=>rw[dif_neg Ψ];simp only[bo,aJ];exact⟨_,rfl,by simpa using g2⟩
     |[_],[],_,h=>simp at h
     |[],_::_,_,h=>simp at h
     |[_],_::_::_,_,h=>simp at h
     |_::_::_,[],_,h=>simp at h
     |_::_::_,[_],_,h=>simp at h
    exact oq (k2.cut _ w' ν') _ _ dd (sP _ _ jx)
   ·intro k;refine⟨?_,?_,?_⟩;rotate_left 2
    ·rintro j b ⟨al,af⟩;obtain⟨t1,t2⟩:=cO.fr.trn k j b af;rcases al with al|al<;>obtain⟨x,mw⟩:=eK.1 al
     ·obtain⟨bl,bh,el,aj,_⟩:=cO.good.box k x (bK k x mw).1;rw[t1]at aj;cases aj
     ·obtain⟨v',bh,aj,_⟩:=cO.good.own k x (b6 k x mw).1;rw[t2]at aj;cases aj
    ·intro aa;by_cases al:aK aE k
     ·rw[aM.cut_bx al];rcases al with al|al
      ·rw[aa]at al;cases al
      ·obtain⟨x,mw⟩:=eK.1 al;obtain⟨v',bh,aj,_⟩:=cO.good.own k x (b6 k x mw).1;rcases cO.good.one k with I|I
       ·exact I
       ·rw[I]at aj;cases aj
     ·exact(aM.cut_no al).1
    ·intro aa;by_cases al:aK aE k
     ·rw[aM.cut_ow al];rcases al with al|al
      ·obtain⟨x,mw⟩:=eK.1 al;obtain⟨bl,bh,el,aj,_⟩:=cO.good.box k x (bK k x mw).1;rcases cO.good.one k with I|I
       ·rw[I]at aj;cases aj
       ·exact I
      ·rw[aa]at al;cases al
     ·exact(aM.cut_no al).2.1
   ·refine⟨cO.fr.os,cO.fr.tape,cO.fr.output,cO.fr.size,cO.fr.block,cO.fr.keep,cO.fr.fresh,fun n b h=>?_,fun n b h=>lJ n (.inl (by rw[h];simp)),fun m n u h=>?_,fun m n u h=>lJ m (.inr (by rw[h];simp)),fun k j be ei b I J=>cO.fr.trd k j be ei b I.2 J.2,fun k j b af=>cO.fr.trb k j b af.2,fun k j b af=>(by rw[aM.cut_bx af.1,aM.cut_ow af.1];exact cO.fr.trn k j b af.2),cO.fr.sh,fun j n u b aj aR=>cO.fr.nrow j n u b (aM.cut_someO aj).2 aR⟩
    ·have al:aK aE (.obj n):=by
      cases aA:look (.obj n) s.b with
      |none=>rw[(ab _).1 aA]at h;cases h
      |some x=>exact we kb _ (by simp[aA])
     rw[aM.cut_bx al];exact cO.fr.obj n b h
    ·have al:aK aE (.obj m):=by
      cases aA:look (.obj m) s.e with
      |none=>rw[(ab _).2.1 aA]at h;cases h
      |some x=>exact we ke _ (by simp[aA])
     rw[aM.cut_ow al];exact cO.fr.row m n u h
  rcases nX with rfl|rfl<;>exact kN
theorem dP.of{P:bM}(hm:P.follows .mixedOrders=true){bc:List (Nat×cR)}(aG:fm P bc=true){f:FuncId}{fn:Func}(av:P.funcs[f]? =some fn){code:Code}(af:fn.body=some code)(kR:(fn.name== "runtime.NumGoroutine")=false){c:C}(aQ:fE fn.ntmps bc c code=true){eH:List cr}(su:mG bc eH fn.results.toList=true)
  {args:List ae} (aA:args.length<=fn.ntmps) {s:dH} (mv:hP s) {Q:ae->dH->Prop} (he:fb args->(∀j cs,look j s.b=some cs->gH cs=true->e0 cs)->cu P (fs s) c (fD eH s Q) ⟨iD 0 args,s.b,s.e,0,fs s⟩):dP P f args s Q:=
 dP.ofW aG av af kR su aA mv fun X gR sq _ _ I J=>nb hm aG c code _ _ (by rw[gR];exact aQ) (by rw[sq];exact he I J)
def cG(bc:List (Nat×cR))(c:C)(eH:List cr)(QC:Nat)(fn:Func):Bool:=
 match fn.body with
 |some code=>fE fn.ntmps bc c code&&mG bc eH fn.results.toList&& !(fn.name== "runtime.NumGoroutine")&&decide (QC<=fn.ntmps)
 |none=>false
theorem dP.mk{P:bM}(hm:P.follows .mixedOrders=true){bc:List (Nat×cR)}(aG:fm P bc=true){f:FuncId}{fn:Func}(av:P.funcs[f]? =some fn){c:C}{eH:List cr}{n:Nat}(fw:cG bc c eH n fn=true)
  {args:List ae} (aA:args.length<=n) {s:dH} (mv:hP s) {Q:ae->dH->Prop} (he:fb args->(∀j cs,look j s.b=some cs->gH cs=true->e0 cs)->cu P (fs s) c (fD eH s Q) ⟨iD 0 args,s.b,s.e,0,fs s⟩):dP P f args s Q:=by
 unfold cG at fw;split at fw
 ·rename_i code af;simp only[bE,Bool.not_eq_true',fY]at fw;obtain⟨⟨⟨I,J⟩,ak⟩,aV⟩:=fw;exact dP.of hm aG av af ak I J (Nat.le_trans aA aV) mv he
 ·cases fw
theorem sJ:hP ⟨[],[]⟩:=⟨fun _=>rfl,fun _=>rfl⟩
def bJ(eH:List cr)(r:ae)(e:Exit)(st:a6):Prop:=
 (e= .ret\/e= .normal)/\match bp st eH with
  |some (c,bD)=>c/\cg (bo bD)=r
  |none=>dz
theorem Ka{eH:List cr}{r:ae}(ao:aH (fun _=>dz) r):bJ eH r=fD eH ⟨[],[]⟩ (fun fK aE=>fK=r/\aE=⟨[],[]⟩):=by
 funext e st;unfold bJ fD;apply propext;refine and_congr_right fun _=>?_;cases bp st eH with
 |none=>exact Iff.rfl
 |some x=>
  obtain⟨c,bD⟩:=x;refine and_congr_right fun _=>?_;constructor
  ·intro h;refine⟨⟨[],[]⟩,trivial,trivial,fun k cs aa=>by simp[look]at aa,fun k cs aa=>by simp[look]at aa,sJ,?_,h,rfl⟩;rw[h];exact sD (fun k aa=>aa.elim) r ao
  ·rintro⟨aE,_,_,_,_,_,_,h,_⟩;exact h
theorem bF.mk{P:bM}(hm:P.follows .mixedOrders=true){bc:List (Nat×cR)}(aG:fm P bc=true){f:FuncId}{fn:Func}(av:P.funcs[f]? =some fn){c:C}{eH:List cr}{n:Nat}(fw:cG bc c eH n fn=true)
  {args:List ae} (aA:args.length<=n) {r:ae} (ao:aH (fun _=>dz) r) (he:fb args->cu P [] c (bJ eH r) ⟨iD 0 args,[],[],0,[]⟩):bF P f args r:=by
 refine dP.mk hm aG av fw aA sJ fun I _=>?_;rw[<-Ka ao];exact he I
theorem C9{α:Type}{β:Type}:∀l:List (aw×α),ch ([]:List (aw×β)) l=l
 |[]=>rfl
 |(k,x)::r=>by simp[ch,look,C9 r]
theorem cL.val{P:bM}{n:Nat}{args:List ae}{st:a6}{d:bf Nat}{K:a6->Prop}{r:ae}(aa:aB (fun _=>dz) args)(av:bF P n args r)(h:K {st with t:=eD d r st.t}):cL P n args st d K:=by
 refine .inl ⟨⟨[],[]⟩,_,fun k cs aa=>by simp[look]at aa,fun k cs aa=>by simp[look]at aa,sJ,q7 (fun _ h=>h.elim) _ aa,av,?_⟩;rintro fK aE ⟨rfl,rfl⟩;refine⟨⟨fun m h=>by simp[look]at h,fun m h=>by simp[look]at h⟩,?_⟩;have:after st ⟨[],[]⟩ ⟨[],[]⟩ d fK={st with t:=eD d fK st.t}:=by simp[after,C9,fs]
 rw[this];exact h
@[reducible,simp] def dG(n:Int):ct:= .c (.int .i64 n)
@[reducible,simp] def ad(a b:Nat):cm:=⟨none,.s (.v a (.mov (.t b)))⟩
@[reducible,simp] def bI(a:Nat)(i:eV):cm:=⟨none,.s (.v a i)⟩
@[reducible,simp] def dm(i:df):cm:=⟨none,.s i⟩
@[reducible,simp] def iV(a f:Nat)(l:List ct):cm:=⟨none,.call (some a) (.c (.func f [])) l⟩
@[reducible,simp] def cZ(j:Nat)(w:Bool)(a b:Nat):cm:=⟨some (j,w),.s (.v a (.mov (.t b)))⟩
@[reducible,simp] def pC(j:Nat)(w:Bool)(a:Nat)(i:eV):cm:=⟨some (j,w),.s (.v a i)⟩
@[reducible,simp] def ys(j:Nat)(w:Bool)(i:df):cm:=⟨some (j,w),.s i⟩
@[reducible,simp] def dk(d s a b:Nat):cm:=bI d (.iaddr s (.t a) (.t b))
@[reducible,simp] def aN(d s a:Nat):cm:=bI d (.load false s (.t a))
@[reducible,simp] def bT(d s a:Nat):cm:=bI d (.load true s (.t a))
@[reducible,simp] def aL(d o s a:Nat):cm:=bI d (.faddr o false s (.t a))
@[reducible,simp] def h7(d o s a:Nat):cm:=bI d (.faddr o true s (.t a))
@[reducible,simp] def b2(d:Nat)(o:BinOp)(a b:Nat):cm:=bI d (.bin o false (.t a) (.t b))
@[reducible,simp] def aZ(d:Nat)(o:BinOp)(a:Nat)(n:Int):cm:=bI d (.bin o false (.t a) (dG n))
@[reducible,simp] def cw(d a:Nat):cm:=bI d (.len (.t a))
@[reducible,simp] def e7(d a:Nat):cm:=bI d (.notB (.t a))
@[reducible,simp] def H9(d i a:Nat):cm:=bI d (.ext i (.t a))
@[reducible,simp] def dq(d a b:Nat):cm:=bI d (.pick (.t a) (.c (.bool true)) (.t b))
@[reducible,simp] def dT(d a b:Nat):cm:=bI d (.pick (.t a) (.t b) (.c (.bool false)))
@[reducible,simp] def b3(d:Nat)(b:Bool):cm:=bI d (.mov (.c (.bool b)))
@[reducible,simp] def cl(d:Nat)(n:Int):cm:=bI d (.mov (dG n))
@[reducible,simp] def cI(s a b:Nat):cm:=dm (.store s (.t a) (.t b))
@[reducible,simp] def au(j:Nat)(w:Bool)(x:cm):cm:=⟨some (j,w),x.i⟩
@[reducible,simp] def ag(l:List cm)(c:C):C:= .seq (.region l) c
@[reducible,simp] def bg(n:Nat)(a b:C):C:= .cond (.t n) a b
@[reducible,simp] def JV(d a:Nat)(l:List ct):cm:=⟨none,.call (some d) (.t a) l⟩
@[reducible,simp] def cK(d f a:Nat):cm:=iV d f [.t a]
@[reducible,simp] def en(d f a b:Nat):cm:=iV d f [.t a,.t b]
@[reducible,simp] def oa:List ae:=[.int .i64 0,.int .i64 0,.str [],.slice 4 .nil []]
@[reducible,simp] def dL(a b:Nat):cm:=dm (.box a none (.t b))
@[reducible,simp] def mP(a:Nat)(l:List ae):cm:=dm (.alloc a none (.agg l))
@[reducible,simp] def pB(a n:Nat):cm:=bI a (.mov (.c (.slice n .nil [])))
@[reducible,simp] def oy(a b c d e:Nat):cm:=dm (.app a b c (.t d) (.t e))
@[reducible,simp] def ji(a b c:Nat)(l:List ct):cm:=dm (.bsl a b c l)
@[reducible,simp] def JT(a b:Nat):cm:=bI a (.nck (.t b))
@[reducible,simp] def jF(d s a:Nat)(n:Int):cm:=bI d (.iaddr s (.t a) (dG n))
@[reducible,simp] def jG(a b c:Nat)(x:C):C:= .block 0 (.loop (ag [b2 a .lss b c] (.seq (bg a .skip (.exit 0)) x)))
end
end Go.Pv
namespace Go.Proofs.YtlnndmgfngfeiaaGreatDoor
section
open Go Go.Pv
def DP:C:=(ag [dL 1 0,b3 2 false] (ag [bT 3 4 1,iV 4 150 [.t 3,(dG 5000)],aZ 5 .gtr 4 0,ad 2 5] .ret))
@[simp] def Ie:List cr:=[.tmp 2]
def xf:C:=(ag [dL 2 0] (.seq (ag [aL 4 0 1 2,aN 5 1 4,aZ 6 .eql 5 1] (bg 6 (.region [ad 7 1,aL 8 1 1 2,aN 9 1 8,JV 10 7 [.t 9]]) .skip)) (ag [aL 11 0 1 2,aN 12 1 11,aZ 13 .eql 12 4] (bg 13 (ag [aL 14 3 1 2,aN 15 1 14,jF 16 4 15 0,bT 17 4 16,ad 18 1,en 19 79 17 18] (.region [aL 20 3 1 2,aN 21 1 20,jF 22 4 21 1,bT 23 4 22,ad 24 1,en 25 79 23 24])) .skip))))
@[simp] def yX:List cr:=[]
def DX:C:=(ag [dL 2 0,cl 4 0] (.seq (ag [ad 7 1,aZ 8 .lss 7 1] (bg 8 (ag [cl 4 (-1)] .ret) .skip)) (.seq (ag [aL 9 0 1 2,aN 10 1 9,aZ 11 .neq 10 4] (bg 11 (.seq (ag [aL 12 3 1 2,aN 13 1 12,cw 14 13,aZ 15 .neq 14 0] (bg 15 (ag [cl 4 (-1)] .ret) .skip)) (.seq (ag [aL 16 0 1 2,aN 17 1 16] (.block 0 (ag [aZ 19 .eql 17 0,ad 18 19] (bg 18 (ag [aL 20 1 1 2,aN 21 1 20,aZ 22 .neq 21 0,ad 23 22,au 23 false (aL 24 2 1 2),au 23 false (aN 25 1 24),pC 23 false 26 (.bin .neq false (.t 25) (.c (.str []))),dq 27 23 26] (bg 27 (ag [cl 4 (-1)] .ret) .skip)) (ag [aZ 29 .eql 17 1,ad 28 29] (bg 28 (ag [aL 30 1 1 2,aN 31 1 30,aZ 32 .lss 31 0,ad 33 32,au 33 false (aL 34 1 1 2),au 33 false (aN 35 1 34),au 33 false (aZ 36 .gtr 35 100000),dq 37 33 36,ad 38 37,au 38 false (aL 39 2 1 2),au 38 false (aN 40 1 39),pC 38 false 41 (.bin .neq false (.t 40) (.c (.str []))),dq 42 38 41] (bg 42 (ag [cl 4 (-1)] .ret) .skip)) (ag [aZ 44 .eql 17 2,ad 43 44] (bg 43 (ag [aL 45 1 1 2,aN 46 1 45,aZ 47 .neq 46 0,ad 48 47,au 48 false (aL 49 2 1 2),au 48 false (aN 50 1 49),au 48 false (cK 51 170 50),au 48 false (e7 52 51),dq 53 48 52] (bg 53 (ag [cl 4 (-1)] .ret) .skip)) (ag [aZ 55 .eql 17 3,ad 54 55] (bg 54 (ag [aL 56 1 1 2,aN 57 1 56,aZ 58 .lss 57 (-1000000000),ad 59 58,au 59 false (aL 60 1 1 2),au 59 false (aN 61 1 60),au 59 false (aZ 62 .gtr 61 1000000000),dq 63 59 62,ad 64 63,au 64 false (aL 65 2 1 2),au 64 false (aN 66 1 65),pC 64 false 67 (.bin .neq false (.t 66) (.c (.str []))),dq 68 64 67] (bg 68 (ag [cl 4 (-1)] .ret) .skip)) (ag [cl 4 (-1)] .ret))))))))))) (ag [cl 4 1] .ret))) .skip)) (.seq (ag [aL 69 1 1 2,aN 70 1 69,aZ 71 .neq 70 0,ad 72 71,au 72 false (aL 73 2 1 2),au 72 false (aN 74 1 73),pC 72 false 75 (.bin .neq false (.t 74) (.c (.str []))),dq 76 72 75,ad 77 76,au 77 false (aL 78 3 1 2),au 77 false (aN 79 1 78),au 77 false (cw 80 79),au 77 false (aZ 81 .neq 80 2),dq 82 77 81] (bg 82 (ag [cl 4 (-1)] .ret) .skip)) (ag [aL 83 3 1 2,aN 84 1 83,jF 85 4 84 0,bT 86 4 85,ad 87 1,aZ 88 .sub 87 1,en 89 150 86 88,ad 5 89] (.seq (ag [ad 90 5,aZ 91 .lss 90 0] (bg 91 (ag [cl 4 (-1)] .ret) .skip)) (ag [aL 92 3 1 2,aN 93 1 92,jF 94 4 93 1,bT 95 4 94,ad 96 1,aZ 97 .sub 96 1,ad 98 5,b2 99 .sub 97 98,en 100 150 95 99,ad 6 100] (.seq (ag [ad 101 6,aZ 102 .lss 101 0] (bg 102 (ag [cl 4 (-1)] .ret) .skip)) (ag [ad 103 5,bI 104 (.bin .add false (dG 1) (.t 103)),ad 105 6,b2 106 .add 104 105,ad 4 106] .ret)))))))))
@[simp] def yY:List cr:=[.tmp 4]
def DY:C:=(ag [pB 2 1] (ag [dm (.bslm 5 (some 306) 1 3 []),ad 3 5] (.seq (ag [ad 6 0,dm (.range 7 none (.t 6))] (.block 0 (.loop (ag [⟨none,.next 8 (.t 7)⟩,H9 9 0 8] (.seq (bg 9 .skip (.exit 0)) (.block 1 (ag [bI 10 (.ment (.t 7)),H9 11 0 10,ad 4 11] (.region [ad 12 3,ad 13 4,ji 14 1 3 [.t 13],dm (.appm 15 none 1 3 (.t 12) (.t 14)),ad 3 15])))))))) (ag [ad 16 3,cK 17 213 16] (.seq (.pub 3 (.region [ad 18 3,ad 2 18])) .ret)))))
@[simp] def Ik:List cr:=[.tmp 2]
def DN:C:=(ag [b3 2 false] (.seq (ag [ad 4 0,bI 5 (.slen (.t 4)),aZ 6 .lss 5 1,ad 7 6,cZ 7 false 8 0,au 7 false (bI 9 (.slen (.t 8))),au 7 false (aZ 10 .gtr 9 12),dq 11 7 10,ad 12 11,cZ 12 false 13 0,au 12 false (bI 14 (.sidx (.t 13) (dG 0))),au 12 false (bI 15 (.bin .lss false (.t 14) (.c (.int .u8 97)))),dq 16 12 15,ad 17 16,cZ 17 false 18 0,au 17 false (bI 19 (.sidx (.t 18) (dG 0))),au 17 false (bI 20 (.bin .gtr false (.t 19) (.c (.int .u8 122)))),dq 21 17 20] (bg 21 (ag [b3 2 false] .ret) .skip)) (.seq (ag [cl 3 1] (.block 0 (.loop (.seq (ag [ad 22 3,ad 23 0,bI 24 (.slen (.t 23)),b2 25 .lss 22 24] (bg 25 .skip (.exit 0))) (.seq (.block 1 (ag [ad 28 0,ad 29 3,bI 30 (.sidx (.t 28) (.t 29)),bI 31 (.bin .geq false (.t 30) (.c (.int .u8 97))),ad 32 31,cZ 32 true 33 0,cZ 32 true 34 3,au 32 true (bI 35 (.sidx (.t 33) (.t 34))),au 32 true (bI 36 (.bin .leq false (.t 35) (.c (.int .u8 122)))),dT 37 32 36,ad 38 37,cZ 38 false 39 0,cZ 38 false 40 3,au 38 false (bI 41 (.sidx (.t 39) (.t 40))),au 38 false (bI 42 (.bin .geq false (.t 41) (.c (.int .u8 48)))),cZ 38 false 43 42,cZ 43 true 44 0,cZ 43 true 45 3,au 43 true (bI 46 (.sidx (.t 44) (.t 45))),au 43 true (bI 47 (.bin .leq false (.t 46) (.c (.int .u8 57)))),au 38 false (dT 48 43 47),dq 49 38 48,ad 50 49,cZ 50 false 51 0,cZ 50 false 52 3,au 50 false (bI 53 (.sidx (.t 51) (.t 52))),au 50 false (bI 54 (.bin .eql false (.t 53) (.c (.int .u8 45)))),dq 55 50 54,e7 56 55] (bg 56 (ag [b3 2 false] .ret) .skip))) (.region [ad 26 3,aZ 27 .add 26 1,ad 3 27])))))) (ag [b3 2 true] .ret))))
@[simp] def yW:List cr:=[.tmp 2]
def DZ:C:=(ag [b3 2 false] (.seq (ag [ad 5 0,cw 6 5,cl 7 0] (jG 8 7 6 (.seq (.block 1 (ag [dk 9 4 5 7,bT 10 4 9,mP 4 oa,cI 4 4 10] (ag [bT 11 4 4,cK 12 77 11,e7 13 12] (bg 13 (ag [b3 2 false] .ret) .skip)))) (.region [aZ 14 .add 7 1,ad 7 14])))) (ag [b3 2 true] .ret)))
@[simp] def RT:List cr:=[.tmp 2]
def bc:List (Nat×cR):=[
 (3,⟨1,8,.int .i64,.int .i64 0⟩),
 (9,⟨1,16,.str,.str []⟩),
 (36,⟨1,24,.slice 120,.slice 5 .nil []⟩),
 (38,⟨1,24,.slice 40,.slice 4 .nil []⟩),
 (40,⟨4,56,.struct [(0,3),(1,3),(2,9),(3,38)],.agg [.int .i64 0,.int .i64 0,.str [],.slice 4 .nil []]⟩),
 (120,⟨5,64,.struct [(0,3),(1,40)],.agg [.int .i64 0,.int .i64 0,.int .i64 0,.str [],.slice 4 .nil []]⟩),
 (136,⟨1,24,.slice 3,.slice 1 .nil []⟩),
 (189,⟨1,8,.other,.junk⟩),
 (199,⟨1,8,.map 3 4,.junk⟩),
 (209,⟨1,8,.int .u64,.int .u64 0⟩)]
theorem mixed:aF.follows .mixedOrders=true:=by kernel_rfl
theorem bq{bc:List (Nat×cR)}(aG:fm aF bc=true){f:FuncId}{fn:Func}(av:aF.funcs[f]? =some fn){c:C}{eH:List cr}{n:Nat}(fw:cG bc c eH n fn=true){args:List ae}{r:ae}(he:fb args->cu aF [] c (bJ eH r) ⟨iD 0 args,[],[],0,[]⟩)(aA:args.length<=n:=by simp)(ao:aH (fun _=>dz) r:=by simp[aH]):bF aF f args r:=bF.mk mixed aG av fw aA ao he
theorem rG:fm aF bc=true:=by kernel_rfl
theorem QT:cG bc DP Ie 1 Tryz.f77=true:=by kernel_rfl
theorem MA:aF.funcs[(77:Nat)]? =some Tryz.f77:=Tryz.func77
theorem BY:cG bc xf yX 2 Tryz.f79=true:=by kernel_rfl
theorem Ag:aF.funcs[(79:Nat)]? =some Tryz.f79:=Tryz.func79
theorem Q1:cG bc DX yY 2 Tryz.f150=true:=by kernel_rfl
theorem MI:aF.funcs[(150:Nat)]? =some Tryz.f150:=Tryz.func150
theorem Q2:cG bc DY Ik 1 Tryz.f160=true:=by kernel_rfl
theorem MJ:aF.funcs[(160:Nat)]? =some Tryz.f160:=Tryz.func160
theorem QR:cG bc DN yW 1 Tryz.f170=true:=by kernel_rfl
theorem My:aF.funcs[(170:Nat)]? =some Tryz.f170:=Tryz.func170
theorem Q3:cG bc DZ RT 1 Tryz.f183=true:=by kernel_rfl
theorem MK:aF.funcs[(183:Nat)]? =some Tryz.f183:=Tryz.func183
end
end Go.Proofs.YtlnndmgfngfeiaaGreatDoor
namespace Go.Pv
section
open Go Go.RowKit
theorem eM{α:Type}{l:List α}{i:Nat}(h:i<l.length):∃b,l[i]? =some b/\∀h,(l[i]'h)=b:=⟨l[i],cB h,fun _=>rfl⟩
def Cy(st:a6)(i:df):Prop:=match jE st i with|some (c,_)=>c|none=>dz
def Cz(st:a6)(i:df):a6:=match jE st i with|some (_,s)=>s|none=>st
def tf(P:bM)(ob:List aw)(r:List cm)(K:a6->Prop)(st:a6):Prop:=gd P ob r st K
def tj(P:bM)(ob:List aw)(c:C)(Q:Exit->a6->Prop)(st:a6):Prop:=cu P ob c Q st
def me(P:bM)(ob:List aw)(v:ae)(s:Nat)(w:Bool)(i:ds)(r:List cm)(st:a6)(K:a6->Prop):Prop:=
 match v with
 | .bool b=>(b=w->gd P ob (⟨none,i⟩::r) {st with t:=put s (.bool w) st.t} K)/\(b= !w->gd P ob r {st with t:=eD i.dst (.tuple []) (put s (.bool !w) st.t)} K)
 | .tuple []=>gd P ob r {st with t:=eD i.dst (.tuple []) st.t} K
 |_=>dz
def pS(P:bM)(ob:List aw)(v:ae)(x:ct)(t e:C)(Q:Exit->a6->Prop)(st:a6):Prop:=
 match v with
 | .bool b=>(b=true->cu P ob t Q (oo st x true))/\(b=false->cu P ob e Q (oo st x false))
 |_=>dz
def Ac(P:bM)(ob:List aw)(v:ae)(d:bf Nat)(xs:List ae)(r:List cm)(st:a6)(K:a6->Prop):Prop:=
 match v with
 | .func n cY=>cL P n (cd (xs++cY)) st d (tf P ob r K)
 |_=>dz
section
variable {P:bM} {ob:List aw} {st:a6} {K:a6->Prop} {r:List cm} {Q:Exit->a6->Prop} {a b c t e:C}
theorem Mi:gd P ob [] st K=K st:=rfl
theorem Mk{i:df}:gd P ob (⟨none,.s i⟩::r) st K=(Cy st i/\gd P ob r (Cz st i) K):=by
 simp only[gd,nM,Cy,Cz];cases jE st i with
 |none=>simp
 |some x=>rfl
theorem Mf{d:bf Nat}{f:ct}{xs:List ct}:gd P ob (⟨none,.call d f xs⟩::r) st K=Ac P ob (bA st.t f) d (xs.map (bA st.t)) r st K:=by simp only[gd,nM,Ac];rfl
def Ad(P:bM)(ob:List aw)(v:ae)(d:bf Nat)(xs:List ae)(r:List cm)(st:a6)(K:a6->Prop):Prop:=
 match v with
 | .func n cY=>u3 P ob n (xs++cY) st d (tf P ob r K)
 |_=>dz
theorem Mj{d:bf Nat}{f:ct}{xs:List ct}:gd P ob (⟨none,.opn d f xs⟩::r) st K=Ad P ob (bA st.t f) d (xs.map (bA st.t)) r st K:=by simp only[gd,nM,Ad];rfl
theorem Md{n:Nat}{cY xs:List ae}{d:bf Nat}:Ad P ob (.func n cY) d xs r st K=u3 P ob n (xs++cY) st d (tf P ob r K):=rfl
theorem Mh{d:Nat}{x:ct}:gd P ob (⟨none,.next d x⟩::r) st K=rW st d (bA st.t x) (tf P ob r K):=by simp only[gd,nM];rfl
def rL(P:bM)(ob:List aw)(c:C)(Q:Exit->a6->Prop):bf a6->Prop
 |some st=>cu P ob c Q st
 |none=>dz
theorem J9:rL P ob c Q (some st)=cu P ob c Q st:=rfl
theorem LS{s:Nat}:cu P ob (.pub s c) Q st=rL P ob c Q (qh st s):=by simp only[cu];cases qh st s<;>rfl
theorem LO{lN:Bool}{s:Nat}:cu P ob (.fg lN s c) Q st=cu P ob c Q {st with t:=put s (tC lN (get s st.t)) st.t}:=rfl
theorem LP{lN:Bool}{s:Nat}{d:C}:cu P ob (.seq (.fg lN s c) d) Q st=cu P ob (.seq c d) Q {st with t:=put s (tC lN (get s st.t)) st.t}:=rfl
theorem LQ{eh:Bool}{s:Nat}:cu P ob (.fz eh s c) Q st=rL P ob c Q (qI st eh s):=by simp only[cu];cases qI st eh s<;>rfl
theorem LR{eh:Bool}{s:Nat}{d:C}:cu P ob (.seq (.fz eh s c) d) Q st=rL P ob (.seq c d) Q (qI st eh s):=by simp only[cu];cases qI st eh s<;>rfl
theorem LM{s:Nat}:cu P ob (.fd s c) Q st=(vo ob st s/\cu P ob c Q (tB st s)):=rfl
theorem LN{s:Nat}{d:C}:cu P ob (.seq (.fd s c) d) Q st=(vo ob st s/\cu P ob (.seq c d) Q (tB st s)):=rfl
theorem LU{s:Nat}:cu P ob (.pubB s c) Q st=rL P ob c Q (uw st s):=by simp only[cu];cases uw st s<;>rfl
theorem Me{n:Nat}{cY:List ae}{d:bf Nat}{xs:List ae}:Ac P ob (.func n cY) d xs r st K=cL P n (cd (xs++cY)) st d (tf P ob r K):=rfl
theorem Mg{s:Nat}{w:Bool}{i:ds}:gd P ob (⟨some (s,w),i⟩::r) st K=me P ob (get s st.t) s w i r st K:=by simp only[gd,me];try rfl
theorem Mp{s:Nat}{i:ds}:me P ob (.bool true) s true i r st K=gd P ob (⟨none,i⟩::r) {st with t:=put s (.bool true) st.t} K:=by simp[me]
theorem Ml{s:Nat}{i:ds}:me P ob (.bool false) s false i r st K=gd P ob (⟨none,i⟩::r) {st with t:=put s (.bool false) st.t} K:=by simp[me]
theorem Mo{s:Nat}{i:ds}:me P ob (.bool true) s false i r st K=gd P ob r {st with t:=eD i.dst (.tuple []) (put s (.bool true) st.t)} K:=by simp[me]
theorem Mm{s:Nat}{i:ds}:me P ob (.bool false) s true i r st K=gd P ob r {st with t:=eD i.dst (.tuple []) (put s (.bool false) st.t)} K:=by simp[me]
theorem Mn{s:Nat}{w:Bool}{i:ds}:me P ob (.tuple []) s w i r st K=gd P ob r {st with t:=eD i.dst (.tuple []) st.t} K:=by simp[me]
theorem b9{x:Bool}{s:Nat}{w:Bool}{i:ds}(I:x=w->gd P ob (⟨none,i⟩::r) {st with t:=put s (.bool w) st.t} K)(J:x= !w->gd P ob r {st with t:=eD i.dst (.tuple []) (put s (.bool !w) st.t)} K):me P ob (.bool x) s w i r st K:=⟨I,J⟩
theorem LA:cu P ob (.seq (.seq a b) c) Q st=cu P ob (.seq a (.seq b c)) Q st:=by simp only[cu];congr 1;funext e st';cases e<;>rfl
theorem LZ:cu P ob (.seq .skip c) Q st=cu P ob c Q st:=rfl
theorem LX:cu P ob (.seq .ret c) Q st=Q .ret st:=rfl
theorem LK{n:Nat}:cu P ob (.seq (.exit n) c) Q st=Q (.exit n) st:=rfl
theorem L0:cu P ob .skip Q st=Q .normal st:=rfl
theorem LY:cu P ob .ret Q st=Q .ret st:=rfl
theorem LL{n:Nat}:cu P ob (.exit n) Q st=Q (.exit n) st:=rfl
theorem LV{gs:List cm}:cu P ob (.seq (.region gs) c) Q st=gd P ob gs st (tj P ob c Q):=rfl
theorem LW{gs:List cm}:cu P ob (.region gs) Q st=gd P ob gs st (Q .normal):=rfl
theorem LD{x:ct}:cu P ob (.seq (.cond x t e) c) Q st=pS P ob (bA st.t x) x (.seq t c) (.seq e c) Q st:=by simp only[cu,pS];try rfl
theorem LF{x:ct}:cu P ob (.cond x t e) Q st=pS P ob (bA st.t x) x t e Q st:=by simp only[cu,pS];try rfl
theorem L2{x:ct}:pS P ob (.bool true) x t e Q st=cu P ob t Q (oo st x true):=by simp[pS]
theorem L1{x:ct}:pS P ob (.bool false) x t e Q st=cu P ob e Q (oo st x false):=by simp[pS]
theorem b7{v:Bool}{x:ct}(I:v=true->cu P ob t Q (oo st x true))(J:v=false->cu P ob e Q (oo st x false)):pS P ob (.bool v) x t e Q st:=⟨I,J⟩
def tc(P:bM)(ob:List aw)(id:Nat)(c:C)(Q:Exit->a6->Prop)(e:Exit)(st:a6):Prop:=
 match e with
 | .normal=>cu P ob c Q st
 | .exit j=>if j=id then cu P ob c Q st else Q (.exit j) st
 |e=>Q e st
theorem LB{id:Nat}:cu P ob (.seq (.block id a) c) Q st=cu P ob a (tc P ob id c Q) st:=by
 simp only[cu];congr 1;funext e st';cases e with
 |exit j=>rfl
 |_=>rfl
theorem LC{id:Nat}:cu P ob (.block id a) Q st=cu P ob a (tc P ob id .skip Q) st:=by
 simp only[cu];congr 1;funext e st';cases e with
 |exit j=>simp only[tc];by_cases ai:j=id<;>simp[ai,cu]
 |_=>rfl
theorem J0{id:Nat}:tc P ob id c Q .normal st=tj P ob c Q st:=rfl
theorem JZ{id j:Nat}:tc P ob id c Q (.exit j) st=if j=id then tj P ob c Q st else Q (.exit j) st:=rfl
theorem J1{id:Nat}:tc P ob id c Q .ret st=Q .ret st:=rfl
def cj(ob:List aw)(hG:Nat->a6->Prop)(k:Nat)(Q:Exit->a6->Prop)(e:Exit)(st:a6):Prop:=
 match e with
 | .normal=> ∃be lp,be<k/\k3 ob st lp/\hG be lp
 |e=>Q e st
theorem J7{hG:Nat->a6->Prop}{k:Nat}:cj ob hG k Q .normal st= ∃be lp,be<k/\k3 ob st lp/\hG be lp:=rfl
theorem J6{hG:Nat->a6->Prop}{k n:Nat}:cj ob hG k Q (.exit n) st=Q (.exit n) st:=rfl
theorem J8{hG:Nat->a6->Prop}{k:Nat}:cj ob hG k Q .ret st=Q .ret st:=rfl
theorem xx(hG:Nat->a6->Prop)(m:Nat)(ry:a6)(hw:k3 ob st ry)(a1:hG m ry)(h:∀k s,hG k s->(∀i,eQ (get i s.t))->(∀j cs,look j s.b=some cs->gH cs=true->e0 cs)->cu P ob a (cj ob hG k Q) s):cu P ob (.loop a) Q st:=by
 simp only[cu];refine⟨hG,m,ry,hw,a1,fun k s I J ak=>?_⟩;have:=h k s I J ak;have bP:(cj ob hG k Q)=(fun e aE=>match e with| .normal=> ∃be lp,be<k/\k3 ob aE lp/\hG be lp|e=>Q e aE):=by funext e aE;cases e<;>rfl
 rw[bP]at this;exact this
end
/-Regions ca draw their order. -/
def Cw(n0:Nat)(st:a6)(i:df):Prop:=match dx (lF n0 i) st.n (lF n0 i::st.o) st i with|some (c,_)=>c|none=>dz
def Cx(n0:Nat)(st:a6)(i:df):a6:=match dx (lF n0 i) st.n (lF n0 i::st.o) st i with|some (_,s)=>s|none=>st
def zv(P:bM)(q:Bool)(nw:List Nat)(n0:Nat)(r:List cm)(K:a6->Prop)(st:a6):Prop:=gv P q nw n0 r st K
def mc(P:bM)(q:Bool)(nw:List Nat)(n0:Nat)(v:ae)(s:Nat)(w:Bool)(i:ds)(r:List cm)(st:a6)(K:a6->Prop):Prop:=
 match v with
 | .bool b=>(b=w->gv P q nw n0 (⟨none,i⟩::r) {st with t:=put s (.bool w) st.t} K)/\(b= !w->gv P q nw n0 r {st with t:=eD i.dst (.tuple []) (put s (.bool !w) st.t)} K)
 | .tuple []=>gv P q nw n0 r {st with t:=eD i.dst (.tuple []) st.t} K
 |_=>dz
def Ab(P:bM)(q:Bool)(nw:List Nat)(n0:Nat)(v:ae)(d:bf Nat)(xs:List ae)(r:List cm)(st:a6)(K:a6->Prop):Prop:=
 match v with
 | .func n cY=>lu P q nw n (cd (xs++cY)) st d (zv P q nw n0 r K)
 |_=>dz
section
variable {P:bM} {ob:List aw} {st:a6} {K:a6->Prop} {r:List cm} {Q:Exit->a6->Prop} {c:C} {q:Bool} {nw:List Nat} {n0 N:Nat}
theorem L6:gv P q nw n0 [] st K=K st:=rfl
theorem L7{i:df}:gv P q nw n0 (⟨none,.s i⟩::r) st K=(jo q nw n0 st i/\Cw n0 st i/\gv P q nw n0 r (Cx n0 st i) K):=by
 simp only[gv,hX,Cw,Cx];cases dx (lF n0 i) st.n (lF n0 i::st.o) st i with
 |none=>simp
 |some x=>rfl
theorem L4{d:bf Nat}{f:ct}{xs:List ct}:gv P q nw n0 (⟨none,.call d f xs⟩::r) st K=Ab P q nw n0 (bA st.t f) d (xs.map (bA st.t)) r st K:=by simp only[gv,hX,Ab];rfl
theorem L3{n:Nat}{cY:List ae}{d:bf Nat}{xs:List ae}:Ab P q nw n0 (.func n cY) d xs r st K=lu P q nw n (cd (xs++cY)) st d (zv P q nw n0 r K):=rfl
theorem L5{s:Nat}{w:Bool}{i:ds}:gv P q nw n0 (⟨some (s,w),i⟩::r) st K=mc P q nw n0 (get s st.t) s w i r st K:=by simp only[gv,mc];try rfl
theorem Mc{s:Nat}{i:ds}:mc P q nw n0 (.bool true) s true i r st K=gv P q nw n0 (⟨none,i⟩::r) {st with t:=put s (.bool true) st.t} K:=by simp[mc]
theorem L8{s:Nat}{i:ds}:mc P q nw n0 (.bool false) s false i r st K=gv P q nw n0 (⟨none,i⟩::r) {st with t:=put s (.bool false) st.t} K:=by simp[mc]
theorem Mb{s:Nat}{i:ds}:mc P q nw n0 (.bool true) s false i r st K=gv P q nw n0 r {st with t:=eD i.dst (.tuple []) (put s (.bool true) st.t)} K:=by simp[mc]
theorem L9{s:Nat}{i:ds}:mc P q nw n0 (.bool false) s true i r st K=gv P q nw n0 r {st with t:=eD i.dst (.tuple []) (put s (.bool false) st.t)} K:=by simp[mc]
theorem Ma{s:Nat}{w:Bool}{i:ds}:mc P q nw n0 (.tuple []) s w i r st K=gv P q nw n0 r {st with t:=eD i.dst (.tuple []) st.t} K:=by simp[mc]
theorem b8{x:Bool}{s:Nat}{w:Bool}{i:ds}(I:x=w->gv P q nw n0 (⟨none,i⟩::r) {st with t:=put s (.bool w) st.t} K)(J:x= !w->gv P q nw n0 r {st with t:=eD i.dst (.tuple []) (put s (.bool !w) st.t)} K):mc P q nw n0 (.bool x) s w i r st K:=⟨I,J⟩
theorem LG{gs:List cm}:cu P ob (.seq (.drawn q N gs) c) Q st=gv P q [] st.n gs st (pF (st.n+N) st.o (tj P ob c Q)):=rfl
theorem LH{gs:List cm}:cu P ob (.drawn q N gs) Q st=gv P q [] st.n gs st (pF (st.n+N) st.o (Q .normal)):=rfl
theorem LI{gs:List cm}:cu P ob (.seq (.drawnW nw N gs) c) Q st=gv P false (mD nw st.o) st.n gs st (pF (st.n+N) ((mD nw st.o).map aw.obj++st.o) (tj P ob c Q)):=rfl
theorem LJ{gs:List cm}:cu P ob (.drawnW nw N gs) Q st=gv P false (mD nw st.o) st.n gs st (pF (st.n+N) ((mD nw st.o).map aw.obj++st.o) (Q .normal)):=rfl
theorem QJ{o:List aw}:mD [] o=[]:=rfl
theorem QH{j:Nat}{nw:List Nat}{o:List aw}:mD (j::nw) o=if aw.obj j∈o then mD nw o else j::mD nw o:=by simp only[mD,List.filter_cons,fY,ite_not]
theorem lu.val{n:Nat}{args:List ae}{d:bf Nat}{r:ae}(aa:aB (fun _=>dz) args)(av:bF P n args r)(h:K {st with t:=eD d r st.t}):lu P q nw n args st d K:=by
 refine .inr ⟨⟨[],[]⟩,⟨[],[]⟩,r,none,fun k cs aa=>by simp[look]at aa,fun k cs aa=>by simp[look]at aa,sJ,sJ,⟨fun k h=>.inl h,fun k h=>.inl h,fun k h=>h,fun k h=>h,fun k h=>by cases h⟩,q7 (fun _ h=>h.elim) _ aa,av,fun _=>⟨rfl,rfl⟩,?_⟩;have:({after st ⟨[],[]⟩ ⟨[],[]⟩ d r with o:=st.o}:a6)={st with t:=eD d r st.t}:=by simp[after,C9]
 rw[this];exact h
theorem aD{n:Nat}{args:List ae}{d:bf Nat}{r:ae}(av:bF P n args r)(h:K {st with t:=eD d r st.t})(aa:aB (fun _=>dz) args:=by simp):lu P q nw n args st d K:=lu.val aa av h
end
section
variable {k:IntKind} {n:Int} {b:Bool} {s:List bt} {sz:Nat} {tag:ti} {xs:List ae} {key:aw} {off f:Nat} {x:ae}
@[simp]theorem X7:dE (.int k n)=true:=rfl
@[simp]theorem XS:dE (.bool b)=true:=rfl
@[simp]theorem Yd:dE (.str s)=true:=rfl
@[simp]theorem Yc:dE (.slice sz tag xs)=true:=rfl
@[simp]theorem XQ:dE (.agg xs)=true:=rfl
@[simp]theorem Ya:dE (.ptr key off)=true:=rfl
@[simp]theorem X0:dE (.eptr x)=true:=rfl
@[simp]theorem X5{t:Nat}:dE (.iface t x)=true:=rfl
@[simp]theorem Vm{t:Nat}:cells (.iface t x)=[.iface t x]:=rfl
@[simp]theorem XV{a:bf Addr}{n c:Nat}:dE (.cst (.slice a n c))=true:=rfl
@[simp]theorem XW{s}:dE (.cst (.string s))=true:=rfl
@[simp]theorem X9:dE .nilp=true:=rfl
@[simp]theorem X2:dE (.func f xs)=true:=rfl
@[simp]theorem X4:dE (.gmap key)=true:=rfl
@[simp]theorem Yb{n:Nat}:dE (.row sz key n)=true:=rfl
@[simp]theorem Vt{n:Nat}:cells (.row sz key n)=[.row sz key n]:=rfl
@[simp]theorem Vo:cells (.int k n)=[.int k n]:=rfl
@[simp]theorem Vb:cells (.bool b)=[.bool b]:=rfl
@[simp]theorem Vv:cells (.str s)=[.str s]:=rfl
@[simp]theorem Vu:cells (.slice sz tag xs)=[.slice sz tag xs]:=rfl
@[simp]theorem U9:cells (.agg xs)=xs:=rfl
@[simp]theorem Vs:cells (.ptr key off)=[.ptr key off]:=rfl
@[simp]theorem Vh:cells (.eptr x)=[.eptr x]:=rfl
@[simp]theorem Vr:cells .nilp=[.nilp]:=rfl
@[simp]theorem Vj:cells (.func f xs)=[.func f xs]:=rfl
@[simp]theorem Vl:cells (.gmap key)=[.gmap key]:=rfl
end
section
variable {b:List (aw×List ae)} {e:List (aw×da)} {agg:Bool} {sz off:Nat} {k:aw} {p:ae} {cs xs vs:List ae} {fI:IntKind} {n i:Int} {m j:Nat} {tag:ti} {s:List bt} {Dz:Bool} {lo aq:bf ae}
@[simp]theorem Xm{cJ:Nat}{f:Nat}:kg b e agg sz (.rptr cJ k m j f)=sQ agg sz cJ m j f (look k e):=rfl
@[simp]theorem Xl:kg b e agg sz (.ptr k off)=(match look k b with
  |some cs=>if agg then some (gH cs=true/\off+sz<=cs.length,.agg ((cs.drop off).take sz))else(cs[off]?).map fun p=>(gH cs=true,p)
  |none=>none):=rfl
@[simp]theorem Xk:kg b e agg sz (.eptr p)=if agg then some (isAgg sz p,p)else some (dE p=true/\cells p=[p],p):=rfl
@[simp]theorem VU:vp agg sz (.eptr p)=if agg then some (isAgg sz p,p)else some (dE p=true/\cells p=[p],p):=rfl
@[simp]theorem VL{o:Nat}:lI off agg sz (.ptr k o)=some (True,.ptr k (o+off)):=rfl
@[simp]theorem VM{cJ f:Nat}:lI off agg sz (.rptr cJ k m j f)=some (True,.rptr cJ k m j (f+off)):=rfl
@[simp]theorem VC:lI off agg sz (.eptr (.agg cs))=if agg then some (off+sz<=cs.length,.eptr (.agg ((cs.drop off).take sz)))else(cs[off]?).map fun p=>(dE p=true/\cells p=[p],.eptr p):=rfl
@[simp]theorem VO:oW off agg sz (.agg cs)=if agg then some (off+sz<=cs.length,.agg ((cs.drop off).take sz))else(cs[off]?).map fun p=>(True,p):=rfl
@[simp]theorem Wr{cJ:Nat}:tZ sz (.slice cJ tag xs) (.int fI i)=if cJ=sz then some (0<=i/\i<xs.length,.eptr (xs.getD i.toNat .junk))else none:=rfl
@[simp]theorem Wq{cJ:Nat}:tZ sz (.row cJ k m) (.int fI i)=if cJ=sz then some (0<=i/\i<m,.rptr cJ k m i.toNat 0)else none:=rfl
@[simp]theorem Xj{cJ:Nat}:uh (.slice cJ tag xs)=some (True,.int .i64 xs.length):=rfl
@[simp]theorem Xi{cJ:Nat}:uh (.row cJ k m)=some (True,.int .i64 m):=rfl
@[simp]theorem Xh{a:bf Addr}{n c:Nat}:uh (.cst (.slice a n c))=some (True,.int .i64 n):=rfl
@[simp]theorem XO{s}:wN (.cst (.string s))=some (True,.int .i64 s.size):=rfl
@[simp]theorem XP:wN (.str s)=some (True,.int .i64 s.length):=rfl
@[simp]theorem VB:xA j (.tuple vs)=(vs[j]?).map fun p=>(True,p):=rfl
@[simp]theorem XB:uo (.ptr k off)=some (True,.ptr k off):=rfl
@[simp]theorem Xz:uo (.eptr p)=some (True,.eptr p):=rfl
@[simp]theorem XA:uo (.func j cs)=some (True,.func j cs):=rfl
@[simp]theorem XC:yO (.bool Dz)=some (True,.bool (!Dz)):=rfl
@[simp]theorem XN:ze (.str s) (.int fI i)=some (0<=i/\i<s.length,.int .u8 (s.getD i.toNat 0).toNat):=rfl
@[simp]theorem Ye:zg (.str s) lo aq=(match np 0 lo,np s.length aq with
  |some l,some h=>some (0<=l/\l<=h/\h<=s.length,.str ((s.take h.toNat).drop l.toNat))
  |_,_=>none):=rfl
@[simp]theorem Xn{cJ:Nat}:yz sz (.slice cJ tag xs) lo aq=(if cJ=sz then match np 0 lo,np xs.length aq with
  |some l,some h=>some (0<=l/\l<=h/\h<=xs.length,.slice sz .no ((xs.take h.toNat).drop l.toNat))
  |_,_=>none else none):=rfl
theorem Qx{f:aw->bf (List ae)}{bO:ib}{z q:ae}{ok:Bool}:nm f bO z ok (.gmap k) q=(match f k with
  |some (.hdm _ _::kvs)=>if ue bO q=false then none else match rh bO q kvs with
   |some (some v)=>some (True,if ok then .tuple [v,.bool true]else v)
   |some none=>some (True,if ok then .tuple [z,.bool false]else z)
   |none=>none
  |_=>none):=rfl
theorem Qw{f:aw->bf (List ae)}:pe f (.ptr k 0)=(match f k with
  |some [.hdi _ seen last,.gmap mk]=>match f mk with
   |some (.hdm clock borns::kvs)=>match seen.getLast? with
    |some n=>(ll n borns kvs).map fun p=>(clock=last,p)
    |none=>none
   |_=>none
  |_=>none):=rfl
@[simp]theorem XK{cJ f n' el hs:Nat}:sQ agg sz cJ m j f (some ⟨n',el,hs,some xs⟩)=(if n'=m/\hs=cJ then
   (match xs[j]? with
    |some p=>if agg then some (dE p=true/\f+sz<=(cells p).length,.agg (((cells p).drop f).take sz))else((cells p)[f]?).map fun q=>(dE p=true,q)
    |none=>none)else none):=rfl
end
attribute [simp] LA LV LB LD LZ LX LK L0 LY LL LW LC LF tj J0 JZ J1 J6 J8 Mi Mk Mf Me Mg
 Mp Ml Mo Mm Mn L2 L1 Cy Cz jE fx iD bA get put hk mA kB kC cx np j3 yh zi lq pL yU yK xo yD
 look eD df.dst ds.dst oo tf nI cd cg aH aB
 LG LH LI LJ QJ QH L6 L7 L4 L3 L5 Mc L8 Mb L9 Ma Cw Cx dx lF jo r0 eV.loadO pF zv sA gH oN Mh LS LU LO LP LQ LR qI Ar oP tC J9 qh wy uw nx lX xb yB xa lC
theorem aC{P:bM}{n:Nat}{args:List ae}{st:a6}{d:bf Nat}{K:a6->Prop}{r:ae}(av:bF P n args r)(h:K {st with t:=eD d r st.t})(aa:aB (fun _=>dz) args:=by simp):cL P n args st d K:=cL.val aa av h
theorem aP{a b:Prop}(af:b)(bU:a:=by first|omega|(unfold bs;omega)|(unfold aX;omega)):a/\b:=⟨bU,af⟩
theorem cn{p:Prop}(h:dz:=by first|contradiction|omega):p:=h.elim
theorem bY{p:Prop}(h:p:=by(try simp[*]);(repeat' first|with_reducible refine aP ?_|with_reducible refine aC (by assumption) ?_|with_reducible refine aD (by assumption) ?_|simp[*]);(all_goals first|done|(simp[bJ,bp,bz,bo, *];done))):p:=h
attribute [simp] Mj Md LM LN vb yl fH fO ve vd xm tw tB tA vo
end
section
open Go
inductive aU where
 |mk (kind n:Int) (name:List bt) (args:List aU)
def aU.kind:aU->Int| .mk k _ _ _=>k
def aU.num:aU->Int| .mk _ n _ _=>n
def aU.name:aU->List bt| .mk _ _ s _=>s
def aU.args:aU->List aU| .mk _ _ _ a=>a
mutual
def enc:aU->ae
 | .mk k n s a=>.agg [.int .i64 k,.int .i64 n,.str s,.slice 4 .no (lG a)]
def lG:List aU->List ae
 |[]=>[]
 |x::xs=>enc x::lG xs
end
theorem xr:∀l,lG l=l.map enc
 |[]=>rfl
 |x::xs=>by simp[lG,xr xs]
theorem tz(t:aU):enc t= .agg [.int .i64 t.kind,.int .i64 t.num,.str t.name,.slice 4 .no (t.args.map enc)]:=by cases t;simp[enc,xr,aU.kind,aU.num,aU.name,aU.args]
mutual
theorem Hj(S:aw->Prop):∀t:aU,aH S (enc t)
 | .mk k n s a=>by simp[enc,aH,aB,Bs S a]
theorem Bs(S:aw->Prop):∀l:List aU,aB S (lG l)
 |[]=>by simp[lG,aB]
 |x::xs=>by simp[lG,aB,Hj S x,Bs S xs]
end
mutual
theorem IX:∀t:aU,cg (enc t)=enc t
 | .mk k n s a=>by simp[enc,cg,cd,CH a]
theorem CH:∀l:List aU,cd (lG l)=lG l
 |[]=>by simp[lG,cd]
 |x::xs=>by simp[lG,cd,IX x,CH xs]
end
@[simp]theorem W2(S:aw->Prop)(t:aU):aH S (enc t)=True:=eq_true (Hj S t)
@[simp]theorem WQ(S:aw->Prop)(l:List aU):aB S (l.map enc)=True:=by rw[<-xr];exact eq_true (Bs S l)
theorem SU(l:List aU):cd (l.map enc)=l.map enc:=by rw[<-xr];exact CH l
attribute [simp] IX SU
@[simp]theorem XZ(t:aU):dE (enc t)=true:=by rw[tz];rfl
@[simp]theorem Vg(t:aU):cells (enc t)=[.int .i64 t.kind,.int .i64 t.num,.str t.name,.slice 4 .no (t.args.map enc)]:=by rw[tz];rfl
@[simp]theorem UE(t:aU):ae.agg [.int .i64 t.kind,.int .i64 t.num,.str t.name,.slice 4 .no (t.args.map enc)]=enc t:=(tz t).symm
@[simp]theorem VG(off:Nat)(eh:Bool)(sz:Nat)(t:aU):lI off eh sz (.eptr (enc t))=if eh then some (off+sz<=4,.eptr (.agg (([.int .i64 t.kind,.int .i64 t.num,.str t.name,.slice 4 .no (t.args.map enc)].drop off).take sz)))else(([.int .i64 t.kind,.int .i64 t.num,.str t.name,.slice 4 .no (t.args.map enc)]:List ae)[off]?).map fun p=>(dE p=true/\cells p=[p],.eptr p):=by rw[tz];rfl
@[simp]theorem WB(t:aU):Pv.isAgg 4 (enc t):=by rw[tz];exact⟨_,rfl,rfl⟩
inductive T where
 |nil
 |var (n:Int)
 |sym (s:List bt)
 |num (n:Int)
 |pair (a b:T)
 deriving DecidableEq,Inhabited
def T.tm:T->aU
 | .nil=>.mk 0 0 [] []
 | .var n=>.mk 1 n [] []
 | .sym s=>.mk 2 0 s []
 | .num n=>.mk 3 n [] []
 | .pair a b=>.mk 4 0 [] [a.tm,b.tm]
def T.e:T->ae
 | .nil=>.agg [.int .i64 0,.int .i64 0,.str [],.slice 4 .no []]
 | .var n=>.agg [.int .i64 1,.int .i64 n,.str [],.slice 4 .no []]
 | .sym s=>.agg [.int .i64 2,.int .i64 0,.str s,.slice 4 .no []]
 | .num n=>.agg [.int .i64 3,.int .i64 n,.str [],.slice 4 .no []]
 | .pair a b=>.agg [.int .i64 4,.int .i64 0,.str [],.slice 4 .no [a.e,b.e]]
theorem pP:∀t:T,enc t.tm=t.e
 | .nil| .var _| .sym _| .num _=>rfl
 | .pair a b=>by simp[T.tm,enc,lG,T.e,pP a,pP b]
def T.kind:T->Int
 | .nil=>0| .var _=>1| .sym _=>2| .num _=>3| .pair _ _=>4
def T.int:T->Int
 | .var n=>n| .num n=>n|_=>0
def T.name:T->List bt
 | .sym s=>s|_=>[]
def T.args:T->List T
 | .pair a b=>[a,b]|_=>[]
theorem T.e_eq(t:T):t.e= .agg [.int .i64 t.kind,.int .i64 t.int,.str t.name,.slice 4 .no (t.args.map T.e)]:=by cases t<;>rfl
@[simp]theorem UD(t:T):ae.agg [.int .i64 t.kind,.int .i64 t.int,.str t.name,.slice 4 .no (t.args.map T.e)]=t.e:=(T.e_eq t).symm
@[simp]theorem UI:ae.agg [.int .i64 0,.int .i64 0,.str [],.slice 4 .no []]=T.nil.e:=rfl
@[simp]theorem UM(n:Int):ae.agg [.int .i64 1,.int .i64 n,.str [],.slice 4 .no []]=(T.var n).e:=rfl
@[simp]theorem UL(s:List bt):ae.agg [.int .i64 2,.int .i64 0,.str s,.slice 4 .no []]=(T.sym s).e:=rfl
@[simp]theorem UJ(n:Int):ae.agg [.int .i64 3,.int .i64 n,.str [],.slice 4 .no []]=(T.num n).e:=rfl
@[simp]theorem UK(a b:T):ae.agg [.int .i64 4,.int .i64 0,.str [],.slice 4 .no [a.e,b.e]]=(T.pair a b).e:=rfl
@[simp]theorem Xb:(T.nil).kind=0:=rfl
@[simp]theorem Ws:(T.nil).int=0:=rfl
@[simp]theorem Xu:(T.nil).name=[]:=rfl
@[simp]theorem UN:(T.nil).args=[]:=rfl
@[simp]theorem Xf(n:Int):(T.var n).kind=1:=rfl
@[simp]theorem Ww(n:Int):(T.var n).int=n:=rfl
@[simp]theorem Xy(n:Int):(T.var n).name=[]:=rfl
@[simp]theorem UR(n:Int):(T.var n).args=[]:=rfl
@[simp]theorem Xe(s:List bt):(T.sym s).kind=2:=rfl
@[simp]theorem Wv(s:List bt):(T.sym s).int=0:=rfl
@[simp]theorem Xx(s:List bt):(T.sym s).name=s:=rfl
@[simp]theorem UQ(s:List bt):(T.sym s).args=[]:=rfl
@[simp]theorem Xc(n:Int):(T.num n).kind=3:=rfl
@[simp]theorem Wt(n:Int):(T.num n).int=n:=rfl
@[simp]theorem Xv(n:Int):(T.num n).name=[]:=rfl
@[simp]theorem UO(n:Int):(T.num n).args=[]:=rfl
@[simp]theorem Xd(a b:T):(T.pair a b).kind=4:=rfl
@[simp]theorem Wu(a b:T):(T.pair a b).int=0:=rfl
@[simp]theorem Xw(a b:T):(T.pair a b).name=[]:=rfl
@[simp]theorem UP(a b:T):(T.pair a b).args=[a,b]:=rfl
@[simp]theorem WZ(S:aw->Prop)(t:T):aH S t.e=True:=by rw[<-pP];simp
@[simp]theorem Yl(t:T):cg t.e=t.e:=by rw[<-pP];simp
theorem He(S:aw->Prop):∀l:List T,aB S (l.map T.e)
 |[]=>by simp[aB]
 |x::xs=>by simp[aB,He S xs]
@[simp]theorem WN(S:aw->Prop)(l:List T):aB S (l.map T.e)=True:=eq_true (He S l)
@[simp]theorem XX(t:T):dE t.e=true:=by rw[T.e_eq];rfl
@[simp]theorem Ve(t:T):cells t.e=[.int .i64 t.kind,.int .i64 t.int,.str t.name,.slice 4 .no (t.args.map T.e)]:=by rw[T.e_eq];rfl
@[simp]theorem Wz(t:T):Pv.isAgg 4 t.e:=by rw[T.e_eq];exact⟨_,rfl,rfl⟩
def T.size:T->Nat
 | .pair a b=>1+a.size+b.size
 |_=>1
theorem T.size_pos(t:T):1<=t.size:=by cases t<;>simp[T.size]<;>omega
def low(b:bt):Bool:=decide (97<=b.toNat/\b.toNat<=122)
def jS(b:bt):Bool:=low b||decide (48<=b.toNat/\b.toNat<=57)||b.toNat==45
def iB(s:List bt):Bool:=decide (1<=s.length/\s.length<=12)&&low (s.getD 0 0)&&(s.drop 1).all jS
def T.ok:T->Bool
 | .nil=>true
 | .var n=>decide (0<=n/\n<=100000)
 | .sym s=>iB s
 | .num n=>decide (-1000000000<=n/\n<=1000000000)
 | .pair a b=>a.ok&&b.ok
def ja(k n:Int)(s:List bt):Bool:=if k=0 then n==0&&s==[]else if k=1 then decide (0<=n/\n<=100000)&&s==[]else if k=2 then n==0&&iB s else if k=3 then decide (-1000000000<=n/\n<=1000000000)&&s==[]else false
def eJ:aU->Int->Int
 | .mk k n s [a,b],room=>if room<1\/k≠4\/n≠0\/s≠[]then-1 else if eJ a (room-1)<0 then-1 else if eJ b (room-1-eJ a (room-1))<0 then-1 else 1+eJ a (room-1)+eJ b (room-1-eJ a (room-1))
 | .mk k n s args,room=>if room<1\/k=4\/args≠[]\/ja k n s=false then-1 else 1
theorem BP(k n:Int)(s:List bt)(args:List aU)(room:Int):eJ (.mk k n s args) room=if room<1 then-1 else if k≠4 then(if args≠[]then-1 else if ja k n s then 1 else-1)else if n≠0\/s≠[]then-1 else match args with
  |[a,b]=>if eJ a (room-1)<0 then-1 else if eJ b (room-1-eJ a (room-1))<0 then-1 else 1+eJ a (room-1)+eJ b (room-1-eJ a (room-1))
  |_=> -1:=by
 match args with
 |[]=>simp only[eJ];by_cases I:room<1<;>by_cases J:k=4<;>by_cases ak:ja k n s=true<;>simp[I,J,ak]
 |[a]=>simp[eJ]
 |[a,b]=>simp only[eJ];by_cases I:room<1<;>by_cases J:k=4<;>simp[I,J]
 |a::b::c::r=>simp[eJ]
theorem BO:∀(t:T) (room:Int),eJ t.tm room=if t.ok=true/\(t.size:Int)<=room then(t.size:Int)else-1
 | .nil,room=>by simp[T.tm,eJ,T.ok,T.size,ja];split<;>rename_i h<;>simp_all<;>omega
 | .var n,room=>by simp[T.tm,eJ,T.ok,T.size,ja];split<;>split<;>simp_all<;>omega
 | .sym s,room=>by simp[T.tm,eJ,T.ok,T.size,ja];by_cases I:room<1<;>by_cases J:iB s=true<;>simp[I,J]<;>omega
 | .num n,room=>by simp[T.tm,eJ,T.ok,T.size,ja];split<;>split<;>simp_all<;>omega
 | .pair a b,room=>by
  have bU:=a.size_pos;have af:=b.size_pos;simp only[T.tm,eJ,BO a,BO b,T.ok,T.size,bE];by_cases I:room<1
  ·simp[I];omega
  ·by_cases J:a.ok=true/\(a.size:Int)<=room-1
   ·rw[if_pos J];by_cases ak:b.ok=true/\(b.size:Int)<=room-1-a.size
    ·rw[if_pos ak];simp[I,J.1,ak.1];split<;>omega
    ·rw[bu ak];simp[I,J.1];intro ks;have:=ak;simp[ks]at this;omega
   ·rw[bu J];simp[I];intro tK;have:=J;simp[tK]at this;omega
theorem yN:∀(t:aU) (room:Int),eJ t room= -1\/1<=eJ t room
 | .mk k n s [a,b],room=>by
  simp only[eJ];split
  ·exact .inl rfl
  ·split
   ·exact .inl rfl
   ·split
    ·exact .inl rfl
    ·right;omega
 | .mk k n s [],room=>by simp only[eJ];split<;>simp
 | .mk k n s [a],room=>by simp[eJ]
 | .mk k n s (a::b::c::r),room=>by simp[eJ]
theorem BR:∀(t:aU) (room:Int),0<eJ t room->∃x:T,x.tm=t
 | .mk k n s [a,b],room,h=>by
  simp only[eJ]at h;split at h
  ·omega
  ·rename_i I;simp only[not_or,Int.not_lt,ne_eq,YJ]at I;obtain⟨I,rfl,rfl,rfl⟩:=I;split at h
   ·omega
   ·split at h
    ·omega
    ·obtain⟨x,rfl⟩:=BR a (room-1) (by rcases yN a (room-1)with h|h<;>omega);obtain⟨y,rfl⟩:=BR b (room-1-eJ x.tm (room-1)) (by rcases yN b (room-1-eJ x.tm (room-1))with h|h<;>omega);exact⟨.pair x y,rfl⟩
 | .mk k n s [],room,h=>by
  simp only[eJ]at h;split at h
  ·omega
  ·rename_i I;simp only[not_or,ne_eq,not_true_eq_false,not_false_eq_true,true_and,Bool.not_eq_false]at I;obtain⟨_,_,I⟩:=I;unfold ja at I;split at I
   ·rename_i e;subst e;simp at I;obtain⟨rfl,rfl⟩:=I;exact⟨.nil,rfl⟩
   ·split at I
    ·rename_i e;subst e;simp at I;obtain⟨_,rfl⟩:=I;exact⟨.var n,rfl⟩
    ·split at I
     ·rename_i e;subst e;simp at I;obtain⟨rfl,_⟩:=I;exact⟨.sym s,rfl⟩
     ·split at I
      ·rename_i e;subst e;simp at I;obtain⟨_,rfl⟩:=I;exact⟨.num n,rfl⟩
      ·cases I
 | .mk k n s [a],room,h=>by simp[eJ]at h
 | .mk k n s (a::b::c::r),room,h=>by simp[eJ]at h
theorem BQ:∀(t:aU) (room:Int),eJ t room<=room\/eJ t room= -1
 | .mk k n s [a,b],room=>by
  simp only[eJ];split
  ·exact .inr rfl
  ·split
   ·exact .inr rfl
   ·split
    ·exact .inr rfl
    ·rcases BQ b (room-1-eJ a (room-1))with h|h<;>omega
 | .mk k n s [],room=>by simp only[eJ];split<;>simp;rename_i h;omega
 | .mk k n s [a],room=>by simp[eJ]
 | .mk k n s (a::b::c::r),room=>by simp[eJ]
mutual
def aU.sz:aU->Nat
 | .mk _ _ _ a=>1+aU.szL a
def aU.szL:List aU->Nat
 |[]=>0
 |x::xs=>x.sz+aU.szL xs
end
theorem szL_mem:∀{l:List aU} {x:aU},x∈l->x.sz<=aU.szL l
 |y::l,x,h=>by
  rcases hT.1 h with rfl|h
  ·simp[aU.szL]
  ·have:=szL_mem h;simp[aU.szL];omega
theorem CQ{t x:aU}(h:x∈t.args):x.sz<t.sz:=by cases t;simp[aU.args]at h;have:=szL_mem h;simp[aU.sz];omega
def T.fit(t:T):Bool:=t.ok&&decide (t.size<=5000)
def aU.fits(t:aU):Bool:=decide (0<eJ t 5000)
theorem aU.fits_T(t:T):t.tm.fits=t.fit:=by
 unfold aU.fits T.fit;rw[BO];have:=t.size_pos;by_cases I:t.ok=true<;>by_cases J:t.size<=5000
 ·rw[if_pos ⟨I,Ω⟩];simp[I,J];omega
 ·rw[bu Ω];simp[J]
 ·rw[bu (by simp[I])];simp[I]
 ·rw[bu (by simp[I])];simp[I]
theorem aU.fits_ex{t:aU}(h:t.fits=true):∃x:T,x.tm=t/\x.fit=true:=by obtain⟨x,rfl⟩:=BR t 5000 (by simpa[aU.fits]using h);exact⟨x,rfl,by rw[<-aU.fits_T];exact h⟩
structure ia where
 v:Int
 t:T
 deriving DecidableEq,Inhabited
def ia.e(b:ia):ae:= .agg [.int .i64 b.v,.int .i64 b.t.kind,.int .i64 b.t.int,.str b.t.name,.slice 4 .no (b.t.args.map T.e)]
@[simp]theorem ia.eta(b:ia):ia.mk b.v b.t=b:=rfl
@[simp]theorem Uw(v:Int)(t:T):ae.agg [.int .i64 v,.int .i64 t.kind,.int .i64 t.int,.str t.name,.slice 4 .no (t.args.map T.e)]=(ia.mk v t).e:=rfl
@[simp]theorem Ux(v:Int):ae.agg [.int .i64 v,.int .i64 0,.int .i64 0,.str [],.slice 4 .no []]=(ia.mk v .nil).e:=rfl
@[simp]theorem UB(v n:Int):ae.agg [.int .i64 v,.int .i64 1,.int .i64 n,.str [],.slice 4 .no []]=(ia.mk v (.var n)).e:=rfl
@[simp]theorem UA(v:Int)(s:List bt):ae.agg [.int .i64 v,.int .i64 2,.int .i64 0,.str s,.slice 4 .no []]=(ia.mk v (.sym s)).e:=rfl
@[simp]theorem Uy(v n:Int):ae.agg [.int .i64 v,.int .i64 3,.int .i64 n,.str [],.slice 4 .no []]=(ia.mk v (.num n)).e:=rfl
@[simp]theorem Uz(v:Int)(a b:T):ae.agg [.int .i64 v,.int .i64 4,.int .i64 0,.str [],.slice 4 .no [a.e,b.e]]=(ia.mk v (.pair a b)).e:=rfl
@[simp]theorem XR(b:ia):dE b.e=true:=rfl
@[simp]theorem Va(b:ia):cells b.e=[.int .i64 b.v,.int .i64 b.t.kind,.int .i64 b.t.int,.str b.t.name,.slice 4 .no (b.t.args.map T.e)]:=rfl
@[simp]theorem VP(off:Nat)(eh:Bool)(sz:Nat)(b:ia):oW off eh sz b.e=if eh then some (off+sz<=5,.agg (([.int .i64 b.v,.int .i64 b.t.kind,.int .i64 b.t.int,.str b.t.name,.slice 4 .no (b.t.args.map T.e)].drop off).take sz))else(([.int .i64 b.v,.int .i64 b.t.kind,.int .i64 b.t.int,.str b.t.name,.slice 4 .no (b.t.args.map T.e)]:List ae)[off]?).map fun p=>(True,p):=rfl
@[simp]theorem VD(off:Nat)(eh:Bool)(sz:Nat)(b:ia):lI off eh sz (.eptr b.e)=if eh then some (off+sz<=5,.eptr (.agg (([.int .i64 b.v,.int .i64 b.t.kind,.int .i64 b.t.int,.str b.t.name,.slice 4 .no (b.t.args.map T.e)].drop off).take sz)))else(([.int .i64 b.v,.int .i64 b.t.kind,.int .i64 b.t.int,.str b.t.name,.slice 4 .no (b.t.args.map T.e)]:List ae)[off]?).map fun p=>(dE p=true/\cells p=[p],.eptr p):=rfl
def T.occ(v:Int):T->Bool
 | .var n=>n==v
 | .pair a b=>a.occ v||b.occ v
 |_=>false
structure oG where
 v:Int
 t:aU
def oG.e(b:oG):ae:= .agg [.int .i64 b.v,.int .i64 b.t.kind,.int .i64 b.t.num,.str b.t.name,.slice 4 .no (b.t.args.map enc)]
@[simp]theorem oG.eta(b:oG):oG.mk b.v b.t=b:=rfl
@[simp]theorem UC(v:Int)(t:aU):ae.agg [.int .i64 v,.int .i64 t.kind,.int .i64 t.num,.str t.name,.slice 4 .no (t.args.map enc)]=(oG.mk v t).e:=rfl
@[simp]theorem XT(b:oG):dE b.e=true:=rfl
@[simp]theorem Vc(b:oG):cells b.e=[.int .i64 b.v,.int .i64 b.t.kind,.int .i64 b.t.num,.str b.t.name,.slice 4 .no (b.t.args.map enc)]:=rfl
@[simp]theorem VQ(off:Nat)(eh:Bool)(sz:Nat)(b:oG):oW off eh sz b.e=if eh then some (off+sz<=5,.agg (([.int .i64 b.v,.int .i64 b.t.kind,.int .i64 b.t.num,.str b.t.name,.slice 4 .no (b.t.args.map enc)].drop off).take sz))else(([.int .i64 b.v,.int .i64 b.t.kind,.int .i64 b.t.num,.str b.t.name,.slice 4 .no (b.t.args.map enc)]:List ae)[off]?).map fun p=>(True,p):=rfl
@[simp]theorem VE(off:Nat)(eh:Bool)(sz:Nat)(b:oG):lI off eh sz (.eptr b.e)=if eh then some (off+sz<=5,.eptr (.agg (([.int .i64 b.v,.int .i64 b.t.kind,.int .i64 b.t.num,.str b.t.name,.slice 4 .no (b.t.args.map enc)].drop off).take sz)))else(([.int .i64 b.v,.int .i64 b.t.kind,.int .i64 b.t.num,.str b.t.name,.slice 4 .no (b.t.args.map enc)]:List ae)[off]?).map fun p=>(dE p=true/\cells p=[p],.eptr p):=rfl
def Kk(l:List ia)(v:Int):bf T:=(l.find? fun b=>b.v==v).map (·.t)
end
end Go.Pv
namespace Go.Proofs.YtlnndmgfngfeiaaGreatDoor
section
open Go Go.Pv
def PS(s:List bt)(k:Nat)(st:a6):Prop:=∃i:Nat,1<=i/\i<=s.length/\k=s.length-i/\((s.drop 1).all jS=(s.drop i).all jS)/\st=⟨[(0,.str s),(3,.int .i64 i)],[],[],0,[]⟩
theorem Jx(s:List bt):bF aF 170 [.str s] (.bool (iB s)):=by
 refine bF.mk mixed rG My QR Ψ (by simp[aH]) fun af=>?_;unfold DN;simp;(with_reducible repeat' first|((first|refine b7 (fun h=>?_) fun h=>?_|refine b9 (fun h=>?_) fun h=>?_|refine b8 (fun h=>?_) fun h=>?_)<;>try simp at h)|refine aP ?_|simp);case refine_1.refine_1.refine_1.refine_2=>
  have Pa:iB s=(s.drop 1).all jS:=by simp[iB,low];omega
  rw[Pa];refine xx (PS s) (s.length-1) _ ⟨Ψ,by simp[mI],by simp[mJ],Ψ⟩ ⟨1,Ω,Ω,rfl,rfl,rfl⟩ ?_;rintro k st ⟨i,x0,Wd,aa,nT,rfl⟩ tM gw;rw[nT];simp;refine b7 (fun cM=>?_) (fun tR=>?_)
  ·simp at cM;have bj:s.drop i=s[i]?.getD 0::s.drop (i+1):=by rw[List.drop_eq_getElem_cons cM];simp[cM]
   simp;(with_reducible repeat' first|((first|refine b7 (fun h=>?_) fun h=>?_|refine b9 (fun h=>?_) fun h=>?_|refine b8 (fun h=>?_) fun h=>?_)<;>try simp at h)|refine aP ?_|simp);all_goals first
    |(simp[bJ,yW,bp,bz,bo,bj,jS,low];omega)
    |(simp only[J7];refine⟨s.length-(i+1),_,Ω,⟨Ψ,by simp[mI],by simp[mJ],Ψ⟩,i+1,Ω,Ω,rfl,?_,rfl⟩;rw[nT,bj];simp[jS,low];omega)
  ·simp at tR;have:s.drop i=[]:=by simp;omega
   simp[bJ,yW,bp,bz,bo,this]
 all_goals simp[bJ,yW,bp,bz,bo,iB,low]
 all_goals omega
theorem TS(m:Nat):∀(t:aU),t.sz<=m->∀(room:Int),0<=room/\room<=10000->bF aF 150 [enc t,.int .i64 room] (.int .i64 (eJ t room)):=by
 induction m with
 |zero=>intro t aG;cases t;simp[aU.sz]at aG
 |succ m bb=>
 rintro⟨k,n,s,args⟩ aG room kT;refine bq rG MI Q1 fun aO=>?_;unfold DX;simp[aU.kind,aU.num,aU.name,aU.args];(with_reducible repeat' first|((first|refine b7 (fun h=>?_) fun h=>?_|refine b9 (fun h=>?_) fun h=>?_|refine b8 (fun h=>?_) fun h=>?_)<;>try simp at h)|refine aP ?_|simp);all_goals try refine cL.val Ψ (Jx _) ?_
 all_goals try simp
 (with_reducible repeat' first|((first|refine b7 (fun h=>?_) fun h=>?_|refine b9 (fun h=>?_) fun h=>?_|refine b8 (fun h=>?_) fun h=>?_)<;>try simp at h)|refine aP ?_|simp);all_goals try simp[bJ,yY,bp,bz,bo]
 case succ.refine_2.refine_2.refine_1.refine_1.refine_2=>
  rename_i a1 I J ak;match args,h with
  |[a,b],_=>
  simp[aU.sz,aU.szL]at aG;subst I J ak;simp;(with_reducible repeat' first|((first|refine b7 (fun h=>?_) fun h=>?_|refine b9 (fun h=>?_) fun h=>?_|refine b8 (fun h=>?_) fun h=>?_)<;>try simp at h)|refine aP ?_|simp);refine cL.val Ψ (bb a Ω (room-1) Ω) ?_;simp;have bU:=BQ a (room-1);have tJ:=yN a (room-1);(with_reducible repeat' first|((first|refine b7 (fun h=>?_) fun h=>?_|refine b9 (fun h=>?_) fun h=>?_|refine b8 (fun h=>?_) fun h=>?_)<;>try simp at h)|refine aP ?_|simp)
  ·simp[bJ,yY,bp,bz,bo];rw[BP];simp;omega
  ·refine cL.val Ψ (bb b Ω (room-1-eJ a (room-1)) Ω) ?_;simp;have af:=BQ b (room-1-eJ a (room-1));have gf:=yN b (room-1-eJ a (room-1));(with_reducible repeat' first|((first|refine b7 (fun h=>?_) fun h=>?_|refine b9 (fun h=>?_) fun h=>?_|refine b8 (fun h=>?_) fun h=>?_)<;>try simp at h)|refine aP ?_|simp);all_goals simp[bJ,yY,bp,bz,bo]
   all_goals rw[BP];simp;omega
 all_goals rw[BP]
 all_goals simp_all[ja]
 all_goals first|omega|(split<;>simp at h⊢)
theorem JA(t:aU):bF aF 77 [enc t] (.bool t.fits):=by refine bq rG MA QT fun aO=>?_;unfold DP;simp;refine cL.val Ψ (TS t.sz t (c7 _) 5000 Ω) ?_;simp;simp[bJ,Ie,bp,bz,bo];simp[aU.fits]
def DS:C:=(ag [dL 1 0,bI 2 (.mov (.c (.str [])))] (ag [dm (.mkmap 9 none),dm (.mput .i (.t 9) (dG 2) (.c (.str [61]))),dm (.mput .i (.t 9) (dG 3) (.c (.str [47,61]))),dm (.mput .i (.t 9) (dG 4) (.c (.str [115,121,109,98,111,108]))),dm (.mput .i (.t 9) (dG 5) (.c (.str [110,117,109,98,101,114]))),dm (.mput .i (.t 9) (dG 6) (.c (.str [97,98,115,101,110,116]))),dm (.mput .i (.t 9) (dG 7) (.c (.str [97,110,100]))),dm (.mput .i (.t 9) (dG 8) (.c (.str [111,114]))),dm (.mput .i (.t 9) (dG 10) (.c (.str [110,111,116]))),ad 10 9,aL 11 0 1 1,aN 12 1 11,bI 13 (.mget .i (.str []) false (.t 10) (.t 12)),ad 3 13] (.seq (ag [aL 14 0 1 1,aN 15 1 14] (.block 0 (ag [aZ 17 .eql 15 0,ad 16 17] (bg 16 (ag [bI 2 (.mov (.c (.str [116,114,117,101])))] .ret) (ag [aZ 19 .eql 15 1,ad 18 19] (bg 18 (ag [bI 2 (.mov (.c (.str [102,97,105,108])))] .ret) (ag [aZ 21 .eql 15 9,ad 20 21] (bg 20 (.region [aL 22 1 1 1,aN 23 1 22,ad 3 23]) .skip)))))))) (ag [ad 24 3,ji 25 1 9 [.t 24],ad 4 25] (.seq (ag [aL 26 2 1 1,aN 27 1 26,cw 28 27,cl 29 0] (.block 1 (.loop (ag [b2 30 .lss 29 28] (.seq (bg 30 .skip (.exit 1)) (.seq (.block 2 (ag [dk 31 4 27 29,bT 32 4 31,mP 6 oa,cI 4 6 32] (.region [ad 33 4,bT 34 4 6,cK 35 85 34,ji 36 1 9 [.t 35],oy 37 1 9 33 36,ad 4 37]))) (.region [aZ 38 .add 29 1,ad 29 38]))))))) (.seq (ag [aL 39 3 1 1,aN 40 1 39,cw 41 40,cl 42 0] (.block 3 (.loop (ag [b2 43 .lss 42 41] (.seq (bg 43 .skip (.exit 3)) (.seq (.block 4 (ag [dk 44 4 40 42,bT 45 4 44,dm (.alloc 8 none (.agg [.int .i64 0,.str [],.slice 4 .nil [],.slice 4 .nil []])),cI 4 8 45] (.region [ad 46 4,bT 47 4 8,cK 48 65 47,ji 49 1 9 [.t 48],oy 50 1 9 46 49,ad 4 50]))) (.region [aZ 51 .add 42 1,ad 42 51]))))))) (ag [ad 52 4,⟨none,.call (some 53) (.c (.func 87 [])) [.t 52,(.c (.str [32]))]⟩,bI 54 (.bin .add false (.c (.str [40])) (.t 53)),bI 55 (.bin .add false (.t 54) (.c (.str [41]))),ad 2 55] .ret)))))))
@[simp] def B7:List cr:=[.tmp 2]
def DT:C:=(ag [dL 1 0,pB 2 1] (ag [dm (.mkmap 4 (some 304)),dm (.alloc 3 (some 305) (.junk)),cI 1 3 4] (ag [bT 5 4 1,bI 6 (.mkf 158 [.t 3]),en 7 157 5 6] (ag [aN 8 1 3,cK 9 160 8,ad 2 9] .ret))))
@[simp] def Ig:List cr:=[.tmp 2]
def zC:C:=(ag [b3 2 false] (.seq (ag [ad 3 0] (.block 0 (.seq (ag [bI 5 (.bin .eql false (.t 3) (.c (.str [116,114,117,101]))),ad 4 5] (bg 4 .skip (ag [bI 6 (.bin .eql false (.t 3) (.c (.str [102,97,105,108]))),ad 4 6] (bg 4 .skip (ag [bI 7 (.bin .eql false (.t 3) (.c (.str [115,121,109,98,111,108]))),ad 4 7] (bg 4 .skip (ag [bI 8 (.bin .eql false (.t 3) (.c (.str [110,117,109,98,101,114]))),ad 4 8] (bg 4 .skip (ag [bI 9 (.bin .eql false (.t 3) (.c (.str [97,98,115,101,110,116]))),ad 4 9] (bg 4 .skip (ag [bI 10 (.bin .eql false (.t 3) (.c (.str [97,110,100]))),ad 4 10] (bg 4 .skip (ag [bI 11 (.bin .eql false (.t 3) (.c (.str [111,114]))),ad 4 11] (bg 4 .skip (ag [bI 12 (.bin .eql false (.t 3) (.c (.str [110,111,116]))),ad 4 12] (bg 4 .skip (.region [bI 13 (.bin .eql false (.t 3) (.c (.str [100,101,102,105,110,101]))),ad 4 13]))))))))))))))))) (bg 4 (ag [b3 2 false] .ret) .skip)))) (ag [ad 14 0,cK 15 170 14,ad 2 15] .ret)))
@[simp] def RQ:List cr:=[.tmp 2]
def DM:C:=(ag [dL 1 0,b3 2 false] (ag [bT 3 4 1,iV 4 117 [.t 3,(dG 80)],aZ 5 .gtr 4 0,ad 2 5] .ret))
@[simp] def RP:List cr:=[.tmp 2]
def mX:C:=(ag [dL 2 0,cl 4 0] (.seq (ag [ad 10 1,aZ 11 .lss 10 1,ad 12 11,au 12 false (aL 13 2 1 2),au 12 false (aN 14 1 13),au 12 false (cK 15 183 14),au 12 false (e7 16 15),dq 17 12 16] (bg 17 (ag [cl 4 (-1)] .ret) .skip)) (ag [dm (.mkmap 18 none),dm (.mput .i (.t 18) (dG 2) (dG 2)),dm (.mput .i (.t 18) (dG 3) (dG 2)),dm (.mput .i (.t 18) (dG 4) (dG 1)),dm (.mput .i (.t 18) (dG 5) (dG 1)),dm (.mput .i (.t 18) (dG 6) (dG 2)),ad 19 18,aL 20 0 1 2,aN 21 1 20,bI 22 (.mget .i (.int .i64 0) false (.t 19) (.t 21)),ad 5 22] (.seq (ag [aL 23 0 1 2,aN 24 1 23] (.block 0 (.seq (ag [aZ 26 .eql 24 0,ad 25 26] (bg 25 .skip (ag [aZ 27 .eql 24 1,ad 25 27] (bg 25 .skip (ag [aZ 28 .eql 24 2,ad 25 28] (bg 25 .skip (ag [aZ 29 .eql 24 3,ad 25 29] (bg 25 .skip (ag [aZ 30 .eql 24 4,ad 25 30] (bg 25 .skip (ag [aZ 31 .eql 24 5,ad 25 31] (bg 25 .skip (.region [aZ 32 .eql 24 6,ad 25 32]))))))))))))) (bg 25 (.seq (ag [aL 33 1 1 2,aN 34 1 33,bI 35 (.bin .neq false (.t 34) (.c (.str []))),ad 36 35,au 36 false (aL 37 3 1 2),au 36 false (aN 38 1 37),au 36 false (cw 39 38),au 36 false (aZ 40 .neq 39 0),dq 41 36 40,ad 42 41,au 42 false (aL 43 2 1 2),au 42 false (aN 44 1 43),au 42 false (cw 45 44),cZ 42 false 46 5,au 42 false (b2 47 .neq 45 46),dq 48 42 47,ad 49 48,au 49 false (aL 50 0 1 2),au 49 false (aN 51 1 50),au 49 false (aZ 52 .eql 51 6),cZ 49 false 53 52,au 53 true (aL 54 2 1 2),au 53 true (aN 55 1 54),au 53 true (jF 56 4 55 0),au 53 true (aL 57 0 1 56),au 53 true (aN 58 1 57),au 53 true (aZ 59 .neq 58 2),au 49 false (dT 60 53 59),dq 61 49 60] (bg 61 (ag [cl 4 (-1)] .ret) .skip)) (ag [cl 4 1] .ret)) (ag [aZ 63 .eql 24 9,ad 62 63] (bg 62 (.seq (ag [aL 64 1 1 2,aN 65 1 64,cK 66 103 65,e7 67 66,ad 68 67,au 68 false (aL 69 3 1 2),au 68 false (aN 70 1 69),au 68 false (cw 71 70),au 68 false (aZ 72 .neq 71 0),dq 73 68 72,ad 74 73,au 74 false (aL 75 2 1 2),au 74 false (aN 76 1 75),au 74 false (cw 77 76),au 74 false (aZ 78 .gtr 77 4),dq 79 74 78] (bg 79 (ag [cl 4 (-1)] .ret) .skip)) (ag [cl 4 1] .ret)) (.seq (ag [aZ 81 .eql 24 7,ad 80 81] (bg 80 .skip (.region [aZ 82 .eql 24 8,ad 80 82]))) (bg 80 (ag [aL 83 1 1 2,aN 84 1 83,bI 85 (.bin .neq false (.t 84) (.c (.str []))),ad 86 85,au 86 false (aL 87 2 1 2),au 86 false (aN 88 1 87),au 86 false (cw 89 88),au 86 false (aZ 90 .neq 89 0),dq 91 86 90,ad 92 91,au 92 false (aL 93 3 1 2),au 92 false (aN 94 1 93),au 92 false (cw 95 94),au 92 false (aZ 96 .gtr 95 8),dq 97 92 96] (bg 97 (ag [cl 4 (-1)] .ret) .skip)) (ag [aZ 99 .eql 24 10,ad 98 99] (bg 98 (ag [aL 100 1 1 2,aN 101 1 100,bI 102 (.bin .neq false (.t 101) (.c (.str []))),ad 103 102,au 103 false (aL 104 2 1 2),au 103 false (aN 105 1 104),au 103 false (cw 106 105),au 103 false (aZ 107 .neq 106 0),dq 108 103 107,ad 109 108,au 109 false (aL 110 3 1 2),au 109 false (aN 111 1 110),au 109 false (cw 112 111),au 109 false (aZ 113 .neq 112 1),dq 114 109 113,ad 115 114,au 115 false (aL 116 3 1 2),au 115 false (aN 117 1 116),au 115 false (jF 118 4 117 0),au 115 false (aL 119 0 1 118),au 115 false (aN 120 1 119),au 115 false (aZ 121 .neq 120 9),dq 122 115 121] (bg 122 (ag [cl 4 (-1)] .ret) .skip)) (ag [cl 4 (-1)] .ret))))))))))) (ag [cl 6 1] (.seq (ag [aL 123 3 1 2,aN 124 1 123,cw 125 124,cl 126 0] (.block 1 (.loop (ag [b2 127 .lss 126 125] (.seq (bg 127 .skip (.exit 1)) (.seq (.block 2 (ag [dk 128 4 124 126,bT 129 4 128,dm (.alloc 8 none (.agg [.int .i64 0,.str [],.slice 4 .nil [],.slice 4 .nil []])),cI 4 8 129] (ag [bT 130 4 8,ad 131 1,ad 132 6,b2 133 .sub 131 132,en 134 117 130 133,ad 9 134] (.seq (ag [ad 135 9,aZ 136 .lss 135 0] (bg 136 (ag [cl 4 (-1)] .ret) .skip)) (.region [ad 137 6,ad 138 9,b2 139 .add 137 138,ad 6 139]))))) (.region [aZ 140 .add 126 1,ad 126 140]))))))) (ag [ad 141 6,ad 4 141] .ret)))))))
@[simp] def pk:List cr:=[.tmp 4]
def D0:C:=(ag [dL 2 0,b3 4 false] (.seq (ag [bT 7 4 2,cK 8 90 7,cw 9 8,cl 10 0] (jG 11 10 9 (.seq (.block 1 (ag [dk 12 1 8 10,aN 13 1 12,ad 6 13] (ag [ad 14 6,ad 15 1,b2 16 .geq 14 15] (bg 16 (ag [b3 4 false] .ret) .skip)))) (.region [aZ 17 .add 10 1,ad 10 17])))) (ag [b3 4 true] .ret)))
@[simp] def RU:List cr:=[.tmp 4]
def DQ:C:=(ag [dL 2 0] (ag [ad 6 1,bT 7 4 2,JV 8 6 [.t 7]] (ag [aL 9 3 1 2,aN 10 1 9,cw 11 10,cl 12 0] (jG 13 12 11 (.seq (.block 1 (ag [dk 14 4 10 12,bT 15 4 14,dm (.alloc 5 none (.agg [.int .i64 0,.str [],.slice 4 .nil [],.slice 4 .nil []])),cI 4 5 15] (.region [bT 16 4 5,ad 17 1,en 18 157 16 17]))) (.region [aZ 19 .add 12 1,ad 12 19]))))))
@[simp] def If:List cr:=[]
def DU:C:=(ag [dL 2 0] (ag [aL 5 2 1 2,aN 6 1 5,cw 7 6,cl 8 0] (jG 9 8 7 (.seq (.block 1 (ag [dk 10 4 6 8,bT 11 4 10,mP 4 oa,cI 4 4 11] (.region [bT 12 4 4,bI 13 (.mkf 159 [.t 1]),en 14 79 12 13]))) (.region [aZ 15 .add 8 1,ad 8 15])))))
@[simp] def Ih:List cr:=[]
def DV:C:=(.region [aN 3 1 1,ad 4 0,dm (.mput .i (.t 3) (.t 4) (.c (.bool true)))])
@[simp] def Ii:List cr:=[]
def DW:C:=(ag [dL 1 0,b3 2 false] (ag [aL 3 0 1 1,aN 4 1 3,aZ 5 .eql 4 0,ad 6 5,au 6 true (aL 7 1 1 1),au 6 true (aN 8 1 7),pC 6 true 9 (.bin .eql false (.t 8) (.c (.str []))),dT 10 6 9,ad 11 10,au 11 true (aL 12 2 1 1),au 11 true (aN 13 1 12),au 11 true (cw 14 13),au 11 true (aZ 15 .eql 14 0),dT 16 11 15,ad 17 16,au 17 true (aL 18 3 1 1),au 17 true (aN 19 1 18),au 17 true (cw 20 19),au 17 true (aZ 21 .eql 20 0),dT 22 17 21,ad 2 22] .ret))
@[simp] def Ij:List cr:=[.tmp 2]
def ox:List (Nat×cR):=[
 (3,⟨1,8,.int .i64,.int .i64 0⟩),
 (9,⟨1,16,.str,.str []⟩),
 (38,⟨1,24,.slice 40,.slice 4 .nil []⟩),
 (40,⟨4,56,.struct [(0,3),(1,3),(2,9),(3,38)],.agg [.int .i64 0,.int .i64 0,.str [],.slice 4 .nil []]⟩),
 (63,⟨1,24,.slice 65,.slice 4 .nil []⟩),
 (65,⟨4,72,.struct [(0,3),(1,9),(2,38),(3,63)],.agg [.int .i64 0,.str [],.slice 4 .nil [],.slice 4 .nil []]⟩),
 (70,⟨1,24,.slice 9,.slice 1 .nil []⟩),
 (136,⟨1,24,.slice 3,.slice 1 .nil []⟩),
 (180,⟨1,8,.map 3 9,.junk⟩),
 (199,⟨1,8,.map 3 4,.junk⟩),
 (219,⟨1,8,.map 3 3,.junk⟩)]
theorem jg:fm aF ox=true:=by kernel_rfl
theorem QW:cG ox DS B7 1 Tryz.f65=true:=by kernel_rfl
theorem MD:aF.funcs[(65:Nat)]? =some Tryz.f65:=Tryz.func65
theorem QX:cG ox DT Ig 1 Tryz.f90=true:=by kernel_rfl
theorem ME:aF.funcs[(90:Nat)]? =some Tryz.f90:=Tryz.func90
theorem HM:cG ox zC RQ 1 Tryz.f103=true:=by kernel_rfl
theorem Fh:aF.funcs[(103:Nat)]? =some Tryz.f103:=Tryz.func103
theorem QQ:cG ox DM RP 1 Tryz.f115=true:=by kernel_rfl
theorem Mx:aF.funcs[(115:Nat)]? =some Tryz.f115:=Tryz.func115
theorem oi:cG ox mX pk 2 Tryz.f117=true:=by kernel_rfl
theorem nN:aF.funcs[(117:Nat)]? =some Tryz.f117:=Tryz.func117
theorem Q4:cG ox D0 RU 2 Tryz.f120=true:=by kernel_rfl
theorem ML:aF.funcs[(120:Nat)]? =some Tryz.f120:=Tryz.func120
theorem QU:cG ox DQ If 2 Tryz.f157=true:=by kernel_rfl
theorem MB:aF.funcs[(157:Nat)]? =some Tryz.f157:=Tryz.func157
theorem QY:cG ox DU Ih 2 Tryz.f158=true:=by kernel_rfl
theorem MF:aF.funcs[(158:Nat)]? =some Tryz.f158:=Tryz.func158
theorem QZ:cG ox DV Ii 2 Tryz.f159=true:=by kernel_rfl
theorem MG:aF.funcs[(159:Nat)]? =some Tryz.f159:=Tryz.func159
theorem Q0:cG ox DW Ij 1 Tryz.f171=true:=by kernel_rfl
theorem MH:aF.funcs[(171:Nat)]? =some Tryz.f171:=Tryz.func171
end
end Go.Proofs.YtlnndmgfngfeiaaGreatDoor
namespace Go.Pv
section
open Go Go.RowKit
structure im (s:dH):Prop where
 obj:hP s
 kb:∀k cs,look k s.b=some cs->aB (aK s) cs
 ke:∀k o,look k s.e=some o->dJ (aK s) o
structure lA (s aE:dH):Prop where
 b:∀k,(look k s.b).isSome=(look k aE.b).isSome
 e:∀k,(look k s.e).isSome=(look k aE.e).isSome
theorem lA.refl(s:dH):lA s s:=⟨fun _=>rfl,fun _=>rfl⟩
theorem uk{α:Type}{k:aw}{x:α}:∀{l:List (aw×α)},(k,x)∈l->(look k l).isSome
 |(i,y)::r,h=>by
  simp only[look];split
  ·rfl
  ·rename_i dI;rcases hT.1 h with h|h
   ·cases h;exact absurd rfl dI
   ·exact uk h
theorem PK{s:dH}{k:aw}(h:k∈fs s):aK s k:=by
 unfold fs at h;rcases nD.1 h with h|h
 ·obtain⟨⟨be,x⟩,I,rfl⟩:=List.mem_map.1 h;exact .inl (uk I)
 ·obtain⟨⟨be,x⟩,I,rfl⟩:=List.mem_map.1 h;exact .inr (uk I)
theorem Qo{s:dH}(h:hP s)(m:Nat):aw.loc m∉fs s:=fun hm=>by
 rcases PK hm with I|I
 ·rw[h.1 m]at I;cases I
 ·rw[h.2 m]at I;cases I
theorem wX{α β:Type}(s:List (aw×β)):∀(a b:List (aw×α)),ch s (a++b)=ch s a++ch s b
 |[],b=>rfl
 |(k,x)::r,b=>by
  simp only[oA,ch];cases look k s with
  |none=>simp[wX s r b]
  |some _=>exact wX s r b
theorem JO{α β:Type}(s:List (aw×β)):∀(l:List (aw×α)),(∀k x,(k,x)∈l->(look k s).isSome)->ch s l=[]
 |[],_=>rfl
 |(k,x)::r,h=>by
  have I:=h k x Ψ;simp only[ch];cases aA:look k s with
  |none=>rw[aA]at I;cases I
  |some _=>exact JO s r fun k x ab=>h k x (by simp[ab])
theorem wY{α:Type}(s:List (aw×α)):ch s s=[]:=JO s s fun k x h=>uk h
theorem Jr{α:Type}{k:aw}{x:α}:∀{l:List (aw×α)},look k l=none->cx k x l=l++[(k,x)]
 |[],_=>rfl
 |(i,y)::r,h=>by
  simp only[look]at h;split at h
  ·cases h
  ·rename_i dI;simp[cx,dI,Jr h]
theorem od{α:Type}(k:aw):∀(a b:List (aw×α)),look k (a++b)=match look k a with|some x=>some x|none=>look k b
 |[],b=>rfl
 |(i,y)::r,b=>by
  simp only[oA,look];split
  ·rfl
  ·exact od k r b
theorem cL.ob{P:bM}{n:Nat}{args:List ae}{st:a6}{d:bf Nat}{K:a6->Prop}{s:dH}{Q:ae->dH->Prop}(av:dP P n args s Q)(al:im s)(af:∀k cs,look k s.b=some cs->look k st.b=some cs)(he:∀k o,look k s.e=some o->look k st.e=some o)
  (aa:aB (aK s) args) (h:∀r aE,Q r aE->lA s aE/\K ⟨eD d r st.t,ch s.b st.b++aE.b,ch s.e st.e++aE.e,st.n,st.o++fs aE⟩):cL P n args st d K:=by
 refine .inl ⟨s,Q,fun k cs aQ=>⟨af k cs aQ,.inl (by simp[aQ]),al.kb k cs aQ⟩,fun k o ah=>⟨he k o ah,.inr (by simp[ah]),al.ke k o ah⟩,al.obj,aa,av,fun r aE bP=>?_⟩;obtain⟨I,J⟩:=h r aE bP;exact⟨⟨fun m hm=>.inl (by rw[I.b];exact hm),fun m hm=>.inl (by rw[I.e];exact hm)⟩,J⟩
theorem fD.ob{eH:List cr}{s aE:dH}{Q:ae->dH->Prop}{e:Exit}{st:a6}{c:Prop}{bD:List ae}(nX:e= .ret\/e= .normal)(ss:bp st eH=some (c,bD))(aQ:c)(al:im aE)(ep:lA s aE)(af:∀k cs,look k aE.b=some cs->look k st.b=some cs)(dB:∀k o,look k aE.e=some o->look k st.e=some o)
  (aa:aH (aK aE) (cg (bo bD))) (bP:Q (cg (bo bD)) aE):fD eH s Q e st:=by
 refine⟨nX,?_⟩;rw[ss];have Gk:∀{α:Type} (l:List (aw×α)),(∀k x,(k,x)∈l->aK aE k)->fC aE l:=by
  intro α l;induction l with
  |nil=>intro _;trivial
  |cons x r bb=>obtain⟨k,x⟩:=x;intro h;exact⟨h k x Ψ,bb fun k x ab=>h k x (by simp[ab])⟩
 exact⟨aQ,aE,Gk _ fun k x ab=>.inl (by rw[<-ep.b];exact uk ab),Gk _ fun k x ab=>.inr (by rw[<-ep.e];exact uk ab),fun k cs cA=>⟨af k cs cA,.inl (by simp[cA]),al.kb k cs cA⟩,fun k o ah=>⟨dB k o ah,.inr (by simp[ah]),al.ke k o ah⟩,al.obj,aa,bP⟩
def hb(st:a6)(eH:List cr)(R:ae->Prop):Prop:=match bp st eH with
 |some (c,bD)=>c/\R (cg (bo bD))
 |none=>dz
theorem fD.at{eH:List cr}{s:dH}{Q:ae->dH->Prop}{e:Exit}{st:a6}(aE:dH)(nX:e= .ret\/e= .normal)(al:im aE)(ep:lA s aE)(af:∀k cs,look k aE.b=some cs->look k st.b=some cs)(dB:∀k o,look k aE.e=some o->look k st.e=some o)
  (h:hb st eH fun r=>aH (aK aE) r/\Q r aE):fD eH s Q e st:=by
 unfold hb at h;split at h
 ·rename_i c bD ao;exact fD.ob nX ao h.1 al ep af dB h.2.1 h.2.2
 ·exact h.elim
theorem lu.ob{P:bM}{nw:List Nat}{n:Nat}{args:List ae}{st:a6}{d:bf Nat}{K:a6->Prop}{s aE:dH}{r:ae}(av:dP P n args s fun fK ek=>fK=r/\ek=aE)(al:im s)(lL:im aE)(ep:lA s aE)(af:∀k cs,look k s.b=some cs->look k st.b=some cs)(he:∀k o,look k s.e=some o->look k st.e=some o)
  (aa:aB (aK s) args) (h:K ⟨eD d r st.t,ch s.b st.b++aE.b,ch s.e st.e++aE.e,st.n,st.o⟩):lu P false nw n args st d K:=
 .inr ⟨s,aE,r,none,fun k cs aQ=>⟨af k cs aQ,.inl (by simp[aQ]),al.kb k cs aQ⟩,fun k o ah=>⟨he k o ah,.inr (by simp[ah]),al.ke k o ah⟩,al.obj,lL.obj,⟨fun k aa=>.inl (by rw[ep.b];exact aa),fun k aa=>.inl (by rw[ep.e];exact aa),fun k aa=>by rw[<-ep.b];exact aa,fun k aa=>by rw[<-ep.e];exact aa,fun k aa=>by cases aa⟩,aa,av,(fun e=>by cases e),h⟩
theorem im.of{s:dH}(ah:hP s)(af:∀x∈s.b,aB (aK s) x.2)(he:∀x∈s.e,∀xs,x.2.xs=some xs->aB (aK s) xs):im s:=⟨ah,fun k cs aa=>af (k,cs) (re aa),fun k o aa xs ab=>he (k,o) (re aa) xs ab⟩
@[simp]theorem XD(b:List (aw×List ae))(e:List (aw×da)):fs ⟨b,e⟩=b.map (·.1)++e.map (·.1):=rfl
theorem Qg{α:Type}{s b:List (aw×α)}(h:∀p∈s,look p.1 b=some p.2):∀k x,look k s=some x->look k b=some x:=fun k x ab=>h (k,x) (re ab)
theorem dW{S:aw->Prop}{fu b:List (aw×List ae)}(h:∀p∈fu,look p.1 b=some p.2/\S p.1/\aB S p.2):mI S fu b:=fun k x ab=>h (k,x) (re ab)
theorem dY{S:aw->Prop}{fu b:List (aw×da)}(h:∀p∈fu,look p.1 b=some p.2/\S p.1/\dJ S p.2):mJ S fu b:=fun k x ab=>h (k,x) (re ab)
theorem bk{α:Type}{s b:List (aw×α)}(h:∀k x,look k s=some x->look k b=some x:=by first|(refine Qg ?_;simp;done)|(intro k x ab;first|exact ab|(simp[ab,wY];done)|(simp[od,wY,ab];done)|(cases k<;>simp_all[od];done))):∀k x,look k s=some x->look k b=some x:=h
theorem cq{ob:List aw}{st st':a6}(I:∀x∈st'.t,get x.1 st.t=x.2/\aH (fun k=> ¬fresh st'.n st'.o k) x.2:=by simp[fresh,aB,aH,bV,aK,Pv.look])(J:∀p∈st'.b,look p.1 st.b=some p.2/\(¬fresh st'.n st'.o p.1)/\aB (fun k=> ¬fresh st'.n st'.o k) p.2:=by simp[fresh,aB,aH,bV,aK,Pv.look])(ak:∀p∈st'.e,look p.1 st.e=some p.2/\(¬fresh st'.n st'.o p.1)/\dJ (fun k=> ¬fresh st'.n st'.o k) p.2:=by simp[fresh,aB,aH,dJ,aK,Pv.look])(aV:∀m∈ob,m∈st'.o:=by simp):k3 ob st st':=⟨I,dW J,dY ak,aV⟩
theorem cj.next{ob:List aw}{hG:Nat->a6->Prop}{k:Nat}{Q:Exit->a6->Prop}{st:a6}(be:Nat){aE:a6}(aa:be<k)(aq:hG be aE)(hw:k3 ob st aE):cj ob hG k Q .normal st:=⟨be,aE,aa,hw,aq⟩
def jr:List (Int×ae)->List ae
 |[]=>[]
 |(k,v)::r=>.int .i64 k::v::jr r
def jU(l:List (Int×ae)):List ae:= .hdm l.length (List.range l.length)::jr l
def qC(k:Int):List (Int×ae)->bf ae
 |[]=>none
 |(i,v)::r=>if k=i then some v else qC k r
def mW(k:Int)(v:ae):List (Int×ae)->bf (List (Int×ae))
 |[]=>none
 |(i,w)::r=>if k=i then some ((k,v)::r)else match mW k v r with|some fK=>some ((i,w)::fK)|none=>none
def kK(k:Int)(v:ae)(l:List (Int×ae)):List (Int×ae):=match mW k v l with|some e2=>e2|none=>l++[(k,v)]
@[simp]theorem Xq:[ae.hdm 0 []]=jU []:=rfl
theorem FB:∀a b,jr (a++b)=jr a++jr b
 |[],_=>rfl
 |(k,v)::r,b=>by simp[jr,FB r b]
theorem Hy(k:Int):∀l,rh .i (.int .i64 k) (jr l)=some (qC k l)
 |[]=>rfl
 |(i,v)::r=>by
  simp only[jr,rh,q6,qC];by_cases h:k=i
  ·simp[h]
  ·have:(k==i)=false:=by simp[h]
   simp[h,Hy k r,this]
theorem Dx{k:Int}{v:ae}:∀{l e2},mW k v l=some e2->e2.length=l.length
 |[],_,h=>by simp[mW]at h
 |(i,w)::r,e2,h=>by
  simp only[mW]at h;split at h
  ·cases h;rfl
  ·split at h
   ·rename_i fK ao;cases h;simp[Dx ao]
   ·cases h
theorem HA(k:Int)(v:ae):∀l,sG .i (.int .i64 k) v (jr l)=some ((mW k v l).map jr)
 |[]=>rfl
 |(i,w)::r=>by
  simp only[jr,sG,q6,mW];by_cases h:k=i
  ·subst h;simp[jr]
  ·simp only[and_self,if_true,h,if_false,cD,HA k v r];have:(k==i)=false:=by simp[h]
   rw[this];cases mW k v r<;>simp[jr]
@[simp]theorem QA(k:Int)(v:ae)(l:List (Int×ae)):qg .i (.int .i64 k) v (jU l)=some (jU (kK k v l)):=by
 simp only[jU,qg,Hb,Bool.true_eq_false,reduceCtorEq,if_false,HA,kK];cases h:mW k v l with
 |some e2=>simp[Dx h]
 |none=>simp[FB,jr,List.range_succ]
@[simp]theorem kA(f:aw->bf (List ae))(m:aw)(l:List (Int×ae))(z:ae)(ok:Bool)(k:Int)(hm:f m=some (jU l)):nm f .i z ok (.gmap m) (.int .i64 k)=(match qC k l with
  |some v=>some (True,if ok then .tuple [v,.bool true]else v)
  |none=>some (True,if ok then .tuple [z,.bool false]else z)):=by
 simp only[Qx,hm,jU,Hb,Bool.true_eq_false,reduceCtorEq,if_false,Hy];cases qC k l<;>rfl
def bV(n:Nat)(seen:List Nat)(m:aw):List ae:=[.hdi n seen n,.gmap m]
@[simp]theorem XJ(m:aw)(l:List (Int×ae)):wD m (jU l)=some (bV l.length [] m):=rfl
@[simp]theorem XH(l:List (Int×ae)):gH (jU l)=false:=rfl
theorem BG(b:Nat):∀(n:Nat) (l:List (Int×ae)),ll b (List.range' n l.length) (jr l)=(if n<=b then(l[b-n]?).map fun x=>.tuple [.int .i64 x.1,x.2]else none)
 |n,[]=>by simp[ll,jr]
 |n,(k,v)::r=>by
  simp only[hy,List.range'_succ,jr,ll];by_cases h:n=b
  ·subst h;simp
  ·rw[bu h,BG b (n+1) r];by_cases J:n<=b
   ·rw[if_pos J,if_pos Ω];have:b-n=(b-(n+1))+1:=Ω
    rw[this];simp
   ·rw[bu J,bu Ω]
@[simp]theorem Qv(f:aw->bf (List ae))(fI mk:aw)(n:Nat)(seen:List Nat)(b:Nat)(l:List (Int×ae))(aq:f fI=some (bV n (seen++[b]) mk))(hm:f mk=some (jU l))(aS:n=l.length):pe f (.ptr fI 0)=(l[b]?).map fun x=>(True,.tuple [.int .i64 x.1,x.2]):=by subst aS;simp only[Qw,aq,hm,bV,jU,List.getLast?_append,List.getLast?_singleton,Option.some_or,List.range_eq_range',BG,Nat.zero_le,if_true,Nat.sub_zero,Option.map_map];cases l[b]?<;>simp
theorem Lz{st:a6}{d:Nat}{K:a6->Prop}{fI mk:aw}{n:Nat}{seen:List Nat}{l:List (Int×ae)}(aq:look fI st.b=some (bV n seen mk))(hm:look mk st.b=some (jU l))(aS:n=l.length)
  (I:(∀b,b<n->b∈seen)->K {st with t:=put d (.tuple [.bool false]) st.t}) (J:∀b k v,l[b]? =some (k,v)->b∉seen->K {st with t:=put d (.tuple [.bool true,.int .i64 k,v]) st.t,b:=cx fI (bV n (seen++[b]) mk) st.b}):
  rW st d (.ptr fI 0) K:=by
 subst aS;simp only[rW,aq,bV,hm,jU,HG,and_self,true_and];refine⟨fun h=>I fun b af=>h b (by simpa using af),fun b k v AT af=>?_⟩;rw[List.range_eq_range',BG]at AT;simp only[Nat.zero_le,if_true,Nat.sub_zero,jZ,ae.tuple.injEq,tb,and_true]at AT;obtain⟨⟨be,v'⟩,aj,aR,bm⟩:=AT;simp only at aR bm;subst aR bm;exact J b be v' aj af
theorem RI{n:Nat}{seen:List Nat}(bj:seen.Nodup)(cM:∀b∈seen,b<n)(nT:∀b,b<n->b∈seen):seen.Perm (List.range n):=(List.perm_ext_iff_of_nodup bj List.nodup_range).2 fun b=>⟨fun h=>by simpa using cM b h,fun h=>nT b (by simpa using h)⟩
theorem IU{n:Nat}{seen:List Nat}(bj:seen.Nodup)(cM:∀b∈seen,b<n):seen.length<=n:=by have:=Us bj (l₂:=List.range n) (fun b af=>by simpa using cM b af);simpa using this
theorem SG{n b:Nat}{seen:List Nat}(bj:seen.Nodup)(cM:∀b∈seen,b<n)(af:b<n)(aS:b∉seen):seen.length<n:=by have I:(b::seen).Nodup:=List.nodup_cons.2 ⟨aS,bj⟩;have:=IU I (n:=n) (by simp;exact⟨af,cM⟩);simp at this;omega
theorem Ir{α:Type}:∀(l pre:List α),(List.range' pre.length l.length).filterMap (fun b=>(pre++l)[b]?)=l
 |[],_=>rfl
 |x::r,pre=>by have bb:=Ir r (pre++[x]);simp only[dh,List.length_singleton,List.append_assoc,List.singleton_append]at bb;simp[List.range'_succ,bb]
theorem SF{α:Type}{l:List α}{seen:List Nat}(bj:seen.Nodup)(cM:∀b∈seen,b<l.length)(nT:∀b,b<l.length->b∈seen):(seen.filterMap fun b=>l[b]?).Perm l:=by have I:=(RI bj cM nT).filterMap fun b=>l[b]?;have J:=Ir l [];simp only[l5,List.nil_append,<-List.range_eq_range']at J;rwa[J]at I
theorem QL{b:Nat}{seen:List Nat}(bj:seen.Nodup)(aS:b∉seen):(seen++[b]).Nodup:=by rw[oC];exact⟨bj,Ψ,by simp;intro a bU e;subst e;exact aS bU⟩
theorem bX.start{w:World}{ν:aM}(gl:k0 w ν){s:dH}{args:List ae}{vs:Array Value}(mv:hP s)(aT:Good (fy ν s) w ν s.b s.e)(ab:oS ν s)(ao:b4 w ν args vs.toList):
  bX ⟨w,ν,fy ν s,vs.size,fs s,gl,[]⟩ ⟨iD 0 args,s.b,s.e,0,fs s⟩ {tmps:=vs,defers:=[]} w ν:=by
 have nk:=wI ao;have jR:vs.size=args.length:=by simpa using nk
 have lg:∀k,fresh 0 (fs s) k->ν.bx k=none/\ν.ow k=none/\∀j b,¬ν.tr k j b:=by
  intro k aa;cases k with
  |loc m=>exact⟨(ab _).1 (mv.1 m),(ab _).2.1 (mv.2 m),(ab _).2.2⟩
  |obj m=>
   simp only[fresh,true_and]at aa;refine⟨?_,?_,(ab _).2.2⟩
   ·refine(ab _).1 ?_;cases h:look (.obj m) s.b with
    |none=>rfl
    |some x=>exact absurd (ur (.inl (by simp[h]))) aa
   ·refine(ab _).2.1 ?_;cases h:look (.obj m) s.e with
    |none=>rfl
    |some x=>exact absurd (ur (.inr (by simp[h]))) aa
 have lJ:∀m,(ν.bx (.obj m)≠none\/ν.ow (.obj m)≠none)-> .obj m∈fs s:=by
  intro m hm;refine Classical.byContradiction fun aQ=>?_;obtain⟨I,J,_⟩:=lg (.obj m) ⟨trivial,aQ⟩;rcases hm with hm|hm
  ·exact hm I
  ·exact hm J
 refine⟨⟨aT.alt,fun k cs aa=>?_,aT.inj,fun g o dX=>?_,aT.oinj,aT.obx,aT.one,aT.otr⟩,⟨rfl,rfl,rfl,c7 _,fun _ _ _=>rfl,fun b o h=>⟨h,rfl⟩,fun b o h=>.inl h,fun n b h=>h,fun n b h=>lJ n (.inl (by rw[h];simp)),fun m n u h=>⟨n,u,h,.inl ⟨rfl,rfl⟩⟩,fun m n u h=>lJ m (.inr (by rw[h];simp)),fun k j _ _ b h=>absurd h ((ab k).2.2 j b),fun k j b h=>absurd h ((ab k).2.2 j b),fun k j b h=>absurd h ((ab k).2.2 j b),fun _ _ _=>rfl,fun j n u b aj _=>(by rw[(ab _).2.1 (mv.2 j)]at aj;cases aj)⟩,rfl,rfl,fun i=>?_,lg,fun _ ab=>(by cases ab),fun m hm av=>av.2 hm⟩
 ·obtain⟨bl,us,el,g1,g2,g3⟩:=aT.box k cs aa;exact⟨bl,us,el,g1,.inl g2,g3⟩
 ·obtain⟨v,us,g1,g2,g3,g4⟩:=aT.own g o dX;exact⟨v,us,g1,g2,fun bl dQ=>⟨.inl (g3 bl dQ).1,(g3 bl dQ).2⟩,g4⟩
 ·rw[xK];by_cases aq:i<args.length
  ·rw[if_pos Ω];have p4:args[i]? =some args[i]:=cB aq;obtain⟨v,aj,aR⟩:=y6 i ao p4;have xq:vs[i]? =some v:=by simpa using aj
   show aJ w ν _ (vs.getD i undef);rw[Array.getD_eq_getD_getElem?,xq];simpa[List.getD,p4]using aR
  ·rw[bu Ω];simp[aJ]
theorem dP.sem{P:bM}{f:FuncId}{args:List ae}{s:dH}{Q:ae->dH->Prop}(mv:hP s)
  (h:∀(w:World) (ν:aM) (vs:Array Value) (gl:k0 w ν),vs.size=args.length->bX ⟨w,ν,fy ν s,vs.size,fs s,gl,[]⟩ ⟨iD 0 args,s.b,s.e,0,fs s⟩ {tmps:=vs,defers:=[]} w ν->
   qy P f vs w fun e w'=> ∃v st' cy ν' r aE,e= .returned v/\bX ⟨w,ν,fy ν s,vs.size,fs s,gl,[]⟩ st' cy w' ν'/\aJ w' ν' r v/\fC aE s.b/\fC aE s.e/\mI (aK aE) aE.b st'.b/\mJ (aK aE) aE.e st'.e/\hP aE/\aH (aK aE) r/\Q r aE):dP P f args s Q:=by
 intro w ν vs gl aT ab ao;have jR:vs.size=args.length:=by simpa using wI ao
 have mu:=bX.start gl mv aT ab ao;have hm:∀(e:Ending) (w':World),(∃v st' cy ν' r aE,e= .returned v/\bX ⟨w,ν,fy ν s,vs.size,fs s,gl,[]⟩ st' cy w' ν'/\aJ w' ν' r v/\fC aE s.b/\fC aE s.e/\mI (aK aE) aE.b st'.b/\mJ (aK aE) aE.e st'.e/\hP aE/\aH (aK aE) r/\Q r aE)->
   ∃v r aE ν',e= .returned v/\Q r aE/\aJ w' ν' r v/\Good (fun bl=>fy ν s bl\/w.heap.size<=bl) w' ν' aE.b aE.e/\oS ν' aE/\hP aE/\oH ⟨w,ν,fy ν s,0,fs s,gl,[]⟩ w' ν':=by
  rintro e w' ⟨v,st',cy,ν',r,aE,rfl,cO,wz,kb,ke,bK,b6,cH,dd,cz⟩;refine⟨v,r,aE,ν'.cut (aK aE),rfl,cz,oq (k2.cut _ w' ν') _ _ dd wz,cO.good.cut bK b6 (fun bl h _=>h),?_,cH,?_⟩
  ·intro k;refine⟨?_,?_,?_⟩;rotate_left 2
   ·rintro j b ⟨al,af⟩;obtain⟨t1,t2⟩:=cO.fr.trn k j b af;rcases al with al|al<;>obtain⟨x,mw⟩:=eK.1 al
    ·obtain⟨bl,bh,el,aj,_⟩:=cO.good.box k x (bK k x mw).1;rw[t1]at aj;cases aj
    ·obtain⟨v',bh,aj,_⟩:=cO.good.own k x (b6 k x mw).1;rw[t2]at aj;cases aj
   ·intro aa;by_cases al:aK aE k
    ·rw[aM.cut_bx al];rcases al with al|al
     ·rw[aa]at al;cases al
     ·obtain⟨x,mw⟩:=eK.1 al;obtain⟨v',bh,aj,_⟩:=cO.good.own k x (b6 k x mw).1;rcases cO.good.one k with I|I
      ·exact I
      ·rw[I]at aj;cases aj
    ·exact(aM.cut_no al).1
   ·intro aa;by_cases al:aK aE k
    ·rw[aM.cut_ow al];rcases al with al|al
     ·obtain⟨x,mw⟩:=eK.1 al;obtain⟨bl,bh,el,aj,_⟩:=cO.good.box k x (bK k x mw).1;rcases cO.good.one k with I|I
      ·rw[I]at aj;cases aj
      ·exact I
     ·rw[aa]at al;cases al
    ·exact(aM.cut_no al).2.1
  ·refine⟨cO.fr.os,cO.fr.tape,cO.fr.output,cO.fr.size,cO.fr.block,cO.fr.keep,cO.fr.fresh,fun n b h=>?_,cO.fr.obn,fun m n u h=>?_,cO.fr.obr,fun k j be ei b I J=>cO.fr.trd k j be ei b I.2 J.2,fun k j b af=>cO.fr.trb k j b af.2,fun k j b af=>(by rw[aM.cut_bx af.1,aM.cut_ow af.1];exact cO.fr.trn k j b af.2),cO.fr.sh,fun j n u b aj aR=>cO.fr.nrow j n u b (aM.cut_someO aj).2 aR⟩
   ·have al:aK aE (.obj n):=by
     cases aA:look (.obj n) s.b with
     |none=>rw[(ab _).1 aA]at h;cases h
     |some x=>exact we kb _ (by simp[aA])
    rw[aM.cut_bx al];exact cO.fr.obj n b h
   ·have al:aK aE (.obj m):=by
     cases aA:look (.obj m) s.e with
     |none=>rw[(ab _).2.1 aA]at h;cases h
     |some x=>exact we ke _ (by simp[aA])
    rw[aM.cut_ow al];exact cO.fr.row m n u h
 rcases h w ν vs gl jR mu with⟨hZ,aQ⟩|⟨v,w',aQ,ss⟩
 ·exact .inl ⟨hZ,aQ.mono hm⟩
 ·exact .inr ⟨v,w',aQ,hm _ _ ss⟩
theorem bX.grown{C:dM}{st:a6}{a:Act}{w w':World}{ν:aM}(h:bX C st a w ν)(aT:w.grownBy w' none):bX C st a w' ν:=by
 have nh:jH w ν w' ν:=⟨fun b o aY=>⟨aY,EH aT (h.good.alt b o aY)⟩,fun _ _ _ h=>h,fun _ n u _ h=>⟨n,u,h,.inl ⟨rfl,rfl⟩⟩,fun b o aY=>sV (aT.block b (h.good.alt b o aY) Ψ),fun _ _ _ _ h=>h⟩;refine h.over nh rfl ⟨fun b o aY=>Nat.lt_of_lt_of_le (h.good.alt b o aY) aT.size,fun k cs aa=>?_,h.good.inj,fun g o dX=>?_,h.good.oinj,h.good.obx,h.good.one,h.good.otr⟩
  ⟨aT.os.trans h.fr.os,aT.tape.trans h.fr.tape,aT.output.trans h.fr.output,Nat.le_trans h.fr.size aT.size,fun k aa hm=>?_,fun b o aY=>?_,h.fr.fresh,h.fr.obj,h.fr.obn,h.fr.row,h.fr.obr,h.fr.trd,fun k j b af=>⟨(h.fr.trb k j b af).1,Nat.lt_of_lt_of_le (h.fr.trb k j b af).2 aT.size⟩,h.fr.trn,fun b o aY=>(nh.sh b o (h.fr.keep b o aY).1).trans (h.fr.sh b o aY),h.fr.nrow⟩ h.new
 ·obtain⟨bl,us,el,g1,g2,g3,g4,g5⟩:=h.good.box k cs aa;exact⟨bl,us,el,g1,g2,g3,by rw[aT.block bl (Array.getElem?_eq_some_iff.1 g4).1 Ψ];exact g4,lV nh g5⟩
 ·obtain⟨v,us,g1,g2,g3,g4⟩:=h.good.own g o dX;exact⟨v,us,g1,g2.kept aT (by cases v.ownBlock<;>simp),g3,nt nh (fun _ _ _ h=>h) g4⟩
 ·rw[aT.block k (Nat.lt_of_lt_of_le aa h.fr.size) Ψ];exact h.fr.block k aa hm
 ·obtain⟨b5,cE⟩:=h.fr.keep b o aY;exact⟨b5,(nh.A b o b5).2.trans cE⟩
theorem fD.new{eH:List cr}{s:dH}{Q:ae->dH->Prop}{e:Exit}{st:a6}(aE:dH)(nX:e= .ret\/e= .normal)(al:im aE)(ep:fC aE s.b/\fC aE s.e)(af:∀k cs,look k aE.b=some cs->look k st.b=some cs)(dB:∀k o,look k aE.e=some o->look k st.e=some o)
  (h:hb st eH fun r=>aH (aK aE) r/\Q r aE):fD eH s Q e st:=by
 unfold hb at h;split at h
 ·rename_i c bD ao;refine⟨nX,?_⟩;rw[ao];exact⟨h.1,aE,ep.1,ep.2,fun k cs cA=>⟨af k cs cA,.inl (by simp[cA]),al.kb k cs cA⟩,fun k o ah=>⟨dB k o ah,.inr (by simp[ah]),al.ke k o ah⟩,al.obj,h.2.1,h.2.2⟩
 ·exact h.elim
@[simp]theorem VA{P:bM}{ob:List aw}{c d:C}{Q:Exit->a6->Prop}{st:a6}{s:Nat}:cu P ob (.seq (.pub s c) d) Q st=rL P ob (.seq c d) Q (qh st s):=by simp only[cu];cases qh st s<;>rfl
end
section
open Go Go.RowKit
def wc(t:List (Nat×ae))(bO:List Nat):List (Nat×ae):=bO.map fun k=>(k,get k t)
@[simp]theorem WL(t:List (Nat×ae)):wc t []=[]:=rfl
@[simp]theorem WK(t:List (Nat×ae))(k:Nat)(bO:List Nat):wc t (k::bO)=(k,get k t)::wc t bO:=rfl
def lR(st:a6)(bO:List Nat)(cs:List (Nat×ae)):a6:=⟨wc st.t bO++cs,st.b,st.e,st.n,st.o⟩
theorem Qy(t:List (Nat×ae))(b:List (aw×List ae))(e:List (aw×da))(n:Nat)(o:List aw)(bO:List Nat)(cs:List (Nat×ae)):lR ⟨t,b,e,n,o⟩ bO cs=⟨wc t bO++cs,b,e,n,o⟩:=rfl
def td{α:Type}(S:Nat->α->a6)(n:Nat)(gp:Nat->α->Prop)(k:Nat)(st:a6):Prop:= ∃i a,i<=n/\k=n-i/\gp i a/\st=S i a
section
variable {P:bM} {ob:List aw} {st:a6} {Q:Exit->a6->Prop} {c:C} {α:Type}
theorem fv(S:Nat->α->a6)(n:Nat)(gp:Nat->α->Prop)(a0:α)(hw:k3 ob st (S 0 a0))(a1:gp 0 a0)(vA:∀a,gp n a->(∀i,eQ (get i (S n a).t))->cu P ob c (cj ob (td S n gp) 0 Q) (S n a))
  (n7:∀i a,i<n->gp i a->(∀j,eQ (get j (S i a).t))->cu P ob c (cj ob (td S n gp) (n-i) Q) (S i a)):cu P ob (.loop c) Q st:=by
 refine xx (td S n gp) n _ hw ⟨0,a0,Ω,Ω,a1,rfl⟩ ?_;rintro k s ⟨i,a,aq,rfl,ai,rfl⟩ af _;rcases ko i n with h|h
 ·exact n7 i a h ai af
 ·obtain rfl:i=n:=Ω
  rw[Nat.sub_self];exact vA a ai af
theorem cj.rng{S:Nat->α->a6}{n:Nat}{gp:Nat->α->Prop}{i:Nat}(cy:α)(aq:i<n)(ai:gp (i+1) cy)(hw:k3 ob st (S (i+1) cy)):cj ob (td S n gp) (n-i) Q .normal st:=⟨n-(i+1),_,Ω,hw,i+1,cy,Ω,rfl,ai,rfl⟩
def w5{α:Type}(S:α->a6)(μ:α->Nat)(gp:α->Prop)(k:Nat)(st:a6):Prop:= ∃a,k=μ a/\gp a/\st=S a
theorem pR(S:α->a6)(μ:α->Nat)(gp:α->Prop)(a0:α)(hw:k3 ob st (S a0))(a1:gp a0)
  (n7:∀a,gp a->(∀j,eQ (get j (S a).t))->cu P ob c (cj ob (w5 S μ gp) (μ a) Q) (S a)):cu P ob (.loop c) Q st:=by
 refine xx (w5 S μ gp) (μ a0) _ hw ⟨a0,rfl,a1,rfl⟩ ?_;rintro k s ⟨a,rfl,ai,rfl⟩ af _;exact n7 a ai af
theorem cj.whl{S:α->a6}{μ:α->Nat}{gp:α->Prop}{k:Nat}(cy:α)(hm:μ cy<k)(ai:gp cy)(hw:k3 ob st (S cy)):cj ob (w5 S μ gp) k Q .normal st:=⟨μ cy,_,hm,hw,cy,rfl,ai,rfl⟩
end
theorem nq{p:Prop}(h:p:=by(try simp[*]);(repeat' first|with_reducible refine aP ?_|with_reducible refine aC (by assumption) ?_|with_reducible refine aD (by assumption) ?_|simp[*]);(all_goals first|exact cj.rng () (by assumption) (by first|assumption|trivial) cq|exact cj.rng _ (by assumption) (by assumption) cq)):p:=h
end
section
open Go Go.RowKit
section
variable {α:Type}
end
end
section
open Go Go.RowKit
section
variable {P:bM} {ob:List aw} {st:a6} {Q:Exit->a6->Prop} {c:C} {α:Type}
theorem mb(bO:List Nat)(cs:Nat->α->List (Nat×ae))(n:Nat)(gp:Nat->α->Prop)(a0:α)(hw:k3 ob st (lR st bO (cs 0 a0)))(a1:gp 0 a0)(vA:∀a,gp n a->(∀i,eQ (get i (lR st bO (cs n a)).t))->cu P ob c (cj ob (td (fun i a=>lR st bO (cs i a)) n gp) 0 Q) (lR st bO (cs n a)))
  (n7:∀i a,i<n->gp i a->(∀j,eQ (get j (lR st bO (cs i a)).t))->cu P ob c (cj ob (td (fun i a=>lR st bO (cs i a)) n gp) (n-i) Q) (lR st bO (cs i a))):cu P ob (.loop c) Q st:=
 fv (fun i a=>lR st bO (cs i a)) n gp a0 hw a1 vA n7
theorem Fa(bO:List Nat)(cs:α->List (Nat×ae))(μ:α->Nat)(gp:α->Prop)(a0:α)(hw:k3 ob st (lR st bO (cs a0)))(a1:gp a0)
  (n7:∀a,gp a->(∀j,eQ (get j (lR st bO (cs a)).t))->cu P ob c (cj ob (w5 (fun a=>lR st bO (cs a)) μ gp) (μ a) Q) (lR st bO (cs a))):cu P ob (.loop c) Q st:=
 pR (fun a=>lR st bO (cs a)) μ gp a0 hw a1 n7
end
attribute [simp] Qy
end
section
open Go Go.Lib
theorem rV{u:Nat}(h:u<10):decDigits u=[nF (48+u)]:=by rw[decDigits,dif_pos h]
theorem vh{u:Nat}(h:10<=u):decDigits u=decDigits (u/10)++[nF (48+u%10)]:=by rw[decDigits,dif_neg Ω]
theorem EX(u:Nat):decDigits u≠[]:=by
 by_cases hu:u<10
 ·rw[rV hu];simp
 ·rw[vh Ω];simp
def RH(s:List bt):bf Int:=match atoiAll s with
 | .ok n=>if itoa n=s then some n else none
 |_=>none
theorem o9(n:Int):itoa n≠[]:=by
 unfold itoa;split
 ·simp
 ·exact EX _
theorem zX:∀(k u:Nat),u<10 ^ k->(decDigits u).length<=max k 1
 |0,u,h=>by rw[rV (by simpa using Nat.lt_of_lt_of_le h Ψ)];simp
 |k+1,u,h=>by
  by_cases hu:u<10
  ·rw[rV hu];simp
  ·rw[vh Ω];have:=zX k (u/10) (by rw[Nat.pow_succ]at h;omega);simp;have:k≠0:=fun e=>by subst e;simp at h;omega
   omega
theorem ym{n:Int}(h:bs n):(itoa n).length<=20:=by
 unfold bs at h;unfold itoa;split
 ·have:=zX 19 n.natAbs Ω;simp;omega
 ·have:=zX 19 n.toNat Ω;omega
def Kn(c:bt):Bool:=c==32||c==10||c==40||c==41||c==59
def BD:List T->T->T
 |[],t=>t
 |x::r,t=>.pair x (BD r t)
mutual
def wE(at':List bt->bf T):Nat->List (List bt)->bf (T×List (List bt))
 |0,_=>none
 |_+1,[]=>none
 |n+1,w::r=>if w=[40]then eu at' n r []else if w=[41]\/w=[46]then none else(at' w).map fun t=>(t,r)
def eu(at':List bt->bf T):Nat->List (List bt)->List T->bf (T×List (List bt))
 |0,_,_=>none
 |_+1,[],_=>none
 |n+1,w::r,acc=>if w=[41]then some (BD acc .nil,r)
  else if w=[46]then(if acc=[]then none else match wE at' n r with
   |some (t,v::fK)=>if v=[41]then some (BD acc t,fK)else none
   |_=>none)
  else match wE at' n (w::r)with
   |some (t,fK)=>eu at' n fK (acc++[t])
   |none=>none
end
mutual
def bZ:T->List bt
 | .nil=>[40,41]
 | .var n=>63::itoa n
 | .sym s=>s
 | .num n=>itoa n
 | .pair a b=>40::(bZ a++ec b)
def ec:T->List bt
 | .nil=>[41]
 | .pair a b=>32::(bZ a++ec b)
 | .var n=>32::46::32::63::(itoa n++[41])
 | .sym s=>32::46::32::(s++[41])
 | .num n=>32::46::32::(itoa n++[41])
end
def E3:List bt->Prop
 |[]=>True
 |c::_=>Kn c=true
theorem HE{s:List bt}(h:iB s=true):∃c r,s=c::r/\low c=true/\(∀x∈r,jS x=true)/\r.length<=11:=by
 unfold iB at h;simp only[bE,fY,kZ]at h;cases s with
 |nil=>simp at h
 |cons c r=>exact⟨c,r,rfl,by simpa using h.1.2,by simpa using h.2,by have:=h.1.1.2;simp at this;omega⟩
theorem HF{s:List bt}(h:iB s=true):s≠[]:=by obtain⟨c,r,rfl,_⟩:=HE h;simp
inductive Gm where
 |mk (kind:Int) (name:List bt) (ts:List aU) (gs:List Gm)
 deriving Inhabited
def Gm.kind:Gm->Int| .mk k _ _ _=>k
def Gm.name:Gm->List bt| .mk _ s _ _=>s
def Gm.ts:Gm->List aU| .mk _ _ t _=>t
def Gm.gs:Gm->List Gm| .mk _ _ _ g=>g
mutual
def qJ:Gm->ae
 | .mk k s t g=>.agg [.int .i64 k,.str s,.slice 4 .no (t.map enc),.slice 4 .no (nP g)]
def nP:List Gm->List ae
 |[]=>[]
 |x::xs=>qJ x::nP xs
end
def Gm.e(g:Gm):ae:=qJ g
theorem xH:∀l,nP l=l.map Gm.e
 |[]=>rfl
 |x::xs=>by simp[nP,xH xs,Gm.e]
theorem Gm.e_eq(g:Gm):g.e= .agg [.int .i64 g.kind,.str g.name,.slice 4 .no (g.ts.map enc),.slice 4 .no (g.gs.map Gm.e)]:=by cases g;simp[Gm.e,qJ,xH,Gm.kind,Gm.name,Gm.ts,Gm.gs]
mutual
theorem Hk(S:aw->Prop):∀g:Gm,aH S (qJ g)
 | .mk k s t g=>by simp[qJ,aH,aB,Bt S g]
theorem Bt(S:aw->Prop):∀l:List Gm,aB S (nP l)
 |[]=>by simp[nP,aB]
 |x::xs=>by simp[nP,aB,Hk S x,Bt S xs]
end
mutual
theorem IY:∀g:Gm,cg (qJ g)=qJ g
 | .mk k s t g=>by simp[qJ,cg,cd,CI g]
theorem CI:∀l:List Gm,cd (nP l)=nP l
 |[]=>by simp[nP,cd]
 |x::xs=>by simp[nP,cd,IY x,CI xs]
end
@[simp]theorem W3(S:aw->Prop)(g:Gm):aH S g.e=True:=eq_true (Hk S g)
@[simp]theorem WR(S:aw->Prop)(l:List Gm):aB S (l.map Gm.e)=True:=by rw[<-xH];exact eq_true (Bt S l)
@[simp]theorem Yo(g:Gm):cg g.e=g.e:=IY g
@[simp]theorem Yg(l:List Gm):cd (l.map Gm.e)=l.map Gm.e:=by rw[<-xH];exact CI l
@[simp]theorem X3(g:Gm):dE g.e=true:=by rw[Gm.e_eq];rfl
@[simp]theorem Vk(g:Gm):cells g.e=[.int .i64 g.kind,.str g.name,.slice 4 .no (g.ts.map enc),.slice 4 .no (g.gs.map Gm.e)]:=by rw[Gm.e_eq];rfl
@[simp]theorem UG(g:Gm):ae.agg [.int .i64 g.kind,.str g.name,.slice 4 .no (g.ts.map enc),.slice 4 .no (g.gs.map Gm.e)]=g.e:=(Gm.e_eq g).symm
@[simp]theorem VJ(off:Nat)(eh:Bool)(sz:Nat)(g:Gm):lI off eh sz (.eptr g.e)=if eh then some (off+sz<=4,.eptr (.agg (([.int .i64 g.kind,.str g.name,.slice 4 .no (g.ts.map enc),.slice 4 .no (g.gs.map Gm.e)].drop off).take sz)))else(([.int .i64 g.kind,.str g.name,.slice 4 .no (g.ts.map enc),.slice 4 .no (g.gs.map Gm.e)]:List ae)[off]?).map fun p=>(dE p=true/\cells p=[p],.eptr p):=by rw[Gm.e_eq];rfl
@[simp]theorem WD(g:Gm):Pv.isAgg 4 g.e:=by rw[Gm.e_eq];exact⟨_,rfl,rfl⟩
def s6:List bt:=[116,114,117,101]
def s5:List bt:=[102,97,105,108]
def C8:List bt:=[61]
def C7:List bt:=[47,61]
def uU:List bt:=[115,121,109,98,111,108]
def uS:List bt:=[110,117,109,98,101,114]
def uP:List bt:=[97,98,115,101,110,116]
def uQ:List bt:=[97,110,100]
def uT:List bt:=[111,114]
def uR:List bt:=[110,111,116]
def C6:List bt:=[100,101,102,105,110,101]
def iR:List (List bt):=[s6,s5,uU,uS,uP,uQ,uT,uR,C6]
def h4(s:List bt):Bool:= !iR.contains s&&iB s
def jV(k:Int):Int:=if k=2 then 2 else if k=3 then 2 else if k=4 then 1 else if k=5 then 1 else if k=6 then 2 else 0
mutual
def Gm.sz:Gm->Nat
 | .mk _ _ _ g=>1+nR g
def nR:List Gm->Nat
 |[]=>0
 |x::xs=>x.sz+nR xs
end
theorem FX{x:Gm}:∀{l:List Gm},x∈l->x.sz<=nR l
 |[],h=>by simp at h
 |y::l,h=>by
  simp only[nR];rcases hT.1 h with rfl|h
  ·omega
  ·have:=FX h;omega
theorem Gm.gs_lt{g x:Gm}(h:x∈g.gs):x.sz<g.sz:=by
 cases g with
 |mk k s t gs=>have:=FX (l:=gs) h;simp only[Gm.sz];omega
theorem Gm.sz_pos(g:Gm):1<=g.sz:=by cases g;simp[Gm.sz]
mutual
def Gm.shape:Gm->Bool
 | .mk k s t g=>t.all aU.fits&&(
  if 0<=k/\k<=6 then s==[]&&g.isEmpty&&decide ((t.length:Int)=jV k)&&(k !=6||(match t with|x::_=>decide (x.kind=2)|[]=>false))
  else if k=9 then h4 s&&g.isEmpty&&decide (t.length<=4)
  else if k=7\/k=8 then s==[]&&t.isEmpty&&decide (g.length<=8)&&sU g
  else if k=10 then s==[]&&t.isEmpty&&(match g with|[x]=>decide (x.kind=9)|_=>false)&&sU g
  else false)
def sU:List Gm->Bool
 |[]=>true
 |x::xs=>x.shape&&sU xs
end
def Gm.fits(n:Nat)(g:Gm):Bool:=g.shape&&decide (g.sz<=n)
def OA(w:List bt):bf Int:=if w=C8 then some 2 else if w=C7 then some 3 else if w=uU then some 4 else if w=uS then some 5 else if w=uP then some 6 else if w=uQ then some 7 else if w=uT then some 8 else if w=uR then some 10 else none
def GS(k:Int):Bool:=k==7||k==8||k==10
theorem rY{t:T}(h:t.fit=true):t.ok=true:=by unfold T.fit at h;simp only[bE]at h;exact h.1
def sd(h:List bt):bf (Int×List bt):=if h=s6 then some (0,[])else if h=s5 then some (1,[])else match OA h with
 |some k=>some (k,[])
 |none=>some (9,h)
theorem CA:∀{l:List Gm},sU l=true->∀x∈l,x.shape=true
 |[],_,x,h=>by simp at h
 |y::l,h,x,ab=>by
  simp only[sU,bE]at h;rcases hT.1 ab with rfl|ab
  ·exact h.1
  ·exact CA h.2 x ab
theorem ps{g:Gm}(h:g.shape=true):∀t∈g.ts,t.fits=true:=by
 cases g with
 |mk k s ts gs=>simp only[Gm.shape,bE,kZ]at h;exact h.1
theorem pq{g:Gm}(h:g.shape=true)(aa:GS g.kind=true):∀x∈g.gs,x.shape=true:=by
 cases g with
 |mk k s ts gs=>
  have aa:(k=7\/k=8)\/k=10:=by simpa[GS,Gm.kind]using aa
  simp only[Gm.shape,bE]at h;have J:=h.2;rw[bu Ω,bu Ω]at J;split at J
  ·simp only[bE]at J;exact CA J.2
  ·rw[if_pos Ω]at J;simp only[bE]at J;exact CA J.2
theorem CC{g:Gm}(h:g.shape=true)(aa:g.kind=9):h4 g.name=true:=by
 cases g with
 |mk k s ts gs=>simp only[Gm.kind]at aa;subst aa;simp only[Gm.shape,bE]at h;have J:=h.2;simp at J;exact J.1.1
theorem Tl:∀{a b:T},a.tm=b.tm->a=b:=by
 intro a;induction a with
 |nil=>intro b h;cases b<;>simp[T.tm]at h⊢
 |var n=>intro b h;cases b<;>simp[T.tm]at h⊢;exact h
 |sym s=>intro b h;cases b<;>simp[T.tm]at h⊢;exact h
 |num n=>intro b h;cases b<;>simp[T.tm]at h⊢;exact h
 |pair x y Bj Bk=>intro b h;cases b<;>simp[T.tm]at h⊢;exact⟨Bj h.1,Bk h.2⟩
open Classical in
noncomputable def eP(t:aU):List bt:=if h:∃x:T,x.tm=t then bZ (Classical.choose h)else []
theorem zm(x:T):eP x.tm=bZ x:=by have h:∃y:T,y.tm=x.tm:=⟨x,rfl⟩;unfold eP;rw[dif_pos h,Tl (Classical.choose_spec h)]
def b0(b:List bt):List (List bt)->List bt
 |[]=>[]
 |[x]=>x
 |x::y::r=>x++b++b0 b (y::r)
theorem G1(b:List bt)(x:List bt):∀l:List (List bt),l≠[]->b0 b (l++[x])=b0 b l++b++x
 |[],h=>absurd rfl h
 |[y],_=>by simp[b0]
 |y::z::r,_=>by have:=G1 b x (z::r) Ψ;simp only[oA,b0]at this⊢;rw[this];simp
theorem G2(b:List bt)(l:List (List bt)){k:Nat}{x:List bt}(h:l[k]? =some x):b0 b (l.take (k+1))=if k=0 then x else b0 b (l.take k)++b++x:=by
 have aa:=(dw.1 h).1;have aG:l.take (k+1)=l.take k++[x]:=by rw[List.take_add_one,h];rfl
 rw[aG];by_cases a1:k=0
 ·subst a1;simp[b0]
 ·rw[bu a1,G1];intro e;have:=fa List.length e;rw[List.length_take]at this;simp only[l5]at this;omega
def hK(k:Int):List bt:=if k=0 then s6 else if k=1 then s5 else if k=2 then C8 else if k=3 then C7 else if k=4 then uU else if k=5 then uS else if k=6 then uP else if k=7 then uQ else if k=8 then uT else if k=10 then uR else []
mutual
noncomputable def c6:Gm->List bt
 | .mk k s t g=>if k=0\/k=1 then hK k else 40::(b0 [32] ((if k=9 then s else hK k)::(t.map eP++xB g))++[41])
noncomputable def xB:List Gm->List (List bt)
 |[]=>[]
 |x::xs=>c6 x::xB xs
end
theorem Ae:∀l,xB l=l.map c6
 |[]=>rfl
 |x::xs=>by simp[xB,Ae xs]
theorem pU(g:Gm):c6 g=if g.kind=0\/g.kind=1 then hK g.kind else 40::(b0 [32] ((if g.kind=9 then g.name else hK g.kind)::(g.ts.map eP++g.gs.map c6))++[41]):=by cases g;rw[c6,Ae];rfl
def Uh(s:List bt):Bool:=iB s||(match RH s with|some n=>decide (0<=n/\n<=100000)|none=>false)
def num:List (List bt)->List (List bt)->bf (List (List bt)×List (List bt))
 |ns,[]=>some ([],ns)
 |ns,w::r=>match w with
  |63::s=>if Uh s then(num (if w∈ns then ns else ns++[w]) r).map fun x=>((63::itoa (ns.idxOf w))::x.1,x.2)else none
  |_=>(num ns r).map fun x=>(w::x.1,x.2)
mutual
def aU.vs:aU->List Int
 | .mk k n _ a=>if k=1 then [n]else aU.vsL a
def aU.vsL:List aU->List Int
 |[]=>[]
 |x::xs=>x.vs++aU.vsL xs
end
mutual
def Gm.vs:Gm->List Int
 | .mk _ _ t g=>aU.vsL t++Gm.vsL g
def Gm.vsL:List Gm->List Int
 |[]=>[]
 |x::xs=>x.vs++Gm.vsL xs
end
structure Ix where
 op:Int
 a:Int
 b:Int
 g:Gm
structure Ey where
 name:List bt
 pos:Int
 ar:Int
 vars:Int
structure Cd where
 is:List Ix
 es:List Ey
def rl(g:Gm):Bool:=g.kind==0&&g.name==[]&&g.ts.isEmpty&&g.gs.isEmpty
def hc(es:List Ey)(s:List bt):Int:=match es.findIdx? fun e=>e.name==s with
 |some i=>i
 |none=> -1
def Cd.fin(c:Cd)(i:Nat):Int:=match c.es[i+1]? with
 |some e=>e.pos
 |none=>c.is.length
def wU(g:Gm)(n:Int):Prop:= ∀v∈g.vs,v<n
def ua(c:Cd)(e:Ey)(gJ:Int)(at':Int)(x:Ix):Prop:=
 (x.op≠0->x.op≠5->rl x.g=true)/\
 (x.op=0->x.a=0/\x.b=0/\x.g.fits 80=true/\2<=x.g.kind/\x.g.kind<=6/\wU x.g e.vars)/\
 (x.op=5->x.a=0/\x.b=0/\x.g.fits 80=true/\x.g.kind=9/\wU x.g e.vars/\∃k f,hc c.es x.g.name=(k:Nat)/\c.es[k]? =some f/\f.ar=x.g.ts.length)/\
 (x.op=1->(at'<x.a/\e.pos<=x.a/\x.a<gJ)/\(0<=x.b/\x.b<=7)/\∃y,c.is[x.a.toNat]? =some y/\(y.op=1\/y.op=2)/\y.b=x.b+1)/\
 (x.op=2->x.a=0/\0<=x.b/\x.b<=7)/\
 (x.op=3->(at'<x.a/\e.pos<=x.a/\x.a<gJ)/\x.b=0)/\
 (x.op=4->x.a=0/\x.b=0)/\
 (x.op=6->x.a=0/\x.b=0/\at'=gJ-1)/\0<=x.op/\x.op<=6
def rK(c:Cd)(i:Nat)(e:Ey):Prop:=
 (i+1=c.es.length->e.name=[]/\e.ar=0)/\(i+1≠c.es.length->h4 e.name=true/\hc c.es e.name=i)/\
 (0<=e.ar/\e.ar<=4)/\(e.ar<=e.vars/\e.vars<=100000)/\(0<=e.pos/\e.pos<c.is.length)/\∀p,0<i->c.es[i-1]? =some p->p.pos<e.pos
def w4(c:Cd)(i:Nat)(e:Ey):Prop:=(∀y,c.is[(c.fin i-1).toNat]? =some y->y.op=6)/\∀(k:Nat) x,e.pos<=k->(k:Int)<c.fin i->c.is[k]? =some x->ua c e (c.fin i) k x
def pN(c:Cd):Prop:=(∃e,c.es[0]? =some e/\e.pos=0)/\(∀i e,c.es[i]? =some e->rK c i e)/\∀i e,c.es[i]? =some e->w4 c i e
def kL(es:List Ey)(s:List bt):Int:=hc (es.take (es.length-1)) s
def Au(c:Cd)(x:Ix)(vars:Int):Prop:=
 (x.op≠0->x.op≠5->rl x.g=true)/\(x.op=0\/x.op=5->x.g.fits 80=true/\wU x.g vars/\(x.op=0->2<=x.g.kind/\x.g.kind<=6)/\
  (x.op=5->x.g.kind=9/\∃k f,kL c.es x.g.name=(k:Nat)/\c.es[k]? =some f/\(x.g.ts.length:Int)=f.ar))
def q4(c:Cd)(e:Ey)(gJ:Int)(at':Int)(x:Ix):Prop:=
 (0<=x.op/\x.op<=6)/\(x.op=6↔at'=gJ-1)/\Au c x e.vars/\(x.op=1\/x.op=3->at'+1<=x.a/\x.a<=gJ-1)/\(¬(x.op=1\/x.op=3)->x.a=0)/\
 (x.op=1\/x.op=2->0<=x.b/\x.b<=7)/\(¬(x.op=1\/x.op=2)->x.b=0)/\(x.op=1->∃y,c.is[x.a.toNat]? =some y/\(y.op=1\/y.op=2)/\y.b=x.b+1)
def u4(c:Cd)(e:Ey)(gJ:Int):Prop:= ∀(k:Nat) x,e.pos<=k->(k:Int)<gJ->c.is[k]? =some x->q4 c e gJ k x
def zr(c:Cd)(i:Nat)(e:Ey):Prop:=(e.pos<c.fin i/\0<=e.pos/\c.fin i<=c.is.length/\(0<=e.ar/\e.ar<=4)/\(e.ar<=e.vars/\e.vars<=100000))/\(i+1<c.es.length->h4 e.name=true/\kL c.es e.name=i)/\u4 c e (c.fin i)
def l9(c:Cd):Prop:=(∃e,c.es[0]? =some e/\e.pos=0)/\(∃e,c.es[c.es.length-1]? =some e/\e.name=[]/\e.ar=0)/\∀i e,c.es[i]? =some e->zr c i e
theorem xv{es:List Ey}{s:List bt}{k:Nat}(h:hc es s=(k:Nat)):∃e,es[k]? =some e/\e.name=s/\∀(j:Nat) (f:Ey),j<k->es[j]? =some f->f.name≠s:=by
 unfold hc at h;cases av:es.findIdx? fun e=>e.name==s with
 |none=>rw[av]at h;simp only at h;omega
 |some i=>
  rw[av]at h;have:i=k:=by simp only[Int.natCast_inj]at h;exact h
  subst this;obtain⟨I,J,ak⟩:=List.findIdx?_eq_some_iff_getElem.1 av;refine⟨es[i],cB I,by simpa using J,fun j f ai xW=>?_⟩;have:=ak j ai;rw[cB Ω]at xW;cases xW;simpa using this
theorem xu{es:List Ey}{s:List bt}{k:Nat}{e:Ey}(h:es[k]? =some e)(he:e.name=s)(aS:∀(j:Nat) (f:Ey),j<k->es[j]? =some f->f.name≠s):hc es s=(k:Nat):=by
 have aa:=(dw.1 h).1;have:es.findIdx? (fun e=>e.name==s)=some k:=by
  rw[List.findIdx?_eq_some_iff_getElem];refine⟨aa,?_,fun j ai=>?_⟩
  ·rw[cB aa]at h;cases h;simp[he]
  ·have:=aS j _ ai (cB Ω);simp[this]
 unfold hc;rw[this]
theorem E4{es:List Ey}{s:List bt}(aS:∀(j:Nat) (f:Ey),es[j]? =some f->f.name≠s):hc es s= -1:=by
 have:es.findIdx? (fun e=>e.name==s)=none:=by rw[List.findIdx?_eq_none_iff];intro x ab;obtain⟨j,ai⟩:=List.getElem?_of_mem ab;simp[aS j x ai]
 unfold hc;rw[this]
theorem xt{es:List Ey}{l:Ey}(aA:es[es.length-1]? =some l)(aS:l.name=[]){s:List bt}(al:s≠[])(k:Nat):hc es s=(k:Nat)↔kL es s=(k:Nat):=by
 unfold kL;constructor
 ·intro h;obtain⟨e,I,J,ak⟩:=xv h;have aa:=(dw.1 I).1;have fP:k<es.length-1:=by
   rcases ko k (es.length-1)with bS|bS
   ·exact bS
   ·have:k=es.length-1:=Ω
    subst this;rw[aA]at I;cases I;exact absurd (J.symm.trans aS) al
  refine xu (e:=e) (by rw[List.getElem?_take_of_lt fP];exact I) J fun j f ai av=>?_;rw[List.getElem?_take_of_lt Ω]at av;exact ak j f ai av
 ·intro h;obtain⟨e,I,J,ak⟩:=xv h;have aa:k<es.length-1:=by have:=(dw.1 I).1;simp at this;omega
  rw[List.getElem?_take_of_lt aa]at I;exact xu I J fun j f ai av=>ak j f ai (by rw[List.getElem?_take_of_lt Ω];exact av)
theorem yk{s:List bt}(h:h4 s=true):s≠[]:=by rintro rfl;revert h;decide
theorem Fx{g:Gm}{n:Nat}(h:g.fits n=true)(aa:g.kind=9):h4 g.name=true:=by
 cases g with
 |mk k s t gs=>simp only[Gm.kind]at aa;subst aa;simp only[Gm.fits,Gm.shape,bE]at h;have:=h.1.2;simp at this;exact this.1.1
theorem GW{c:Cd}{l:Ey}(aA:c.es[c.es.length-1]? =some l)(aS:l.name=[]){e:Ey}{gJ at':Int}(bU:e.pos<=at')(ff:at'<gJ){x:Ix}(ao:at'=gJ-1->x.op=6):ua c e gJ at' x↔q4 c e gJ at' x:=by
 constructor
 ·rintro⟨I,J,ak,aV,bn,cb,eC,hY,dv,hf⟩;refine⟨⟨dv,hf⟩,⟨fun h=>(hY h).2.2,ao⟩,⟨I,?_⟩,?_,?_,?_,?_,fun h=>(aV h).2.2⟩
  ·rintro(h|h)
   ·obtain⟨_,_,g1,g2,g3,g4⟩:=J h;exact⟨g1,g4,fun _=>⟨g2,g3⟩,fun bS=>Ω⟩
   ·obtain⟨_,_,g1,g2,g3,k,f,g4,g5,g6⟩:=ak h;exact⟨g1,g3,fun bS=>Ω,fun _=>⟨g2,k,f,(xt aA aS (yk (Fx g1 g2)) k).1 g4,g5,g6.symm⟩⟩
  ·rintro(h|h)
   ·have:=(aV h).1;omega
   ·have:=(cb h).1;omega
  ·intro h;have:x.op=0\/x.op=2\/x.op=4\/x.op=5\/x.op=6:=Ω
   rcases this with h|h|h|h|h
   ·exact(J h).1
   ·exact(bn h).1
   ·exact(eC h).1
   ·exact(ak h).1
   ·exact(hY h).1
  ·rintro(h|h)
   ·exact(aV h).2.1
   ·exact(bn h).2
  ·intro h;have:x.op=0\/x.op=3\/x.op=4\/x.op=5\/x.op=6:=Ω
   rcases this with h|h|h|h|h
   ·exact(J h).2.1
   ·exact(cb h).2
   ·exact(eC h).2
   ·exact(ak h).2.1
   ·exact(hY h).2.1
 ·rintro⟨⟨dv,hf⟩,hY,⟨I,J⟩,ak,aV,bn,cb,eC⟩;refine⟨I,fun h=>?_,fun h=>?_,fun h=>?_,fun h=>?_,fun h=>?_,fun h=>?_,fun h=>?_,dv,hf⟩
  ·obtain⟨g1,g2,g3,_⟩:=J (.inl h);exact⟨aV Ω,cb Ω,g1,(g3 h).1,(g3 h).2,g2⟩
  ·obtain⟨g1,g2,_,g3⟩:=J (.inr h);obtain⟨g4,k,f,g5,g6,g7⟩:=g3 h;exact⟨aV Ω,cb Ω,g1,g4,g2,k,f,(xt aA aS (yk (Fx g1 g4)) k).2 g5,g6,g7.symm⟩
  ·have:=ak (.inl h);exact⟨Ω,bn (.inl h),eC h⟩
  ·exact⟨aV Ω,bn (.inr h)⟩
  ·have:=ak (.inr h);exact⟨Ω,cb Ω⟩
  ·exact⟨aV Ω,cb Ω⟩
  ·exact⟨aV Ω,cb Ω,hY.1 h⟩
theorem Cd.fin_of{c:Cd}{i:Nat}{e:Ey}(h:c.es[i+1]? =some e):c.fin i=e.pos:=by unfold Cd.fin;rw[h]
theorem Cd.fin_last{c:Cd}{i:Nat}(h:c.es.length<=i+1):c.fin i=c.is.length:=by unfold Cd.fin;rw[List.getElem?_eq_none h]
theorem uZ{c:Cd}(h:∀i e,c.es[i]? =some e->rK c i e){i:Nat}{e:Ey}(he:c.es[i]? =some e):e.pos<c.fin i/\c.fin i<=c.is.length:=by
 rcases ko (i+1) c.es.length with aq|aq
 ·obtain⟨f,av⟩:∃f,c.es[i+1]? =some f:=⟨_,cB aq⟩;rw[Cd.fin_of av];obtain⟨_,_,_,_,bn,cb⟩:=h _ _ av;exact⟨cb e Ω (by simpa using he),Ω⟩
 ·rw[Cd.fin_last aq];obtain⟨_,_,_,_,bn,_⟩:=h _ _ he;omega
theorem zN(c:Cd):pN c↔l9 c:=by
 constructor
 ·rintro⟨⟨eb,a1,I⟩,J,ak⟩;have eS:=(dw.1 a1).1;obtain⟨l,aA⟩:∃l,c.es[c.es.length-1]? =some l:=⟨_,cB Ω⟩;have mo:=(J _ _ aA).1 Ω;refine⟨⟨eb,a1,I⟩,⟨l,aA,mo⟩,fun i e he=>?_⟩;have av:=uZ J he;obtain⟨bQ,a2,a3,a4,a5,Kc⟩:=J i e he;refine⟨⟨av.1,a5.1,av.2,a3,a4⟩,fun aq=>?_,fun k x gy jw ab=>?_⟩
  ·obtain⟨bH,bR⟩:=a2 Ω;exact⟨bH,(xt aA mo.1 (yk bH) i).1 bR⟩
  ·refine(GW aA mo.1 gy jw fun mn=>?_).1 ((ak i e he).2 k x gy jw ab);refine(ak i e he).1 x ?_;have:(c.fin i-1).toNat=k:=Ω
   rw[this];exact ab
 ·rintro⟨⟨eb,a1,I⟩,⟨l,aA,mo,OZ⟩,ak⟩;refine⟨⟨eb,a1,I⟩,fun i e he=>?_,fun i e he=>?_⟩
  ·obtain⟨⟨bH,bR,ea,ic,jl⟩,ir,lB⟩:=ak i e he;have aq:=(dw.1 he).1;refine⟨fun h=>?_,fun h=>?_,ic,jl,⟨bR,Ω⟩,fun p bB Pk=>?_⟩
   ·have:i=c.es.length-1:=Ω
    subst this;rw[aA]at he;cases he;exact⟨mo,OZ⟩
   ·obtain⟨cp,c2⟩:=ir Ω;exact⟨cp,(xt aA mo (yk cp) i).2 c2⟩
   ·obtain⟨⟨d1,_⟩,_⟩:=ak _ _ Pk;have:c.fin (i-1)=e.pos:=Cd.fin_of (by rw[show i-1+1=i from by omega];exact he);omega
  ·obtain⟨⟨bH,bR,ea,ic,jl⟩,ir,lB⟩:=ak i e he;refine⟨fun y bG=>?_,fun k x gy jw ab=>?_⟩
   ·have:=lB (c.fin i-1).toNat y Ω Ω bG;exact this.2.1.2 Ω
   ·refine(GW aA mo gy jw fun mn=>?_).2 (lB k x gy jw ab);exact(lB k x gy jw ab).2.1.2 mn
def hJ(e:Ey):List bt:=e.name++([47]++(itoa e.ar++[58,10]))
noncomputable def hC(x:Ix):List bt:=
 if x.op=0 then [114,101,113,117,105,114,101,32]++c6 x.g else if x.op=1 then [116,114,121,32]++(itoa x.a++([32]++itoa x.b))else if x.op=2 then [112,105,99,107,32]++itoa x.b
 else if x.op=3 then [106,117,109,112,32]++itoa x.a else if x.op=4 then [102,97,105,108]else if x.op=5 then [99,97,108,108,32]++c6 x.g else if x.op=6 then [114,101,116,117,114,110]else []
noncomputable def eT(k:Nat)(x:Ix):List bt:=itoa k++([32]++(hC x++[10]))
noncomputable def hj(c:Cd)(a b:Nat):List bt:=((List.range' a (b-a)).map fun k=>match c.is[k]? with|some x=>eT k x|none=>[]).flatten
noncomputable def kM(c:Cd):Nat->List bt
 |0=>[]
 |n+1=>kM c n++(match c.es[n]? with|some e=>hJ e++hj c e.pos.toNat (c.fin n).toNat|none=>[])
noncomputable def oV(c:Cd):List bt:=kM c c.es.length
def gW(es:List Ey)(k:Nat):List bt:=((es.filter fun e=>e.pos==(k:Int)).map hJ).flatten
noncomputable def gF(c:Cd):Nat->List bt
 |0=>[]
 |n+1=>gF c n++(gW c.es n++match c.is[n]? with|some x=>eT n x|none=>[])
theorem By(c:Cd)(a:Nat):hj c a a=[]:=by simp[hj]
theorem jT(c:Cd){a b:Nat}(h:a<=b):hj c a (b+1)=hj c a b++match c.is[b]? with|some x=>eT b x|none=>[]:=by
 have:b+1-a=(b-a)+1:=Ω
 unfold hj;rw[this,List.range'_1_concat];simp[show a+(b-a)=b from by omega]
theorem H4{c:Cd}(h:∀i e,c.es[i]? =some e->rK c i e){i j:Nat}(Wf:i<j):∀{e f:Ey},c.es[i]? =some e->c.es[j]? =some f->e.pos<f.pos:=by
 induction j with
 |zero=>omega
 |succ j bb=>
  intro e f he av;obtain⟨_,_,_,_,_,cb⟩:=h _ _ av;have ai:j<c.es.length:=by have:=(dw.1 av).1;omega
  obtain⟨g,aT⟩:∃g,c.es[j]? =some g:=⟨_,cB ai⟩;have eC:=cb g Ω (by simpa using aT);rcases ko i j with cM|tR
  ·have:=bb cM he aT;omega
  ·have:i=j:=Ω
   subst this;rw[he]at aT;cases aT;exact eC
theorem Nt{es:List Ey}{k:Int}{i:Nat}{e:Ey}(he:es[i]? =some e)(aa:e.pos=k)(aS:∀(j:Nat) (f:Ey),j≠i->es[j]? =some f->f.pos≠k):es.filter (fun e=>e.pos==k)=[e]:=by
 induction es generalizing i with
 |nil=>simp at he
 |cons x r bb=>
  cases i with
  |zero=>simp at he;subst he;rw[List.filter_cons_of_pos (by simp[aa])];congr 1;rw[List.filter_eq_nil_iff];intro f av;obtain⟨j,ai⟩:=List.getElem?_of_mem av;have:=aS (j+1) f Ω (by simpa using ai);simpa using this
  |succ i=>have ab:=aS 0 x Ω Ψ;rw[List.filter_cons_of_neg (by simpa using ab)];exact bb (by simpa using he) fun j f ai av=>aS (j+1) f Ω (by simpa using av)
theorem Nr{es:List Ey}{k:Int}(aS:∀(j:Nat) (f:Ey),es[j]? =some f->f.pos≠k):es.filter (fun e=>e.pos==k)=[]:=by rw[List.filter_eq_nil_iff];intro f av;obtain⟨j,ai⟩:=List.getElem?_of_mem av;simpa using aS j f ai
theorem Fu{c:Cd}(h:∀i e,c.es[i]? =some e->rK c i e){i:Nat}{e:Ey}(he:c.es[i]? =some e):∀d:Nat,(e.pos.toNat+d+1:Int)<=c.fin i->gF c (e.pos.toNat+d+1)=gF c e.pos.toNat++(hJ e++hj c e.pos.toNat (e.pos.toNat+d+1)):=by
 obtain⟨_,_,_,_,bn,_⟩:=h _ _ he;have aq:=(dw.1 he).1;have AX:∀(j:Nat) (f:Ey),j≠i->c.es[j]? =some f->f.pos<e.pos\/c.fin i<=f.pos:=by
  intro j f ai av;rcases ko j i with cM|tR
  ·exact .inl (H4 h cM av he)
  ·right;have kO:=(dw.1 av).1;obtain⟨g,aT⟩:∃g,c.es[i+1]? =some g:=⟨_,cB Ω⟩;rw[Cd.fin_of aT];rcases ko (i+1) j with I|I
   ·have:=H4 h I aT av;omega
   ·have:j=i+1:=Ω
    subst this;rw[aT]at av;cases av;omega
 intro d;induction d with
 |zero=>
  intro bj;have al:gW c.es e.pos.toNat=hJ e:=by unfold gW;rw[Nt he (k:=(e.pos.toNat:Int)) Ω fun j f ai av=>by have:=AX j f ai av;omega];simp
  show gF c (e.pos.toNat+1)=_;rw[gF,al,Nat.add_zero,jT c (c7 _),By];simp
 |succ d bb=>
  intro bj;have al:gW c.es (e.pos.toNat+d+1)=[]:=by
   unfold gW;rw[Nr fun j f av=>?_]
   ·rfl
   ·rcases Nat.lt_trichotomy j i with I|I|I
    ·have:=AX j f Ω av;omega
    ·subst I;rw[he]at av;cases av;omega
    ·have:=AX j f Ω av;omega
  show gF c (e.pos.toNat+d+1+1)=_;rw[gF,al,bb Ω,show e.pos.toNat+(d+1)+1=e.pos.toNat+d+1+1 from by omega,jT c (a:=e.pos.toNat) (b:=e.pos.toNat+d+1) Ω];simp
theorem Fw{c:Cd}(h:pN c):oV c=gF c c.is.length:=by
 obtain⟨⟨eb,a1,I⟩,J,ak⟩:=h;have key:∀n,n<c.es.length->kM c (n+1)=gF c (c.fin n).toNat:=by
  intro n;induction n with
  |zero=>
   intro aS;have av:=uZ J a1;have ao:=Fu J a1 (c.fin 0-eb.pos-1).toNat Ω;rw[I]at ao;have:Int.toNat 0+(c.fin 0-0-1).toNat+1=(c.fin 0).toNat:=Ω
   rw[this]at ao;rw[ao];simp[kM,a1,I,gF]
  |succ n bb=>
   intro aS;obtain⟨e,he⟩:∃e,c.es[n+1]? =some e:=⟨_,cB aS⟩;have av:=uZ J he;obtain⟨_,_,_,_,bn,_⟩:=J _ _ he;have ao:=Fu J he (c.fin (n+1)-e.pos-1).toNat Ω;have:e.pos.toNat+(c.fin (n+1)-e.pos-1).toNat+1=(c.fin (n+1)).toNat:=Ω
   rw[this]at ao;rw[ao,kM,bb Ω,Cd.fin_of he,he]
 have eS:=(dw.1 a1).1;have:=key (c.es.length-1) Ω;rw[show c.es.length-1+1=c.es.length from by omega,Cd.fin_last Ω]at this;simpa[oV]using this
end
end Go.Pv
namespace Go.Proofs.YtlnndmgfngfeiaaGreatDoor
section
open Go Go.Pv
def lk{α:Type}(p:α->Bool)(s:List α)(i:Nat)(_:Unit):Prop:= ∀k b,k<i->s[k]? =some b->p b=true
theorem lk.step{α:Type}{p:α->Bool}{s:List α}{i:Nat}(h:lk p s i ()){b:α}(af:s[i]? =some b)(bB:p b=true):lk p s (i+1) ():=fun k c aa aQ=>by
 rcases ko k i with bS|bS
 ·exact h k c bS aQ
 ·obtain rfl:k=i:=Ω
  rw[af]at aQ;cases aQ;exact bB
theorem lk.fin{α:Type}{p:α->Bool}{s:List α}(h:lk p s s.length ()):s.all p=true:=by rw[kZ];intro b af;obtain⟨i,aq⟩:=List.mem_iff_getElem?.1 af;exact h i b (dw.1 aq).1 aq
theorem rP{α:Type}{p:α->Bool}{s:List α}{i:Nat}{b:α}(af:s[i]? =some b)(bB:p b=false):s.all p=false:=by rw[List.all_eq_false];exact⟨b,e9 af,by rw[bB];simp⟩
theorem pz(l:List aU):bF aF 183 [.slice 4 .no (l.map enc)] (.bool (l.all aU.fits)):=by
 generalize aW:l.all aU.fits=R;refine bq rG MK Q3 fun aO=>?_;unfold DZ;have ee:l.length<=68719476736:=by simp[fb,eQ,e0,aX]at aO;omega
 simp;refine fv (fun i (_:Unit)=>⟨[(5,.slice 4 .no (l.map enc)),(6,.int .i64 l.length),(7,.int .i64 i)],[],[],0,[]⟩) l.length (lk aU.fits l) () cq (fun k b aa=>Ω) (fun _ ai _=>?_) (fun i _ aq ai _=>?_)
 ·have:R=true:=by rw[<-aW];exact ai.fin
  subst this;clear ai aW;exact bY
 ·obtain⟨t,aG,Py⟩:=eM aq;have eA:=JA t;cases g:t.fits
  ·rw[g]at eA;have:R=false:=by rw[<-aW];exact rP aG g
   subst this;clear aG ai aW;exact bY
  ·rw[g]at eA;have aS:=ai.step aG g;clear aG ai aW;exact nq
theorem Jy(s:List bt):bF aF 103 [.str s] (.bool (h4 s)):=by
 have c8:=Jx s;by_cases h:iR.contains s=true
 ·have:h4 s=false:=by unfold h4;rw[h];rfl
  rw[this];have hm:s∈iR:=by simpa using h
  simp only[iR,hT,List.not_mem_nil,or_false]at hm;rcases hm with rfl|rfl|rfl|rfl|rfl|rfl|rfl|rfl|rfl;all_goals
   refine bq jg Fh HM fun aO=>?_;unfold zC
   clear aO c8
   simp[s6,s5,uU,uS,uP,uQ,uT,uR,C6]
   exact bY
 ·have:h4 s=iB s:=by unfold h4;rw[Bool.not_eq_true]at h;rw[h];rfl
  rw[this];have hm:∀w∈iR,(s==w)=false:=fun w hw=>by rw[fN];rintro rfl;exact h (by simpa using hw)
  simp only[iR,hT,List.not_mem_nil,or_false,forall_eq_or_imp,forall_eq]at hm;obtain⟨I,J,ak,aV,bn,cb,eC,hY,dv⟩:=hm;simp only[s6,s5,uU,uS,uP,uQ,uT,uR,C6]at I J ak aV bn cb eC hY dv;refine bq jg Fh HM fun aO=>?_;unfold zC;clear aO;exact bY
theorem ui{α:Type}(l:List α):((l.length:Int)==0)=l.isEmpty:=by
 cases l with
 |nil=>rfl
 |cons a l=>simp;omega
theorem uO(g:Gm):bF aF 171 [g.e] (.bool (rl g)):=by
 refine bq jg MH Q0 fun aO=>?_;unfold DW;clear aO;simp;((with_reducible repeat' first|refine aP ?_|simp|((first|apply b7|apply b9|apply b8)<;>intro h<;>try simp at h))<;>(try exact cn));all_goals simp[bJ,Ij,bp,bz,bo]
 all_goals simp_all[rl,ui]
def iP(g:Gm)(room:Int):Int:=if g.shape=true/\(g.sz:Int)<=room then g.sz else-1
theorem sH{g:Gm}{room:Int}(h:g.shape=true)(J:(g.sz:Int)<=room):iP g room=g.sz:=if_pos ⟨h,J⟩
theorem ri{g:Gm}{room:Int}(h:g.shape=false):iP g room= -1:=bu fun J=>by rw[h]at J;cases J.1
theorem QF{g:Gm}{room:Int}(h:room<g.sz):iP g room= -1:=bu fun J=>Ω
theorem nv(g:Gm):g.shape=(g.ts.all aU.fits&&(
  if 0<=g.kind/\g.kind<=6 then g.name==[]&&g.gs.isEmpty&&decide ((g.ts.length:Int)=jV g.kind)&&(g.kind !=6||(match g.ts with|x::_=>decide (x.kind=2)|[]=>false))
  else if g.kind=9 then h4 g.name&&g.gs.isEmpty&&decide (g.ts.length<=4)
  else if g.kind=7\/g.kind=8 then g.name==[]&&g.ts.isEmpty&&decide (g.gs.length<=8)&&g.gs.all Gm.shape
  else if g.kind=10 then g.name==[]&&g.ts.isEmpty&&(match g.gs with|[x]=>decide (x.kind=9)|_=>false)&&g.gs.all Gm.shape
  else false)):=by
 have r7:∀l:List Gm,sU l=l.all Gm.shape:=by
  intro l;induction l with
  |nil=>rfl
  |cons x l bb=>simp[sU,bb]
 cases g;simp only[Gm.shape,Gm.kind,Gm.name,Gm.ts,Gm.gs,r7];rfl
theorem pt(g:Gm):g.sz=1+(g.gs.map Gm.sz).sum:=by
 have r7:∀l:List Gm,nR l=(l.map Gm.sz).sum:=by
  intro l;induction l with
  |nil=>rfl
  |cons x l bb=>simp[nR,bb]
 cases g;simp only[Gm.sz,Gm.gs,r7]
abbrev CT:List (Int×ae):=kK 6 (.int .i64 2) (kK 5 (.int .i64 1) (kK 4 (.int .i64 1) (kK 3 (.int .i64 2) (kK 2 (.int .i64 2) []))))
theorem og(f:aw->bf (List ae))(m:aw)(k:Int)(hm:f m=some (jU CT)):nm f .i (.int .i64 0) false (.gmap m) (.int .i64 k)=some (True,.int .i64 (jV k)):=by
 rw[kA _ _ _ _ false k hm];by_cases J:k=2
 ·subst J;rfl
 by_cases ak:k=3
 ·subst ak;rfl
 by_cases aV:k=4
 ·subst aV;rfl
 by_cases bn:k=5
 ·subst bn;rfl
 by_cases cb:k=6
 ·subst cb;rfl
 have:qC k CT=none:=by have e:CT=[(2,.int .i64 2),(3,.int .i64 2),(4,.int .i64 1),(5,.int .i64 1),(6,.int .i64 2)]:=rfl;rw[e];simp[qC,J,ak,aV,bn,cb]
 rw[this];simp[jV,J,ak,aV,bn,cb]
theorem Qa(k:Int):k=0\/k=1\/k=2\/k=3\/k=4\/k=5\/k=6\/k=7\/k=8\/k=9\/k=10\/(k<0\/10<k):=Ω
theorem Jp{α:Type}{l:List α}(h:l.length=2):∃x y,l=[x,y]:=by
 match l,h with
 |[x,y],_=>exact⟨x,y,rfl⟩
theorem NZ(g:Gm){room:Int}(h:room<1):bF aF 117 [g.e,.int .i64 room] (.int .i64 (-1)):=by refine bq jg nN oi fun aO=>?_;unfold mX;clear aO;exact bY
theorem N4(g:Gm){room:Int}(h:¬room<1)(aG:g.ts.all aU.fits=false):bF aF 117 [g.e,.int .i64 room] (.int .i64 (-1)):=by have eA:=pz g.ts;rw[aG]at eA;refine bq jg nN oi fun aO=>?_;unfold mX;clear aO;exact bY
theorem NX(g:Gm){room:Int}(h:¬room<1)(aG:g.ts.all aU.fits=true)(aa:0<=g.kind/\g.kind<=6):bF aF 117 [g.e,.int .i64 room] (.int .i64 (if g.shape then 1 else-1)):=by
 have eA:=pz g.ts;rw[aG]at eA;generalize aW:(if g.shape then(1:Int)else-1)=R;rw[nv,aG,if_pos aa,Bool.true_and]at aW;have p5:g.kind=0\/g.kind=1\/g.kind=2\/g.kind=3\/g.kind=4\/g.kind=5\/g.kind=6:=Ω
 have af:∀l:List Gm,((l.length:Int) !=0)= !l.isEmpty:=fun l=>by simp only[bne,ui]
 clear aa aG;rcases p5 with aa|aa|aa|aa|aa|aa|aa;all_goals
  rw[aa]at aW
  simp[jV]at aW
  refine bq jg nN oi fun aO=>?_;unfold mX
  clear aO
  simp
  simp[aa]
  ((with_reducible repeat' first|refine aP ?_|refine aC eA ?_|refine aD eA ?_|simp[h,aa,og,jV,af,-kA]|((first|apply b7|apply b9|apply b8)<;>intro h<;>try simp at h))<;>(try exact cn))
  all_goals try(simp[bJ,pk,bp,bz,bo];simp_all;done)
  all_goals
   obtain⟨x,y,e⟩:∃x y,g.ts=[x,y]:=Jp Ω
   simp only[e]at aW⊢
   simp
   ((with_reducible repeat' first|refine aP ?_|simp|((first|apply b7|apply b9|apply b8)<;>intro h<;>try simp at h))<;>(try exact cn))
   all_goals(simp[bJ,pk,bp,bz,bo];simp_all;done)
theorem NW(g:Gm){room:Int}(h:¬room<1)(aG:g.ts.all aU.fits=true)(aa:g.kind=9):bF aF 117 [g.e,.int .i64 room] (.int .i64 (if g.shape then 1 else-1)):=by
 have eA:=pz g.ts;rw[aG]at eA;have dj:=Jy g.name;generalize aW:(if g.shape then(1:Int)else-1)=R;have he:g.shape=(h4 g.name&&g.gs.isEmpty&&decide (g.ts.length<=4)):=by rw[nv,aG,aa];rfl
 rw[he]at aW;clear he;have af:∀l:List Gm,((l.length:Int) !=0)= !l.isEmpty:=fun l=>by simp only[bne,ui]
 have aQ:decide ((4:Int)<g.ts.length)= !decide (g.ts.length<=4):=by
  by_cases h:g.ts.length<=4
  ·rw[j0 h];simp;omega
  ·rw[ha h];simp;omega
 cases aq:h4 g.name;all_goals
  rw[aq]at dj aW
  refine bq jg nN oi fun aO=>?_;unfold mX
  clear aO
  simp
  simp[aa]
  ((with_reducible repeat' first|refine aP ?_|refine aC eA ?_|refine aD eA ?_|refine aC dj ?_|refine aD dj ?_|simp[h,aa,og,jV,af,-kA]|((first|apply b7|apply b9|apply b8)<;>intro h<;>try simp at h))<;>(try exact cn))
  all_goals(simp[bJ,pk,bp,bz,bo];simp_all)
  all_goals omega
theorem N3(g:Gm){room:Int}(h:¬room<1)(aa:g.kind<0\/10<g.kind):bF aF 117 [g.e,.int .i64 room] (.int .i64 (-1)):=by
 have eA:=pz g.ts;have e:∀n:Int,0<=n->n<=10->(g.kind==n)=false:=fun n I J=>fN.2 Ω;have eb:=e 0 Ω Ω;have aj:=e 1 Ω Ω;have aR:=e 2 Ω Ω;have bm:=e 3 Ω Ω;have c1:=e 4 Ω Ω;have gE:=e 5 Ω Ω;have hI:=e 6 Ω Ω;have na:=e 7 Ω Ω;have k8:=e 8 Ω Ω;have Lk:=e 9 Ω Ω;have Ln:=e 10 Ω Ω;clear e aa;cases aG:g.ts.all aU.fits;all_goals
  rw[aG]at eA
  refine bq jg nN oi fun aO=>?_;unfold mX
  clear aO
  simp
  (with_reducible repeat' first|refine aP ?_|refine aC eA ?_|refine aD eA ?_|simp[h,og,eb,aj,aR,bm,c1,gE,hI,na,k8,Lk,Ln,-kA])
  simp[bJ,pk,bp,bz,bo]
set_option maxRecDepth 8000 in
theorem N0(g:Gm){room:Int}(h:¬room<1)(aG:g.ts.all aU.fits=true)(aa:g.kind=7\/g.kind=8\/g.kind=10)(aS:g.name.isEmpty=false):bF aF 117 [g.e,.int .i64 room] (.int .i64 (-1)):=by
 have eA:=pz g.ts;rw[aG]at eA;rcases aa with aa|aa|aa;all_goals
  refine bq jg nN oi fun aO=>?_;unfold mX
  clear aO
  simp
  (with_reducible repeat' first|refine aP ?_|refine aC eA ?_|refine aD eA ?_|simp[h,og,aa,aS,-kA])
  simp[bJ,pk,bp,bz,bo]
set_option maxRecDepth 8000 in
theorem N5(g:Gm){room:Int}(h:¬room<1)(aG:g.ts.all aU.fits=true)(aa:g.kind=7\/g.kind=8\/g.kind=10)(aS:g.name.isEmpty=true)(J:¬g.ts.length=0):bF aF 117 [g.e,.int .i64 room] (.int .i64 (-1)):=by
 have eA:=pz g.ts;rw[aG]at eA;have ak:((g.ts.length:Int) !=0)=true:=by simpa using J
 rcases aa with aa|aa|aa;all_goals
  refine bq jg nN oi fun aO=>?_;unfold mX
  clear aO
  simp
  (with_reducible repeat' first|refine aP ?_|refine aC eA ?_|refine aD eA ?_|simp[h,og,aa,aS,ak,-kA])
  simp[bJ,pk,bp,bz,bo]
set_option maxRecDepth 8000 in
theorem NY(g:Gm){room:Int}(h:¬room<1)(aG:g.ts.all aU.fits=true)(aa:g.kind=7\/g.kind=8)(aS:g.name.isEmpty=true)(J:g.ts.length=0)(aV:¬g.gs.length<=8):bF aF 117 [g.e,.int .i64 room] (.int .i64 (-1)):=by
 have eA:=pz g.ts;rw[aG]at eA;have bn:(8:Int)<g.gs.length:=Ω
 rcases aa with aa|aa;all_goals
  refine bq jg nN oi fun aO=>?_;unfold mX
  clear aO
  simp
  (with_reducible repeat' first|refine aP ?_|refine aC eA ?_|refine aD eA ?_|simp[h,og,aa,aS,J,bn,-kA])
  simp[bJ,pk,bp,bz,bo]
set_option maxRecDepth 8000 in
theorem N1(g:Gm){room:Int}(h:¬room<1)(aG:g.ts.all aU.fits=true)(aa:g.kind=10)(aS:g.name.isEmpty=true)(J:g.ts.length=0)(aV:¬g.gs.length=1):bF aF 117 [g.e,.int .i64 room] (.int .i64 (-1)):=by
 have eA:=pz g.ts;rw[aG]at eA;have bn:((g.gs.length:Int) !=1)=true:=by simp;omega
 refine bq jg nN oi fun aO=>?_;unfold mX;clear aO;simp;(with_reducible repeat' first|refine aP ?_|refine aC eA ?_|refine aD eA ?_|simp[h,og,aa,aS,J,bn,-kA]);simp[bJ,pk,bp,bz,bo]
set_option maxRecDepth 8000 in
theorem N2(g:Gm){room:Int}(h:¬room<1)(aG:g.ts.all aU.fits=true)(aa:g.kind=10)(aS:g.name.isEmpty=true)(J:g.ts.length=0){x:Gm}(aV:g.gs=[x])(bn:¬x.kind=9):bF aF 117 [g.e,.int .i64 room] (.int .i64 (-1)):=by
 have eA:=pz g.ts;rw[aG]at eA;have cb:(x.kind !=9)=true:=by simpa using bn
 refine bq jg nN oi fun aO=>?_;unfold mX;clear aO;simp;(with_reducible repeat' first|refine aP ?_|refine aC eA ?_|refine aD eA ?_|simp[h,og,aa,aS,J,aV,cb,-kA]);simp[bJ,pk,bp,bz,bo]
theorem CR{l:List Gm}{i:Nat}{x:Gm}(h:l[i]? =some x):((l.take (i+1)).map Gm.sz).sum=((l.take i).map Gm.sz).sum+x.sz:=by rw[List.take_add_one,h];simp
theorem CM{l:List Gm}(i:Nat):((l.take i).map Gm.sz).sum<=(l.map Gm.sz).sum:=by
 conv=>rhs;rw[<-List.take_append_drop i l]
 rw[List.map_append,List.sum_append];omega
def j1(g:Gm)(room:Int)(i:Nat)(n:Int):a6:=⟨[(1,.int .i64 room),(6,.int .i64 n),(124,.slice 4 .no (g.gs.map Gm.e)),(125,.int .i64 g.gs.length),(126,.int .i64 i)],[],[],0,[]⟩
def te(g:Gm)(room:Int)(i:Nat)(n:Int):Prop:=n=1+(((g.gs.take i).map Gm.sz).sum:Nat)/\lk Gm.shape g.gs i ()/\n<=room
set_option maxRecDepth 8000 in
theorem FU(g:Gm){room:Int}(h:¬room<1)(ao:room<=1000)(aG:g.ts.all aU.fits=true)(aa:g.kind=7\/g.kind=8\/g.kind=10)(aS:g.name.isEmpty=true)(J:g.ts.length=0)(aV:g.kind≠10->g.gs.length<=8)(bn:g.kind=10->∃x,g.gs=[x]/\x.kind=9)
  (fR:g.shape=g.gs.all Gm.shape) (bb:∀x∈g.gs,∀r:Int,-1000<=r/\r<=1000->bF aF 117 [x.e,.int .i64 r] (.int .i64 (iP x r))):bF aF 117 [g.e,.int .i64 room] (.int .i64 (iP g room)):=by
 have eA:=pz g.ts;rw[aG]at eA;have OQ:g.gs.length<=1000:=by
  rcases aa with aa|aa|aa
  ·have:=aV Ω;omega
  ·have:=aV Ω;omega
  ·obtain⟨x,ab,_⟩:=bn aa;rw[ab];simp
 have eC:g.kind≠10->¬(8:Int)<g.gs.length:=fun e=>by have:=aV e;omega
 rcases aa with aa|aa|aa;all_goals
  refine bq jg nN oi fun aO=>?_;unfold mX
  clear aO
  simp
 ·have hY:=eC Ω;clear aV bn eC;(with_reducible repeat' first|refine aP ?_|refine aC eA ?_|refine aD eA ?_|simp[h,og,aa,aS,J,hY,-kA]);refine fv (j1 g room) g.gs.length (te g room) 1 (by simp[j1];exact cq) ⟨Ψ,fun k b aa=>Ω,Ω⟩ (fun n ai _=>?_) (fun i n aq ai _=>?_)
  ·obtain⟨fT,gX,lO⟩:=ai;rw[jY]at fT;have:iP g room=n:=by rw[sH (by rw[fR];exact gX.fin) (by rw[pt];omega),pt];omega
   rw[this];clear fT gX bb fR this;simp[j1];exact bY
  ·obtain⟨y,bG,gg⟩:=eM aq;obtain⟨fT,gX,lO⟩:=ai;have n8:=CR bG;have q3:=CM (l:=g.gs) (i+1);have cS:bs ((i:Int)+1):=by unfold bs;omega
   have vQ:bs (room-n):=by unfold bs;omega
   have gh:=bb y (e9 bG) (room-n) Ω;by_cases h3:y.shape=true/\(y.sz:Int)<=room-n
   ·rw[sH h3.1 h3.2]at gh;have qY:bs (n+y.sz):=by unfold bs;omega
    have cM:¬(y.sz:Int)<0:=Ω
    have gK:te g room (i+1) (n+y.sz):=⟨by rw[n8];omega,gX.step bG h3.1,Ω⟩;clear fT gX bb fR n8 q3 bG;simp[j1,aq,gg];(with_reducible repeat' first|refine aP ?_|refine aC gh ?_|refine aD gh ?_|simp[aq,gg,cS,vQ,qY,cM]);refine cj.rng (n+y.sz) aq gK (by simp[j1];exact cq)
   ·have dS:iP y (room-n)= -1:=bu h3;rw[dS]at gh;have:iP g room= -1:=by
     unfold iP;rw[bu];rintro⟨g1,g2⟩;refine h3 ⟨?_,?_⟩
     ·rw[fR,kZ]at g1;exact g1 y (e9 bG)
     ·rw[pt]at g2;omega
    rw[this];clear fT gX bb fR n8 q3 bG h3 dS this;simp[j1,aq,gg];exact bY
 ·have hY:=eC Ω;clear aV bn eC;(with_reducible repeat' first|refine aP ?_|refine aC eA ?_|refine aD eA ?_|simp[h,og,aa,aS,J,hY,-kA]);refine fv (j1 g room) g.gs.length (te g room) 1 (by simp[j1];exact cq) ⟨Ψ,fun k b aa=>Ω,Ω⟩ (fun n ai _=>?_) (fun i n aq ai _=>?_)
  ·obtain⟨fT,gX,lO⟩:=ai;rw[jY]at fT;have:iP g room=n:=by rw[sH (by rw[fR];exact gX.fin) (by rw[pt];omega),pt];omega
   rw[this];clear fT gX bb fR this;simp[j1];exact bY
  ·obtain⟨y,bG,gg⟩:=eM aq;obtain⟨fT,gX,lO⟩:=ai;have n8:=CR bG;have q3:=CM (l:=g.gs) (i+1);have cS:bs ((i:Int)+1):=by unfold bs;omega
   have vQ:bs (room-n):=by unfold bs;omega
   have gh:=bb y (e9 bG) (room-n) Ω;by_cases h3:y.shape=true/\(y.sz:Int)<=room-n
   ·rw[sH h3.1 h3.2]at gh;have qY:bs (n+y.sz):=by unfold bs;omega
    have cM:¬(y.sz:Int)<0:=Ω
    have gK:te g room (i+1) (n+y.sz):=⟨by rw[n8];omega,gX.step bG h3.1,Ω⟩;clear fT gX bb fR n8 q3 bG;simp[j1,aq,gg];(with_reducible repeat' first|refine aP ?_|refine aC gh ?_|refine aD gh ?_|simp[aq,gg,cS,vQ,qY,cM]);refine cj.rng (n+y.sz) aq gK (by simp[j1];exact cq)
   ·have dS:iP y (room-n)= -1:=bu h3;rw[dS]at gh;have:iP g room= -1:=by
     unfold iP;rw[bu];rintro⟨g1,g2⟩;refine h3 ⟨?_,?_⟩
     ·rw[fR,kZ]at g1;exact g1 y (e9 bG)
     ·rw[pt]at g2;omega
    rw[this];clear fT gX bb fR n8 q3 bG h3 dS this;simp[j1,aq,gg];exact bY
 ·obtain⟨x,ab,PF⟩:=bn aa;clear aV bn eC;(with_reducible repeat' first|refine aP ?_|refine aC eA ?_|refine aD eA ?_|simp[h,og,aa,aS,J,ab,PF,-kA]);refine fv (j1 g room) g.gs.length (te g room) 1 (by simp[j1];exact⟨by simp[fresh,aB,aH,bV,aK,Pv.look,ab],dW (by simp[fresh,aB,aH,bV,aK,Pv.look,ab]),dY (by simp[fresh,aB,aH,dJ,aK,Pv.look,ab]),Ψ⟩) ⟨Ψ,fun k b aa=>Ω,Ω⟩ (fun n ai _=>?_) (fun i n aq ai _=>?_)
  ·obtain⟨fT,gX,lO⟩:=ai;rw[jY]at fT;have:iP g room=n:=by rw[sH (by rw[fR];exact gX.fin) (by rw[pt];omega),pt];omega
   rw[this];clear fT gX bb fR this;simp[j1];exact bY
  ·obtain⟨y,bG,gg⟩:=eM aq;obtain⟨fT,gX,lO⟩:=ai;have n8:=CR bG;have q3:=CM (l:=g.gs) (i+1);have cS:bs ((i:Int)+1):=by unfold bs;omega
   have vQ:bs (room-n):=by unfold bs;omega
   have gh:=bb y (e9 bG) (room-n) Ω;by_cases h3:y.shape=true/\(y.sz:Int)<=room-n
   ·rw[sH h3.1 h3.2]at gh;have qY:bs (n+y.sz):=by unfold bs;omega
    have cM:¬(y.sz:Int)<0:=Ω
    have gK:te g room (i+1) (n+y.sz):=⟨by rw[n8];omega,gX.step bG h3.1,Ω⟩;clear fT gX bb fR n8 q3 bG;simp[j1,aq,gg];(with_reducible repeat' first|refine aP ?_|refine aC gh ?_|refine aD gh ?_|simp[aq,gg,cS,vQ,qY,cM]);refine cj.rng (n+y.sz) aq gK (by simp[j1];exact cq)
   ·have dS:iP y (room-n)= -1:=bu h3;rw[dS]at gh;have:iP g room= -1:=by
     unfold iP;rw[bu];rintro⟨g1,g2⟩;refine h3 ⟨?_,?_⟩
     ·rw[fR,kZ]at g1;exact g1 y (e9 bG)
     ·rw[pt]at g2;omega
    rw[this];clear fT gX bb fR n8 q3 bG h3 dS this;simp[j1,aq,gg];exact bY
theorem TE:∀(n:Nat) (g:Gm),g.sz<=n->∀room:Int,-1000<=room/\room<=1000->bF aF 117 [g.e,.int .i64 room] (.int .i64 (iP g room)):=by
 intro n;induction n with
 |zero=>intro g aT;have:=g.sz_pos;omega
 |succ n bb=>
 intro g aT room ao;by_cases h:room<1
 ·rw[QF (by have:=g.sz_pos;omega)];exact NZ g h
 cases aG:g.ts.all aU.fits
 ·rw[ri (by rw[nv,aG];rfl)];exact N4 g h aG
 have leaf:∀al:g.gs=[]\/g.shape=false,iP g room=if g.shape then 1 else-1:=by
  intro al;cases fR:g.shape
  ·rw[ri fR];rfl
  ·rw[fR]at al;have al:g.gs=[]:=by simpa using al
   have I:g.sz=1:=by rw[pt,al];rfl
   rw[sH fR Ω,I];rfl
 rcases Qa g.kind with aa|aa|aa|aa|aa|aa|aa|aa|aa|aa|aa|aa;case inr.inr.inr.inr.inr.inr.inr.inr.inr.inr.inr=>rw[ri (by rw[nv,bu Ω,bu Ω,bu Ω,bu Ω,Bool.and_false])];exact N3 g h aa
 case inr.inr.inr.inr.inr.inr.inr.inr.inr.inl=>
  rw[leaf ?_]
  ·exact NW g h aG aa
  ·by_cases al:g.gs=[]
   ·exact .inl al
   ·right;rw[nv,aG,aa];have:g.gs.isEmpty=false:=by simpa using al
    simp[this]
 case inr.inr.inr.inr.inr.inr.inr.inl|inr.inr.inr.inr.inr.inr.inr.inr.inl|inr.inr.inr.inr.inr.inr.inr.inr.inr.inr.inl=>
  have fP:g.kind=7\/g.kind=8\/g.kind=10:=Ω
  have jy:=nv g;rw[aG,Bool.true_and,bu Ω,bu Ω]at jy;cases aS:g.name.isEmpty
  ·have h0:(g.name==[])=false:=by simpa using aS
   rw[ri (by rw[jy,h0];simp)];exact N0 g h aG fP aS
  have h0:(g.name==[])=true:=by simpa using aS
  by_cases J:g.ts.length=0;rotate_left
  ·have pX:g.ts.isEmpty=false:=by simpa using J
   rw[ri (by rw[jy,pX];simp)];exact N5 g h aG fP aS J
  have pX:g.ts.isEmpty=true:=by simpa using J
  rw[h0,pX,Bool.true_and]at jy;have yf:∀x∈g.gs,∀r:Int,-1000<=r/\r<=1000->bF aF 117 [x.e,.int .i64 r] (.int .i64 (iP x r)):=fun x ab r ao=>bb x (by have:=g.gs_lt ab;omega) r ao;by_cases hf:g.kind=10
  ·rw[bu Ω,if_pos hf,Bool.true_and]at jy;by_cases aV:g.gs.length=1
   ·obtain⟨x,ab⟩:=List.length_eq_one_iff.1 aV;by_cases dv:x.kind=9
    ·exact FU g h ao.2 aG fP aS J (fun e=>absurd hf e) (fun _=>⟨x,ab,dv⟩) (by rw[jy,ab];simp[dv]) yf
    ·rw[ri (by rw[jy,ab];simp[dv])];exact N2 g h aG hf aS J ab dv
   ·rw[ri (by
     rw[jy];match aT:g.gs with
     |[]=>rfl
     |[x]=>rw[aT]at aV;simp at aV
     |x::y::l=>rfl)]
    exact N1 g h aG hf aS J aV
  ·have r5:g.kind=7\/g.kind=8:=Ω
   rw[if_pos r5,Bool.true_and]at jy;by_cases aV:g.gs.length<=8
   ·exact FU g h ao.2 aG fP aS J (fun _=>aV) (fun e=>absurd e hf) (by rw[jy,j0 aV];rfl) yf
   ·rw[ri (by rw[jy,ha aV];rfl)];exact NY g h aG r5 aS J aV
 all_goals
  rw[leaf ?_]
  ·exact NX g h aG Ω
  ·by_cases al:g.gs=[]
   ·exact .inl al
   ·right;rw[nv,aG,aa]
    have:g.gs.isEmpty=false:=by simpa using al
    simp[this]
theorem Jw(g:Gm):bF aF 115 [g.e] (.bool (g.fits 80)):=by
 have b5:=TE g.sz g (c7 _) 80 Ω;have af:decide ((0:Int)<iP g 80)=g.fits 80:=by
  unfold iP Gm.fits;have:=g.sz_pos;by_cases h:g.shape=true/\(g.sz:Int)<=80
  ·rw[if_pos h,h.1];simp;omega
  ·rw[bu h];cases al:g.shape
   ·rfl
   ·rw[al]at h;simp at h⊢;omega
 refine bq jg Mx QQ fun aO=>?_;unfold DM;clear aO;exact bY
theorem Tu(t:T):bF aF 77 [t.e] (.bool t.fit):=by have:=JA t.tm;rwa[pP,aU.fits_T]at this
def Ht(l:List (Int×T)):List ae:=jU (l.map fun x=>(x.1,x.2.e))
@[simp]theorem Xp:Ht []=jU []:=rfl
@[simp]theorem XG(l:List (Int×T)):gH (Ht l)=false:=rfl
end
end Go.Proofs.YtlnndmgfngfeiaaGreatDoor
namespace Go.Proofs
section
open Go.Shelf
def Tryz.lays191_ren:Go.Shelf.Ren:=⟨fun|191=>213|189=>254|125=>202|257=>272|128=>240|129=>241|294=>284|295=>285|296=>286|297=>287|298=>288|299=>289|216=>290|300=>291|301=>292|328=>298|329=>299|330=>300|331=>301|332=>302|215=>303|343=>306|n=>n,fun|28=>136|0=>0|3=>3|46=>209|51=>265|53=>267|4=>4|183=>309|182=>308|131=>214|5=>5|9=>9|218=>319|222=>292|228=>328|229=>305|n=>n,fun|n=>n⟩
theorem Tryz.lays191:Go.Proofs.Lays.n191 aF Tryz.lays191_ren:={
 mixed:=by kernel_rfl
 f125:=Tryz.func202.trans (fa some (by kernel_rfl))
 f128:=Tryz.func240.trans (fa some (by kernel_rfl))
 f129:=Tryz.func241.trans (fa some (by kernel_rfl))
 f189:=Tryz.func254.trans (fa some (by kernel_rfl))
 f191:=Tryz.func213.trans (fa some (by kernel_rfl))
 f215:=Tryz.func303.trans (fa some (by kernel_rfl))
 f216:=Tryz.func290.trans (fa some (by kernel_rfl))
 f257:=Tryz.func272.trans (fa some (by kernel_rfl))
 f294:=Tryz.func284.trans (fa some (by kernel_rfl))
 f295:=Tryz.func285.trans (fa some (by kernel_rfl))
 f296:=Tryz.func286.trans (fa some (by kernel_rfl))
 f297:=Tryz.func287.trans (fa some (by kernel_rfl))
 f298:=Tryz.func288.trans (fa some (by kernel_rfl))
 f299:=Tryz.func289.trans (fa some (by kernel_rfl))
 f300:=Tryz.func291.trans (fa some (by kernel_rfl))
 f301:=Tryz.func292.trans (fa some (by kernel_rfl))
 f328:=Tryz.func298.trans (fa some (by kernel_rfl))
 f329:=Tryz.func299.trans (fa some (by kernel_rfl))
 f330:=Tryz.func300.trans (fa some (by kernel_rfl))
 f331:=Tryz.func301.trans (fa some (by kernel_rfl))
 f332:=Tryz.func302.trans (fa some (by kernel_rfl))
 f343:=Tryz.func306.trans (fa some (by kernel_rfl))
 t0:=Tryz.underlying0
 a0:=Tryz.isAgg0
 z0:=Tryz.sizeOf0
 v0:=Tryz.zeroValue0
 t3:=Tryz.underlying3
 a3:=Tryz.isAgg3
 z3:=Tryz.sizeOf3
 v3:=Tryz.zeroValue3
 t4:=Tryz.underlying4
 a4:=Tryz.isAgg4
 z4:=Tryz.sizeOf4
 v4:=Tryz.zeroValue4
 t5:=Tryz.underlying5
 a5:=Tryz.isAgg5
 z5:=Tryz.sizeOf5
 v5:=Tryz.zeroValue5
 t9:=Tryz.underlying9
 a9:=Tryz.isAgg9
 z9:=Tryz.sizeOf9
 v9:=Tryz.zeroValue9
 t28:=Tryz.underlying136
 a28:=Tryz.isAgg136
 z28:=Tryz.sizeOf136
 v28:=Tryz.zeroValue136
 t46:=Tryz.underlying209
 a46:=Tryz.isAgg209
 z46:=Tryz.sizeOf209
 v46:=Tryz.zeroValue209
 t51:=Tryz.underlying265
 a51:=Tryz.isAgg265
 z51:=Tryz.sizeOf265
 v51:=Tryz.zeroValue265
 t53:=Tryz.underlying267
 a53:=Tryz.isAgg267
 z53:=Tryz.sizeOf267
 v53:=Tryz.zeroValue267
 t131:=Tryz.underlying214
 a131:=Tryz.isAgg214
 z131:=Tryz.sizeOf214
 v131:=Tryz.zeroValue214
 t182:=Tryz.underlying308
 a182:=Tryz.isAgg308
 z182:=Tryz.sizeOf308
 v182:=Tryz.zeroValue308
 t183:=Tryz.underlying309
 a183:=Tryz.isAgg309
 z183:=Tryz.sizeOf309
 v183:=Tryz.zeroValue309
 t218:=Tryz.underlying319
 a218:=Tryz.isAgg319
 z218:=Tryz.sizeOf319
 v218:=Tryz.zeroValue319
 t222:=Tryz.underlying292
 a222:=Tryz.isAgg292
 z222:=Tryz.sizeOf292
 v222:=Tryz.zeroValue292
 t228:=Tryz.underlying328
 a228:=Tryz.isAgg328
 z228:=Tryz.sizeOf328
 v228:=Tryz.zeroValue328
 t229:=Tryz.underlying305
 a229:=Tryz.isAgg305
 z229:=Tryz.sizeOf305
 v229:=Tryz.zeroValue305}
end
end Go.Proofs

namespace Go.Proofs.YtlnndmgfngfeiaaGreatDoor
section
open Go Go.Pv
def di(xs:List Int):List ae:=xs.map (ae.int .i64)
theorem Iz{w:World}{ν:aM}:∀{xs:List Int} {us:List Value},cf w ν 1 (di xs) us->us=xs.map (kY .i64)
 |[],us,h=>by simpa[di,cf]using h
 |x::xs,us,h=>by simp only[di,ez,cf]at h;obtain⟨u,bh,rfl,⟨I,_,_⟩,J⟩:=h;simp only[aJ]at I;subst I;rw[Iz J];rfl
theorem GR(w:World)(ν:aM):∀xs:List Int,cf w ν 1 (di xs) (xs.map (kY .i64))
 |[]=>by simp[di,cf]
 |x::xs=>by simp only[di,ez,cf];exact⟨.int .i64 x,_,rfl,⟨by simp[aJ],rfl,by intro c aQ;simp[km]at aQ;subst aQ;rfl⟩,GR w ν xs⟩
def kp(K:Nat)(xs:List Int):dH:=⟨[],[(.obj K,⟨xs.length,3,1,some (di xs)⟩)]⟩
theorem pa(S:aw->Prop)(xs:List Int):aB S (di xs):=by
 induction xs with
 |nil=>simp[di,aB]
 |cons x r bb=>simp only[di,ez,aB,aH];exact⟨trivial,bb⟩
theorem zw(K:Nat)(xs:List Int):im (kp K xs):=by unfold kp;refine im.of ⟨by intro m;simp[Pv.look],by intro m;simp[Pv.look]⟩ Ψ ?_;intro x ab ys bG;simp at ab;subst ab;simp at bG;subst bG;exact pa _ xs
def mH(xs:List Int):List Int:=xs.mergeSort fun x y=>decide (x<=y)
theorem CD(xs:List Int):(mH xs).length=xs.length:=List.length_mergeSort xs
theorem NO(K:Nat)(xs:List Int)(aA:xs.length<=1000000):dP aF 213 [.row 1 (.obj K) xs.length] (kp K xs) fun r aE=>r= .tuple []/\aE=kp K (mH xs):=by
 refine dP.sem (zw K xs).obj fun w ν vs _ jR ao=>?_;refine .inl ⟨⟨Tryz.f213,Tryz.func213,by kernel_rfl,by kernel_rfl⟩,?_⟩;have jQ:=ao.slot 0;simp only[iD,Pv.get,if_true]at jQ;have iO:Pv.look (.obj K) (kp K xs).e=some ⟨xs.length,3,1,some (di xs)⟩:=by simp[kp,Pv.look]
 obtain⟨v,us,bK,b6,cH,dd⟩:=ao.good.own (.obj K) _ iO;obtain⟨cz,iQ,om⟩:=dd _ rfl;have nj:=Iz iQ;subst nj;simp only[aJ]at jQ;obtain⟨⟨Kg,EC,sb⟩,_,n',u,aj,aR,bm⟩:=jQ;rw[bK]at aj;simp only[dt,hz]at aj;obtain⟨rfl,rfl⟩:=aj;have ba:=bm rfl;have p9:vs= #[v]:=by
  have I:vs.size=1:=by simpa using jR
  apply Array.ext (by simpa using I);intro i J ak;simp at ak;subst ak;rw[<-ba];simp[Array.getD,I]
 have dI:v≠ .slice none 0 0:=by rw[<-ba,sb];simp
 obtain⟨g,cap,rfl,_,j9,tQ,Wa,Wb,Ob⟩:=Lib.holds_of_ownsRow b6 dI;have aQ:=Any.sort_Ints Tryz.lays191 g 0 cap xs w Ob j9 Ω;subst p9;refine aQ.mono ?_;rintro e w' ⟨rfl,n,os,rfl⟩;have kz:=CD xs;have iz:=Lib.ownsRow_putRow (q:=n) (k:=xs.length) (ys:=mH xs) b6 kz (c7 _);rw[List.take_of_length_le Ω]at iz;obtain⟨hr,gA,_⟩:=ao.setRowM (w':=Sort.putRow (kY .i64) (Sort.ahead w n) g 0 (mH xs).toArray) iO rfl bK (bl:=g) rfl (v':= .slice (some ⟨g,0,none⟩) xs.length cap) rfl (xs':=di (mH xs)) (us:=(mH xs).map (kY .i64)) (.inl ⟨by simp[di,kz],rfl⟩) rfl rfl rfl
  (fun j ai=>by simp[Sort.putRow,Sort.mapBlock,Sort.ahead,Array.getElem?_modify,Ne.symm ai]) (by simp[Sort.putRow,Sort.mapBlock,Sort.ahead]) (by simpa[di,kz]using iz) (GR _ _ _)
 have ru:=hr.grown (w':=Sort.grow (Sort.putRow (kY .i64) (Sort.ahead w n) g 0 (mH xs).toArray) os) ⟨rfl,rfl,rfl,Ψ,fun k aa _=>Sort.heap_grow_old _ _ aa⟩;refine⟨_,_,_,_,.tuple [],kp K (mH xs),rfl,ru,by simp[aJ,b4],by simp[kp,fC],?_,?_,?_,(zw K _).obj,by simp[aH,aB],rfl,rfl⟩
 ·simp[kp,fC,aK,Pv.look]
 ·intro k cs aa;simp[kp,Pv.look]at aa
 ·intro k o aa;have hm:=re aa;simp[kp]at hm;obtain⟨rfl,rfl⟩:=hm;refine⟨by simp[kp,Pv.look,cx,di,kz],.inr (by simp[aa]),fun ys bG=>?_⟩;simp at bG;subst bG;exact pa _ _
end
end Go.Proofs.YtlnndmgfngfeiaaGreatDoor
