/- What the shelf lays at this translation, in plain words (written by the kit's own tool). -/
import Derived.Deep.LoopGhost
import Derived.Test.YtlnndmgfngfeiaaGreatDoorProg
import Derived.Shelf.Sort.Plain
import Derived.Ground.NamesProg
import Derived.Sort.OwnSortedInts
import Derived.Lib.OwnBridge
import Derived.Shelf.Strings.Builder1
import Derived.Shelf.Strconv.Itoa3
import Derived.Shelf.Strconv.AtoiAll
import Derived.Test.YtlnndmgfngfeiaaGreatDoorX1
set_option linter.all false
set_option maxHeartbeats 4000000
set_option maxRecDepth 4000
open Array renaming getElem?_toList->lZ
open Bool renaming and_eq_true->bt,false_eq_true->hO
open Decidable renaming not_not->S8
open Go renaming Program->bj,TypeId->eb
open Go.IntKind renaming i64->kr
open Go.Proofs.Tryz renaming prog->aI
open Go.Region renaming wanted->jC
open Go.Result renaming andThen_ok->dr
open Go.Sem renaming run_bind->dk,run_pure->dP
open Go.Value renaming cells->h3
open Go.Value.slice renaming injEq->Tf
open List renaming all_eq_true->ld,cons_append->cN,eq_nil_of_length_eq_zero->mJ,flatMap_cons->lf,getElem?_append_left->lg,getElem?_eq_getElem->eo,getElem?_eq_some_iff->fG,map_cons->eU,mem_append->ht,mem_append_left->lh,mem_cons->ft,mem_map->ku,nil_append->dx
open List.cons renaming injEq->tG
open Nat renaming le_refl->dY
open Option renaming isSome_iff_exists->dK,map_eq_some_iff->hv,map_some->l2
open Option.some renaming inj->p3,injEq->cR
open Prod.mk renaming injEq->fQ
open _root_ renaming False->cU,Option->aW,UInt8->aX,beq_iff_eq->cI,congrArg->cB,decide_eq_true_eq->eu,if_neg->bT,if_pos->cX
namespace Go.Pv
section
open Go Go.RowKit
structure b1 where
 t:Nat->ae
 b:av->aW (List ae)
 e:av->aW cC
 F:av->Prop
structure gV where
 d:aW Nat
 p:ae
 bw:List (av×List ae)
 ew:List (av×cC)
 rm:aW av
def fj{α:Type}(l:List (av×α))(f:av->aW α):av->aW α:=fun k=>match look k l with|some x=>some x|none=>f k
def b1.do(A:b1)(x:gV):b1:={t:=fun i=>if x.d=some i then x.p else A.t i,b:=fj x.bw A.b,e:=fj x.ew A.e,F:=fun k=>A.F k/\x.rm≠some k}
structure gV.apart (x y:gV):Prop where
 d:∀i,x.d=some i->y.d≠some i
 b:∀k,(look k x.bw).isSome->look k y.bw=none
 e:∀k,(look k x.ew).isSome->look k y.ew=none
theorem b1.do_comm(A:b1){x y:gV}(h:x.apart y):(A.do x).do y=(A.do y).do x:=by
 simp only[b1.do,b1.mk.injEq];refine⟨?_,?_,?_,?_⟩
 ·funext i;by_cases I:x.d=some i
  ·have:=h.d i I;simp[I,this]
  ·simp[I]
 ·funext k;simp only[fj];cases ad:look k x.bw with
  |none=>cases look k y.bw<;>rfl
  |some u=>rw[h.b k (by simp[ad])]
 ·funext k;simp only[fj];cases ad:look k x.ew with
  |none=>cases look k y.ew<;>rfl
  |some u=>rw[h.e k (by simp[ad])]
 ·funext k;exact propext ⟨fun h=>⟨⟨h.1.1,h.2⟩,h.1.2⟩,fun h=>⟨⟨h.1.1,h.2⟩,h.1.2⟩⟩
def cd(t:Nat->ae):bW->ae
 | .t i=>t i
 | .c p=>p
def lK(b:av->aW (List ae))(e:av->aW cC)(agg:Bool)(sz:Nat):ae->aW (Prop×ae)
 | .rptr cj k n i f=>pN agg sz cj n i f (e k)
 | .ptr k off=>
  match b k with
  |some cs=>if agg then some (fB cs=true/\off+sz<=cs.length,.agg ((cs.drop off).take sz))else(cs[off]?).map fun p=>(fB cs=true,p)
  |none=>none
 | .eptr p=>if agg then some (isAgg sz p,p)else some (dC p=true/\cells p=[p],p)
 |_=>none
def oS(t:Nat->ae):List ae->List (Nat×Nat×bW)->aW (Prop×List ae)
 |cs,[]=>some (True,cs)
 |cs,(off,sz,x)::r=>
  match oS t (jA cs off (cells (cd t x))) r with
  |some (c,cs')=>some ((dC (cd t x)=true/\(cells (cd t x)).length=sz/\off+sz<=cs.length)/\c,cs')
  |none=>none
def jZ(t:Nat->ae)(b:av->aW (List ae))(e:av->aW cC):dQ->aW (Prop×ae)
 | .mov x=>some (True,cd t x)
 | .pick c x y=>vE (cd t c) (cd t x) (cd t y)
 | .load agg sz x=>lK b e agg sz (cd t x)
 | .faddr off agg sz x=>mX off agg sz (cd t x)
 | .fld off agg sz x=>oY off agg sz (cd t x)
 | .iaddr sz x i=>qM sz (cd t x) (cd t i)
 | .sidx x i=>vZ (cd t x) (cd t i)
 | .ssl x lo aM=>wa (cd t x) (lo.map (cd t)) (aM.map (cd t))
 | .lsl sz x lo aM=>vj sz (cd t x) (lo.map (cd t)) (aM.map (cd t))
 | .bin op wr x y=>aJ op wr (cd t x) (cd t y)
 | .notB x=>vs (cd t x)
 | .neg x=>vo (cd t x)
 | .conv k x=>tU k (cd t x)
 | .ext i x=>uf i (cd t x)
 | .len x=>qQ (cd t x)
 | .slen x=>tv (cd t x)
 | .build zero parts=>(oS t zero parts).map fun(c,cs)=>(c,.agg cs)
 | .nck x=>qY (cd t x)
 | .min2 x y=>vm (cd t x) (cd t y)
 | .mkf n xs=>some (True,.func n (xs.map (cd t)))
 | .mget bo zero ok x k=>oy b bo zero ok (cd t x) (cd t k)
 | .ment x=>qU b (cd t x)
 | .mlen x=>qV b (cd t x)
 | .beq neg cq x y=>tL neg cq (cd t x) (cd t y)
 | .max2 x y=>vl (cd t x) (cd t y)
 | .mkif n x=>some (True,.iface n (cd t x))
 | .loadB agg sz x=>lK b (fun _=>none) agg sz (cd t x)
 | .mgetB bo zero ok x k=>oy b bo zero ok (cd t x) (cd t k)
 | .loadZ agg sz x=>r9 agg sz (cd t x)
 | .b2s x=>tJ (cd t x)
 | .isn neg x=>va neg (cd t x)
structure hx (st:aS) (A:b1):Prop where
 t:∀i,get i st.t=A.t i
 b:∀k,look k st.b=A.b k
 e:∀k,look k st.e=A.e k
theorem fv{st:aS}{A:b1}(h:hx st A)(x:bW):bf st.t x=cd A.t x:=by
 cases x
 ·exact h.t _
 ·rfl
theorem mW{st:aS}{A:b1}(h:hx st A):bf st.t=cd A.t:=funext (fv h)
theorem M6{st:aS}{A:b1}(h:hx st A)(agg:Bool)(sz:Nat)(p:ae):ih st.b st.e agg sz p=lK A.b A.e agg sz p:=by
 cases p<;>simp only[ih,lK]
 ·rw[h.b];try rfl
 ·rw[h.e]
theorem M7{st:aS}{A:b1}(h:hx st A)(agg:Bool)(sz:Nat)(p:ae):ih st.b [] agg sz p=lK A.b (fun _=>none) agg sz p:=by
 cases p<;>simp only[ih,lK]
 ·rw[h.b];try rfl
 ·rfl
theorem AW{st:aS}{A:b1}(h:hx st A):∀(parts:List (Nat×Nat×bW)) (cs:List ae),mQ st.t cs parts=oS A.t cs parts
 |[],cs=>rfl
 |(off,sz,x)::r,cs=>by simp only[mQ,oS,fv h,AW h r];try rfl
theorem Gi{st:aS}{A:b1}(h:hx st A)(i:dQ):eB st i=jZ A.t A.b A.e i:=by have aa:(fun k=>look k st.b)=A.b:=funext h.b;cases i<;>simp only[eB,jZ,mW h,M6 h,M7 h,AW h,aa]
def et:bW->List Nat
 | .t i=>[i]
 | .c _=>[]
def zb:aW bW->List Nat
 |some x=>et x
 |none=>[]
def dQ.looks:dQ->List Nat
 | .mov x| .load _ _ x| .loadB _ _ x| .loadZ _ _ x| .faddr _ _ _ x| .fld _ _ _ x| .notB x| .neg x| .conv _ x| .ext _ x| .len x| .slen x| .nck x| .ment x| .mlen x| .mkif _ x| .b2s x| .isn _ x=>et x
 | .pick c x y=>et c++et x++et y
 | .iaddr _ x i| .sidx x i=>et x++et i
 | .ssl x lo aM| .lsl _ x lo aM=>et x++zb lo++zb aM
 | .bin _ _ x y| .min2 x y| .max2 x y| .beq _ _ x y=>et x++et y
 | .build _ a8=>a8.flatMap fun p=>et p.2.2
 | .mkf _ xs=>xs.flatMap et
 | .mget _ _ _ x k| .mgetB _ _ _ x k=>et x++et k
def cH.looks:cH->List Nat
 | .v _ i=>i.looks
 | .box _ _ x=>et x
 | .alloc _ _ _=>[]
 | .store _ x y=>et x++et y
 | .storeE _ x y=>et x++et y
 | .bsl _ _ _ xs=>xs.flatMap et
 | .app _ _ _ x y=>et x++et y
 | .bslm _ _ _ _ xs=>xs.flatMap et
 | .mks _ _ _ _ _ x=>et x
 | .apps _ _ x y=>et x++et y
 | .appm _ _ _ _ x y=>et x++et y
 | .mkmap _ _=>[]
 | .mput _ x k y=>et x++et k++et y
 | .range _ _ x=>et x
def cS.looks:cS->List Nat
 | .s i=>i.looks
 | .call _ f xs=>et f++xs.flatMap et
 | .next _ x=>et x
 | .opn _ f xs=>et f++xs.flatMap et
def bO.looks(g:bO):List Nat:=(match g.g with|some (s,_)=>[s]|none=>[])++g.i.looks
def kA(l:List Nat)(t df:Nat->ae):Prop:= ∀i∈l,t i=df i
theorem eh{t df:Nat->ae}{x:bW}(h:kA (et x) t df):cd t x=cd df x:=by
 cases x
 ·exact h _ (by simp[et])
 ·rfl
theorem gH{l eA:List Nat}{t df:Nat->ae}(h:kA (l++eA) t df):kA l t df/\kA eA t df:=⟨fun i aM=>h i (by simp[aM]),fun i aM=>h i (by simp[aM])⟩
theorem ud{t df:Nat->ae}{x:aW bW}(h:kA (zb x) t df):x.map (cd t)=x.map (cd df):=by
 cases x
 ·rfl
 ·simp[eh h]
theorem AV{t df:Nat->ae}:∀{parts:List (Nat×Nat×bW)} {cs:List ae},kA (parts.flatMap fun p=>et p.2.2) t df->oS t cs parts=oS df cs parts
 |[],cs,_=>rfl
 |(off,sz,x)::r,cs,h=>by simp only[lf]at h;obtain⟨I,J⟩:=gH h;simp only[oS,eh I,AV J]
theorem vk{t df:Nat->ae}:∀{xs:List bW},kA (xs.flatMap et) t df->xs.map (cd t)=xs.map (cd df)
 |[],_=>rfl
 |x::xs,h=>by simp only[lf]at h;obtain⟨I,J⟩:=gH h;simp[eh I,vk J]
def dQ.isLoad:dQ->Bool
 | .load _ _ _=>true
 | .loadB _ _ _=>true
 | .mgetB _ _ _ _ _=>true
 | .mget _ _ _ _ _=>true
 | .ment _=>true
 | .mlen _=>true
 |_=>false
theorem PA{t df:Nat->ae}{b dL:av->aW (List ae)}{e fS:av->aW cC}{i:dQ}(h:kA i.looks t df)(aa:i.isLoad=false):jZ t b e i=jZ df dL fS i:=by
 cases i<;>simp only[dQ.looks]at h<;>simp only[jZ];case load agg sz x=>simp[dQ.isLoad]at aa
 case loadB agg sz x=>simp[dQ.isLoad]at aa
 case pick c x y=>obtain⟨I,aj⟩:=gH h;obtain⟨I,J⟩:=gH I;rw[eh I,eh J,eh aj]
 case iaddr=>obtain⟨I,J⟩:=gH h;rw[eh I,eh J]
 case sidx=>obtain⟨I,J⟩:=gH h;rw[eh I,eh J]
 case ssl=>obtain⟨I,aj⟩:=gH h;obtain⟨I,J⟩:=gH I;rw[eh I,ud J,ud aj]
 case lsl=>obtain⟨I,aj⟩:=gH h;obtain⟨I,J⟩:=gH I;rw[eh I,ud J,ud aj]
 case bin=>obtain⟨I,J⟩:=gH h;rw[eh I,eh J]
 case min2=>obtain⟨I,J⟩:=gH h;rw[eh I,eh J]
 case build=>rw[AV h]
 case mkf=>rw[vk h]
 case mget=>simp[dQ.isLoad]at aa
 case mgetB=>simp[dQ.isLoad]at aa
 case ment=>simp[dQ.isLoad]at aa
 case mlen=>simp[dQ.isLoad]at aa
 case max2=>obtain⟨I,J⟩:=gH h;rw[eh I,eh J]
 case beq=>obtain⟨I,J⟩:=gH h;rw[eh I,eh J]
 all_goals rw[eh h]
def Nz(A:b1)(s ah:cr)(rm:aW av):Prop:=(∀k,(look k ah.b).isSome->(look k s.b).isSome\/rm=some k)/\(∀k,(look k ah.e).isSome->(look k s.e).isSome\/rm=some k)/\(∀k,(look k s.b).isSome->(look k ah.b).isSome)/\(∀k,(look k s.e).isSome->(look k ah.e).isSome)/\
 (∀k,rm=some k->(∃j,k= .obj j)/\A.F k/\A.b k=none/\A.e k=none/\((look k ah.b).isSome\/(look k ah.e).isSome))
def GX(P:bj)(n:Nat)(args:List ae)(A:b1)(d:aW Nat)(x:gV):Prop:=
 ∃s ah r rm,(∀k cs,look k s.b=some cs->A.b k=some cs/\aD (au s) cs)/\(∀k o,look k s.e=some o->A.e k=some o/\eQ (au s) o)/\fK s/\fK ah/\Nz A s ah rm/\aD (au s) args/\
  br P n args s (fun dW df=>dW=r/\df=ah)/\x=⟨d,r,ah.b,ah.e,rm⟩
def GY(P:bj)(n0 n:Nat)(args:List ae)(A:b1)(d:aW Nat)(x:gV):Prop:=
 ∃ec r,d=some ec/\(A.F (.loc (n0+ec))/\A.b (.loc (n0+ec))=none/\A.e (.loc (n0+ec))=none)/\aD (fun _=>cU) args/\
  wv P n (n0+ec) args ⟨[],[]⟩ (fun dW df=>dW=r/\df=⟨[],[]⟩)/\x=⟨d,r,[],[],some (.loc (n0+ec))⟩
def ps:ae->Bool
 | .ptr (.loc _) _=>true
 | .eptr _=>true
 |_=>false
def dQ.isB:dQ->Bool
 | .loadB _ _ _=>true
 | .mgetB _ _ _ _ _=>true
 |_=>false
def dQ.ptrOf(t:Nat->ae):dQ->ae
 | .load _ _ x=>cd t x
 | .loadB _ _ x=>cd t x
 |_=>.junk
def cG(P:bj)(q:Bool)(n0:Nat):cS->b1->gV->Prop
 | .s (.v d i),A,x=> ∃c p,jZ A.t A.b A.e i=some (c,p)/\c/\(i.isLoad=true->i.isB=true\/q=true\/ps (i.ptrOf A.t)=true)/\x=⟨some d,p,[],[],none⟩
 | .s (.box d none v),A,x=>(A.F (.loc (n0+d))/\A.b (.loc (n0+d))=none/\A.e (.loc (n0+d))=none)/\dC (cd A.t v)=true/\x=⟨some d,.ptr (.loc (n0+d)) 0,[(.loc (n0+d),cells (cd A.t v))],[],some (.loc (n0+d))⟩
 | .s (.alloc d none z),A,x=>(A.F (.loc (n0+d))/\A.b (.loc (n0+d))=none/\A.e (.loc (n0+d))=none)/\x=⟨some d,.ptr (.loc (n0+d)) 0,[(.loc (n0+d),cells z)],[],some (.loc (n0+d))⟩
 | .s (.store sz u v),A,x=> ∃k off cs,cd A.t u= .ptr k off/\A.b k=some cs/\(fB cs=true/\dC (cd A.t v)=true/\(cells (cd A.t v)).length=sz/\off+sz<=cs.length)/\x=⟨none,.junk,[(k,jA cs off (cells (cd A.t v)))],[],none⟩
 | .s (.bsl d sz el xs),A,x=>(A.F (.loc (n0+d))/\A.b (.loc (n0+d))=none/\A.e (.loc (n0+d))=none)/\l6 sz (xs.map (cd A.t))/\x=⟨some d,.slice sz (.own (.loc (n0+d))) (xs.map (cd A.t)),[],[(.loc (n0+d),⟨xs.length,el,sz,none⟩)],some (.loc (n0+d))⟩
 | .s (.app d sz el u v),A,x=> ∃tag xs hd ys,cd A.t u= .slice sz tag xs/\cd A.t v= .slice sz hd ys/\
   ((∃k o,tag= .own k/\A.e k=some o/\(o.xs=none/\o.n=xs.length/\o.el=el/\o.sz=sz/\xs.length+ys.length<=bF)/\x=⟨some d,.slice sz (.own k) (xs++ys),[],[(k,⟨xs.length+ys.length,el,sz,none⟩)],none⟩)\/
    (tag= .nil/\ys.length<=bF/\(A.F (.loc (n0+d))/\A.b (.loc (n0+d))=none/\A.e (.loc (n0+d))=none)/\x=⟨some d,.slice sz (.own (.loc (n0+d))) ys,[],[(.loc (n0+d),⟨ys.length,el,sz,none⟩)],some (.loc (n0+d))⟩))
 | .s (.appm d _ sz el u v),A,x=> ∃k n xs hd ys,cd A.t u= .row sz k n/\cd A.t v= .slice sz hd ys/\A.e k=some ⟨n,el,sz,some xs⟩/\xs.length+ys.length<=bF/\x=⟨some d,.row sz k (xs.length+ys.length),[],[(k,⟨xs.length+ys.length,el,sz,some (xs++ys)⟩)],none⟩
 | .s (.storeE sz u v),A,x=> ∃k n i f el cj xs q,cd A.t u= .rptr cj k n i f/\A.e k=some ⟨n,el,cj,some xs⟩/\xs[i]? =some q/\(dC q=true/\dC (cd A.t v)=true/\(cells (cd A.t v)).length=sz/\f+sz<=(cells q).length/\0<sz)/\x=⟨none,.junk,[],[(k,⟨n,el,cj,some (xs.set i (k1 q f (cells (cd A.t v))))⟩)],none⟩
 | .s (.mkmap d (some m)),A,x=>(A.F (.obj m)/\A.b (.obj m)=none/\A.e (.obj m)=none)/\x=⟨some d,.gmap (.obj m),[(.obj m,[.hdm 0 []])],[],some (.obj m)⟩
 | .s (.mput bo u k v),A,x=> ∃m cs cs',cd A.t u= .gmap m/\A.b m=some cs/\qW bo (cd A.t k) (cd A.t v) cs=some cs'/\x=⟨none,.junk,[(m,cs')],[],none⟩
 | .call d f xs,A,x=> ∃n bX,cd A.t f= .func n bX/\((GX P n (bR (xs.map (cd A.t)++bX)) A d x/\(q=true->x.bw=[]/\x.ew=[]))\/GY P n0 n (bR (xs.map (cd A.t)++bX)) A d x)
 |_,_,_=>cU
inductive rI where
 |v|l|n|s|w|a|c|m|r|k
 deriving DecidableEq
def cS.mode:cS->rI
 | .s (.v _ (.loadB _ _ _))=>.m
 | .s (.v _ (.mgetB _ _ _ _ _))=>.m
 | .s (.v _ i)=>if i.isLoad then .l else .v
 | .s (.storeE _ _ _)=>.r
 | .s (.box _ _ _)=>.n
 | .s (.alloc _ _ _)=>.n
 | .s (.store _ _ _)=>.w
 | .s (.bsl _ _ _ _)=>.s
 | .s (.app _ _ _ _ _)=>.a
 | .s (.bslm _ _ _ _ _)=>.w
 | .s (.mks _ _ _ _ _ _)=>.w
 | .s (.apps _ _ _ _)=>.w
 | .s (.appm _ _ _ _ _ _)=>.r
 | .s (.mkmap _ _)=>.k
 | .s (.mput _ _ _ _)=>.w
 | .s (.range _ _ _)=>.w
 | .call _ _ _=>.c
 | .next _ _=>.w
 | .opn _ _ _=>.w
structure wC (q:Bool) (n0:Nat) (m:rI) (dst:aW Nat) (A:b1) (x:gV):Prop where
 d:x.d=dst
 b:∀k,(look k x.bw).isSome->(m= .n/\∃d,dst=some d/\k= .loc (n0+d)/\A.b k=none/\A.e k=none)\/m= .w\/(m= .c/\(∃j,k= .obj j)/\q=false)\/(m= .k/\(∃j,k= .obj j)/\A.b k=none/\A.e k=none)
 e:∀k,(look k x.ew).isSome->(m= .s/\∃d,dst=some d/\k= .loc (n0+d)/\A.b k=none/\A.e k=none)\/(m= .a/\(A.e k≠none\/ ∃d,dst=some d/\k= .loc (n0+d)/\A.b k=none/\A.e k=none))\/(m= .c/\(∃j,k= .obj j)/\q=false)\/(m= .r/\∃o,A.e k=some o/\o.xs≠none)
 r:∀k,x.rm=some k->(∃d,dst=some d/\k= .loc (n0+d))\/((m= .c\/m= .k)/\(∃j,k= .obj j)/\((look k x.bw).isSome\/(look k x.ew).isSome))
 ex:m= .a->∀k o,(look k x.ew).isSome->A.e k=some o->o.xs=none
 xn:m= .a\/m= .s->∀k o,look k x.ew=some o->o.xs=none
theorem my{α:Type}{k aT:av}{x:α}(h:(look k [(aT,x)]).isSome):k=aT:=by
 simp only[look]at h;split at h
 ·rename_i e;exact e.symm
 ·cases h
theorem yR{k aT:av}{n el sz:Nat}{o:cC}(h:look k [(aT,(⟨n,el,sz,none⟩:cC))]=some o):o.xs=none:=by
 simp only[look]at h;split at h
 ·cases h;rfl
 ·cases h
theorem Gb{P:bj}{q:Bool}{n0:Nat}{i:cS}{A:b1}{x:gV}(h:cG P q n0 i A x):wC q n0 i.mode i.dst A x:=by
 cases i with
 |s i=>
  cases i with
  |v d i=>simp only[cG]at h;obtain⟨c,p,_,_,_,rfl⟩:=h;exact⟨rfl,fun k U=>by simp[look]at U,fun k U=>by simp[look]at U,fun k U=>by simp at U,fun _ k o U=>by simp[look]at U,fun _ k o U=>by simp[look]at U⟩
  |box d key v=>
   cases key with
   |some m=>simp only[cG]at h
   |none=>simp only[cG]at h;obtain⟨⟨_,J,aj⟩,_,rfl⟩:=h;exact⟨rfl,fun k U=>by obtain rfl:=my U;exact .inl ⟨rfl,d,rfl,rfl,J,aj⟩,fun k U=>by simp[look]at U,fun k U=>by simp at U;exact .inl ⟨d,rfl,U.symm⟩,fun _ k o U=>by simp[look]at U,fun _ k o U=>by simp[look]at U⟩
  |alloc d key z=>
   cases key with
   |some m=>simp only[cG]at h
   |none=>simp only[cG]at h;obtain⟨⟨_,J,aj⟩,rfl⟩:=h;exact⟨rfl,fun k U=>by obtain rfl:=my U;exact .inl ⟨rfl,d,rfl,rfl,J,aj⟩,fun k U=>by simp[look]at U,fun k U=>by simp at U;exact .inl ⟨d,rfl,U.symm⟩,fun _ k o U=>by simp[look]at U,fun _ k o U=>by simp[look]at U⟩
  |store sz u v=>simp only[cG]at h;obtain⟨k,off,cs,_,_,_,rfl⟩:=h;exact⟨rfl,fun k U=>.inr (.inl rfl),fun k U=>by simp[look]at U,fun k U=>by simp at U,fun _ k o U=>by simp[look]at U,fun _ k o U=>by simp[look]at U⟩
  |bsl d sz el xs=>simp only[cG]at h;obtain⟨⟨_,J,aj⟩,_,rfl⟩:=h;exact⟨rfl,fun k U=>by simp[look]at U,fun k U=>by obtain rfl:=my U;exact .inl ⟨rfl,d,rfl,rfl,J,aj⟩,fun k U=>by simp at U;exact .inl ⟨d,rfl,U.symm⟩,fun e=>by simp[cS.mode]at e,fun _ k o U=>yR U⟩
  |app d sz el u v=>
   simp only[cG]at h;obtain⟨tag,xs,hd,ys,_,_,h⟩:=h;rcases h with⟨k,o,_,I,⟨iA,_⟩,rfl⟩|⟨_,_,⟨_,J,aj⟩,rfl⟩
   ·exact⟨rfl,fun k U=>by simp[look]at U,fun k U=>by obtain rfl:=my U;exact .inr (.inl ⟨rfl,.inl (by rw[I];simp)⟩),fun k U=>by simp at U,fun _ aT o' U ab=>by obtain rfl:=my U;rw[I]at ab;cases ab;exact iA,fun _ k o U=>yR U⟩
   ·exact⟨rfl,fun k U=>by simp[look]at U,fun k U=>by obtain rfl:=my U;exact .inr (.inl ⟨rfl,.inr ⟨d,rfl,rfl,J,aj⟩⟩),fun k U=>by simp at U;exact .inl ⟨d,rfl,U.symm⟩,fun _ aT o' U ab=>(by obtain rfl:=my U;rw[aj]at ab;cases ab),fun _ k o U=>yR U⟩
  |bslm d key sz el xs=>simp only[cG]at h
  |mks d key sz el z x=>simp only[cG]at h
  |apps d el x y=>simp only[cG]at h
  |appm d key sz el u v=>simp only[cG]at h;obtain⟨k,n,xs,hd,ys,_,_,I,_,rfl⟩:=h;exact⟨rfl,fun k U=>by simp[look]at U,fun k U=>by obtain rfl:=my U;exact .inr (.inr (.inr ⟨rfl,_,I,Ψ⟩)),fun k U=>by simp at U,fun e=>by simp[cS.mode]at e,fun e=>by simp[cS.mode]at e⟩
  |storeE sz u v=>simp only[cG]at h;obtain⟨k,n,i,f,el,cj,xs,q,_,I,_,_,rfl⟩:=h;exact⟨rfl,fun k U=>by simp[look]at U,fun k U=>by obtain rfl:=my U;exact .inr (.inr (.inr ⟨rfl,_,I,Ψ⟩)),fun k U=>by simp at U,fun e=>by simp[cS.mode]at e,fun e=>by simp[cS.mode]at e⟩
  |mkmap d key=>
   cases key with
   |none=>simp only[cG]at h
   |some m=>simp only[cG]at h;obtain⟨⟨_,J,aj⟩,rfl⟩:=h;exact⟨rfl,fun k U=>by obtain rfl:=my U;exact .inr (.inr (.inr ⟨rfl,⟨m,rfl⟩,J,aj⟩)),fun k U=>by simp[look]at U,fun k U=>by simp at U;subst U;exact .inr ⟨.inr rfl,⟨m,rfl⟩,.inl (by simp[look])⟩,fun e=>by simp[cS.mode]at e,fun e=>by simp[cS.mode]at e⟩
  |mput bo x k v=>simp only[cG]at h;obtain⟨m,cs,cs',_,_,_,rfl⟩:=h;exact⟨rfl,fun k U=>.inr (.inl rfl),fun k U=>by simp[look]at U,fun k U=>by simp at U,fun e=>by simp[cS.mode]at e,fun e=>by simp[cS.mode]at e⟩
  |range d key x=>simp only[cG]at h
 |next d x=>simp only[cG]at h
 |opn d f x=>simp only[cG]at h
 |call d f xs=>
  simp only[cG]at h;obtain⟨n,bX,_,h⟩:=h;rcases h with⟨⟨s,ah,r,rm,_,_,_,ab,Dv,_,_,rfl⟩,bD⟩|⟨ec,r,rfl,_,_,_,rfl⟩;rotate_left
  ·exact⟨rfl,fun k U=>by simp[look]at U,fun k U=>by simp[look]at U,fun k U=>by simp at U;exact .inl ⟨ec,rfl,U.symm⟩,fun _ k o U=>by simp[look]at U,fun _ k o U=>by simp[look]at U⟩
  refine⟨rfl,fun k U=>.inr (.inr (.inl ⟨rfl,?_,?_⟩)),fun k U=>.inr (.inr (.inl ⟨rfl,?_,?_⟩)),fun k U=>.inr ⟨.inl rfl,(Dv.2.2.2.2 k U).1,(Dv.2.2.2.2 k U).2.2.2.2⟩,fun e=>by simp[cS.mode]at e,fun e=>by simp[cS.mode]at e⟩
  ·cases k with
   |loc m=>rw[ab.1 m]at U;cases U
   |obj m=>exact⟨m,rfl⟩
  ·cases q with
   |false=>rfl
   |true=>rw[(bD rfl).1]at U;simp[look]at U
  ·cases k with
   |loc m=>rw[ab.2 m]at U;cases U
   |obj m=>exact⟨m,rfl⟩
  ·cases q with
   |false=>rfl
   |true=>rw[(bD rfl).2]at U;simp[look]at U
theorem Au{P:bj}{q:Bool}{n0:Nat}{i:cS}{A A':b1}{x:gV}(h:cG P q n0 i A x)(az:kA i.looks A.t A'.t)
  (ar:i.mode= .l->∀k,(q=true\/ ∃m,k= .loc m)->A.b k≠none->A'.b k=A.b k) (oc:i.mode= .m->∀k,A.b k≠none->A'.b k=A.b k)
  (Mg:i.mode= .l->q=true->∀k o,A.e k=some o->o.xs≠none->A'.e k=some o)
  (aU:∀d,i.dst=some d->(i.mode= .n\/i.mode= .s\/i.mode= .a\/i.mode= .c)->(A.F (.loc (n0+d))/\A.b (.loc (n0+d))=none/\A.e (.loc (n0+d))=none)->(A'.F (.loc (n0+d))/\A'.b (.loc (n0+d))=none/\A'.e (.loc (n0+d))=none))
  (bE:i.mode= .a->∀k o,A.e k=some o->A'.e k=some o) (hw:i.mode= .w->∀k,A'.b k=A.b k) (Mx:i.mode= .k->∀m,(A.F (.obj m)/\A.b (.obj m)=none/\A.e (.obj m)=none)->(A'.F (.obj m)/\A'.b (.obj m)=none/\A'.e (.obj m)=none)) (sH:i.mode= .r->∀k o,A.e k=some o->o.xs≠none->A'.e k=some o)
  (al:i.mode= .c->∀m,A'.b (.obj m)=A.b (.obj m)/\A'.e (.obj m)=A.e (.obj m)/\(A.F (.obj m)->A'.F (.obj m))):cG P q n0 i A' x:=by
 cases i with
 |s i=>
  cases i with
  |v d i=>
   simp only[cG]at h⊢;obtain⟨c,p,I,J,aj,aO⟩:=h;by_cases hB:∃agg sz y,i= .loadB agg sz y
   ·obtain⟨agg,sz,y,rfl⟩:=hB;simp only[cS.looks,cH.looks,dQ.looks]at az;have o7:=eh az;refine⟨c,p,?_,J,fun _=>.inl rfl,aO⟩;rw[<-I];simp only[jZ,<-o7];have hm:=oc (by simp[cS.mode]);simp only[jZ]at I;cases be:cd A.t y<;>simp only[lK];rename_i key off;rw[be]at I;simp only[lK]at I;cases aa:A.b key with
    |none=>simp[aa]at I
    |some cs=>have:A'.b key=A.b key:=hm key (by rw[aa];simp);rw[this,aa]
   by_cases qu:∃bo zero ok y z,i= .mgetB bo zero ok y z
   ·obtain⟨bo,zero,ok,y,z,rfl⟩:=qu;simp only[cS.looks,cH.looks,dQ.looks]at az;obtain⟨t1,t2⟩:=gH az;refine⟨c,p,?_,J,fun _=>.inl rfl,aO⟩;simp only[jZ]at I⊢;rw[<-eh t1,<-eh t2];exact Eo (oc (by simp[cS.mode])) I
   replace aj:i.isLoad=true->q=true\/ps (i.ptrOf A.t)=true:=fun iR=>(aj iR).resolve_left (fun aa=>by cases i<;>simp[dQ.isB]at aa;exact hB ⟨_,_,_,rfl⟩;exact qu ⟨_,_,_,_,_,rfl⟩);have LV:i.isLoad=true->(cS.s (.v d i)).mode= .l:=by intro iR;cases i<;>simp only[dQ.isLoad]at iR<;>first|(cases iR;done)|(simp[cS.mode,dQ.isLoad];done)|exact absurd ⟨_,_,_,rfl⟩ hB|exact absurd ⟨_,_,_,_,_,rfl⟩ qu
   by_cases iR:i.isLoad=true
   ·have bD:∀(be:ps (i.ptrOf A.t)=false),∀k,A.b k≠none->A'.b k=A.b k:=fun be k U=>ar (LV iR) k (.inl ((aj iR).resolve_right (by rw[be];simp))) U;cases i<;>simp only[dQ.isLoad]at iR<;>try(cases iR;done)
    case mget bo zero ok y z=>simp only[cS.looks,cH.looks,dQ.looks]at az;obtain⟨t1,t2⟩:=gH az;refine⟨c,p,?_,J,fun _=>.inr (aj rfl),aO⟩;simp only[jZ]at I⊢;rw[<-eh t1,<-eh t2];exact Eo (bD rfl) I
    case ment y=>simp only[cS.looks,cH.looks,dQ.looks]at az;refine⟨c,p,?_,J,fun _=>.inr (aj rfl),aO⟩;simp only[jZ]at I⊢;rw[<-eh az];exact Nk (bD rfl) I
    case mlen y=>simp only[cS.looks,cH.looks,dQ.looks]at az;refine⟨c,p,?_,J,fun _=>.inr (aj rfl),aO⟩;simp only[jZ]at I⊢;rw[<-eh az];exact Nn (bD rfl) I
    case loadB agg sz y=>exact absurd ⟨_,_,_,rfl⟩ hB
    case mgetB=>exact absurd ⟨_,_,_,_,_,rfl⟩ qu
    rename_i agg sz y;simp only[cS.looks,cH.looks,dQ.looks]at az;have o7:=eh az;refine⟨c,p,?_,J,fun _=>.inr (by have:=aj rfl;simpa only[dQ.ptrOf,<-o7]using this),aO⟩;rw[<-I];simp only[jZ,<-o7];have hm:=ar (by simp[cS.mode,dQ.isLoad]);simp only[jZ]at I;have se:=aj rfl;simp only[dQ.ptrOf]at se;cases be:cd A.t y<;>simp only[lK]
    ·rename_i key off;rw[be]at I se;simp only[lK]at I;cases aa:A.b key with
     |none=>simp[aa]at I
     |some cs=>have:A'.b key=A.b key:=hm key (by rcases se with h|h;exact .inl h;cases key;exact .inr ⟨_,rfl⟩;simp[ps]at h) (by rw[aa];simp);rw[this,aa]
    ·rename_i cj key n i f;rw[be]at I se;simp only[lK]at I;have yd:q=true:=se.resolve_right (by simp[ps]);unfold pN at I;split at I
     ·rename_i n' el fL xs he;rw[he,Mg (by simp[cS.mode,dQ.isLoad]) yd key _ he Ψ]
     ·cases I
   ·have iR:i.isLoad=false:=by simpa using iR
    refine⟨c,p,?_,J,(fun e=>by rw[iR]at e;cases e),aO⟩;rw[<-I];exact(PA (by simpa only[cS.looks,cH.looks]using az) iR).symm
  |box d key v=>
   cases key with
   |some m=>simp only[cG]at h
   |none=>simp only[cG,cS.looks,cH.looks]at h az⊢;obtain⟨I,J,aj⟩:=h;rw[<-eh az];exact⟨aU d rfl (.inl rfl) I,J,aj⟩
  |alloc d key z=>
   cases key with
   |some m=>simp only[cG]at h
   |none=>simp only[cG]at h⊢;exact⟨aU d rfl (.inl rfl) h.1,h.2⟩
  |store sz u v=>simp only[cG,cS.looks,cH.looks]at h az⊢;obtain⟨I,J⟩:=gH az;rw[<-eh I,<-eh J];obtain⟨k,off,cs,g1,g2,g3,g4⟩:=h;exact⟨k,off,cs,g1,by rw[hw rfl];exact g2,g3,g4⟩
  |bsl d sz el xs=>simp only[cG,cS.looks,cH.looks]at h az⊢;rw[<-vk az];exact⟨aU d rfl (.inr (.inl rfl)) h.1,h.2⟩
  |app d sz el u v=>
   simp only[cG,cS.looks,cH.looks]at h az⊢;obtain⟨I,J⟩:=gH az;rw[<-eh I,<-eh J];obtain⟨tag,xs,hd,ys,g1,g2,h⟩:=h;refine⟨tag,xs,hd,ys,g1,g2,?_⟩;rcases h with⟨k,o,ai,aK,bu⟩|⟨ai,aK,bu,cP⟩
   ·exact .inl ⟨k,o,ai,bE rfl k o aK,bu⟩
   ·exact .inr ⟨ai,aK,aU d rfl (.inr (.inr (.inl rfl))) bu,cP⟩
  |bslm d key sz el xs=>simp only[cG]at h
  |mks d key sz el z x=>simp only[cG]at h
  |apps d el x y=>simp only[cG]at h
  |appm d key sz el u v=>simp only[cG,cS.looks,cH.looks]at h az⊢;obtain⟨I,J⟩:=gH az;rw[<-eh I,<-eh J];obtain⟨k,n,xs,hd,ys,g1,g2,g3,g4,g5⟩:=h;exact⟨k,n,xs,hd,ys,g1,g2,sH rfl k _ g3 Ψ,g4,g5⟩
  |storeE sz u v=>simp only[cG,cS.looks,cH.looks]at h az⊢;obtain⟨I,J⟩:=gH az;rw[<-eh I,<-eh J];obtain⟨k,n,i,f,el,cj,xs,q,g1,g2,g3⟩:=h;exact⟨k,n,i,f,el,cj,xs,q,g1,sH rfl k _ g2 Ψ,g3⟩
  |mkmap d key=>
   cases key with
   |none=>simp only[cG]at h
   |some m=>simp only[cG]at h⊢;exact⟨Mx rfl m h.1,h.2⟩
  |mput bo u k v=>simp only[cG,cS.looks,cH.looks]at h az⊢;obtain⟨t1,t3⟩:=gH az;obtain⟨t1,t2⟩:=gH t1;obtain⟨m,cs,cs',g1,g2,g3,g4⟩:=h;rw[<-eh t1,<-eh t2,<-eh t3];exact⟨m,cs,cs',g1,by rw[hw rfl];exact g2,g3,g4⟩
  |range d key x=>simp only[cG]at h
 |next d x=>simp only[cG]at h
 |opn d f x=>simp only[cG]at h
 |call d f xs=>
  simp only[cG,cS.looks]at h az⊢;obtain⟨I,J⟩:=gH az;rw[<-eh I,<-vk J];obtain⟨n,bX,g1,h⟩:=h;rcases h with⟨⟨s,ah,r,rm,cO,c2,c3,c4,c5,jj⟩,g3⟩|⟨ec,r,rfl,cO,c2⟩;rotate_left
  ·exact⟨n,bX,g1,.inr ⟨ec,r,rfl,aU ec rfl (.inr (.inr (.inr rfl))) cO,c2⟩⟩
  refine⟨n,bX,g1,.inl ⟨⟨s,ah,r,rm,fun k cs U=>?_,fun k o U=>?_,c3,c4,⟨c5.1,c5.2.1,c5.2.2.1,c5.2.2.2.1,fun k U=>?_⟩,jj⟩,g3⟩⟩
  ·cases k with
   |loc m=>rw[c3.1 m]at U;cases U
   |obj m=>rw[(al rfl m).1];exact cO _ _ U
  ·cases k with
   |loc m=>rw[c3.2 m]at U;cases U
   |obj m=>rw[(al rfl m).2.1];exact c2 _ _ U
  ·obtain⟨⟨j,rfl⟩,d2,d3,d4,d5⟩:=c5.2.2.2.2 k U;exact⟨⟨j,rfl⟩,(al rfl j).2.2 d2,by rw[(al rfl j).1];exact d3,by rw[(al rfl j).2.1];exact d4,d5⟩
def hs(d:aW Nat):gV:=⟨d,.tuple [],[],[],none⟩
def gW(P:bj)(q:Bool)(n0:Nat)(g:bO)(A:b1)(x:gV):Prop:=
 match g.g with
 |none=>cG P q n0 g.i A x
 |some (s,w)=>match A.t s with
  | .bool b=>(b=w/\cG P q n0 g.i A x)\/(b= !w/\x=hs g.i.dst)
  | .tuple []=>x=hs g.i.dst
  |_=>cU
def dp:rI->rI->Bool
 | .v,_=>true
 |_,.v=>true
 | .l,.l| .l,.n| .l,.s| .l,.a| .l,.c=>true
 | .n,.n| .n,.s| .n,.a| .n,.c=>true
 | .s,.l| .s,.n| .s,.s| .s,.c=>true
 | .a,.l| .a,.n| .a,.s=>true
 | .c,.l| .c,.n| .c,.s=>true
 | .l,.m| .m,.l| .m,.m| .m,.n| .m,.s| .m,.a| .s,.m| .a,.m=>true
 | .l,.k| .m,.k| .n,.k| .s,.k=>true
 | .m,.r| .r,.m| .r,.n| .r,.s| .n,.r| .s,.r| .r,.w| .w,.r=>true
 |_,_=>false
def qp(g h:bO):Bool:=(match g.i.dst with|some d=> !(h.looks.contains d)&&h.i.dst !=some d|none=>true)&&(match h.i.dst with|some d=> !(g.looks.contains d)|none=>true)&&dp g.i.mode h.i.mode
theorem Gc(q:Bool)(n0:Nat)(m:rI)(d:aW Nat)(A:b1):wC q n0 m d A (hs d):=⟨rfl,fun k U=>by simp[hs,look]at U,fun k U=>by simp[hs,look]at U,fun k U=>by simp[hs]at U,fun _ k o U=>by simp[hs,look]at U,fun _ k o U=>by simp[hs,look]at U⟩
theorem zV{P:bj}{q:Bool}{n0:Nat}{g:bO}{A:b1}{x:gV}(h:gW P q n0 g A x):wC q n0 g.i.mode g.i.dst A x:=by
 unfold gW at h;split at h
 ·exact Gb h
 ·split at h
  ·rcases h with⟨_,h⟩|⟨_,rfl⟩
   ·exact Gb h
   ·exact Gc _ _ _ _ _
  ·subst h;exact Gc _ _ _ _ _
  ·exact h.elim
theorem mb{A:b1}{x:gV}{k:av}(h:look k x.bw=none):(A.do x).b k=A.b k:=by simp[b1.do,fj,h]
theorem mc{A:b1}{x:gV}{k:av}(h:look k x.ew=none):(A.do x).e k=A.e k:=by simp[b1.do,fj,h]
theorem w4{A:b1}{x:gV}{k:av}(h:(A.do x).b k=none):A.b k=none:=by
 simp only[b1.do,fj]at h;split at h
 ·cases h
 ·exact h
theorem w5{A:b1}{x:gV}{k:av}(h:(A.do x).e k=none):A.e k=none:=by
 simp only[b1.do,fj]at h;split at h
 ·cases h
 ·exact h
theorem hL{α:Type}{o:aW α}(h:¬o.isSome):o=none:=by cases o<;>simp at h⊢
theorem Aw{P:bj}{q:Bool}{n0:Nat}{g:bO}{A A':b1}{x:gV}(h:gW P q n0 g A x)(az:kA g.looks A.t A'.t)(hm:cG P q n0 g.i A x->cG P q n0 g.i A' x):gW P q n0 g A' x:=by
 unfold gW at h⊢;cases aG:g.g with
 |none=>simp only[aG]at h⊢;exact hm h
 |some pT=>
  obtain⟨s,w⟩:=pT;have:A.t s=A'.t s:=az s (by simp[bO.looks,aG]);simp only[aG,this]at h⊢;split at h
  ·rcases h with⟨I,J⟩|h
   ·exact .inl ⟨I,hm J⟩
   ·exact .inr h
  ·exact h
  ·exact h
theorem swap{P:bj}{q:Bool}{n0:Nat}{g h:bO}(Dh:qp g h=true){A:b1}{x y:gV}(ad:gW P q n0 g A x)(b6:gW P q n0 h (A.do x) y):
  gW P q n0 h A y/\gW P q n0 g (A.do y) x/\x.apart y:=by
 simp only[qp,bt]at Dh;obtain⟨⟨mo,qy⟩,hm⟩:=Dh;have jX:=zV ad;have cD:∀d dR,g.i.dst=some d->h.i.dst=some dR->d≠dR:=by intro d dR ai aK e;simp only[ai,bt,bne_iff_ne]at mo;exact mo.2 (by rw[aK,e])
 have uB:kA h.looks (A.do x).t A.t:=by intro i aM;simp only[b1.do];rw[bT];intro e;rw[jX.d]at e;simp only[e,bt,Bool.not_eq_true',List.contains_eq_mem,decide_eq_false_iff_not]at mo;exact mo.1 aM
 have od:∀k,(look k x.bw).isSome->_:=jX.b;have hle:∀k,(look k x.ew).isSome->_:=jX.e;have D4:gW P q n0 h A y:=by
  refine Aw b6 uB fun xE=>Au xE (fun i aM=>uB i (by simp[bO.looks,aM])) (fun e k U aa=>?_) (fun e k aa=>?_) (fun e bD k o ab iA=>?_) (fun d aY Dr hE=>?_) (fun e k o ab=>?_) (fun e k=>?_) (fun e m hE=>⟨hE.1.1,w4 hE.2.1,w5 hE.2.2⟩) (fun e k o ab iA=>?_) (fun e m=>?_)
  ·rw[mb (hL fun af=>?_)];rcases od k af with⟨ai,_⟩|ai|⟨ai,⟨j,aK⟩,bu⟩|⟨ai,_⟩;rotate_left 3
   ·rw[e,ai]at hm;simp[dp]at hm
   ·rw[e,ai]at hm;simp[dp]at hm
   ·rw[e,ai]at hm;simp[dp]at hm
   ·rcases U with U|⟨m,U⟩
    ·rw[U]at bu;cases bu
    ·rw[U]at aK;cases aK
  ·rw[mb (hL fun af=>?_)];rcases od k af with⟨ai,_⟩|ai|⟨ai,_⟩|⟨ai,_⟩<;>(rw[e,ai]at hm;simp[dp]at hm)
  ·rw[e]at hm;cases fl:look k x.ew with
   |none=>rw[mc fl]at ab;exact ab
   |some o'=>
    exfalso;have yb:(A.do x).e k=some o':=by simp[b1.do,fj,fl]
    rw[yb]at ab;cases ab;rcases hle k (by simp[fl])with⟨ai,_⟩|⟨ai,_⟩|⟨ai,_,bu⟩|⟨ai,_⟩
    ·exact iA (jX.xn (.inr ai) k _ fl)
    ·exact iA (jX.xn (.inl ai) k _ fl)
    ·rw[bD]at bu;cases bu
    ·rw[ai]at hm;simp[dp]at hm
  ·exact⟨hE.1.1,w4 hE.2.1,w5 hE.2.2⟩
  ·rw[mc (hL fun af=>?_)]at ab
   ·exact ab
   ·rw[e]at hm;rcases hle k af with⟨ai,_⟩|⟨ai,_⟩|⟨ai,_⟩|⟨ai,_⟩<;>(rw[ai]at hm;simp[dp]at hm)
  ·rw[mb (hL fun af=>?_)];rw[e]at hm;rcases od k af with⟨ai,_⟩|ai|⟨ai,_⟩|⟨ai,_⟩<;>(rw[ai]at hm;simp[dp]at hm)
  ·rw[e]at hm;cases fl:look k x.ew with
   |none=>rw[mc fl]at ab;exact ab
   |some o'=>
    exfalso;have yb:(A.do x).e k=some o':=by simp[b1.do,fj,fl]
    rw[yb]at ab;cases ab;rcases hle k (by simp[fl])with⟨ai,_⟩|⟨ai,_⟩|⟨ai,_⟩|⟨ai,_⟩
    ·exact iA (jX.xn (.inr ai) k _ fl)
    ·rw[ai]at hm;simp[dp]at hm
    ·rw[ai]at hm;simp[dp]at hm
    ·rw[ai]at hm;simp[dp]at hm
  ·rw[e]at hm;refine⟨?_,?_,fun eM=>eM.1⟩
   ·rw[mb (hL fun af=>?_)];rcases od _ af with⟨ai,d,_,aK,_⟩|ai|⟨ai,_⟩|⟨ai,_⟩;rotate_left 3
    ·rw[ai]at hm;simp[dp]at hm
    ·cases aK
    ·rw[ai]at hm;simp[dp]at hm
    ·rw[ai]at hm;simp[dp]at hm
   ·rw[mc (hL fun af=>?_)];rcases hle _ af with⟨ai,d,_,aK,_⟩|⟨ai,_⟩|⟨ai,_⟩|⟨ai,_⟩
    ·cases aK
    ·rw[ai]at hm;simp[dp]at hm
    ·rw[ai]at hm;simp[dp]at hm
    ·rw[ai]at hm;simp[dp]at hm
 have ty:=zV D4;have C4:kA g.looks A.t (A.do y).t:=by intro i aM;simp only[b1.do];rw[bT];intro e;rw[ty.d]at e;simp only[e,Bool.not_eq_true',List.contains_eq_mem,decide_eq_false_iff_not]at qy;exact qy aM
 refine⟨D4,?_,?_⟩
 ·refine Aw ad C4 fun xE=>Au xE (fun i aM=>C4 i (by simp[bO.looks,aM])) (fun e k U aa=>?_) (fun e k aa=>?_) (fun e bD k o ab iA=>?_) (fun d aY Dr hE=>?_) (fun e k o ab=>?_) (fun e k=>?_) (fun e m hE=>?_) (fun e k o ab iA=>?_) (fun e m=>?_)
  ·refine mb (hL fun af=>?_);rcases ty.b k af with⟨ai,d,_,_,aK,_⟩|ai|⟨ai,⟨j,aK⟩,bu⟩|⟨_,_,aK,_⟩;rotate_left 3
   ·exact aa aK
   ·exact aa aK
   ·rw[e,ai]at hm;simp[dp]at hm
   ·rcases U with U|⟨m,U⟩
    ·rw[U]at bu;cases bu
    ·rw[U]at aK;cases aK
  ·refine mb (hL fun af=>?_);rcases ty.b k af with⟨ai,d,_,_,aK,_⟩|ai|⟨ai,_⟩|⟨_,_,aK,_⟩;rotate_left 3
   ·exact aa aK
   ·exact aa aK
   ·rw[e,ai]at hm;simp[dp]at hm
   ·rw[e,ai]at hm;simp[dp]at hm
  ·rw[mc (hL fun af=>?_)]
   ·exact ab
   ·rcases ty.e k af with⟨ai,d,_,_,_,aK⟩|⟨ai,aK⟩|⟨ai,_,bu⟩|⟨ai,_⟩
    ·rw[aK]at ab;cases ab
    ·exact iA (ty.ex ai k o af ab)
    ·rw[bD]at bu;cases bu
    ·rw[e,ai]at hm;simp[dp]at hm
  ·refine⟨⟨hE.1,fun mU=>?_⟩,?_,?_⟩
   ·rcases ty.r _ mU with⟨dR,ai,aK⟩|⟨_,⟨j,aK⟩,_⟩
    ·simp only[av.loc.injEq]at aK;exact cD d dR aY ai Ω
    ·cases aK
   ·rw[mb (hL fun af=>?_)]
    ·exact hE.2.1
    ·rcases ty.b _ af with⟨ai,dR,aK,bu,_⟩|ai|⟨ai,⟨j,aK⟩,_⟩|⟨ai,⟨j,aK⟩,_⟩;rotate_left 3
     ·cases aK
     ·simp only[av.loc.injEq]at bu;exact cD d dR aY aK Ω
     ·rcases Dr with aK|aK|aK|aK<;>(rw[ai,aK]at hm;simp[dp]at hm)
     ·cases aK
   ·rw[mc (hL fun af=>?_)]
    ·exact hE.2.2
    ·rcases ty.e _ af with⟨ai,dR,aK,bu,_⟩|⟨ai,aK⟩|⟨ai,⟨j,aK⟩,_⟩|⟨ai,o,aK,_⟩
     ·simp only[av.loc.injEq]at bu;exact cD d dR aY aK Ω
     ·rcases aK with aK|⟨dR,aK,bu,_⟩
      ·exact aK hE.2.2
      ·simp only[av.loc.injEq]at bu;exact cD d dR aY aK Ω
     ·cases aK
     ·rw[hE.2.2]at aK;cases aK
  ·rw[mc (hL fun af=>?_)]
   ·exact ab
   ·rw[e]at hm;rcases ty.e k af with⟨ai,d,_,_,_,aK⟩|⟨ai,_⟩|⟨ai,_⟩|⟨ai,_⟩
    ·rw[aK]at ab;cases ab
    ·rw[ai]at hm;simp[dp]at hm
    ·rw[ai]at hm;simp[dp]at hm
    ·rw[ai]at hm;simp[dp]at hm
  ·refine mb (hL fun af=>?_);rw[e]at hm;rcases ty.b k af with⟨ai,_⟩|ai|⟨ai,_⟩|⟨ai,_⟩<;>(rw[ai]at hm;simp[dp]at hm)
  ·rw[e]at hm;refine⟨⟨hE.1,fun mU=>?_⟩,?_,?_⟩
   ·rcases ty.r _ mU with⟨dR,ai,aK⟩|⟨ai|ai,_⟩
    ·cases aK
    ·rw[ai]at hm;simp[dp]at hm
    ·rw[ai]at hm;simp[dp]at hm
   ·rw[mb (hL fun af=>?_)]
    ·exact hE.2.1
    ·rcases ty.b _ af with⟨ai,_⟩|ai|⟨ai,_⟩|⟨ai,_⟩<;>(rw[ai]at hm;simp[dp]at hm)
   ·rw[mc (hL fun af=>?_)]
    ·exact hE.2.2
    ·rcases ty.e _ af with⟨ai,_⟩|⟨ai,_⟩|⟨ai,_⟩|⟨ai,o,aK,_⟩
     ·rw[ai]at hm;simp[dp]at hm
     ·rw[ai]at hm;simp[dp]at hm
     ·rw[ai]at hm;simp[dp]at hm
     ·rw[hE.2.2]at aK;cases aK
  ·rw[mc (hL fun af=>?_)]
   ·exact ab
   ·rw[e]at hm;rcases ty.e k af with⟨ai,d,_,_,_,aK⟩|⟨ai,_⟩|⟨ai,_⟩|⟨ai,_⟩
    ·rw[aK]at ab;cases ab
    ·rw[ai]at hm;simp[dp]at hm
    ·rw[ai]at hm;simp[dp]at hm
    ·rw[ai]at hm;simp[dp]at hm
  ·rw[e]at hm;refine⟨?_,?_,fun eM=>⟨eM,fun mU=>?_⟩⟩;rotate_left 2
   ·rcases ty.r _ mU with⟨dR,_,aK⟩|⟨aK|aK,_⟩
    ·cases aK
    ·rw[aK]at hm;simp[dp]at hm
    ·rw[aK]at hm;simp[dp]at hm
   ·refine mb (hL fun af=>?_);rcases ty.b _ af with⟨ai,d,_,aK,_⟩|ai|⟨ai,_⟩|⟨ai,_⟩;rotate_left 3
    ·rw[ai]at hm;simp[dp]at hm
    ·cases aK
    ·rw[ai]at hm;simp[dp]at hm
    ·rw[ai]at hm;simp[dp]at hm
   ·refine mc (hL fun af=>?_);rcases ty.e _ af with⟨ai,d,_,aK,_⟩|⟨ai,_⟩|⟨ai,_⟩|⟨ai,_⟩
    ·cases aK
    ·rw[ai]at hm;simp[dp]at hm
    ·rw[ai]at hm;simp[dp]at hm
    ·rw[ai]at hm;simp[dp]at hm
 ·refine⟨fun i aM e=>?_,fun k U=>hL fun af=>?_,fun k U=>hL fun af=>?_⟩
  ·rw[jX.d]at aM;rw[ty.d]at e;exact cD i i aM e rfl
  ·rcases od k U with⟨bk,d,a2,a3,_⟩|bk|⟨bk,⟨j,a2⟩,_⟩|⟨bk,_⟩<;>rcases ty.b k af with⟨bJ,dR,bQ,ey,_⟩|bJ|⟨bJ,⟨dn,bQ⟩,_⟩|⟨bJ,⟨dn,bQ⟩,_⟩;all_goals first|(rw[bk,bJ]at hm;simp[dp]at hm;done)|skip
   ·rw[a3]at ey;simp only[av.loc.injEq]at ey;exact cD d dR a2 bQ Ω
   ·rw[a3]at bQ;cases bQ
   ·rw[a3]at bQ;cases bQ
   ·rw[a2]at ey;cases ey
  ·rcases hle k U with⟨bk,d,a2,a3,_,a4⟩|⟨bk,a2⟩|⟨bk,⟨j,a2⟩,_⟩|⟨bk,hY,a2,_⟩<;>rcases ty.e k af with⟨bJ,dR,bQ,ey,_,qd⟩|⟨bJ,bQ⟩|⟨bJ,⟨dn,bQ⟩,_⟩|⟨bJ,gQ,bQ,_⟩
   ·rw[a3]at ey;simp only[av.loc.injEq]at ey;exact cD d dR a2 bQ Ω
   ·rw[bk,bJ]at hm;simp[dp]at hm
   ·rw[a3]at bQ;cases bQ
   ·rw[a4]at bQ;cases bQ
   ·rcases a2 with a2|⟨d,a2,a3,_⟩
    ·exact a2 qd
    ·rw[a3]at ey;simp only[av.loc.injEq]at ey;exact cD d dR a2 bQ Ω
   ·rw[bk,bJ]at hm;simp[dp]at hm
   ·rw[bk,bJ]at hm;simp[dp]at hm
   ·rw[bk,bJ]at hm;simp[dp]at hm
   ·rw[a2]at ey;cases ey
   ·rw[bk,bJ]at hm;simp[dp]at hm
   ·rw[bk,bJ]at hm;simp[dp]at hm
   ·rw[bk,bJ]at hm;simp[dp]at hm
   ·rw[qd]at a2;cases a2
   ·rw[bk,bJ]at hm;simp[dp]at hm
   ·rw[bk,bJ]at hm;simp[dp]at hm
   ·rw[bk,bJ]at hm;simp[dp]at hm
def oN(C:c7)(A:b1)(a:Act)(w:World):Prop:= ∃st ν,hx st A/\(∀k,A.F k->fresh st.n st.o k)/\bH C st a w ν
theorem yL{st:aS}{A:b1}(h:hx st A)(d:Nat)(p:ae):hx {st with t:=put d p st.t} (A.do ⟨some d,p,[],[],none⟩):=by
 refine⟨fun i=>?_,fun k=>?_,fun k=>?_⟩
 ·simp only[b1.do,j3,cR,h.t]
 ·simpa[b1.do,fj,look]using h.b k
 ·simpa[b1.do,fj,look]using h.e k
theorem Eh{st:aS}{A:b1}(h:hx st A)(d:Nat)(p:ae)(o':List av)(rm:aW av):hx {st with t:=put d p st.t,o:=o'} (A.do ⟨some d,p,[],[],rm⟩):=by have:=yL h d p;exact⟨this.t,this.b,this.e⟩
theorem GG{α:Type}{β:Type}:∀l:List (av×α),ba ([]:List (av×β)) l=l
 |[]=>rfl
 |(k,x)::r=>by simp[ba,look,GG r]
theorem qR{st:aS}{A:b1}(h:hx st A)(d:Nat)(p:ae)(κ:av)(cs:List ae)(n':Nat)(o':List av)(rm:aW av):hx ⟨put d p st.t,bV κ cs st.b,st.e,n',o'⟩ (A.do ⟨some d,p,[(κ,cs)],[],rm⟩):=by
 refine⟨fun i=>?_,fun k=>?_,fun k=>?_⟩
 ·simp only[b1.do,j3,cR,h.t]
 ·simp only[b1.do,fj,look,gb,h.b];by_cases e:κ=k<;>simp[e]
 ·simpa[b1.do,fj,look]using h.e k
theorem vh{st:aS}{A:b1}(h:hx st A)(κ:av)(cs:List ae)(p:ae):hx {st with b:=bV κ cs st.b} (A.do ⟨none,p,[(κ,cs)],[],none⟩):=by
 refine⟨fun i=>?_,fun k=>?_,fun k=>?_⟩
 ·simpa[b1.do]using h.t i
 ·simp only[b1.do,fj,look,gb,h.b];by_cases e:κ=k<;>simp[e]
 ·simpa[b1.do,fj,look]using h.e k
theorem ox{st:aS}{A:b1}(h:hx st A)(d:Nat)(p:ae)(κ:av)(o:cC)(n':Nat)(o':List av)(rm:aW av):hx ⟨put d p st.t,st.b,bV κ o st.e,n',o'⟩ (A.do ⟨some d,p,[],[(κ,o)],rm⟩):=by
 refine⟨fun i=>?_,fun k=>?_,fun k=>?_⟩
 ·simp only[b1.do,j3,cR,h.t]
 ·simpa[b1.do,fj,look]using h.b k
 ·simp only[b1.do,fj,look,gb,h.e];by_cases e:κ=k<;>simp[e]
theorem Eg{st:aS}{A:b1}(h:hx st A)(κ:av)(o:cC)(p:ae):hx {st with e:=bV κ o st.e} (A.do ⟨none,p,[],[(κ,o)],none⟩):=by
 refine⟨fun i=>?_,fun k=>?_,fun k=>?_⟩
 ·simpa[b1.do]using h.t i
 ·simpa[b1.do,fj,look]using h.b k
 ·simp only[b1.do,fj,look,gb];by_cases e:κ=k<;>simp[e,h.e]
theorem yU{α:Type}{k:av}:∀{l:List (av×α)},k∈l.map (·.1)->(look k l).isSome
 |[],h=>by simp at h
 |(i,x)::r,h=>by
  simp only[look];split
  ·rfl
  ·rename_i e;simp only[eU,ft]at h;rcases h with h|h
   ·exact absurd h.symm e
   ·exact yU h
theorem n2{n:Nat}{o:List av}{κ:av}:∀j,fresh n (κ::o) j->fresh n o j/\j≠κ:=by intro j aC;simp only[fresh,ft,not_or]at aC⊢;exact⟨⟨aC.1,aC.2.2⟩,aC.2.1⟩
theorem Kp{n:Nat}{o:List av}{κ j:av}(h:fresh n o j)(aC:some κ≠some j):fresh n (κ::o) j:=by simp only[fresh,ft,not_or]at h⊢;exact⟨h.1,fun e=>aC (by rw[e]),h.2⟩
theorem Av{P:bj}{aR:List (Nat×cw)}(az:eD P aR=true){C:c7}{q:Bool}{n0:Nat}{i:cS}{o:Oper}(ab:mE C.N aR i o=true){A:b1}{x:gV}(ad:cG P q n0 i A x){a:Act}{w:World}(hr:oN C A a w)
  {K:Act->World->Prop} {Q:Exit->Act->World->Prop} (ch:∀ca w',oN C (A.do x) ca w'->K ca w'):o.wp P a w K Q:=by
 obtain⟨st,ν,ar,eM,hr⟩:=hr;have o2:∀(t:List (Nat×ae)) (b:List (av×List ae)) (e:List (av×cC)) (d:aW Nat) (p:ae) (bw:List (av×List ae)) (ew:List (av×cC)),∀k,(A.do ⟨d,p,bw,ew,none⟩).F k->fresh st.n st.o k:=fun t b e d p bw ew k U=>eM k U.1;have j4:∀(d:aW Nat) (p:ae) (bw:List (av×List ae)) (ew:List (av×cC)) (κ:av),∀k,(A.do ⟨d,p,bw,ew,some κ⟩).F k->fresh st.n (κ::st.o) k:=fun d p bw ew κ k U=>Kp (eM k U.1) U.2;cases i with
 |s i=>
  have eX:k2 C.N aR i o=true:=by simpa only[mE]using ab
  cases i with
  |v d i=>simp only[cG]at ad;obtain⟨c,p,I,J,_,rfl⟩:=ad;rw[<-Gi ar]at I;refine gg (κ:= .loc 0) (n':=0) (o₁:=[]) az hr eX (fun h=>by simp[cH.makes]at h) (fun h=>by simp[cH.makes]at h) (st':={st with t:=put d p st.t}) (by simp only[cW,I]) J fun ca w' ν' b3=>ch _ _ ⟨_,ν',yL ar d p,fun k U=>eM k U.1,b3⟩
  |box d key v=>
   cases key with
   |some m=>simp only[cG]at ad
   |none=>simp only[cG]at ad;obtain⟨⟨I,_⟩,J,rfl⟩:=ad;rw[<-fv ar]at J;refine gg (κ:= .loc (n0+d)) (n':=st.n) (o₁:= .loc (n0+d)::st.o) az hr eX (fun _=>eM _ I) (fun _=>n2) (st':=⟨put d (.ptr (.loc (n0+d)) 0) st.t,bV (.loc (n0+d)) (cells (bf st.t v)) st.b,st.e,st.n,.loc (n0+d)::st.o⟩) (by simp only[cW]) J fun ca w' ν' b3=>ch _ _ ⟨_,ν',?_,j4 _ _ _ _ _,b3⟩;rw[fv ar];exact qR ar d _ _ _ _ _ _
  |alloc d key z=>
   cases key with
   |some m=>simp only[cG]at ad
   |none=>simp only[cG]at ad;obtain⟨⟨I,_⟩,rfl⟩:=ad;refine gg (κ:= .loc (n0+d)) (n':=st.n) (o₁:= .loc (n0+d)::st.o) az hr eX (fun _=>eM _ I) (fun _=>n2) (st':=⟨put d (.ptr (.loc (n0+d)) 0) st.t,bV (.loc (n0+d)) (cells z) st.b,st.e,st.n,.loc (n0+d)::st.o⟩) (by simp only[cW]) trivial fun ca w' ν' b3=>ch _ _ ⟨_,ν',qR ar d _ _ _ _ _ _,j4 _ _ _ _ _,b3⟩
  |store sz u v=>simp only[cG]at ad;obtain⟨k,off,cs,I,J,aj,rfl⟩:=ad;rw[<-fv ar]at I aj;rw[<-ar.b]at J;refine gg (κ:= .loc 0) (n':=0) (o₁:=[]) az hr eX (fun h=>by simp[cH.makes]at h) (fun h=>by simp[cH.makes]at h) (st':={st with b:=bV k (jA cs off (cells (bf st.t v))) st.b}) (by simp only[cW,I,J]) aj fun ca w' ν' b3=>ch _ _ ⟨{st with b:=bV k (jA cs off (cells (bf st.t v))) st.b},ν',by rw[fv ar];exact vh ar k _ _,fun k U=>eM k U.1,b3⟩
  |bsl d sz el xs=>simp only[cG]at ad;obtain⟨⟨I,_⟩,J,rfl⟩:=ad;rw[<-mW ar]at J;refine gg (κ:= .loc (n0+d)) (n':=st.n) (o₁:= .loc (n0+d)::st.o) az hr eX (fun _=>eM _ I) (fun _=>n2) (st':=⟨put d (.slice sz (.own (.loc (n0+d))) (xs.map (bf st.t))) st.t,st.b,bV (.loc (n0+d)) ⟨xs.length,el,sz,none⟩ st.e,st.n,.loc (n0+d)::st.o⟩) (by simp only[cW]) J fun ca w' ν' b3=>ch _ _ ⟨_,ν',?_,j4 _ _ _ _ _,b3⟩;rw[mW ar];exact ox ar d _ _ _ _ _ _
  |app d sz el u v=>
   simp only[cG]at ad;obtain⟨tag,xs,hd,ys,I,J,ad⟩:=ad;rw[<-fv ar]at I J;rcases ad with⟨k,ow,rfl,aj,aO,rfl⟩|⟨rfl,aj,⟨aO,_⟩,rfl⟩
   ·rw[<-ar.e]at aj;refine gg (κ:= .loc 0) (n':=0) (o₁:=[]) az hr eX (fun h=>by simp[cH.makes,I]at h) (fun h=>by simp[cH.makes,I]at h) (st':=⟨put d (.slice sz (.own k) (xs++ys)) st.t,st.b,bV k ⟨xs.length+ys.length,el,sz,none⟩ st.e,st.n,st.o⟩) (by simp only[cW,I,J,aj,and_self,if_true]) aO.2 fun ca w' ν' b3=>ch _ _ ⟨_,ν',ox ar d _ _ _ _ _ _,fun k U=>eM k U.1,b3⟩
   ·refine gg (κ:= .loc (n0+d)) (n':=st.n) (o₁:= .loc (n0+d)::st.o) az hr eX (fun _=>eM _ aO) (fun _=>n2) (st':=⟨put d (.slice sz (.own (.loc (n0+d))) ys) st.t,st.b,bV (.loc (n0+d)) ⟨ys.length,el,sz,none⟩ st.e,st.n,.loc (n0+d)::st.o⟩) (by simp only[cW,I,J,and_self,if_true]) aj fun ca w' ν' b3=>ch _ _ ⟨_,ν',ox ar d _ _ _ _ _ _,j4 _ _ _ _ _,b3⟩
  |bslm d key sz el xs=>simp only[cG]at ad
  |mks d key sz el z x=>simp only[cG]at ad
  |apps d el x y=>simp only[cG]at ad
  |appm d key sz el u v=>simp only[cG]at ad;obtain⟨k,n,xs,hd,ys,I,J,aj,aO,rfl⟩:=ad;rw[<-fv ar]at I J;rw[<-ar.e]at aj;refine gg (κ:= .loc 0) (n':=0) (o₁:=[]) az hr eX (fun h=>by simp[cH.makes,I]at h) (fun h=>by simp[cH.makes,I]at h) (st':=⟨put d (.row sz k (xs.length+ys.length)) st.t,st.b,bV k ⟨xs.length+ys.length,el,sz,some (xs++ys)⟩ st.e,st.n,st.o⟩) (by simp only[cW,l7,I,J,aj,and_self,if_true]) aO fun ca w' ν' b3=>ch _ _ ⟨_,ν',ox ar d _ _ _ _ _ _,fun k U=>eM k U.1,b3⟩
  |storeE sz u v=>simp only[cG]at ad;obtain⟨k,n,i,f,el,cj,xs,q,I,J,aj,aO,rfl⟩:=ad;rw[<-fv ar]at I aO;rw[<-ar.e]at J;refine gg (κ:= .loc 0) (n':=0) (o₁:=[]) az hr eX (fun h=>by simp[cH.makes]at h) (fun h=>by simp[cH.makes]at h) (st':={st with e:=bV k ⟨n,el,cj,some (xs.set i (k1 q f (cells (bf st.t v))))⟩ st.e}) (by simp only[cW,k3,I,J,aj,and_self,if_true]) aO fun ca w' ν' b3=>ch _ _ ⟨{st with e:=bV k ⟨n,el,cj,some (xs.set i (k1 q f (cells (bf st.t v))))⟩ st.e},ν',by rw[fv ar];exact Eg ar k _ _,fun k U=>eM k U.1,b3⟩
  |mkmap d key=>
   cases key with
   |none=>simp only[cG]at ad
   |some m=>simp only[cG]at ad;obtain⟨⟨I,_⟩,rfl⟩:=ad;refine gg (κ:= .obj m) (n':=st.n) (o₁:= .obj m::st.o) (hB:=fun e=>AP eX (by cases e;rfl)) az hr eX (fun _=>eM _ I) (fun _=>n2) (st':=⟨put d (.gmap (.obj m)) st.t,bV (.obj m) [.hdm 0 []] st.b,st.e,st.n,.obj m::st.o⟩) (by simp only[cW]) trivial fun ca w' ν' b3=>ch _ _ ⟨_,ν',qR ar d _ _ _ _ _ _,j4 _ _ _ _ _,b3⟩
  |mput bo u k v=>simp only[cG]at ad;obtain⟨m,cs,cs',I,J,aj,rfl⟩:=ad;rw[<-fv ar]at I;rw[<-fv ar,<-fv ar]at aj;rw[<-ar.b]at J;exact gg (κ:= .loc 0) (n':=0) (o₁:=[]) az hr eX (fun h=>by simp[cH.makes]at h) (fun h=>by simp[cH.makes]at h) (st':={st with b:=bV m cs' st.b}) (by simp only[cW,I,J,aj]) trivial fun ca w' ν' b3=>ch _ _ ⟨{st with b:=bV m cs' st.b},ν',vh ar m _ _,fun k U=>eM k U.1,b3⟩
  |range d key x=>simp only[cG]at ad
 |next d x=>simp only[cG]at ad
 |opn d f x=>simp only[cG]at ad
 |call d f xs=>
  simp only[cG]at ad;obtain⟨n,bX,I,ad⟩:=ad;rw[<-fv ar]at I;rcases ad with⟨⟨s,ah,r,rm,cO,c2,c3,c4,c5,jj,rU,rfl⟩,_⟩|⟨ec,r,rfl,cO,c2,c3,rfl⟩;rotate_left
  ·rw[<-mW ar]at c2 c3;simp only[mE]at ab;split at ab
   ·rename_i iv args nM gx;simp only[bt,cI]at ab;obtain⟨⟨⟨ai,aK⟩,bu⟩,cP⟩:=ab;have ka:=cF hr bu;rw[I]at ka;refine BQ hr gx ai aK ka (rh hr cP) (K:=fun st'=>st'={st with t:=put ec r st.t,o:= .loc (n0+ec)::st.o}) ⟨⟨[],[]⟩,_,some (n0+ec),st.n,fun _=>.loc (n0+ec)::st.o,fun k cs U=>by simp[look]at U,fun k cs U=>by simp[look]at U,⟨fun _=>rfl,fun _=>rfl⟩,mx (fun _ h=>h.elim) _ c2,c3,fun m hm=>?_,fun k dW ah bD U=>?_,?_⟩ ?_
    ·cases hm;exact eM _ cO.1
    ·obtain⟨_,rfl⟩:=bD;have:=n2 k U;exact⟨by simpa[dG]using this.1,fun m hm=>by cases hm;exact this.2⟩
    ·rintro dW jy ⟨rfl,rfl⟩;refine⟨⟨fun m hm=>by simp[look]at hm,fun m hm=>by simp[look]at hm⟩,?_⟩;simp[after,GG,dB]
    ·rintro st' ca w' ν' rfl b3;exact ch _ _ ⟨_,ν',Eh ar ec r _ _,j4 _ _ _ _ _,b3⟩
   ·cases ab
  rw[<-mW ar]at jj rU;simp only[mE]at ab;split at ab
  ·rename_i iv args nM gx;simp only[bt,cI]at ab;obtain⟨⟨⟨ai,aK⟩,bu⟩,cP⟩:=ab;have ka:=cF hr bu;rw[I]at ka;obtain⟨cl,cy,gy,np,kR⟩:=c5;refine BP hr gx ai aK ka (rh hr cP) (K:=fun st'=>st'=after st s ah d r) (.inl ⟨s,_,fun k cs U=>⟨by rw[ar.b];exact(cO k cs U).1,.inl (by simp[U]),(cO k cs U).2⟩,fun k o' U=>⟨by rw[ar.e];exact(c2 k o' U).1,.inr (by simp[U]),(c2 k o' U).2⟩,c3,jj,rU,?_⟩) ?_
   ·rintro dW jy ⟨rfl,rfl⟩;refine⟨⟨fun m hm=>?_,fun m hm=>?_⟩,rfl⟩
    ·rcases cl _ hm with h|h
     ·exact .inl h
     ·exact .inr (eM _ (kR _ h).2.1).2
    ·rcases cy _ hm with h|h
     ·exact .inl h
     ·exact .inr (eM _ (kR _ h).2.1).2
   ·rintro st' ca w' ν' rfl b3;refine ch _ _ ⟨_,ν',⟨fun i=>?_,fun k=>?_,fun k=>?_⟩,fun k U=>?_,b3⟩
    ·simp only[after,b1.do];cases d with
     |none=>simpa[dB]using ar.t i
     |some d=>simp only[dB,j3,cR,ar.t]
    ·simp only[after,b1.do,fj,pz,mz];by_cases af:(look k s.b).isSome
     ·have:=gy k af;obtain⟨y,b6⟩:=dK.1 this;simp[af,b6]
     ·cases aU:look k ah.b with
      |none=>simp only[af,ar.b];cases A.b k<;>simp
      |some y=>
       rcases cl k (by simp[aU])with h|h
       ·exact absurd h af
       ·have:=kR k h;simp[af,ar.b,this]
    ·simp only[after,b1.do,fj,pz,mz];by_cases af:(look k s.e).isSome
     ·have:=np k af;obtain⟨y,b6⟩:=dK.1 this;simp[af,b6]
     ·cases aU:look k ah.e with
      |none=>simp only[af,ar.e];cases A.e k<;>simp
      |some y=>
       rcases cy k (by simp[aU])with h|h
       ·exact absurd h af
       ·have:=kR k h;simp[af,ar.e,this]
    ·have xV:=eM k U.1;have iz:=hr.lookNone xV;simp only[after];refine⟨xV.1,fun hi=>?_⟩;rcases ht.1 hi with hi|hi
     ·exact xV.2 hi
     ·rcases ht.1 hi with hi|hi
      ·rcases cl k (yU hi)with h|h
       ·obtain⟨y,b6⟩:=dK.1 h;have:=(cO k y b6).1;rw[<-ar.b,iz.1]at this;cases this
       ·exact U.2 h
      ·rcases cy k (yU hi)with h|h
       ·obtain⟨y,b6⟩:=dK.1 h;have:=(c2 k y b6).1;rw[<-ar.e,iz.2]at this;cases this
       ·exact U.2 h
  ·cases ab
theorem GZ{P:bj}{aR:List (Nat×cw)}(az:eD P aR=true){C:c7}{q:Bool}{n0:Nat}{ops:Array Oper}{g:bO}{o:Oper}{j:Nat}(aC:ops[j]? =some o)(ab:sb C.N aR ops.toList g o=true){A:b1}{x:gV}(ad:gW P q n0 g A x){a:Act}{w:World}(hr:oN C A a w)
  {K:Act->World->Prop} {Q:Exit->Act->World->Prop} (ch:∀ca w',oN C (A.do x) ca w'->K ca w'):wpOp P ops Q j K a w:=by
 unfold wpOp;rw[aC];simp only;simp only[sb,bt]at ab;obtain⟨jN,qA⟩:=ab;unfold gW at ad;cases sr:g.g with
 |none=>
  cases di:o.guard with
  |some x=>simp[di,sr]at jN
  |none=>
   have hw:jC o (yielded ops a.tmps)=true:=by simp[jC,di]
   rw[cX hw];simp only[sr]at ad;exact .inl (Av az qA ad hr ch)
 |some pT=>
  obtain⟨s,want⟩:=pT;cases di:o.guard with
  |none=>simp[di,sr]at jN
  |some PY=>
   obtain⟨RK,dL⟩:=PY;simp only[di,sr,bt,cI,eu]at jN;obtain⟨⟨⟨⟨rfl,J⟩,aj⟩,aO⟩,bs⟩:=jN;obtain⟨st,ν,ar,eM,cn⟩:=id hr;obtain⟨rE,pX⟩:=GN cn J aj;simp only[sr]at ad;have DJ:∀(h:x=hs g.i.dst),K (a.put o.dst undef) w:=by
    rintro rfl;rw[aO];refine ch _ _ ⟨_,ν,?_,fun k U=>?_,cn.put bs (p:= .tuple []) (by simp[aw,bG,undef])⟩
    ·refine⟨fun i=>?_,fun k=>?_,fun k=>?_⟩
     ·simp only[b1.do,hs];cases g.i.dst with
      |none=>simpa[dB]using ar.t i
      |some d=>simp only[dB,j3,cR,ar.t]
     ·simpa[b1.do,fj,look,hs]using ar.b k
     ·simpa[b1.do,fj,look,hs]using ar.e k
    ·exact eM k U.1
   split at ad
   ·rename_i b aa;have b6:=rE b (by rw[ar.t];exact aa);rcases ad with⟨rfl,ad⟩|⟨rfl,ad⟩
    ·have hw:jC o (yielded ops a.tmps)=true:=by simp[jC,di,b6]
     rw[cX hw];exact .inl (Av az qA ad hr ch)
    ·have hw:¬(jC o (yielded ops a.tmps)=true):=by simp[jC,di,b6]
     rw[bT hw];exact DJ ad
   ·rename_i aa;have b6:=pX (by rw[ar.t];exact aa);have hw:¬(jC o (yielded ops a.tmps)=true):=by simp[jC,di,b6]
    rw[bT hw];exact DJ ad
   ·exact ad.elim
def nV(P:bj)(q:Bool)(n0:Nat)(K:b1->Prop):List (Nat×bO)->b1->Prop
 |[],A=>K A
 |(_,g)::r,A=> ∃x,gW P q n0 g A x/\nV P q n0 K r (A.do x)
theorem AU{P:bj}{q:Bool}{n0:Nat}{K:b1->Prop}{i:Nat}{g:bO}:∀(jd jG:List (Nat×bO)) (A:b1),(∀x∈jd,qp x.2 g=true)->nV P q n0 K (jd++(i,g)::jG) A->∃x,gW P q n0 g A x/\nV P q n0 K (jd++jG) (A.do x)
 |[],jG,A,_,h=>h
 |(j,CU)::jd,jG,A,al,h=>by simp only[cN,nV]at h;obtain⟨y,b6,h⟩:=h;obtain⟨x,ad,h⟩:=AU jd jG (A.do y) (fun z ed=>al z (List.mem_cons_of_mem _ ed)) h;obtain⟨s1,s2,zD⟩:=swap (al _ (List.mem_cons_self ..)) b6 ad;refine⟨x,s1,y,s2,?_⟩;rw[<-b1.do_comm A zD];exact h
def rem(listed:Array Bool):Nat->List bO->List (Nat×bO)
 |_,[]=>[]
 |k,g::r=>if listed.getD k false then rem listed (k+1) r else(k,g)::rem listed (k+1) r
theorem FA{l eA:Array Bool}:∀(gs:List bO) (k:Nat),(∀j,k<=j->l.getD j false=eA.getD j false)->rem l k gs=rem eA k gs
 |[],_,_=>rfl
 |g::r,k,h=>by simp only[rem,h k (dY _),FA r (k+1) fun j aC=>h j Ω]
theorem uq{l:Array Bool}{i j:Nat}(h:i<l.size):(l.setIfInBounds i true).getD j false=if i=j then true else l.getD j false:=by
 simp only[Array.getD_eq_getD_getElem?];by_cases e:i=j
 ·subst e;simp[h]
 ·simp[e]
theorem zr{l:Array Bool}{i:Nat}(aM:i<l.size)(aU:l.getD i false=false):∀(gs:List bO) (k:Nat),k<=i->i<k+gs.length->∃jd jG g,gs[i-k]? =some g/\rem l k gs=jd++(i,g)::jG/\rem (l.setIfInBounds i true) k gs=jd++jG/\
  ∀x∈jd,gs[x.1-k]? =some x.2/\k<=x.1/\x.1<i/\l.getD x.1 false=false
 |[],k,I,J=>by simp at J;omega
 |g::r,k,I,J=>by
  by_cases e:k=i
  ·subst e;refine⟨[],rem l (k+1) r,g,Ψ,by simp[rem,aU],?_,fun x ad=>by simp at ad⟩;simp only[rem,uq aM,if_true,dx];exact FA r (k+1) fun j aC=>by rw[uq aM,bT Ω]
  ·obtain⟨jd,jG,dh,ai,aK,bu,cP⟩:=zr aM aU r (k+1) Ω (by simp at J;omega);have ib:i-k=(i-(k+1))+1:=Ω
   have hF:(l.setIfInBounds i true).getD k false=l.getD k false:=by rw[uq aM,bT Ω]
   by_cases U:l.getD k false=true
   ·refine⟨jd,jG,dh,by rw[ib];simpa using ai,by simp only[rem,U,if_true,aK],by simp only[rem,hF,U,if_true,bu],fun x ad=>?_⟩;obtain⟨f1,f2,f3,f4⟩:=cP x ad;refine⟨?_,Ω,f3,f4⟩;have:x.1-k=(x.1-(k+1))+1:=Ω
    rw[this];simpa using f1
   ·have U:l.getD k false=false:=by simpa using U
    refine⟨(k,g)::jd,jG,dh,by rw[ib];simpa using ai,by simp[rem,U,aK],by simp[rem,hF,U,bu],fun x ad=>?_⟩;rcases ft.1 ad with rfl|ad
    ·exact⟨Ψ,dY _,by simp;omega,U⟩
    ·obtain⟨f1,f2,f3,f4⟩:=cP x ad;refine⟨?_,Ω,f3,f4⟩;have:x.1-k=(x.1-(k+1))+1:=Ω
     rw[this];simpa using f1
def nv(acc:List Nat):List Edge->Nat
 |[]=>0
 |e::r=>if Region.binds .any e then(2 ^ e.on)|||(acc.getD e.on 0)|||nv acc r else nv acc r
def lL(acc:List Nat):List Oper->List Nat
 |[]=>acc
 |o::os=>lL (acc++[nv acc o.after.toList]) os
def tq(m:Nat)(h:bO):Nat->List bO->Bool
 |_,[]=>true
 |i,g::r=>(m.testBit i||qp g h)&&tq m h (i+1) r
def s7:List bO->List bO->List Nat->Bool
 |_,[],_=>true
 |pre,h::r,m::ms=>tq m h 0 pre&&s7 (pre++[h]) r ms
 |_,_,[]=>false
def r4:Nat->List Oper->Bool
 |_,[]=>true
 |k,o::os=>o.after.toList.all (fun e=> !Region.binds .any e||decide (e.on<k))&&r4 (k+1) os
def rQ(gs:List bO)(ops:List Oper):Bool:=r4 0 ops&&s7 [] gs (lL [] ops)
theorem yS{acc:List Nat}{j:Nat}:∀{es:List Edge},(nv acc es).testBit j=true->∃e∈es,Region.binds .any e=true/\(j=e.on\/(acc.getD e.on 0).testBit j=true)
 |[],h=>by simp[nv]at h
 |e::r,h=>by
  simp only[nv]at h;split at h
  ·rename_i aa;simp only[Nat.testBit_or,Bool.or_eq_true]at h;rcases h with(h|h)|h
   ·refine⟨e,Ψ,aa,.inl ?_⟩;rw[Nat.testBit_two_pow]at h;have b3:e.on=j:=by simpa using h
    exact b3.symm
   ·exact⟨e,Ψ,aa,.inr h⟩
   ·obtain⟨fS,I,J⟩:=yS h;exact⟨fS,by simp[I],J⟩
  ·obtain⟨fS,I,J⟩:=yS h;exact⟨fS,by simp[I],J⟩
theorem yT:∀(os:List Oper) (acc:List Nat) (k:Nat),k<acc.length->(lL acc os)[k]? =acc[k]?
 |[],acc,k,_=>rfl
 |o::os,acc,k,h=>by simp only[lL];rw[yT os _ k (by simp;omega),lg h]
theorem El:∀(os:List Oper) (acc:List Nat) (k:Nat) (o:Oper),os[k]? =some o->∃mN,(lL acc os)[acc.length+k]? =some (nv mN o.after.toList)/\mN.length=acc.length+k/\∀i,i<mN.length->mN[i]? =(lL acc os)[i]?
 |[],acc,k,o,h=>by simp at h
 |o'::os,acc,0,o,h=>by
  simp only[List.getElem?_cons_zero,cR]at h;subst h;refine⟨acc,?_,Ψ,fun i aM=>?_⟩
  ·simp only[lL,Nat.add_zero];rw[yT os _ _ Ψ];simp
  ·simp only[lL];rw[yT os _ i (by simp;omega),lg aM]
 |o'::os,acc,k+1,o,h=>by simp only[List.getElem?_cons_succ]at h;obtain⟨mN,I,J,aj⟩:=El os (acc++[nv acc o'.after.toList]) k o h;refine⟨mN,?_,by rw[J];simp;omega,fun i aM=>by rw[aj i aM];rfl⟩;simp only[lL];rw[show acc.length+(k+1)=(acc++[nv acc o'.after.toList]).length+k from by simp;omega];exact I
def Ar(ops:Array Oper)(listed:Array Bool):Prop:= ∀k o,ops[k]? =some o->listed.getD k false=true->∀e∈o.after.toList,Region.binds .any e=true->listed.getD e.on false=true
theorem Nj{ops:Array Oper}{listed:Array Bool}(aY:Ar ops listed):∀(k:Nat) (o:Oper),ops[k]? =some o->(∀e∈o.after.toList,Region.binds .any e=true->listed.getD e.on false=true)->∀j,((lL [] ops.toList).getD k 0).testBit j=true->listed.getD j false=true:=by
 intro k;induction k using Nat.strongRecOn with
 |_ k bz=>
  intro o ab ar j aC;obtain⟨mN,I,J,aj⟩:=El ops.toList [] k o (by simpa using ab);simp only[List.length_nil,Nat.zero_add]at I J;rw[List.getD_eq_getElem?_getD,I]at aC;obtain⟨e,he,aa,bP⟩:=yS aC;rcases bP with rfl|bP
  ·exact ar e he aa
  ·by_cases bS:e.on<mN.length
   ·have hm:mN.getD e.on 0=(lL [] ops.toList).getD e.on 0:=by rw[List.getD_eq_getElem?_getD,aj _ bS,List.getD_eq_getElem?_getD]
    have U:k<ops.size:=(Array.getElem?_eq_some_iff.1 ab).1;have eX:ops[e.on]? =some ops[e.on]:=Array.getElem?_eq_getElem Ω;rw[hm]at bP;exact bz e.on Ω _ eX (fun fS Lo ep=>aY e.on _ eX (ar e he aa) fS Lo ep) j bP
   ·rw[List.getD_eq_getElem?_getD,List.getElem?_eq_none Ω]at bP;simp at bP
theorem FQ{m:Nat}{h:bO}:∀{gs:List bO} {i0:Nat},tq m h i0 gs=true->∀i g,gs[i]? =some g->m.testBit (i0+i)=true\/qp g h=true
 |[],i0,_,i,g,aG=>by simp at aG
 |dh::r,i0,hr,0,g,aG=>by simp only[tq,bt,Bool.or_eq_true]at hr;simp only[List.getElem?_cons_zero,cR]at aG;subst aG;simpa using hr.1
 |dh::r,i0,hr,i+1,g,aG=>by simp only[tq,bt]at hr;have:=FQ hr.2 i g (by simpa using aG);rwa[show i0+1+i=i0+(i+1)from by omega]at this
theorem ER:∀{gs pre:List bO} {ms:List Nat},s7 pre gs ms=true->∀j h,gs[j]? =some h->∀i g,i<pre.length+j->(pre++gs)[i]? =some g->(ms.getD j 0).testBit i=true\/qp g h=true
 |[],pre,ms,_,j,h,aC,_,_,_,_=>by simp at aC
 |b3::r,pre,[],be,j,h,aC,_,_,_,_=>by simp[s7]at be
 |b3::r,pre,m::ms,be,j,h,aC,i,g,aM,aG=>by
  simp only[s7,bt]at be;cases j with
  |zero=>simp only[List.getElem?_cons_zero,cR]at aC;subst aC;rw[lg Ω]at aG;simpa using FQ be.1 i g aG
  |succ j=>have:=ER be.2 j h (by simpa using aC) i g (by simp;omega) (by simpa using aG);simpa using this
theorem B8:∀{os:List Oper} {k:Nat},r4 k os=true->∀i o,os[i]? =some o->∀e∈o.after.toList,Region.binds .any e=true->e.on<k+i
 |[],k,_,i,o,ab,_,_,_=>by simp at ab
 |o'::os,k,h,0,o,ab,e,he,aa=>by simp only[r4,bt,ld]at h;simp only[List.getElem?_cons_zero,cR]at ab;subst ab;have:=h.1 e he;simpa[aa]using this
 |o'::os,k,h,i+1,o,ab,e,he,aa=>by simp only[r4,bt]at h;have:=B8 h.2 i o (by simpa using ab) e he aa;omega
theorem CW{N:Nat}{aR:List (Nat×cw)}{ops:List Oper}:∀{gs:List bO} {os:List Oper},gI N aR ops gs os=true->∀(i:Nat) (g:bO),gs[i]? =some g->∃o,os[i]? =some o/\sb N aR ops g o=true
 |[],[],_,i,g,h=>by simp at h
 |[],_::_,h,_,_,_=>by simp[gI]at h
 |_::_,[],h,_,_,_=>by simp[gI]at h
 |dh::gs,o::os,h,0,g,aG=>by simp only[gI,bt]at h;simp only[List.getElem?_cons_zero,cR]at aG;subst aG;exact⟨o,Ψ,h.1⟩
 |dh::gs,o::os,h,i+1,g,aG=>by simp only[gI,bt]at h;obtain⟨o',I,J⟩:=CW h.2 i g (by simpa using aG);exact⟨o',by simpa using I,J⟩
theorem xB{N:Nat}{aR:List (Nat×cw)}{ops:List Oper}:∀{gs:List bO} {os:List Oper},gI N aR ops gs os=true->gs.length=os.length
 |[],[],_=>rfl
 |[],_::_,h=>by simp[gI]at h
 |_::_,[],h=>by simp[gI]at h
 |g::gs,o::os,h=>by simp only[gI,bt]at h;simp[xB h.2]
theorem FB{l:Array Bool}:∀(gs:List bO) (k:Nat),rem l k gs=[]\/ ∃i g,i<gs.length/\gs[i]? =some g/\l.getD (k+i) false=false/\∀j,j<i->l.getD (k+j) false=true
 |[],_=>.inl rfl
 |g::r,k=>by
  by_cases h:l.getD k false=true
  ·rcases FB (l:=l) r (k+1)with I|⟨i,dh,I,J,aj,aO⟩
   ·left;simp only[rem,h,if_true,I]
   ·refine .inr ⟨i+1,dh,by simp;omega,by simpa using J,by rw[show k+(i+1)=k+1+i from by omega];exact aj,fun j aC=>?_⟩;cases j with
    |zero=>simpa using h
    |succ j=>rw[show k+(j+1)=k+1+j from by omega];exact aO j Ω
  ·exact .inr ⟨0,g,Ψ,Ψ,by simpa using h,fun j aC=>Ω⟩
theorem G9{P:bj}{aR:List (Nat×cw)}(az:eD P aR=true){C:c7}{q:Bool}{n0:Nat}{ops:Array Oper}{gs:List bO}(gJ:gI C.N aR ops.toList gs ops.toList=true)(uC:rQ gs ops.toList=true){K:b1->Prop}{Q:Exit->Act->World->Prop}
  (n7:∀A a w,K A->oN C A a w->Q .normal a w):∀(fuel:Nat) (listed:Array Bool) (A:b1) (a:Act) (w:World),listed.size=ops.size->Ar ops listed->(rem listed 0 gs).length<=fuel->nV P q n0 K (rem listed 0 gs) A->oN C A a w->wpAny P .any ops Q fuel listed a w:=by
 simp only[rQ,bt]at uC;obtain⟨xH,L8⟩:=uC;have hlen:gs.length=ops.size:=by simpa using xB gJ
 have Dd:∀(listed:Array Bool) (A:b1) (a:Act) (w:World),listed.size=ops.size->nV P q n0 K (rem listed 0 gs) A->oN C A a w->Region.ready .any ops listed=[]->Q .normal a w:=by
  intro listed A a w dt mn hr uY;rcases FB (l:=listed) gs 0 with h|⟨i,g,I,J,aj,aO⟩
  ·rw[h]at mn;exact n7 A a w mn hr
  ·exfalso;have aM:i<ops.size:=Ω
   have hi:i∈Region.ready .any ops listed:=by
    unfold Region.ready;simp only[List.mem_filter,List.mem_range,bt,Bool.not_eq_true'];refine⟨aM,?_,?_⟩
    ·rw[Nat.zero_add]at aj;simp only[Array.getD_eq_getD_getElem?]at aj⊢;rw[Array.getElem?_eq_getElem Ω]at aj⊢;simpa using aj
    ·rw[Array.getElem?_eq_getElem aM];simp only[l2,Option.getD_some];rw[<-Array.all_toList,ld];intro e he;by_cases aa:Region.binds .any e=true
     ·have bS:=B8 xH i ops[i] (by simp[aM]) e he aa;have:=aO e.on Ω;rw[Nat.zero_add]at this;simp[this]
     ·simp[aa]
   rw[uY]at hi;simp at hi
 intro fuel;induction fuel with
 |zero=>
  intro listed A a w dt aY aF mn hr;have L2:rem listed 0 gs=[]:=mJ Ω;have uY:Region.ready .any ops listed=[]:=by
   rw[List.eq_nil_iff_forall_not_mem];intro i aM;unfold Region.ready at aM;simp only[List.mem_filter,List.mem_range,bt,Bool.not_eq_true']at aM;obtain⟨I,J,_⟩:=aM;have aU:listed.getD i false=false:=by simp only[Array.getD_eq_getD_getElem?]at J⊢;rw[Array.getElem?_eq_getElem Ω]at J⊢;simpa using J
   obtain⟨jd,jG,g,_,aK,_⟩:=zr Ω aU gs 0 Ω Ω;rw[L2]at aK;simp at aK
  exact⟨uY,Dd listed A a w dt mn hr uY⟩
 |succ fuel bz=>
  intro listed A a w dt aY aF mn hr;refine⟨Dd listed A a w dt mn hr,fun i aM=>?_⟩;unfold Region.ready at aM;simp only[List.mem_filter,List.mem_range,bt,Bool.not_eq_true']at aM;obtain⟨I,J,aj⟩:=aM;have aU:listed.getD i false=false:=by simp only[Array.getD_eq_getD_getElem?]at J⊢;rw[Array.getElem?_eq_getElem Ω]at J⊢;simpa using J
  have ab:ops[i]? =some ops[i]:=Array.getElem?_eq_getElem I;have De:∀e∈ops[i].after.toList,Region.binds .any e=true->listed.getD e.on false=true:=by rw[ab]at aj;simp only[l2,Option.getD_some]at aj;rw[<-Array.all_toList,ld]at aj;intro e he aa;simpa[aa]using aj e he
  obtain⟨jd,jG,g,ai,aK,bu,cP⟩:=zr Ω aU gs 0 Ω Ω;simp only[Nat.sub_zero]at ai cP;rw[aK]at mn;obtain⟨x,ad,Lc⟩:=AU jd jG A (fun y b6=>by
   obtain⟨f1,f2,f3,f4⟩:=cP y b6;rcases ER L8 i g ai y.1 y.2 (by simpa using f3) (by simpa using f1)with h|h
   ·have:=Nj aY i ops[i] ab De y.1 h;rw[f4]at this;cases this
   ·exact h) mn
  obtain⟨o',g1,g2⟩:=CW gJ i g ai;have:o'=ops[i]:=by rw[lZ,ab]at g1;exact(p3 g1).symm
  subst this;refine GZ az ab g2 ad hr fun ca w' cn=>?_;refine bz (listed.setIfInBounds i true) (A.do x) ca w' (by simpa using dt) ?_ ?_ (by rw[bu];exact Lc) cn
  ·intro k o U ar e he aa;rw[uq Ω]at ar⊢;split
   ·rfl
   ·by_cases ib:i=k
    ·subst ib;rw[ab]at U;cases U;exact De e he aa
    ·rw[bT ib]at ar;exact aY k o U ar e he aa
  ·rw[bu];rw[aK]at aF;simp at aF⊢;omega
def oZ(n0 d:Nat)(st:aS):Prop:= .loc (n0+d)∉st.o/\look (.loc (n0+d)) st.b=none/\look (.loc (n0+d)) st.e=none
def dQ.loadO(q:Bool)(t:List (Nat×ae)):dQ->Prop
 | .load _ _ x=>q=true\/ps (bf t x)=true
 | .loadB _ _ _=>True
 | .mgetB _ _ _ _ _=>True
 | .mget _ _ _ _ _=>q=true
 | .ment _=>q=true
 | .mlen _=>q=true
 |_=>True
def hA(q:Bool)(nw:List Nat)(n0:Nat)(st:aS):cH->Prop
 | .v _ i=>i.loadO q st.t
 | .box d none _=>oZ n0 d st
 | .alloc d none _=>oZ n0 d st
 | .box _ (some _) _=>cU
 | .alloc _ (some _) _=>cU
 | .store _ x _=>match bf st.t x with| .ptr _ _=>True|_=>cU
 | .bslm _ _ _ _ _=>cU
 | .mks _ _ _ _ _ _=>cU
 | .apps _ _ _ _=>cU
 | .appm _ _ _ _ x _=>match bf st.t x with| .row _ _ _=>True|_=>cU
 | .storeE _ _ _=>True
 | .mkmap _ none=>cU
 | .mkmap _ (some m)=>m∈nw/\look (.obj m) st.b=none/\look (.obj m) st.e=none
 | .mput _ _ _ _=>True
 | .range _ _ _=>cU
 | .bsl d _ _ _=>oZ n0 d st
 | .app d _ _ x _=>match bf st.t x with
  | .slice _ .nil _=>oZ n0 d st
  | .slice _ (.own k) _=>(look k st.e).bind (·.xs)=none
  |_=>True
def jI(n0:Nat):cH->av
 | .mkmap _ (some m)=>.obj m
 | .v d _| .box d _ _| .alloc d _ _| .bsl d _ _ _| .app d _ _ _ _| .bslm d _ _ _ _| .appm d _ _ _ _ _| .mkmap d _| .range d _ _| .mks d _ _ _ _ _| .apps d _ _ _=>.loc (n0+d)
 | .store _ _ _| .mput _ _ _ _| .storeE _ _ _=>.loc n0
def MW(nw:List Nat)(st:aS)(s ah:cr)(rm:aW av):Prop:=(∀k,(look k ah.b).isSome->(look k s.b).isSome\/rm=some k)/\(∀k,(look k ah.e).isSome->(look k s.e).isSome\/rm=some k)/\(∀k,(look k s.b).isSome->(look k ah.b).isSome)/\(∀k,(look k s.e).isSome->(look k ah.e).isSome)/\
 (∀k,rm=some k->(∃j,j∈nw/\k= .obj j)/\look k st.b=none/\look k st.e=none/\((look k ah.b).isSome\/(look k ah.e).isSome))
def iL(P:bj)(q:Bool)(nw:List Nat)(n:Nat)(args:List ae)(st:aS)(d:aW Nat)(K:aS->Prop):Prop:=
 (∃ec r,d=some ec/\oZ st.n ec st/\aD (fun _=>cU) args/\wv P n (st.n+ec) args ⟨[],[]⟩ (fun dW df=>dW=r/\df=⟨[],[]⟩)/\K {st with t:=put ec r st.t,o:= .loc (st.n+ec)::st.o})\/
 ∃s ah r rm,iG (au s) s.b st.b/\iH (au s) s.e st.e/\fK s/\fK ah/\MW nw st s ah rm/\aD (au s) args/\br P n args s (fun dW df=>dW=r/\df=ah)/\(q=true->ah.b=[]/\ah.e=[])/\K {after st s ah d r with o:=st.o}
def gj(P:bj)(q:Bool)(nw:List Nat)(n0:Nat)(st:aS)(K:aS->Prop):cS->Prop
 | .s i=>match cW (jI n0 i) st.n (jI n0 i::st.o) st i with
  |some (c,st')=>hA q nw n0 st i/\c/\K st'
  |none=>cU
 | .call d f xs=>match bf st.t f with
  | .func n bX=>iL P q nw n (bR (xs.map (bf st.t)++bX)) st d K
  |_=>cU
 | .next _ _=>cU
 | .opn _ _ _=>cU
def e3(P:bj)(q:Bool)(nw:List Nat)(n0:Nat):List bO->aS->(aS->Prop)->Prop
 |[],st,K=>K st
 |⟨none,i⟩::r,st,K=>gj P q nw n0 st (fun st'=>e3 P q nw n0 r st' K) i
 |⟨some (s,want),i⟩::r,st,K=>match get s st.t with
  | .bool b=>(b=want->gj P q nw n0 {st with t:=put s (.bool want) st.t} (fun st'=>e3 P q nw n0 r st' K) i)/\(b= !want->e3 P q nw n0 r {st with t:=dB i.dst (.tuple []) (put s (.bool !want) st.t)} K)
  | .tuple []=>e3 P q nw n0 r {st with t:=dB i.dst (.tuple []) st.t} K
  |_=>cU
structure l3 (nw:List Nat) (n0 N:Nat) (iD:List av) (st:aS) (A:b1):Prop where
 like:hx st A
 n:st.n=n0
 F:∀k,fresh n0 st.o k->(∀j∈nw,k≠ .obj j)->A.F k
 o:∀k∈st.o,k∈iD\/(∃d,d<N/\k= .loc (n0+d))\/ ∃j∈nw,k= .obj j
def rJ(nw:List Nat)(A:b1):Prop:= ∀j∈nw,A.b (.obj j)=none->A.e (.obj j)=none->A.F (.obj j)
theorem rJ.do{P:bj}{q:Bool}{n0:Nat}{nw:List Nat}{A:b1}(h:rJ nw A){g:bO}{x:gV}(ad:gW P q n0 g A x):rJ nw (A.do x):=by
 intro j aC aa he;refine⟨h j aC (w4 aa) (w5 he),fun mU=>?_⟩;rcases(zV ad).r _ mU with⟨d,_,e⟩|⟨_,_,af⟩
 ·cases e
 ·rcases af with af|af
  ·obtain⟨y,b6⟩:=dK.1 af;simp[b1.do,fj,b6]at aa
  ·obtain⟨y,b6⟩:=dK.1 af;simp[b1.do,fj,b6]at he
theorem Ce{P:bj}{q:Bool}{nw:List Nat}{n0 N:Nat}{iD:List av}{i:cS}(aY:∀d,i.dst=some d->d<N){st:aS}{A:b1}(h:l3 nw n0 N iD st A)(j5:rJ nw A){K:aS->Prop}(he:gj P q nw n0 st K i):∃x st',cG P q n0 i A x/\K st'/\l3 nw n0 N iD st' (A.do x):=by
 have ar:=h.like;have o9:∀d,oZ n0 d st->(A.F (.loc (n0+d))/\A.b (.loc (n0+d))=none/\A.e (.loc (n0+d))=none):=fun d aF=>⟨h.F _ ⟨Ψ,aF.1⟩ (fun _ _ e=>by cases e),by rw[<-ar.b];exact aF.2.1,by rw[<-ar.e];exact aF.2.2⟩;have j4:∀(d:aW Nat) (p:ae) (bw:List (av×List ae)) (ew:List (av×cC)) (κ:av),∀k,fresh n0 (κ::st.o) k->(∀j∈nw,k≠ .obj j)->(A.do ⟨d,p,bw,ew,some κ⟩).F k:=fun d p bw ew κ k U aC=>⟨h.F k (n2 k U).1 aC,fun e=>(n2 k U).2 (p3 e).symm⟩;have o2:∀(d:aW Nat) (p:ae) (bw:List (av×List ae)) (ew:List (av×cC)),∀k,fresh n0 st.o k->(∀j∈nw,k≠ .obj j)->(A.do ⟨d,p,bw,ew,none⟩).F k:=fun d p bw ew k U aC=>⟨h.F k U aC,Ψ⟩;have sD:∀d,d<N->∀k∈av.loc (n0+d)::st.o,k∈iD\/(∃d,d<N/\k= .loc (n0+d))\/ ∃j∈nw,k= .obj j:=fun d aY k U=>by
  rcases ft.1 U with rfl|U
  ·exact .inr (.inl ⟨d,aY,rfl⟩)
  ·exact h.o k U
 cases i with
 |s i=>
  cases i with
  |v d i=>
   simp only[gj,cW]at he;cases aH:eB st i with
   |none=>simp[aH]at he
   |some Im=>
    obtain⟨c,p⟩:=Im;simp only[aH]at he;obtain⟨I,J,aj⟩:=he;refine⟨⟨some d,p,[],[],none⟩,_,⟨c,p,by rw[<-Gi ar];exact aH,J,fun iR=>?_,rfl⟩,aj,yL ar d p,h.n,o2 _ _ _ _,h.o⟩;cases i<;>simp only[dQ.isLoad]at iR<;>try(cases iR;done)
    case mget=>exact .inr (.inl I)
    case ment=>exact .inr (.inl I)
    case mlen=>exact .inr (.inl I)
    case loadB=>exact .inl rfl
    case mgetB=>exact .inl rfl
    simp only[hA,dQ.loadO,fv ar]at I;exact .inr (by simpa only[dQ.ptrOf]using I)
  |box d key v=>
   cases key with
   |some m=>simp only[gj,cW,hA,false_and]at he
   |none=>simp only[gj,cW,hA,jI]at he;obtain⟨I,J,aj⟩:=he;rw[fv ar]at J;refine⟨_,_,⟨o9 d I,J,rfl⟩,aj,?_,h.n,j4 _ _ _ _ _,sD d (aY d rfl)⟩;rw[fv ar];exact qR ar d _ _ _ _ _ _
  |alloc d key z=>
   cases key with
   |some m=>simp only[gj,cW,hA,false_and]at he
   |none=>simp only[gj,cW,hA,jI]at he;obtain⟨I,J,aj⟩:=he;exact⟨_,_,⟨o9 d I,rfl⟩,aj,qR ar d _ _ _ _ _ _,h.n,j4 _ _ _ _ _,sD d (aY d rfl)⟩
  |store sz u v=>
   simp only[gj,cW]at he;cases hu:bf st.t u with
   |ptr k off=>
    cases aa:look k st.b with
    |none=>simp[hu,aa]at he
    |some cs=>simp only[hu,aa]at he;obtain⟨I,J,aj⟩:=he;rw[fv ar]at J hu;refine⟨⟨none,.junk,[(k,jA cs off (cells (cd A.t v)))],[],none⟩,_,⟨k,off,cs,hu,by rw[<-ar.b];exact aa,J,rfl⟩,aj,?_,h.n,o2 _ _ _ _,h.o⟩;rw[fv ar];exact vh ar k _ _
   |_=>
    exfalso;simp only[hu]at he;split at he
    ·have:=he.1;simp[hA,hu]at this
    ·exact he
  |bsl d sz el xs=>simp only[gj,cW,hA,jI]at he;obtain⟨I,J,aj⟩:=he;rw[mW ar]at J;refine⟨_,_,⟨o9 d I,J,rfl⟩,aj,?_,h.n,j4 _ _ _ _ _,sD d (aY d rfl)⟩;rw[mW ar];exact ox ar d _ _ _ _ _ _
  |app d sz el u v=>
   simp only[gj,cW]at he;cases hu:bf st.t u with
   |slice cj tag xs=>
    cases aH:bf st.t v with
    |slice fL hd ys=>
     simp only[hu,aH]at he;by_cases ds:cj=sz/\fL=sz
     ·obtain⟨rfl,rfl⟩:=ds;rw[fv ar]at hu aH;cases tag with
      |no=>simp at he
      |tr k j=>simp at he
      |lo k=>simp at he
      |nil=>simp only[and_self,if_true,hA,fv ar,hu,jI]at he;obtain⟨I,J,aj⟩:=he;exact⟨_,_,⟨.nil,xs,hd,ys,hu,aH,.inr ⟨rfl,J,o9 d I,rfl⟩⟩,aj,ox ar d _ _ _ _ _ _,h.n,j4 _ _ _ _ _,sD d (aY d rfl)⟩
      |own k=>
       cases U:look k st.e with
       |none=>simp[U]at he
       |some o=>simp only[and_self,if_true,U]at he;obtain⟨I,J,aj⟩:=he;exact⟨_,_,⟨.own k,xs,hd,ys,hu,aH,.inl ⟨k,o,rfl,by rw[<-ar.e];exact U,⟨by simpa[hA,fv ar,hu,U]using I,J⟩,rfl⟩⟩,aj,ox ar d _ _ _ _ _ _,h.n,o2 _ _ _ _,h.o⟩
     ·simp[ds]at he
    |_=>simp[hu,aH]at he
   |_=>simp[hu]at he
  |bslm d key sz el xs=>simp only[gj,cW,hA,false_and]at he
  |mks d key sz el z x=>simp only[gj,cW,hA,false_and]at he;split at he<;>simp at he
  |apps d el x y=>simp only[gj,cW,hA,false_and]at he;split at he<;>simp at he
  |appm d key sz el u v=>
   simp only[gj,cW]at he;cases hu:bf st.t u with
   |row cj k n=>
    cases aH:bf st.t v with
    |slice fL hd ys=>
     simp only[hu,aH,l7]at he;by_cases ds:cj=sz/\fL=sz
     ·obtain⟨rfl,rfl⟩:=ds;rw[fv ar]at hu aH;simp only[and_self,if_true]at he;cases U:look k st.e with
      |none=>simp[U]at he
      |some o=>
       obtain⟨n',dc,oK,zc⟩:=o;cases zc with
       |none=>simp[U]at he
       |some xs=>
        simp only[U]at he;by_cases ly:n'=n/\dc=el/\oK=fL
        ·obtain⟨rfl,rfl,rfl⟩:=ly;simp only[and_self,if_true]at he;obtain⟨I,J,aj⟩:=he;exact⟨_,_,⟨k,n',xs,hd,ys,hu,aH,by rw[<-ar.e];exact U,J,rfl⟩,aj,ox ar d _ _ _ _ _ _,h.n,o2 _ _ _ _,h.o⟩
        ·simp[ly]at he
     ·simp[ds]at he
    |_=>simp[hu,aH,l7]at he
   |slice cj tag xs=>
    exfalso;simp only[hu]at he;split at he
    ·have:=he.1;simp[hA,hu]at this
    ·exact he
   |_=>simp[hu,l7]at he
  |storeE sz u v=>
   simp only[gj,cW]at he;cases hu:bf st.t u with
   |rptr cj k n i f=>
    cases U:look k st.e with
    |none=>simp[hu,k3,U]at he
    |some o=>
     obtain⟨n',el,oK,zc⟩:=o;cases zc with
     |none=>simp[hu,k3,U]at he
     |some xs=>
      simp only[hu,k3,U]at he;by_cases ly:n'=n/\oK=cj
      ·obtain⟨rfl,rfl⟩:=ly;simp only[and_self,if_true]at he;cases bD:xs[i]? with
       |none=>simp[bD]at he
       |some q=>simp only[bD]at he;obtain⟨I,J,aj⟩:=he;rw[fv ar]at J hu;refine⟨⟨none,.junk,[],[(k,⟨n',el,oK,some (xs.set i (k1 q f (cells (cd A.t v))))⟩)],none⟩,_,⟨k,n',i,f,el,oK,xs,q,hu,by rw[<-ar.e];exact U,bD,J,rfl⟩,aj,?_,h.n,o2 _ _ _ _,h.o⟩;rw[fv ar];exact Eg ar k _ _
      ·simp[ly]at he
   |_=>simp[hu,k3]at he
  |mkmap d key=>
   cases key with
   |none=>simp only[gj,cW,hA,false_and]at he
   |some m=>
    simp only[gj,cW,hA,jI]at he;obtain⟨⟨ck,I,J⟩,_,aj⟩:=he;rw[ar.b]at I;rw[ar.e]at J;refine⟨_,_,⟨⟨j5 m ck I J,I,J⟩,rfl⟩,aj,qR ar d _ _ _ _ _ _,h.n,j4 _ _ _ _ _,fun k U=>?_⟩;rcases ft.1 U with rfl|U
    ·exact .inr (.inr ⟨m,ck,rfl⟩)
    ·exact h.o k U
  |mput bo u k v=>
   simp only[gj,cW,hA]at he;cases hu:bf st.t u with
   |gmap m=>
    cases aa:look m st.b with
    |none=>simp[hu,aa]at he
    |some cs=>
     cases hm:qW bo (bf st.t k) (bf st.t v) cs with
     |none=>simp[hu,aa,hm]at he
     |some cs'=>simp only[hu,aa,hm]at he;rw[fv ar]at hu;rw[fv ar,fv ar]at hm;exact⟨⟨none,.junk,[(m,cs')],[],none⟩,_,⟨m,cs,cs',hu,by rw[<-ar.b];exact aa,hm,rfl⟩,he.2.2,vh ar m _ _,h.n,o2 _ _ _ _,h.o⟩
   |_=>simp[hu]at he
  |range d key x=>simp only[gj,hA,false_and]at he;split at he<;>exact he.elim
 |next d x=>simp only[gj]at he
 |opn d f x=>simp only[gj]at he
 |call d f xs=>
  simp only[gj]at he;cases aF:bf st.t f with
  |func n bX=>
   simp only[aF]at he;rw[fv ar]at aF;rcases he with⟨ec,r,rfl,cO,c2,c3,c4⟩|⟨s,ah,r,rm,cO,c2,c3,c4,c5,jj,rU,HA,c9⟩
   ·rw[mW ar]at c2 c3;have aU:=h.n;subst aU;refine⟨⟨some ec,r,[],[],some (.loc (st.n+ec))⟩,_,⟨n,bX,aF,.inr ⟨ec,r,rfl,o9 ec cO,c2,c3,rfl⟩⟩,c4,Eh ar ec r _ _,rfl,j4 _ _ _ _ _,sD ec (aY ec rfl)⟩
   rw[mW ar]at jj rU;obtain⟨cl,cy,gy,np,kR⟩:=c5;refine⟨⟨d,r,ah.b,ah.e,rm⟩,_,⟨n,bX,aF,.inl ⟨⟨s,ah,r,rm,fun k cs U=>⟨by rw[<-ar.b];exact(cO k cs U).1,(cO k cs U).2.2⟩,fun k o U=>⟨by rw[<-ar.e];exact(c2 k o U).1,(c2 k o U).2.2⟩,c3,c4,⟨cl,cy,gy,np,fun k U=>?_⟩,jj,rU,rfl⟩,HA⟩⟩,c9,⟨fun i=>?_,fun k=>?_,fun k=>?_⟩,h.n,fun k U aC=>⟨h.F k U aC,fun mU=>?_⟩,h.o⟩
   ·obtain⟨⟨j,aC,rfl⟩,aK,bu,cP⟩:=kR k U;rw[ar.b]at aK;rw[ar.e]at bu;exact⟨⟨j,rfl⟩,j5 j aC aK bu,aK,bu,cP⟩
   ·simp only[after,b1.do];cases d with
    |none=>simpa[dB]using ar.t i
    |some d=>simp only[dB,j3,cR,ar.t]
   ·simp only[after,b1.do,fj,pz,mz];by_cases af:(look k s.b).isSome
    ·have:=gy k af;obtain⟨y,b6⟩:=dK.1 this;simp[af,b6]
    ·cases aU:look k ah.b with
     |none=>simp only[af,ar.b];cases A.b k<;>simp
     |some y=>
      rcases cl k (by simp[aU])with h|h
      ·exact absurd h af
      ·have:=kR k h;simp[af,this]
   ·simp only[after,b1.do,fj,pz,mz];by_cases af:(look k s.e).isSome
    ·have:=np k af;obtain⟨y,b6⟩:=dK.1 this;simp[af,b6]
    ·cases aU:look k ah.e with
     |none=>simp only[af,ar.e];cases A.e k<;>simp
     |some y=>
      rcases cy k (by simp[aU])with h|h
      ·exact absurd h af
      ·have:=kR k h;simp[af,this]
   ·obtain⟨⟨j,iQ,rfl⟩,_⟩:=kR k mU;exact aC j iQ rfl
  |_=>simp[aF]at he
def qj(N:Nat):List bO->Bool
 |[]=>true
 |g::r=>e2 N g.i.dst&&qj N r
def p2:Nat->List bO->List (Nat×bO)
 |_,[]=>[]
 |k,g::r=>(k,g)::p2 (k+1) r
theorem AE{nw:List Nat}{n0 N:Nat}{iD:List av}{st:aS}{A:b1}(h:l3 nw n0 N iD st A){s:Nat}{p:ae}(af:get s st.t=p):l3 nw n0 N iD {st with t:=put s p st.t} A:=by
 refine⟨⟨fun i=>?_,h.like.b,h.like.e⟩,h.n,h.F,h.o⟩;simp only[j3];split
 ·rename_i e;subst e;rw[<-af];exact h.like.t _
 ·exact h.like.t i
theorem AF{nw:List Nat}{n0 N:Nat}{iD:List av}{st:aS}{A:b1}(h:l3 nw n0 N iD st A)(d:aW Nat):l3 nw n0 N iD {st with t:=dB d (.tuple []) st.t} (A.do (hs d)):=by
 refine⟨⟨fun i=>?_,fun k=>?_,fun k=>?_⟩,h.n,fun k U aC=>⟨h.F k U aC,by simp[hs]⟩,h.o⟩
 ·simp only[b1.do,hs];cases d with
  |none=>simpa[dB]using h.like.t i
  |some d=>simp only[dB,j3,cR,h.like.t]
 ·simpa[b1.do,fj,look,hs]using h.like.b k
 ·simpa[b1.do,fj,look,hs]using h.like.e k
theorem r6{P:bj}{q:Bool}{nw:List Nat}{n0 N:Nat}{iD:List av}{K:aS->Prop}:∀(gs:List bO) (k:Nat),qj N gs=true->∀(st:aS) (A:b1),l3 nw n0 N iD st A->rJ nw A->e3 P q nw n0 gs st K->nV P q n0 (fun A'=> ∃st',K st'/\l3 nw n0 N iD st' A') (p2 k gs) A
 |[],k,_,st,A,h,_,he=>⟨st,he,h⟩
 |⟨xy,i⟩::r,k,aY,st,A,h,j5,he=>by
  simp only[qj,bt]at aY;have kK:∀d,i.dst=some d->d<N:=fun d e=>by have:=aY.1;rw[e]at this;simpa[e2]using this
  simp only[p2,nV];cases xy with
  |none=>simp only[e3]at he;obtain⟨x,st',I,J,aj⟩:=Ce kK h j5 he;have aG:gW P q n0 ⟨none,i⟩ A x:=I;exact⟨x,aG,r6 r (k+1) aY.2 st' _ aj (j5.do aG) J⟩
  |some pT=>
   obtain⟨s,want⟩:=pT;simp only[e3]at he;split at he
   ·rename_i b aa;by_cases e:b=want
    ·subst e;obtain⟨x,st',I,J,aj⟩:=Ce kK (AE h aa) j5 (he.1 rfl);have aG:gW P q n0 ⟨some (s,b),i⟩ A x:=by unfold gW;simp only[<-h.like.t,aa];exact .inl ⟨trivial,I⟩
     exact⟨x,aG,r6 r (k+1) aY.2 st' _ aj (j5.do aG) J⟩
    ·have ep:b= !want:=by cases b<;>cases want<;>simp at e⊢
     subst ep;have aG:gW P q n0 ⟨some (s,want),i⟩ A (hs i.dst):=by unfold gW;simp only[<-h.like.t,aa];exact .inr ⟨trivial,trivial⟩
     exact⟨hs i.dst,aG,r6 r (k+1) aY.2 _ _ (AF (AE h aa) i.dst) (j5.do aG) (he.2 rfl)⟩
   ·rename_i aa;have aG:gW P q n0 ⟨some (s,want),i⟩ A (hs i.dst):=by unfold gW;simp only[<-h.like.t,aa]
    exact⟨hs i.dst,aG,r6 r (k+1) aY.2 _ _ (AF h i.dst) (j5.do aG) he⟩
   ·exact he.elim
theorem zq:∀(gs:List bO) (l:Array Bool) (k:Nat),(∀j,l.getD j false=false)->rem l k gs=p2 k gs
 |[],_,_,_=>rfl
 |g::r,l,k,h=>by simp only[rem,h k,p2,zq r l (k+1) h];simp
def mL(n:Nat)(o:List av)(K:aS->Prop)(st:aS):Prop:=K {st with n:=n,o:=o}
theorem Good.like{pr:Nat->Prop}{w:World}{ν:aA}{b dL:List (av×List ae)}{e fS:List (av×cC)}(h:Good pr w ν b e)(aa:∀k,look k dL=look k b)(he:∀k,look k fS=look k e):Good pr w ν dL fS:=
 ⟨h.alt,fun k cs U=>h.box k cs (by rw[<-aa];exact U),fun k aT bl I J=>h.inj k aT bl (by rw[<-aa];exact I) (by rw[<-aa];exact J),fun g o aG=>h.own g o (by rw[<-he];exact aG),
  fun g dh n n' v v' bl I J=>h.oinj g dh n n' v v' bl (by rw[<-he];exact I) (by rw[<-he];exact J),fun g k n v bl I J=>h.obx g k n v bl (by rw[<-he];exact I) (by rw[<-aa];exact J),h.one,
  fun bl az=>h.otr bl (az.imp (fun⟨k,bk,a2⟩=>⟨k,by rw[<-aa];exact bk,a2⟩) (fun⟨g,n,v,bk,a2⟩=>⟨g,n,v,by rw[<-he];exact bk,a2⟩))⟩
theorem Cf{P:bj}(hm:P.follows .mixedOrders=true){aR:List (Nat×cw)}(az:eD P aR=true){C:c7}{q:Bool}{nw:List Nat}{id:Nat}{ops:Array Oper}{gs:List bO}(gJ:gI C.N aR ops.toList gs ops.toList=true)(uC:rQ gs ops.toList=true)(e4:qj C.N gs=true)
  {K:aS->Prop} {Q:Exit->Act->World->Prop} (n7:∀st' ca w' ν',K st'->bH C st' ca w' ν'->Q .normal ca w') {st:aS} {a:Act} {w:World} {ν:aA} (L4:∀j∈nw,.obj j∉st.o) (he:e3 P q nw st.n gs st (mL (st.n+C.N) (nw.map av.obj++st.o) K)) (hr:bH C st a w ν):(Code.region id ops true).wp P Q a w:=by
 refine wp_region_any hm ?_;have cn:bH C st a {w with drawn:=w.drawn+1} ν:=hr.drawn _;let A:b1:=⟨fun i=>get i st.t,fun k=>look k st.b,fun k=>look k st.e,fresh st.n st.o⟩
 have o4:l3 nw st.n C.N st.o st A:=⟨⟨fun _=>rfl,fun _=>rfl,fun _=>rfl⟩,rfl,fun k U _=>U,fun k U=>.inl U⟩;have mn:=r6 gs 0 e4 st A o4 (fun j aC _ _=>⟨trivial,L4 j aC⟩) he;have iz:∀j,(Array.replicate ops.size false).getD j false=false:=fun j=>by simp[Array.getD_eq_getD_getElem?,Array.getElem?_replicate];split<;>rfl
 refine G9 az gJ uC (q:=q) (n0:=st.n) (K:=fun A'=> ∃st',mL (st.n+C.N) (nw.map av.obj++st.o) K st'/\l3 nw st.n C.N st.o st' A') ?_ ops.size _ A a _ Ψ ?_ ?_ (by rw[zq gs _ 0 iz];exact mn) ⟨st,ν,o4.like,fun k U=>U,cn⟩
 ·rintro A' ca w' ⟨st',U,bE⟩ ⟨SL,ν',ix,KX,kd⟩;refine n7 _ ca w' ν' U ⟨kd.good.like (fun k=>by rw[ix.b,<-bE.like.b]) (fun k=>by rw[ix.e,<-bE.like.e]),kd.fr,kd.defers,kd.size,fun i=>?_,fun k qE=>?_,kd.ext,fun m hm aF=>cn.obk m hm (o0 (Nat.le_add_right _ _) (fun _ h=>List.mem_append_right _ h) aF)⟩
  ·have:=kd.slot i;rw[ix.t,<-bE.like.t]at this;exact this
  ·refine kd.new k (KX k (bE.F k ?_ fun j aC e=>qE.2 (by subst e;exact lh _ (List.mem_map_of_mem aC))));simp only at qE;refine⟨(o0 (Nat.le_add_right st.n C.N) (fun _ h=>h) qE).1,fun hi=>?_⟩;rcases bE.o k hi with h|⟨d,aY,rfl⟩|⟨j,aC,rfl⟩;rotate_left 2
   ·exact qE.2 (lh _ (List.mem_map_of_mem aC))
   ·exact qE.2 (List.mem_append_right _ h)
   ·have:=qE.1;simp at this;omega
 ·intro k o U ar;rw[iz]at ar;cases ar
 ·rw[zq gs _ 0 iz];have:∀(gs:List bO) k,(p2 k gs).length=gs.length:=by
   intro gs;induction gs with
   |nil=>intro k;rfl
   |cons g r bz=>intro k;simp[p2,bz]
  rw[this];have:=xB gJ;simp at this;omega
mutual
def fM:ae->List (av×Nat)
 | .slice _ tag _=>match tag with| .tr k i=>[(k,i)]|_=>[]
 | .agg cs=>gR cs
 |_=>[]
def gR:List ae->List (av×Nat)
 |[]=>[]
 |x::xs=>fM x++gR xs
end
mutual
def hp:ae->Prop
 | .int _ _=>True
 | .bool _=>True
 | .str _=>True
 | .slice _ tag xs=>match tag with| .tr k _=>k≠mG|_=>xs=[]
 | .agg cs=>mB cs
 |_=>cU
def mB:List ae->Prop
 |[]=>True
 |x::xs=>hp x/\mB xs
end
def hK(ν:aA)(l:List (av×Nat))(b:Nat):Prop:= ∃k i,(k,i)∈l/\ν.tr k i b
theorem q0{ν:aA}{l eA:List (av×Nat)}(h:∀x∈l,x∈eA)(b:Nat)(aa:hK ν l b):hK ν eA b:=by obtain⟨k,i,I,J⟩:=aa;exact⟨k,i,h _ I,J⟩
theorem yX{ν:aA}(ei:∀k j aT dn b,ν.tr k j b->ν.tr aT dn b->k=aT/\j=dn){l eA:List (av×Nat)}(h:(l++eA).Nodup)(b:Nat)(I:hK ν l b):¬hK ν eA b:=by rintro⟨aT,hl,aj,aO⟩;obtain⟨k,i,I,J⟩:=I;obtain⟨rfl,rfl⟩:=ei k i aT hl b J aO;rw[List.nodup_append]at h;exact h.2.2 _ I _ aj rfl
mutual
theorem y4{w:World}{ν:aA}(ei:∀k j aT dn b,ν.tr k j b->ν.tr aT dn b->k=aT/\j=dn):∀(p:ae) (v:Value),aw w ν p v->hp p->(fM p).Nodup->cu true w ν.A (hK ν (fM p)) (b7 p) v
 | .int k n,v,h,_,_=>by simpa only[aw,b7,cu]using h
 | .bool b,v,h,_,_=>by simpa only[aw,b7,cu]using h
 | .str s,v,h,_,_=>by simpa only[aw,b7,cu]using h
 | .slice sz tag xs,v,h,ab,_=>by
  simp only[aw]at h;obtain⟨⟨a,cap,I,J,aj,aO⟩,_,_,jm,_⟩:=h;by_cases az:∃k i,tag= .tr k i
  ·obtain⟨k,i,rfl⟩:=az;refine um _ _ v (o1 (fun _ _ h=>⟨h,rfl⟩) (fun _ _ _=>rfl) _ _ _ v (fun b aa=>?_) (jm k i rfl));exact⟨k,i,by simp[fM],aa⟩
  ·have ad:xs=[]:=by
    simp only[hp]at ab;split at ab
    ·exact absurd ⟨_,_,rfl⟩ az
    ·exact ab
   subst ad;simp only[b7,bR,cu];exact⟨a,cap,I,J,aj,.inl trivial⟩
 | .agg cs,v,h,ab,aU=>by simp only[aw,hp,fM,b7,cu]at h ab aU⊢;obtain⟨us,I,J⟩:=h;exact⟨us,I,EE ei cs _ J ab aU⟩
 | .junk,_,_,ab,_=>by simp[hp]at ab
 | .ptr _ _,_,_,ab,_=>by simp[hp]at ab
 | .eptr _,_,_,ab,_=>by simp[hp]at ab
 | .iface _ _,_,_,ab,_=>by simp[hp]at ab
 | .nilp,_,_,ab,_=>by simp[hp]at ab
 | .tuple _,_,_,ab,_=>by simp[hp]at ab
 | .func _ _,_,_,ab,_=>by simp[hp]at ab
 | .gmap _,_,_,ab,_=>by simp[hp]at ab
 | .row _ _ _,_,_,ab,_=>by simp[hp]at ab
 | .rptr _ _ _ _ _,_,_,ab,_=>by simp[hp]at ab
 | .hdm _ _,_,_,ab,_=>by simp[hp]at ab
 | .hdi _ _ _,_,_,ab,_=>by simp[hp]at ab
 | .cst _,_,_,ab,_=>by simp[hp]at ab
theorem EE{w:World}{ν:aA}(ei:∀k j aT dn b,ν.tr k j b->ν.tr aT dn b->k=aT/\j=dn):∀(cs:List ae) (us:List Value),bL w ν cs us->mB cs->(gR cs).Nodup->jl true w ν.A (hK ν (gR cs)) (bR cs) us
 |[],us,h,_,_=>by simpa only[bL,bR,jl]using h
 |c::cs,us,h,ab,aU=>by simp only[bL,mB,gR,bR,jl]at h ab aU⊢;obtain⟨u,a1,I,⟨J,aj⟩,aO⟩:=h;have jr:=List.nodup_append.1 aU;exact⟨u,a1,hK ν (fM c),hK ν (gR cs),I,⟨q0 (fun x ad=>lh _ ad),q0 (fun x ad=>List.mem_append_right _ ad),fun _ b aa=>yX ei aU b aa⟩,⟨y4 ei c u J ab.1 jr.1,aj⟩,EE ei cs a1 aO ab.2 jr.2.1⟩
end
theorem y5{w:World}{ν:aA}(ei:∀k j aT dn b,ν.tr k j b->ν.tr aT dn b->k=aT/\j=dn){sz:Nat}:∀(cs:List ae) (us:List Value),bN w ν sz cs us->mB cs->(gR cs).Nodup->jk true w ν.A (hK ν (gR cs)) sz (bR cs) us
 |[],us,h,_,_=>by simpa only[bN,bR,jk]using h
 |c::cs,us,h,ab,aU=>by simp only[bN,mB,gR,bR,jk]at h ab aU⊢;obtain⟨u,a1,I,⟨J,aj⟩,aO⟩:=h;have jr:=List.nodup_append.1 aU;exact⟨u,a1,hK ν (fM c),hK ν (gR cs),I,⟨q0 (fun x ad=>lh _ ad),q0 (fun x ad=>List.mem_append_right _ ad),fun _ b aa=>yX ei aU b aa⟩,⟨y4 ei c u J ab.1 jr.1,aj⟩,y5 ei cs a1 aO ab.2 jr.2.1⟩
mutual
theorem xr{t:Bool}{w:World}{A:Nat->Nat->Prop}{ν:aA}(aQ:∀b o,A b o->ν.A b o):∀(p:ae) (F:Nat->Prop) (v:Value),cu t w A F p v->aw w ν (b7 p) v
 | .int k n,_,_,h=>by simpa only[aw,b7,cu]using h
 | .bool b,_,_,h=>by simpa only[aw,b7,cu]using h
 | .str s,_,_,h=>by simpa only[aw,b7,cu]using h
 | .slice sz tag xs,F,v,h=>by
  simp only[cu,b7,aw]at h⊢;obtain⟨a,cap,I,J,aj,aO⟩:=h;refine⟨⟨a,cap,by rw[il];exact I,by rw[il];exact J,by rw[il];exact aj,?_⟩,fun e=>(by cases e),fun g e=>(by cases e),fun _ _ e=>(by cases e),fun _ e=>(by cases e)⟩;rcases aO with rfl|⟨b,off,us,G,ai,_,_,cP,_,gv⟩
  ·exact .inl rfl
  ·exact .inr ⟨b,off,us,ai,ov (fun b o h=>⟨aQ b o h,rfl⟩) _ _ cP,CE aQ xs G us gv⟩
 | .agg cs,F,v,h=>by simp only[cu,b7,aw]at h⊢;obtain⟨us,I,J⟩:=h;exact⟨us,I,CG aQ cs F _ J⟩
 | .junk,_,_,h=>by simp[cu]at h
 | .ptr _ _,_,_,h=>by simp[cu]at h
 | .eptr _,_,_,h=>by simp[cu]at h
 | .iface _ _,_,_,h=>by simp[cu]at h
 | .nilp,_,_,h=>by simp[cu]at h
 | .tuple _,_,_,h=>by simp[cu]at h
 | .func _ _,_,_,h=>by simp[cu]at h
 | .gmap _,_,_,h=>by simp[cu]at h
 | .row _ _ _,_,_,h=>by simp[cu]at h
 | .rptr _ _ _ _ _,_,_,h=>by simp[cu]at h
 | .hdm _ _,_,_,h=>by simp[cu]at h
 | .hdi _ _ _,_,_,h=>by simp[cu]at h
 | .cst _,_,_,h=>by simp[cu]at h
theorem CG{t:Bool}{w:World}{A:Nat->Nat->Prop}{ν:aA}(aQ:∀b o,A b o->ν.A b o):∀(cs:List ae) (F:Nat->Prop) (us:List Value),jl t w A F cs us->bL w ν (bR cs) us
 |[],_,_,h=>by simpa only[jl,bR,bL]using h
 |c::cs,F,us,h=>by simp only[jl,bR,bL]at h⊢;obtain⟨u,a1,gh,gi,I,_,⟨bs,da⟩,eW⟩:=h;exact⟨u,a1,I,⟨xr aQ c gh u bs,da⟩,CG aQ cs gi a1 eW⟩
theorem CE{t:Bool}{w:World}{A:Nat->Nat->Prop}{ν:aA}(aQ:∀b o,A b o->ν.A b o){sz:Nat}:∀(cs:List ae) (F:Nat->Prop) (us:List Value),jk t w A F sz cs us->bN w ν sz (bR cs) us
 |[],_,_,h=>by simpa only[jk,bR,bN]using h
 |c::cs,F,us,h=>by simp only[jk,bR,bN]at h⊢;obtain⟨u,a1,gh,gi,I,_,⟨bs,da⟩,eW⟩:=h;exact⟨u,a1,I,⟨xr aQ c gh u bs,da⟩,CE aQ cs gi a1 eW⟩
end
mutual
theorem zP:∀p:ae,b7 (b7 p)=b7 p
 | .slice _ _ xs=>by simp[b7,oJ xs]
 | .agg cs=>by simp[b7,oJ cs]
 | .tuple aV=>by simp[b7,oJ aV]
 | .eptr x=>by simp[b7,zP x]
 | .iface t x=>by simp[b7,zP x]
 | .func f bX=>by simp[b7,oJ bX]
 | .junk=>rfl
 | .int _ _=>rfl
 | .bool _=>rfl
 | .str _=>rfl
 | .ptr _ _=>rfl
 | .nilp=>rfl
 | .gmap _=>rfl
 | .row _ _ _=>rfl
 | .rptr _ _ _ _ _=>rfl
 | .hdm _ _=>rfl
 | .hdi _ _ _=>rfl
 | .cst _=>rfl
theorem oJ:∀xs:List ae,bR (bR xs)=bR xs
 |[]=>rfl
 |x::xs=>by simp[bR,zP x,oJ xs]
end
mutual
def dw:ae->List av
 | .slice _ tag _=>match tag with| .own k=>[k]|_=>[]
 | .row _ k _=>[k]
 | .agg cs=>iX cs
 | .tuple cs=>iX cs
 |_=>[]
def iX:List ae->List av
 |[]=>[]
 |x::xs=>dw x++iX xs
end
def nH(e:List (av×cC))(k:av):List ae:=((look k e).bind (·.xs)).getD []
mutual
def er(e:List (av×cC)):ae->List (av×Nat)
 | .slice _ tag xs=>match tag with| .tr k i=>[(k,i)]| .own _=>gR xs|_=>[]
 | .row _ k _=>gR (nH e k)
 | .agg cs=>jQ e cs
 | .tuple cs=>jQ e cs
 |_=>[]
def jQ(e:List (av×cC)):List ae->List (av×Nat)
 |[]=>[]
 |x::xs=>er e x++jQ e xs
end
mutual
def okT(e:List (av×cC)):ae->Prop
 | .int _ _=>True
 | .bool _=>True
 | .str _=>True
 | .slice sz tag xs=>match tag with| .tr k _=>k≠mG| .own k=>True/\(∃el,look k e=some ⟨xs.length,el,sz,none⟩)/\mB xs/\0<sz|_=>xs=[]
 | .row sz k n=>True/\(∃xs el,look k e=some ⟨n,el,sz,some xs⟩/\mB xs)/\0<sz
 | .agg cs=>lN e cs
 | .tuple cs=>lN e cs
 |_=>cU
def lN(e:List (av×cC)):List ae->Prop
 |[]=>True
 |x::xs=>okT e x/\lN e xs
end
mutual
def mS:ae->Nat
 | .slice _ _ _=>1
 | .row _ _ _=>1
 | .agg cs=>rZ cs
 | .tuple cs=>rZ cs
 |_=>0
def rZ:List ae->Nat
 |[]=>0
 |x::xs=>mS x+rZ xs
end
mutual
def fold(κ:Nat)(e:List (av×cC)):Nat->ae->ae
 |j,.slice sz _ xs=>.slice sz (.tr (.loc κ) j) (bR xs)
 |j,.row sz k _=>.slice sz (.tr (.loc κ) j) (bR (nH e k))
 |j,.agg cs=>.agg (mY κ e j cs)
 |j,.tuple cs=>.tuple (mY κ e j cs)
 |_,p=>p
def mY(κ:Nat)(e:List (av×cC)):Nat->List ae->List ae
 |_,[]=>[]
 |j,x::xs=>fold κ e j x::mY κ e (j+mS x) xs
end
def ik(ν:aA)(k:av)(b:Nat):Prop:= ∃n v,ν.ow k=some (n,v)/\v.ownBlock=some b
mutual
def de(ν:aA)(R:Nat->Prop)(e:List (av×cC)):ae->List (Nat->Prop)
 | .slice _ tag xs=>match tag with| .tr k i=>[fun b=>ν.tr k i b/\¬R b]| .own k=>[fun b=>ik ν k b\/(hK ν (gR xs) b/\¬R b)]|_=>[fun _=>cU]
 | .row _ k _=>[fun b=>ik ν k b\/(hK ν (gR (nH e k)) b/\¬R b)]
 | .agg cs=>iY ν R e cs
 | .tuple cs=>iY ν R e cs
 |_=>[]
def iY(ν:aA)(R:Nat->Prop)(e:List (av×cC)):List ae->List (Nat->Prop)
 |[]=>[]
 |x::xs=>de ν R e x++iY ν R e xs
end
mutual
theorem pS(ν:aA)(R:Nat->Prop)(e:List (av×cC)):∀p,(de ν R e p).length=mS p
 | .slice _ tag _=>by cases tag<;>simp[de,mS]
 | .row _ k _=>by simp[de,mS]
 | .agg cs=>by simp[de,mS,zN ν R e cs]
 | .tuple cs=>by simp[de,mS,zN ν R e cs]
 | .int _ _=>rfl
 | .bool _=>rfl
 | .str _=>rfl
 | .junk=>rfl
 | .ptr _ _=>rfl
 | .eptr _=>rfl
 | .iface _ _=>rfl
 | .nilp=>rfl
 | .func _ _=>rfl
 | .gmap _=>rfl
 | .rptr _ _ _ _ _=>rfl
 | .hdm _ _=>rfl
 | .hdi _ _ _=>rfl
 | .cst _=>rfl
theorem zN(ν:aA)(R:Nat->Prop)(e:List (av×cC)):∀p,(iY ν R e p).length=rZ p
 |[]=>rfl
 |x::xs=>by simp[iY,rZ,pS ν R e x,zN ν R e xs]
end
def uj(ν:aA)(R:Nat->Prop)(ns:List (av×Nat))(rw:List av)(b:Nat):Prop:=(∃k∈rw,ik ν k b)\/(hK ν ns b/\¬R b)
mutual
theorem wb{ν:aA}{R:Nat->Prop}{e:List (av×cC)}:∀(p:ae) (i:Nat) (S:Nat->Prop),(de ν R e p)[i]? =some S->∀b,S b->uj ν R (er e p) (dw p) b
 | .slice _ tag _,i,S,h,b,aa=>by
  cases tag<;>(simp only[de]at h;cases i<;>simp at h;subst h);all_goals first|exact aa.elim|skip
  ·rcases aa with aa|aa
   ·exact .inl ⟨_,by simp[dw],aa⟩
   ·exact .inr (by simpa only[er]using aa)
  ·exact .inr ⟨⟨_,_,by simp[er],aa.1⟩,aa.2⟩
 | .row _ k _,i,S,h,b,aa=>by
  simp only[de]at h;cases i<;>simp at h;subst h;rcases aa with aa|aa
  ·exact .inl ⟨k,by simp[dw],aa⟩
  ·exact .inr (by simpa only[er]using aa)
 | .agg cs,i,S,h,b,aa=>by simp only[de,er,dw]at h⊢;exact tw cs i S h b aa
 | .tuple cs,i,S,h,b,aa=>by simp only[de,er,dw]at h⊢;exact tw cs i S h b aa
 | .int _ _,_,_,h,_,_=>by simp[de]at h
 | .bool _,_,_,h,_,_=>by simp[de]at h
 | .str _,_,_,h,_,_=>by simp[de]at h
 | .junk,_,_,h,_,_=>by simp[de]at h
 | .ptr _ _,_,_,h,_,_=>by simp[de]at h
 | .eptr _,_,_,h,_,_=>by simp[de]at h
 | .iface _ _,_,_,h,_,_=>by simp[de]at h
 | .nilp,_,_,h,_,_=>by simp[de]at h
 | .func _ _,_,_,h,_,_=>by simp[de]at h
 | .gmap _,_,_,h,_,_=>by simp[de]at h
 | .rptr _ _ _ _ _,_,_,h,_,_=>by simp[de]at h
 | .hdm _ _,_,_,h,_,_=>by simp[de]at h
 | .hdi _ _ _,_,_,h,_,_=>by simp[de]at h
 | .cst _,_,_,h,_,_=>by simp[de]at h
theorem tw{ν:aA}{R:Nat->Prop}{e:List (av×cC)}:∀(p:List ae) (i:Nat) (S:Nat->Prop),(iY ν R e p)[i]? =some S->∀b,S b->uj ν R (jQ e p) (iX p) b
 |[],i,S,h,b,aa=>by simp[iY]at h
 |x::xs,i,S,h,b,aa=>by
  simp only[iY]at h;simp only[jQ,iX];by_cases aM:i<(de ν R e x).length
  ·rw[lg aM]at h;rcases wb x i S h b aa with⟨k,I,J⟩|⟨I,J⟩
   ·exact .inl ⟨k,lh _ I,J⟩
   ·exact .inr ⟨q0 (fun _ h=>lh _ h) b I,J⟩
  ·rw[List.getElem?_append_right Ω]at h;rcases tw xs _ S h b aa with⟨k,I,J⟩|⟨I,J⟩
   ·exact .inl ⟨k,List.mem_append_right _ I,J⟩
   ·exact .inr ⟨q0 (fun _ h=>List.mem_append_right _ h) b I,J⟩
end
structure rH (ν:aA) (R:Nat->Prop) (rw:List av):Prop where
 trd:∀k j aT dn b,ν.tr k j b->ν.tr aT dn b->k=aT/\j=dn
 inj:∀k aT b,k∈rw->aT∈rw->ik ν k b->ik ν aT b->k=aT
 R:∀k b,k∈rw->ik ν k b->R b
theorem CD{ν:aA}{R:Nat->Prop}{rw:List av}(he:rH ν R rw){eN dU:List (av×Nat)}{dX fD:List av}(aU:(eN++dU).Nodup)(hr:(dX++fD).Nodup)(I:∀k∈dX,k∈rw)(J:∀k∈fD,k∈rw)(b:Nat)(aa:uj ν R eN dX b):¬uj ν R dU fD b:=by
 rintro ep;rcases aa with⟨k,cl,cy⟩|⟨cl,cy⟩<;>rcases ep with⟨aT,sW,ve⟩|⟨sW,ve⟩
 ·have:=he.inj k aT b (I k cl) (J aT sW) cy ve;subst this;exact(List.nodup_append.1 hr).2.2 _ cl _ sW rfl
 ·exact ve (he.R k b (I k cl) cy)
 ·exact cy (he.R aT b (J aT sW) ve)
 ·exact yX he.trd aU b cl sW
mutual
theorem F3{ν:aA}{R:Nat->Prop}{rw:List av}(he:rH ν R rw){e:List (av×cC)}:∀(p:ae),(er e p).Nodup->(dw p).Nodup->(∀k∈dw p,k∈rw)->∀(i hl:Nat) (S hy:Nat->Prop),(de ν R e p)[i]? =some S->(de ν R e p)[hl]? =some hy->∀b,S b->hy b->i=hl
 | .slice sz tag xs,_,_,_,i,hl,S,hy,h,b3,b,_,_=>by have ar:(de ν R e (.slice sz tag xs)).length=1:=pS ν R e _;have:=(fG.1 h).1;have:=(fG.1 b3).1;omega
 | .row sz k n,_,_,_,i,hl,S,hy,h,b3,b,_,_=>by have ar:(de ν R e (.row sz k n)).length=1:=pS ν R e _;have:=(fG.1 h).1;have:=(fG.1 b3).1;omega
 | .agg cs,aU,hr,U,i,hl,S,hy,h,b3,b,aa,ep=>by simp only[de,er,dw]at h b3 aU hr U;exact zM he cs aU hr U i hl S hy h b3 b aa ep
 | .tuple cs,aU,hr,U,i,hl,S,hy,h,b3,b,aa,ep=>by simp only[de,er,dw]at h b3 aU hr U;exact zM he cs aU hr U i hl S hy h b3 b aa ep
 | .int _ _,_,_,_,_,_,_,_,h,_,_,_,_=>by simp[de]at h
 | .bool _,_,_,_,_,_,_,_,h,_,_,_,_=>by simp[de]at h
 | .str _,_,_,_,_,_,_,_,h,_,_,_,_=>by simp[de]at h
 | .junk,_,_,_,_,_,_,_,h,_,_,_,_=>by simp[de]at h
 | .ptr _ _,_,_,_,_,_,_,_,h,_,_,_,_=>by simp[de]at h
 | .eptr _,_,_,_,_,_,_,_,h,_,_,_,_=>by simp[de]at h
 | .iface _ _,_,_,_,_,_,_,_,h,_,_,_,_=>by simp[de]at h
 | .nilp,_,_,_,_,_,_,_,h,_,_,_,_=>by simp[de]at h
 | .func _ _,_,_,_,_,_,_,_,h,_,_,_,_=>by simp[de]at h
 | .gmap _,_,_,_,_,_,_,_,h,_,_,_,_=>by simp[de]at h
 | .rptr _ _ _ _ _,_,_,_,_,_,_,_,h,_,_,_,_=>by simp[de]at h
 | .hdm _ _,_,_,_,_,_,_,_,h,_,_,_,_=>by simp[de]at h
 | .hdi _ _ _,_,_,_,_,_,_,_,h,_,_,_,_=>by simp[de]at h
 | .cst _,_,_,_,_,_,_,_,h,_,_,_,_=>by simp[de]at h
theorem zM{ν:aA}{R:Nat->Prop}{rw:List av}(he:rH ν R rw){e:List (av×cC)}:∀(p:List ae),(jQ e p).Nodup->(iX p).Nodup->(∀k∈iX p,k∈rw)->∀(i hl:Nat) (S hy:Nat->Prop),(iY ν R e p)[i]? =some S->(iY ν R e p)[hl]? =some hy->∀b,S b->hy b->i=hl
 |[],_,_,_,i,hl,S,hy,h,_,_,_,_=>by simp[iY]at h
 |x::xs,aU,hr,U,i,hl,S,hy,h,b3,b,aa,ep=>by
  simp only[iY]at h b3;simp only[jQ]at aU;simp only[iX]at hr U;have cl:∀k∈dw x,k∈rw:=fun k bP=>U k (lh _ bP);have cy:∀k∈iX xs,k∈rw:=fun k bP=>U k (List.mem_append_right _ bP);by_cases aM:i<(de ν R e x).length<;>by_cases qB:hl<(de ν R e x).length
  ·rw[lg aM]at h;rw[lg qB]at b3;exact F3 he x (List.nodup_append.1 aU).1 (List.nodup_append.1 hr).1 cl i hl S hy h b3 b aa ep
  ·rw[lg aM]at h;rw[List.getElem?_append_right Ω]at b3;exact absurd (tw xs _ hy b3 b ep) (CD he aU hr cl cy b (wb x i S h b aa))
  ·rw[List.getElem?_append_right Ω]at h;rw[lg qB]at b3;exact absurd (tw xs _ S h b aa) (CD he aU hr cl cy b (wb x hl hy b3 b ep))
  ·rw[List.getElem?_append_right Ω]at h b3;have:=zM he xs (List.nodup_append.1 aU).2.1 (List.nodup_append.1 hr).2.1 cy _ _ S hy h b3 b aa ep;omega
end
end
section
open Go Go.RowKit
theorem zW{w:World}{μ:aA}{k:av}{j sz:Nat}{tag:qb}{ys:List ae}{v:Value}(h:cu true w μ.A (μ.tr k j) (.slice sz tag ys) v)(b6:bR ys=ys):aw w μ (.slice sz (.tr k j) ys) v:=by have I:=xr (ν:=μ) (fun _ _ h=>h) _ _ _ h;simp only[b7,b6]at I;simp only[aw]at I⊢;refine⟨I.1,fun e=>(by cases e),fun _ e=>(by cases e),fun aT dn e=>?_,fun _ e=>(by cases e)⟩;cases e;simp only[cu]at h⊢;exact h
section
variable {pr:Nat->Prop} {w:World} {ν μ:aA} {B:List (av×List ae)} {e:List (av×cC)} {R:Nat->Prop} {rw:List av} {κ:Nat}
 (aG:Good pr w ν B e) (he:rH ν R rw) (hT:∀b,R b->∀k j,¬ν.tr k j b) (sj:∀b o,ν.A b o->μ.A b o) (C0:∀k∈rw,∀own,look k e=some own->∀b,ik ν k b->∀o,o<own.n*own.sz->μ.A b o)
include aG he hT sj C0
mutual
theorem xq:∀(p:ae) (v:Value) (j:Nat),aw w ν p v->okT e p->(er e p).Nodup->(∀k∈dw p,k∈rw)->(∀i S,(de ν R e p)[i]? =some S->∀b,S b->μ.tr (.loc κ) (j+i) b)->aw w μ (fold κ e j p) v
 | .int k n,v,_,h,_,_,_,_=>by simpa only[aw,fold]using h
 | .bool b,v,_,h,_,_,_,_=>by simpa only[aw,fold]using h
 | .str s,v,_,h,_,_,_,_=>by simpa only[aw,fold]using h
 | .slice sz tag xs,v,j,h,ab,aU,U,af=>by
  simp only[aw]at h;obtain⟨⟨a,cap,I,J,aj,aO⟩,_,eW,jm,_⟩:=h;simp only[fold];refine zW (tag:= .no) ?_ (oJ xs);by_cases az:∃k i,tag= .tr k i
  ·obtain⟨k,i,rfl⟩:=az;have aF:=xt .no v (jm k i rfl);refine o1 (fun b o h=>⟨sj b o h,rfl⟩) (fun _ _ _=>rfl) _ _ _ v (fun b aa=>?_) aF;simpa using af 0 (fun b=>ν.tr k i b/\¬R b) (by simp[de]) b ⟨aa,fun hr=>hT b hr _ _ aa⟩
  by_cases u0:∃k,tag= .own k
  ·obtain⟨k,rfl⟩:=u0;simp only[okT]at ab;obtain⟨_,⟨el,ar⟩,iS,dt⟩:=ab;obtain⟨n',u,g1,g2,g3⟩:=eW k rfl;obtain⟨v0,db,bY,cz,dV,cY⟩:=aG.own k _ ar;simp only at bY cz dV;rw[g1]at bY;simp only[cR,fQ]at bY;obtain⟨rfl,rfl⟩:=bY;have yq:=g3 rfl;subst yq;have uN:k∈rw:=U k (by simp[dw]);simp only[cu];refine⟨a,cap,by rw[il];exact I,by rw[il];exact J,by rw[il];exact aj,?_⟩;rcases aO with rfl|⟨b,off,us,ai,cP,gv⟩
   ·exact .inl rfl
   by_cases kQ:xs=[]
   ·left;rw[kQ];rfl
   right;subst ai;rcases cz.2 with⟨ai,_⟩|⟨g,nU,cur,f1,f2,f3,f4,f5,f6,f7⟩
   ·rw[ai]at I;cases I
   have fZ:v.ownBlock=some g:=by rw[f1];rfl
   have qI:ik ν k g:=⟨_,_,g1,fZ⟩;have qv:∀b,(ik ν k b\/(hK ν (gR xs) b/\¬R b))->μ.tr (.loc κ) j b:=fun b aa=>by simpa using af 0 (fun b=>ik ν k b\/(hK ν (gR xs) b/\¬R b)) (by simp[de]) b aa
   rw[f1]at I;simp only[Tf,cR,Addr.mk.injEq]at I;obtain⟨⟨rfl,rfl,_⟩,_,rfl⟩:=I;have hlen:=kZ gv;refine⟨g,0,us,fun c=>hK ν (gR xs) c/\¬R c,rfl,qv g (.inl qI),fun c al=>⟨qv c (.inr al),fun _ w8=>al.2 (by rw[w8];exact he.R k g uN qI)⟩,ov (fun b o h=>⟨sj b o h,rfl⟩) _ _ cP,fun _=>⟨rfl,?_,el,?_⟩,?_⟩
   ·rw[hlen];exact Nat.mul_pos (List.length_pos_iff.2 kQ) dt
   ·simp only[shape,f3,f6]
   ·have I:=y5 he.trd xs us gv iS (by simpa only[er]using aU);exact uk (fun b o h=>⟨sj b o h,rfl⟩) (fun _ _ _=>rfl) _ _ _ us (fun b aa=>⟨aa,fun hr=>by obtain⟨aT,hl,_,az⟩:=aa;exact hT b hr _ _ az⟩) I
  ·have ad:xs=[]:=by
    simp only[okT]at ab;split at ab
    ·exact absurd ⟨_,_,rfl⟩ az
    ·exact absurd ⟨_,rfl⟩ u0
    ·exact ab
   subst ad;simp only[bR,cu];exact⟨a,cap,I,J,aj,.inl trivial⟩
 | .row sz k n,v,j,h,ab,aU,U,af=>by
  simp only[okT]at ab;obtain⟨⟨m,hm⟩,⟨xs,el,ar,iS⟩,dt⟩:=ab;have iA:nH e k=xs:=by simp[nH,ar]
  simp only[aw]at h;obtain⟨⟨Hr,c0,u1⟩,jq,n',u,g1,g2,g3⟩:=h;obtain⟨v0,us,bY,cz,dV,cY⟩:=aG.own k _ ar;simp only at bY cz dV;rw[g1]at bY;simp only[cR,fQ]at bY;obtain⟨rfl,rfl⟩:=bY;have yq:=g3 rfl;subst yq;obtain⟨cc,hM,lQ⟩:=cY xs rfl;simp only at cc hM;have uN:k∈rw:=U k (by simp[dw]);rcases cz.2 with⟨ai,_⟩|⟨g,cap,cur,f1,f2,f3,f4,f5,f6,f7⟩
  ·rw[ai]at u1;cases u1
  have fZ:v.ownBlock=some g:=by rw[f1];rfl
  have qI:ik ν k g:=⟨_,_,g1,fZ⟩;have qv:∀b,(ik ν k b\/(hK ν (gR (nH e k)) b/\¬R b))->μ.tr (.loc κ) j b:=fun b aa=>by simpa using af 0 (fun b=>ik ν k b\/(hK ν (gR (nH e k)) b/\¬R b)) (by simp[de]) b aa
  rw[iA]at qv;simp only[fold,iA];refine zW (tag:= .no) ?_ (oJ xs);simp only[cu];refine⟨some ⟨g,0,none⟩,cap,by rw[il,cc];exact f1,by rw[il,cc];exact f4,⟨f5,by rw[il,cc];exact jq⟩,?_⟩;by_cases kQ:xs=[]
  ·left;rw[kQ];rfl
  ·right;have hlen:=kZ hM;refine⟨g,0,us,fun c=>hK ν (gR xs) c/\¬R c,rfl,qv g (.inl qI),fun c al=>⟨qv c (.inr al),fun _ w8=>al.2 (by rw[w8];exact he.R k g uN qI)⟩,pw us 0 fun i u aM=>?_,fun _=>⟨rfl,?_,el,?_⟩,?_⟩
   ·have uJ:i<us.length:=(fG.1 aM).1;refine⟨C0 k uN _ ar g qI _ (by simp only;rw[cz.1]at uJ;omega),?_⟩;have:=cz.cells fZ i u aM;rwa[jg]at this
   ·rw[hlen];exact Nat.mul_pos (List.length_pos_iff.2 kQ) dt
   ·simp only[shape,f3,f6]
   ·have I:=y5 he.trd xs us hM iS (by simpa only[er,iA]using aU);exact uk (fun b o h=>⟨sj b o h,rfl⟩) (fun _ _ _=>rfl) _ _ _ us (fun b aa=>⟨aa,fun hr=>by obtain⟨aT,hl,_,az⟩:=aa;exact hT b hr _ _ az⟩) I
 | .agg cs,v,j,h,ab,aU,U,af=>by simp only[aw,okT,er,dw,de,fold]at h ab aU U af⊢;obtain⟨us,I,J⟩:=h;exact⟨us,I,CA cs _ j J ab aU U af⟩
 | .tuple cs,v,j,h,ab,aU,U,af=>by simp only[aw,okT,er,dw,de,fold]at h ab aU U af⊢;obtain⟨us,I,J⟩:=h;exact⟨us,I,CB cs _ j J ab aU U af⟩
 | .junk,_,_,_,ab,_,_,_=>by simp[okT]at ab
 | .ptr _ _,_,_,_,ab,_,_,_=>by simp[okT]at ab
 | .eptr _,_,_,_,ab,_,_,_=>by simp[okT]at ab
 | .iface _ _,_,_,_,ab,_,_,_=>by simp[okT]at ab
 | .nilp,_,_,_,ab,_,_,_=>by simp[okT]at ab
 | .func _ _,_,_,_,ab,_,_,_=>by simp[okT]at ab
 | .gmap _,_,_,_,ab,_,_,_=>by simp[okT]at ab
 | .rptr _ _ _ _ _,_,_,_,ab,_,_,_=>by simp[okT]at ab
 | .hdm _ _,_,_,_,ab,_,_,_=>by simp[okT]at ab
 | .hdi _ _ _,_,_,_,ab,_,_,_=>by simp[okT]at ab
 | .cst _,_,_,_,ab,_,_,_=>by simp[okT]at ab
theorem CA:∀(cs:List ae) (us:List Value) (j:Nat),bL w ν cs us->lN e cs->(jQ e cs).Nodup->(∀k∈iX cs,k∈rw)->(∀i S,(iY ν R e cs)[i]? =some S->∀b,S b->μ.tr (.loc κ) (j+i) b)->bL w μ (mY κ e j cs) us
 |[],us,j,h,_,_,_,_=>by simpa only[bL,mY]using h
 |c::cs,us,j,h,ab,aU,U,af=>by
  simp only[bL,lN,jQ,iX,iY,mY]at h ab aU U af⊢;obtain⟨u,a1,I,⟨J,aj⟩,aO⟩:=h;have jr:=List.nodup_append.1 aU;refine⟨u,a1,I,⟨xq c u j J ab.1 jr.1 (fun k bP=>U k (lh _ bP)) (fun i S aM b aa=>af i S (by rw[lg (fG.1 aM).1];exact aM) b aa),aj⟩,
   CA cs a1 _ aO ab.2 jr.2.1 (fun k bP=>U k (List.mem_append_right _ bP)) (fun i S aM b aa=>?_)⟩
  have:=af (mS c+i) S (by rw[List.getElem?_append_right (by rw[pS];omega),pS];simpa using aM) b aa;rwa[<-Nat.add_assoc]at this
theorem CB:∀(cs:List ae) (us:List Value) (j:Nat),bG w ν cs us->lN e cs->(jQ e cs).Nodup->(∀k∈iX cs,k∈rw)->(∀i S,(iY ν R e cs)[i]? =some S->∀b,S b->μ.tr (.loc κ) (j+i) b)->bG w μ (mY κ e j cs) us
 |[],us,j,h,_,_,_,_=>by simpa only[bG,mY]using h
 |c::cs,us,j,h,ab,aU,U,af=>by
  simp only[bG,lN,jQ,iX,iY,mY]at h ab aU U af⊢;obtain⟨u,a1,I,J,aO⟩:=h;have jr:=List.nodup_append.1 aU;refine⟨u,a1,I,xq c u j J ab.1 jr.1 (fun k bP=>U k (lh _ bP)) (fun i S aM b aa=>af i S (by rw[lg (fG.1 aM).1];exact aM) b aa),
   CB cs a1 _ aO ab.2 jr.2.1 (fun k bP=>U k (List.mem_append_right _ bP)) (fun i S aM b aa=>?_)⟩
  have:=af (mS c+i) S (by rw[List.getElem?_append_right (by rw[pS];omega),pS];simpa using aM) b aa;rwa[<-Nat.add_assoc]at this
end
end
end
section
open Go Go.RowKit
mutual
theorem NJ:∀p:ae,hp p->∀x∈fM p,x.1≠mG
 | .slice _ tag xs,ab,x,ad=>by cases tag<;>simp only[fM,hp]at ab ad<;>simp at ad;subst ad;exact ab
 | .agg cs,ab,x,ad=>by simp only[fM,hp]at ab ad;exact vv cs ab x ad
 | .int _ _,_,_,ad=>by simp[fM]at ad
 | .bool _,_,_,ad=>by simp[fM]at ad
 | .str _,_,_,ad=>by simp[fM]at ad
 | .junk,_,_,ad=>by simp[fM]at ad
 | .ptr _ _,_,_,ad=>by simp[fM]at ad
 | .eptr _,_,_,ad=>by simp[fM]at ad
 | .iface _ _,_,_,ad=>by simp[fM]at ad
 | .nilp,_,_,ad=>by simp[fM]at ad
 | .tuple _,_,_,ad=>by simp[fM]at ad
 | .func _ _,_,_,ad=>by simp[fM]at ad
 | .gmap _,_,_,ad=>by simp[fM]at ad
 | .row _ _ _,_,_,ad=>by simp[fM]at ad
 | .rptr _ _ _ _ _,_,_,ad=>by simp[fM]at ad
 | .hdm _ _,_,_,ad=>by simp[fM]at ad
 | .hdi _ _ _,_,_,ad=>by simp[fM]at ad
 | .cst _,_,_,ad=>by simp[fM]at ad
theorem vv:∀p:List ae,mB p->∀x∈gR p,x.1≠mG
 |[],_,x,ad=>by simp[gR]at ad
 |c::cs,ab,x,ad=>by
  simp only[gR,mB,ht]at ab ad;rcases ad with ad|ad
  ·exact NJ c ab.1 x ad
  ·exact vv cs ab.2 x ad
end
mutual
theorem EB{e:List (av×cC)}:∀p:ae,okT e p->∀x∈er e p,x.1≠mG
 | .slice _ tag xs,ab,x,ad=>by
  cases tag with
  |own k=>simp only[er,okT]at ab ad;exact vv xs ab.2.2.1 x ad
  |tr k i=>simp only[er,okT]at ab ad;simp at ad;subst ad;exact ab
  |no=>simp[er]at ad
  |nil=>simp[er]at ad
  |lo k=>simp[er]at ad
 | .row _ k _,ab,x,ad=>by simp only[er,okT]at ab ad;obtain⟨_,⟨xs,el,ar,iS⟩,_⟩:=ab;rw[show nH e k=xs from by simp[nH,ar]]at ad;exact vv xs iS x ad
 | .agg cs,ab,x,ad=>by simp only[er,okT]at ab ad;exact y2 cs ab x ad
 | .tuple cs,ab,x,ad=>by simp only[er,okT]at ab ad;exact y2 cs ab x ad
 | .int _ _,_,_,ad=>by simp[er]at ad
 | .bool _,_,_,ad=>by simp[er]at ad
 | .str _,_,_,ad=>by simp[er]at ad
 | .junk,_,_,ad=>by simp[er]at ad
 | .ptr _ _,_,_,ad=>by simp[er]at ad
 | .eptr _,_,_,ad=>by simp[er]at ad
 | .iface _ _,_,_,ad=>by simp[er]at ad
 | .nilp,_,_,ad=>by simp[er]at ad
 | .func _ _,_,_,ad=>by simp[er]at ad
 | .gmap _,_,_,ad=>by simp[er]at ad
 | .rptr _ _ _ _ _,_,_,ad=>by simp[er]at ad
 | .hdm _ _,_,_,ad=>by simp[er]at ad
 | .hdi _ _ _,_,_,ad=>by simp[er]at ad
 | .cst _,_,_,ad=>by simp[er]at ad
theorem y2{e:List (av×cC)}:∀p:List ae,lN e p->∀x∈jQ e p,x.1≠mG
 |[],_,x,ad=>by simp[jQ]at ad
 |c::cs,ab,x,ad=>by
  simp only[jQ,lN,ht]at ab ad;rcases ad with ad|ad
  ·exact EB c ab.1 x ad
  ·exact y2 cs ab.2 x ad
end
mutual
theorem EC{e:List (av×cC)}:∀p:ae,okT e p->∀k∈dw p,∃own,look k e=some own
 | .row sz k n,ab,aT,U=>by simp only[dw,okT]at ab U;obtain⟨_,⟨xs,el,ar,iS⟩,_⟩:=ab;simp at U;subst U;exact⟨_,ar⟩
 | .agg cs,ab,x,ad=>by simp only[dw,okT]at ab ad;exact y3 cs ab x ad
 | .tuple cs,ab,x,ad=>by simp only[dw,okT]at ab ad;exact y3 cs ab x ad
 | .slice sz tag xs,ab,aT,U=>by
  cases tag with
  |own k=>simp only[dw,okT]at ab U;obtain⟨_,⟨el,ar⟩,_⟩:=ab;simp at U;subst U;exact⟨_,ar⟩
  |tr k i=>simp[dw]at U
  |no=>simp[dw]at U
  |nil=>simp[dw]at U
  |lo k=>simp[dw]at U
 | .int _ _,_,_,ad=>by simp[dw]at ad
 | .bool _,_,_,ad=>by simp[dw]at ad
 | .str _,_,_,ad=>by simp[dw]at ad
 | .junk,_,_,ad=>by simp[dw]at ad
 | .ptr _ _,_,_,ad=>by simp[dw]at ad
 | .eptr _,_,_,ad=>by simp[dw]at ad
 | .iface _ _,_,_,ad=>by simp[dw]at ad
 | .nilp,_,_,ad=>by simp[dw]at ad
 | .func _ _,_,_,ad=>by simp[dw]at ad
 | .gmap _,_,_,ad=>by simp[dw]at ad
 | .rptr _ _ _ _ _,_,_,ad=>by simp[dw]at ad
 | .hdm _ _,_,_,ad=>by simp[dw]at ad
 | .hdi _ _ _,_,_,ad=>by simp[dw]at ad
 | .cst _,_,_,ad=>by simp[dw]at ad
theorem y3{e:List (av×cC)}:∀p:List ae,lN e p->∀k∈iX p,∃own,look k e=some own
 |[],_,x,ad=>by simp[iX]at ad
 |c::cs,ab,x,ad=>by
  simp only[iX,lN,ht]at ab ad;rcases ad with ad|ad
  ·exact EC c ab.1 x ad
  ·exact y3 cs ab.2 x ad
end
end
section
open Go Go.RowKit
mutual
def eK(N:List av):ae->ae
 | .slice sz (.tr k j) xs=>if k∈N\/k=mG then .slice sz .no (eO N xs)else .slice sz (.tr k j) (bR xs)
 | .slice sz (.own k) xs=>.slice sz (.own k) (eO N xs)
 | .slice sz .nil xs=>.slice sz .nil (eO N xs)
 | .slice sz .no xs=>.slice sz .no (eO N xs)
 | .slice sz (.lo _) xs=>.slice sz .no (eO N xs)
 | .agg cs=>.agg (eO N cs)
 | .eptr x=>.eptr (eK N x)
 | .iface t x=>.iface t (eK N x)
 | .tuple aV=>.tuple (eO N aV)
 | .func f bX=>.func f (eO N bX)
 |p=>p
def eO(N:List av):List ae->List ae
 |[]=>[]
 |x::xs=>eK N x::eO N xs
end
theorem oU(N:List av):∀xs,(eO N xs).length=xs.length
 |[]=>rfl
 |x::xs=>by simp[eO,oU N xs]
section
variable {w:World} {ν μ:aA} {N:List av} (aQ:∀b o,ν.A b o->μ.A b o) (aa:μ.bx=ν.bx) (ab:μ.ow=ν.ow) (az:∀k,k∉N->∀j b,ν.tr k j b->μ.tr k j b)
 (ei:∀k j aT dn b,ν.tr k j b->ν.tr aT dn b->k=aT/\j=dn)
include aQ aa ab az ei
mutual
theorem rj:∀(p:ae) (v:Value),aw w ν p v->aw w μ (eK N p) v
 | .junk,_,_=>by simp[eK,aw]
 | .int _ _,_,h=>by simpa only[eK,aw]using h
 | .bool _,_,h=>by simpa only[eK,aw]using h
 | .str _,_,h=>by simpa only[eK,aw]using h
 | .slice sz tag xs,v,h=>by
  have hw:=h;simp only[aw]at h;obtain⟨I,J,aj,aO,bs⟩:=h;obtain⟨a0,BS,bY,cz,dV,cY⟩:=I;have sA:∃a cap,v= .slice a (eO N xs).length cap/\(eO N xs).length<=cap/\(cap<=maxLen/\(eO N xs).length<=bF)/\(eO N xs=[]\/ ∃b off us,a=some ⟨b,off,none⟩/\gP w μ.A b off us/\bN w μ sz (eO N xs) us):=by
   refine⟨a0,BS,by rw[oU];exact bY,by rw[oU];exact cz,by rw[oU];exact dV,?_⟩;rcases cY with aO|⟨b,off,us,ai,aK,bu⟩
   ·exact .inl (by rw[aO];rfl)
   ·exact .inr ⟨b,off,us,ai,ov (fun b o h=>⟨aQ b o h,rfl⟩) _ _ aK,zt sz xs us bu⟩
  cases tag with
  |no=>simp only[eK,aw];exact⟨sA,fun e=>(by cases e),fun _ e=>(by cases e),fun _ _ e=>(by cases e),fun _ e=>(by cases e)⟩
  |lo k=>simp only[eK,aw];exact⟨sA,fun e=>(by cases e),fun _ e=>(by cases e),fun _ _ e=>(by cases e),fun _ e=>(by cases e)⟩
  |nil=>simp only[eK,aw];exact⟨sA,fun _=>J rfl,fun _ e=>(by cases e),fun _ _ e=>(by cases e),fun _ e=>(by cases e)⟩
  |own k=>simp only[eK,aw];refine⟨sA,fun e=>(by cases e),fun g e=>?_,fun _ _ e=>(by cases e),fun _ e=>(by cases e)⟩;rw[ab,oU];exact aj g e
  |tr k j=>
   simp only[eK];by_cases U:k∈N\/k=mG
   ·rw[cX U];simp only[aw];exact⟨sA,fun e=>(by cases e),fun _ e=>(by cases e),fun _ _ e=>(by cases e),fun _ e=>(by cases e)⟩
   ·rw[bT U];have e5:=not_or.1 U;have aF:=y4 ei _ v hw (by simp only[hp];exact e5.2) (by simp[fM]);have mq:=o1 (A':=μ.A) (fun b o h=>⟨aQ b o h,rfl⟩) (fun _ _ _=>rfl) _ _ (μ.tr k j) _ (fun b aa=>by obtain⟨aT,i,hm,aa⟩:=aa;simp only[fM,List.mem_singleton,fQ]at hm;obtain⟨rfl,rfl⟩:=hm;exact az _ e5.1 _ _ aa) aF
    simp only[b7]at mq;exact zW mq (oJ xs)
 | .agg cs,v,h=>by simp only[aw,eK]at h⊢;obtain⟨us,I,J⟩:=h;exact⟨us,I,zw cs _ J⟩
 | .ptr key off,v,h=>by simp only[aw,eK]at h⊢;rw[aa];exact h
 | .eptr x,v,h=>by simp only[aw,eK]at h⊢;obtain⟨b,off,u,I,J,aj⟩:=h;exact⟨b,off,u,I,rj x u J,ov (fun b o h=>⟨aQ b o h,rfl⟩) _ _ aj⟩
 | .iface t x,v,h=>by simp only[aw,eK]at h⊢;obtain⟨u,I,J⟩:=h;exact⟨u,I,rj x u J⟩
 | .nilp,_,h=>by simpa only[eK,aw]using h
 | .tuple aV,v,h=>by simp only[aw,eK]at h⊢;obtain⟨us,I,J⟩:=h;exact⟨us,I,tn aV _ J⟩
 | .func f bX,v,h=>by simp only[aw,eK]at h⊢;obtain⟨us,I,J⟩:=h;exact⟨us,I,tn bX _ J⟩
 | .gmap key,v,h=>by simp only[aw,eK]at h⊢;rw[aa];exact h
 | .row sz k n,v,h=>by simp only[aw,eK]at h⊢;rw[ab];exact h
 | .rptr sz k n i f,v,h=>by simp only[aw,eK]at h⊢;rw[ab];exact h
 | .hdm _ _,_,h=>by simp only[aw]at h
 | .hdi _ _ _,_,h=>by simp only[aw]at h
 | .cst _,_,h=>by simpa only[eK,aw]using h
theorem zw:∀(cs:List ae) (us:List Value),bL w ν cs us->bL w μ (eO N cs) us
 |[],_,h=>by simpa only[eO,bL]using h
 |c::cs,us,h=>by simp only[bL,eO]at h⊢;obtain⟨u,a1,I,J,aj⟩:=h;exact⟨u,a1,I,⟨rj c u J.1,J.2⟩,zw cs a1 aj⟩
theorem tn:∀(cs:List ae) (us:List Value),bG w ν cs us->bG w μ (eO N cs) us
 |[],_,h=>by simpa only[eO,bG]using h
 |c::cs,us,h=>by simp only[bG,eO]at h⊢;obtain⟨u,a1,I,J,aj⟩:=h;exact⟨u,a1,I,rj c u J,tn cs a1 aj⟩
theorem zt(sz:Nat):∀(cs:List ae) (us:List Value),bN w ν sz cs us->bN w μ sz (eO N cs) us
 |[],_,h=>by simpa only[eO,bN]using h
 |c::cs,us,h=>by simp only[bN,eO]at h⊢;obtain⟨u,a1,I,⟨J,KU⟩,aj⟩:=h;exact⟨u,a1,I,⟨rj c u J,KU⟩,zt sz cs a1 aj⟩
end
theorem O3{cs:List ae}{us:List Value}(h:eZ w ν cs us):eZ w μ (eO N cs) us:=by
 have bP:∀c:ae,(∀a b,c≠ .hdm a b)->(∀a b d,c≠ .hdi a b d)->(∀a b,eK N c≠ .hdm a b)/\(∀a b d,eK N c≠ .hdi a b d):=by
  intro c I J;cases c with
  |slice sz tag xs=>cases tag<;>simp only[eK]<;>first|(split<;>simp)|simp
  |hdm a b=>exact absurd rfl (I a b)
  |hdi a b d=>exact absurd rfl (J a b d)
  |_=>simp[eK]
 unfold eZ at h;split at h
 ·simp only[eO,eK,eZ];exact⟨tn aQ aa ab az ei _ _ h.1,⟨by rw[oU];exact h.2.len,h.2.inc,h.2.lt⟩⟩
 ·simp only[eO,eK,eZ];exact tn aQ aa ab az ei _ _ h
 ·rename_i eN dU;have hr:=zw aQ aa ab az ei _ _ h;rw[jT]
  ·exact hr
  ·exact pL hr
end
theorem Ij(N:List av)(cs:List ae)(us:Array Value)(el:eb):fq (eO N cs) us el=fq cs us el:=by
 cases cs with
 |nil=>rfl
 |cons c r=>
  cases c with
  |slice sz tag xs=>
   cases tag with
   |tr k j=>by_cases U:k∈N\/k=mG<;>simp[eO,eK,fq,U]
   |_=>rfl
  |_=>rfl
def rY(N:List av)(l:List (Nat×ae)):List (Nat×ae):=l.map fun x=>(x.1,eK N x.2)
def rX(N:List av)(l:List (av×List ae)):List (av×List ae):=l.map fun x=>(x.1,eO N x.2)
def tT(N:List av)(o:cC):cC:=⟨o.n,o.el,o.sz,o.xs.map (eO N)⟩
def qi(N:List av)(rw:List av)(l:List (av×cC)):List (av×cC):=(l.filter fun x=>decide (x.1∉rw)).map fun x=>(x.1,tT N x.2)
theorem CQ(N:List av)(i:Nat):∀l,get i (rY N l)=eK N (get i l)
 |[]=>by simp[rY,get,eK]
 |(j,p)::r=>by
  have bz:=CQ N i r;simp only[rY,eU,get]at bz⊢;split
  ·rfl
  ·exact bz
theorem yN(N:List av)(k:av):∀l,look k (rX N l)=(look k l).map (eO N)
 |[]=>rfl
 |(j,p)::r=>by
  have bz:=yN N k r;simp only[rX,eU,look]at bz⊢;split
  ·rfl
  ·exact bz
theorem yO(N rw:List av)(k:av):∀l,look k (qi N rw l)=if k∈rw then none else(look k l).map (tT N)
 |[]=>by simp[qi,look]
 |(j,p)::r=>by
  have bz:=yO N rw k r;simp only[qi]at bz⊢;by_cases aC:j∈rw
  ·rw[List.filter_cons_of_neg (by simpa using aC),bz];simp only[look];by_cases U:k∈rw
   ·simp[U]
   ·have:j≠k:=fun e=>U (e▸aC);simp[U,this]
  ·rw[List.filter_cons_of_pos (by simpa using aC)];simp only[eU,look];by_cases e:j=k
   ·subst e;simp[aC]
   ·rw[bT e,bz,bT e]
def qk(st:aS)(p:ae):List av:=(er st.e p).map (·.1)
def ql(st:aS)(s:Nat):aS:=⟨put s (fold st.n st.e 0 (get s st.t)) (rY (qk st (get s st.t)) st.t),rX (qk st (get s st.t)) st.b,qi (qk st (get s st.t)) (dw (get s st.t)) st.e,st.n+1,st.o⟩
def r8(ob:List av)(st:aS)(s:Nat):Prop:=okT st.e (get s st.t)/\(er st.e (get s st.t)).Nodup/\(dw (get s st.t)).Nodup/\ .loc st.n∉st.o/\(∀k∈qk st (get s st.t),k∉ob)/\∀k∈dw (get s st.t),∃j,k= .loc j
def aA.fd(ν:aA)(R:Nat->Prop)(rw:List av)(e:List (av×cC))(T:List (Nat->Prop))(N:List av)(n:Nat):aA:=
 {A:=fun b o=>ν.A b o\/ ∃k,k∈rw/\∃own,look k e=some own/\ik ν k b/\o<own.n*own.sz,
  bx:=ν.bx,ow:=ν.ow,
  tr:=fun k j b=>(k∉N/\ν.tr k j b)\/(k= .loc n/\∃S,T[j]? =some S/\S b)}
theorem Kh{C:c7}{st:aS}{a:Act}{w:World}{ν:aA}(h:bH C st a w ν){s:Nat}(al:r8 C.ob st s):∃ν',bH C (ql st s) a w ν':=by
 obtain⟨ok,yW,gB,o9,Dw,Dp⟩:=al;unfold ql;generalize be:get s st.t=p at ok yW gB Dw Dp⊢;have hW:aw w ν p (a.tmps.getD s undef):=by rw[<-be];exact h.slot s
 let R:Nat->Prop:=fun b=> ∃k,k∈dw p/\ik ν k b
 have u4:=h.new (.loc st.n) ⟨dY _,o9⟩;have mu:∀k b,k∈dw p->ik ν k b->∃own,look k st.e=some own/\C.w0.heap.size<=b/\b<w.heap.size/\(∀k j,¬ν.tr k j b)/\(∀aT,(look aT st.b).isSome->ν.bx aT≠some b)/\∀g n v,(look g st.e).isSome->ν.ow g=some (n,v)->v.ownBlock=some b->g=k:=by rintro k b U ⟨n,v,I,J⟩;obtain⟨own,kc⟩:=EC _ ok k U;obtain⟨j,rfl⟩:=Dp k U;exact⟨own,kc,h.fr.nrow j n v b I J,h.good.ownLt kc I J,h.good.otr b (.inr ⟨_,_,_,by simp[kc],I,J⟩),fun aT e5 gk=>h.good.obx _ aT _ _ b (by simp[kc]) e5 I J gk,fun g n' v' aG ai aK=>h.good.oinj g _ n' n v' v b aG (by simp[kc]) ai I aK J⟩
 have uH:rH ν R (dw p):=by refine⟨h.fr.trd,fun k aT b U e5 I J=>?_,fun k b U h=>⟨k,U,h⟩⟩;obtain⟨n,v,bk,a2⟩:=I;obtain⟨_,cO,_⟩:=mu k b U ⟨n,v,bk,a2⟩;obtain⟨_,_,_,_,_,_,c2⟩:=mu aT b e5 J;exact c2 k n v (by simp[cO]) bk a2
 let N:=qk st p
 let μ:aA:=ν.fd R (dw p) st.e (de ν R st.e p) N st.n
 have aQ:∀b o,ν.A b o->μ.A b o:=fun b o h=>.inl h;have ei:∀k,k∉N->∀j b,ν.tr k j b->μ.tr k j b:=fun k U j b aa=>.inl ⟨U,aa⟩;have Ld:∀q v,aw w ν q v->aw w μ (eK N q) v:=rj aQ rfl rfl ei h.fr.trd;have Le:∀sz q v,bN w ν sz q v->bN w μ sz (eO N q) v:=fun sz=>zt aQ rfl rfl ei h.fr.trd sz;have yf:∀(j:Nat) (S:Nat->Prop) (b:Nat),(de ν R st.e p)[j]? =some S->S b->(∃k∈dw p,ik ν k b)\/ ∃k i,(k,i)∈er st.e p/\ν.tr k i b:=by
  intro j S b aC h8;rcases wb _ j S aC b h8 with⟨k,U,I⟩|⟨⟨k,i,I,J⟩,_⟩
  ·exact .inl ⟨k,U,I⟩
  ·exact .inr ⟨k,i,I,J⟩
 have oc:∀k,(look k (rX N st.b)).isSome->(look k st.b).isSome:=fun k U=>by rw[yN]at U;simpa using U
 have pd:∀k,(look k (qi N (dw p) st.e)).isSome->k∉dw p/\(look k st.e).isSome:=fun k U=>by
  rw[yO]at U;split at U
  ·cases U
  ·rename_i e;exact⟨e,by simpa using U⟩
 have Dx:∀g n v b,g∉dw p->(look g st.e).isSome->ν.ow g=some (n,v)->v.ownBlock=some b->∀k∈dw p,¬ik ν k b:=by intro g n v b aG ar ai aK k U hr;obtain⟨_,_,_,_,_,_,c⟩:=mu k b U hr;exact aG (c g n v ar ai aK▸U)
 have Lt:aw w μ (fold st.n st.e 0 p) (a.tmps.getD s undef):=by refine xq (μ:=μ) h.good uH (fun b hT=>?_) aQ (fun k U own kc b ep o ab=>.inr ⟨k,U,own,kc,ep,ab⟩) p _ 0 hW ok yW (fun k U=>U) (fun i S aM b h8=>.inr ⟨rfl,S,by simpa using aM,h8⟩);obtain⟨k,U,ep⟩:=hT;obtain⟨_,_,_,_,aO,_⟩:=mu k b U ep;exact aO
 refine⟨μ,⟨fun bl o aQ=>?_,fun k cs U=>?_,fun k aT bl I J=>h.good.inj k aT bl (oc k I) (oc aT J),fun g o aG=>?_,fun g dh n n' v v' bl I J=>h.good.oinj g dh n n' v v' bl (pd g I).2 (pd dh J).2,fun g k n v bl I J=>h.good.obx g k n v bl (pd g I).2 (oc k J),h.good.one,fun bl az k j Mq=>?_⟩,
  ⟨h.fr.os,h.fr.tape,h.fr.output,h.fr.size,h.fr.block,fun b o bE=>⟨.inl (h.fr.keep b o bE).1,(h.fr.keep b o bE).2⟩,fun b o bE=>?_,h.fr.obj,h.fr.obn,h.fr.row,h.fr.obr,fun k j aT dn b I J=>?_,fun k j b aa=>?_,fun k j b aa=>?_,h.fr.sh,h.fr.nrow⟩,
  h.defers,h.size,fun i=>?_,fun k U=>?_,fun x ad=>?_,fun m hm aF=>h.obk m hm (o0 (Nat.le_succ _) (fun _ h=>h) aF)⟩
 ·rcases aQ with aQ|⟨k,U,own,_,ep,_⟩
  ·exact h.good.alt bl o aQ
  ·obtain⟨_,_,_,aj,_⟩:=mu k bl U ep;exact aj
 ·simp only at U;rw[yN]at U;cases ar:look k st.b with
  |none=>rw[ar]at U;cases U
  |some cx=>
   rw[ar]at U;simp only[l2,cR]at U;subst U;obtain⟨bl,us,el,ai,aK,bu,cP,fX⟩:=h.good.box k cx ar;refine⟨bl,us,el,ai,aK,fun o bE=>?_,by rw[Ij];exact cP,O3 aQ rfl rfl ei h.fr.trd fX⟩;rcases bE with bE|⟨aT,e5,own,_,ep,_⟩
   ·exact bu o bE
   ·obtain⟨_,_,_,_,_,bs,_⟩:=mu aT bl e5 ep;exact bs k (by simp[ar]) ai
 ·simp only at aG;have xZ:=pd g (by rw[aG];rfl);rw[yO,bT xZ.1]at aG;cases ar:look g st.e with
  |none=>rw[ar]at aG;cases aG
  |some iD=>
   rw[ar]at aG;simp only[l2,cR]at aG;subst aG;obtain⟨v,us,ai,aK,bu,cP⟩:=h.good.own g iD ar;have gL:∀bl,v.ownBlock=some bl->∀j,μ.A bl j->ν.A bl j:=by
    intro bl aa j bE;rcases bE with bE|⟨aT,e5,own,_,ep,_⟩
    ·exact bE
    ·exact absurd ep (Dx g _ v bl xZ.1 xZ.2 ai aa aT e5)
   refine⟨v,us,ai,aK,fun bl aa=>⟨(bu bl aa).1,fun j bE=>(bu bl aa).2 j (gL bl aa j bE)⟩,fun xs ad=>?_⟩;simp only[tT]at ad;cases iS:iD.xs with
   |none=>rw[iS]at ad;cases ad
   |some ys=>rw[iS]at ad;simp only[l2,cR]at ad;subst ad;obtain⟨f1,f2,f3⟩:=cP ys iS;exact⟨by rw[oU];exact f1,Le _ _ _ f2,fun bl aa j bE=>f3 bl aa j (gL bl aa j bE)⟩
 ·have hold:∀k j,¬ν.tr k j bl:=by refine h.good.otr bl (az.imp (fun⟨k,bk,a2⟩=>⟨k,oc k bk,a2⟩) fun⟨g,n,v,bk,a2,a3⟩=>⟨g,n,v,(pd g bk).2,a2,a3⟩)
  rcases Mq with⟨_,aa⟩|⟨_,S,h8,aa⟩
  ·exact hold k j aa
  ·rcases yf j S bl h8 aa with⟨aT,e5,hr⟩|⟨aT,i,_,ep⟩
   ·rcases az with⟨cy,bk,a2⟩|⟨g,n,v,bk,a2,a3⟩
    ·obtain⟨_,_,_,_,_,bs,_⟩:=mu aT bl e5 hr;exact bs cy (oc cy bk) a2
    ·exact Dx g n v bl (pd g bk).1 (pd g bk).2 a2 a3 aT e5 hr
   ·exact hold aT i ep
 ·rcases bE with bE|⟨k,U,own,_,ep,_⟩
  ·exact h.fr.fresh b o bE
  ·obtain⟨_,_,J,_⟩:=mu k b U ep;exact .inr (.inr J)
 ·have mixed:∀(k:av) (j dn:Nat) (S:Nat->Prop),k∉N->ν.tr k j b->(de ν R st.e p)[dn]? =some S->S b->cU:=by
   intro k j dn S U aa h8 ep;rcases yf dn S b h8 ep with⟨aT,e5,hr⟩|⟨aT,i,hm,mm⟩
   ·obtain⟨_,_,_,_,aO,_⟩:=mu aT b e5 hr;exact aO k j aa
   ·obtain⟨rfl,_⟩:=h.fr.trd k j aT i b aa mm;exact U (ku.2 ⟨_,hm,rfl⟩)
  rcases I with⟨eN,bJ⟩|⟨rfl,S,s1,bJ⟩<;>rcases J with⟨dU,bQ⟩|⟨rfl,hy,s2,bQ⟩
  ·exact h.fr.trd k j aT dn b bJ bQ
  ·exact(mixed k j dn hy eN bJ s2 bQ).elim
  ·exact(mixed aT dn j S dU bQ s1 bJ).elim
  ·exact⟨rfl,F3 uH p yW gB (fun k U=>U) j dn S hy s1 s2 b bJ bQ⟩
 ·rcases aa with⟨_,aa⟩|⟨_,S,h8,aa⟩
  ·exact h.fr.trb k j b aa
  ·rcases yf j S b h8 aa with⟨aT,e5,hr⟩|⟨aT,i,hm,mm⟩
   ·obtain⟨_,_,J,aj,_⟩:=mu aT b e5 hr;exact⟨.inr J,aj⟩
   ·have:=h.fr.trb aT i b mm;exact⟨.inr (this.1.resolve_left (EB _ ok _ hm)),this.2⟩
 ·rcases aa with⟨_,aa⟩|⟨rfl,_⟩
  ·exact h.fr.trn k j b aa
  ·exact⟨u4.1,u4.2.1⟩
 ·simp only[j3];split
  ·rename_i e;subst e;exact Lt
  ·rw[CQ];exact Ld _ _ (h.slot i)
 ·have aF:fresh st.n st.o k:=o0 (Nat.le_succ _) (fun _ h=>h) U;obtain⟨eN,dU,fJ⟩:=h.new k aF;refine⟨eN,dU,fun j b aa=>?_⟩;rcases aa with⟨_,aa⟩|⟨rfl,_⟩
  ·exact fJ j b aa
  ·have:=U.1;simp only at this;omega
 ·obtain⟨ai,aK⟩:=h.ext x ad;refine⟨lT (S:=fun k=>k∉N) (w:=w) (ν:=ν) (w':=w) (ν':=μ) ⟨fun b o h=>⟨.inl h,rfl⟩,fun _ _ _ h=>h,fun g n u _ h=>⟨n,u,h,.inl ⟨rfl,rfl⟩⟩,fun _ _ _=>rfl,fun k j b U aa=>.inl ⟨U,aa⟩⟩ _ _ (ot (fun k U aU=>Dw k aU U) _ aK) ai,aK⟩
end
section
open Go Go.RowKit
def ln:List ae->Prop
 |[]=>True
 |p::a8=>(match p with| .slice _ _ xs=>xs.length<=bF| .str s=>s.length<=bF|_=>True)/\ln a8
def kB:ae->Prop
 | .slice _ _ xs=>xs.length<=bF
 | .str s=>s.length<=bF
 | .agg cs=>ln cs
 |_=>True
def mO:List ae->Prop
 |[]=>True
 |p::r=>kB p/\mO r
theorem zv{w:World}{ν:aA}:∀{cs:List ae} {us:List Value},bL w ν cs us->ln cs
 |[],_,_=>trivial
 |c::cs,us,h=>by
  simp only[bL]at h;obtain⟨u,a1,_,I,J⟩:=h;refine⟨?_,zv J⟩;cases c<;>simp only<;>have aj:=I.1<;>simp only[aw]at aj
  ·exact aj.2
  ·obtain⟨⟨a,cap,_,_,aO,_⟩,_⟩:=aj;exact aO.2
theorem FC{w:World}{ν:aA}{cs:List ae}{us:List Value}(h:eZ w ν cs us):fB cs=true->ln cs:=fun be=>by rw[jT be]at h;exact zv h
theorem FP{w:World}{ν:aA}{p:ae}{v:Value}(h:aw w ν p v):kB p:=by
 cases p<;>simp only[kB]<;>simp only[aw]at h
 ·exact h.2
 ·obtain⟨⟨a,cap,_,_,aO,_⟩,_⟩:=h;exact aO.2
 ·obtain⟨us,_,J⟩:=h;exact zv J
theorem FN{w:World}{ν:aA}:∀{cs:List ae} {us:List Value},bG w ν cs us->mO cs
 |[],_,_=>trivial
 |c::cs,us,h=>by simp only[bG]at h;obtain⟨u,a1,_,I,J⟩:=h;exact⟨FP I,FN J⟩
inductive C where
 |skip
 |region (gs:List bO)
 |drawn (q:Bool) (N:Nat) (gs:List bO)
 |drawnW (nw:List Nat) (N:Nat) (gs:List bO)
 |seq (a b:C)
 |cond (x:bW) (t e:C)
 |block (id:Nat) (c:C)
 |loop (c:C)
 |exit (id:Nat)
 |ret
 |pub (s:Nat) (c:C)
 |pubB (s:Nat) (c:C)
 |fg (jO:Bool) (s:Nat) (c:C)
 |fz (agg:Bool) (s:Nat) (c:C)
 |fd (s:Nat) (c:C)
 |no
def s9(st:aS):ae->aW (ae×List (av×cC))
 | .row sz k n=>match look k st.e with
  |some ⟨n',el,cj,some xs⟩=>if n'=n/\cj=sz then some (.slice sz (.own k) xs,bV k ⟨n,el,sz,none⟩ st.e)else none
  |_=>none
 |_=>none
def nz(st:aS)(s:Nat):aW aS:=
 match s9 st (get s st.t)with
 |some (p,e)=>some {st with t:=put s p st.t,e:=e}
 |none=>none
def q6(st:aS)(s:Nat):aW aS:=
 match get (s%1000) st.t with
 | .ptr k off=>match look k st.b with
  |some cs=>match cs[off+s/1000]? with
   |some p=>match s9 st p with
    |some (q4,e)=>if fB cs then some {st with b:=bV k (cs.set (off+s/1000) q4) st.b,e:=e}else none
    |none=>none
   |none=>none
  |none=>none
 |_=>none
theorem zp{C:c7}{st:aS}{a:Act}{w:World}{ν:aA}(h:bH C st a w ν){s:Nat}{p:ae}(af:aw w ν p (a.tmps.getD s undef)):bH C {st with t:=put s p st.t} a w ν:=by
 refine⟨h.good,h.fr,h.defers,h.size,fun i=>?_,h.new,h.ext,h.obk⟩;have:=h.slot i;simp only[j3];split
 ·rename_i e;subst e;exact af
 ·exact this
theorem EX{C:c7}{st:aS}{a:Act}{w:World}{ν:aA}(h:bH C st a w ν){p q4:ae}{e:List (av×cC)}{v:Value}(be:aw w ν p v)(he:s9 st p=some (q4,e)):
  ∃ν',bH C {st with e:=e} a w ν'/\aw w ν' q4 v/\hP w ν w ν':=by
 unfold s9 at he;split at he
 ·rename_i sz k n;split at he
  ·rename_i n' el cj xs U;split at he
   ·rename_i al;obtain⟨rfl,rfl⟩:=al;cases he;simp only[aw]at be;obtain⟨_,ar,n0,u,I,J,aj⟩:=be;obtain⟨v0,db,bY,cz,dV,cY⟩:=h.good.own k _ U;rw[I]at bY;simp only[cR,fQ]at bY;obtain⟨rfl,rfl⟩:=bY;have aH:v=u:=aj rfl;subst aH;obtain⟨cc,_,_⟩:=cY xs rfl;simp only at cc;obtain⟨g1,g2⟩:=h.publish U rfl I (by rw[cc];exact ar);refine⟨_,g1,g2,⟨fun b o aQ=>⟨.inl aQ,rfl⟩,fun j b _ aC=>aC,fun g n u _ fw=>⟨n,u,?_,.inl ⟨rfl,rfl⟩⟩,fun _ _ _=>rfl,fun _ _ _ _ h=>h⟩⟩;simp only[aA.withRowOf];split
    ·rename_i e;subst e;rw[I]at fw;exact fw
    ·exact fw
   ·cases he
  ·cases he
 ·cases he
def qm(jO:Bool):ae->ae
 | .slice sz tag xs=>.slice sz (if jO then tag else .no) (bR xs)
 |p=>b7 p
theorem Ki{w:World}{ν:aA}{jO:Bool}{p:ae}{v:Value}(h:aw w ν p v):aw w ν (qm jO p) v:=by
 have I:=pM p v h;cases p with
 |slice sz tag xs=>
  simp only[qm];cases jO with
  |false=>simpa only[hO,if_false,b7]using I
  |true=>
   simp only[if_true];simp only[aw,b7]at h I⊢;refine⟨I.1,fun e=>h.2.1 e,fun g e=>?_,fun k j e=>?_,fun k e=>?_⟩
   ·obtain⟨n,u,ai,aK,bu⟩:=h.2.2.1 g e;exact⟨n,u,ai,by rw[il];exact aK,by rw[il];exact bu⟩
   ·exact xt _ _ (h.2.2.2.1 k j e)
   ·exact xt _ _ (h.2.2.2.2 k e)
 |_=>exact I
theorem ON{C:c7}{st st':aS}{a:Act}{w:World}{ν:aA}(h:bH C st a w ν){s:Nat}(he:nz st s=some st'):∃ν',bH C st' a w ν':=by
 unfold nz at he;split at he
 ·rename_i p e be;cases he;obtain⟨ν',I,J,_⟩:=EX h (h.slot s) be;exact⟨_,zp I J⟩
 ·cases he
theorem FL{w:World}{ν:aA}:∀{cs:List ae} {us:List Value} {i:Nat} {p q:ae} {v:Value},bL w ν cs us->cs[i]? =some p->us[i]? =some v->aw w ν q v->bL w ν (cs.set i q) us
 |[],_,_,_,_,_,_,h,_,_=>by simp at h
 |c::cs,us,0,p,q,v,h,_,aH,bD=>by simp only[bL]at h;obtain⟨u,a1,rfl,I,J⟩:=h;simp only[List.getElem?_cons_zero,cR]at aH;subst aH;simp only[List.set_cons_zero,bL];exact⟨_,_,rfl,⟨bD,I.2⟩,J⟩
 |c::cs,us,i+1,p,q,v,h,be,aH,bD=>by simp only[bL]at h;obtain⟨u,a1,rfl,I,J⟩:=h;simp only[List.set_cons_succ,bL];exact⟨_,_,rfl,I,FL J (by simpa using be) (by simpa using aH) bD⟩
theorem OM{C:c7}{st st':aS}{a:Act}{w:World}{ν:aA}(h:bH C st a w ν){s:Nat}(he:q6 st s=some st'):∃ν',bH C st' a w ν':=by
 unfold q6 at he;split at he
 ·rename_i k NG U;generalize NG+s/1000=off at he;split at he
  ·rename_i cs b0;split at he
   ·rename_i p be;split at he
    ·rename_i q4 e Ma;split at he
     ·rename_i gm;cases he;obtain⟨bl,us,el,g1,g2,g3,g4,g5⟩:=h.good.box k cs b0;rw[jT gm]at g5;have bS:off<us.toList.length:=by rw[jV g5];exact(fG.1 be).1
      obtain⟨v,aH⟩:∃v,us.toList[off]? =some v:=⟨_,eo bS⟩;have qJ:aw w ν p v:=by have:=re off g5;rw[List.drop_eq_getElem_cons (fG.1 be).1,List.drop_eq_getElem_cons bS]at this;simp only[bL]at this;obtain⟨u,a1,ai,aK,_⟩:=this;rw[(fG.1 be).2]at aK;rw[(fG.1 aH).2]at ai;cases ai;exact aK.1
      obtain⟨ν',I,J,aj⟩:=EX h qJ Ma;have oj:bL w ν' (cs.set off q4) us.toList:=FL (FK aj g5) be aH J;have DC:=pL oj;refine⟨ν',⟨I.good.alt,fun j cx aC=>?_,fun j dn b aC iQ=>I.good.inj j dn b ?_ ?_,I.good.own,I.good.oinj,fun g j n v b aG aC=>I.good.obx g j n v b aG ?_,I.good.one,fun bl aa=>I.good.otr bl (aa.imp (fun⟨aT,bk,a2⟩=>⟨aT,by rw[gb]at bk;split at bk;(rename_i e;subst e;simp[b0]);exact bk,a2⟩) id)⟩,I.fr,I.defers,I.size,I.slot,I.new,I.ext,I.obk⟩
      ·simp only at aC;rw[gb]at aC;split at aC
       ·rename_i e;subst e;cases aC;obtain⟨fb,a1,dc,f1,f2,f3,f4,f5⟩:=I.good.box k cs b0;have:fb=bl:=by have:=aj.bx k bl trivial g1;rw[this]at f1;cases f1;rfl
        subst this;rw[kn gm]at g4 f4;rw[g4]at f4;injection f4 with f4;injection f4 with f4 f6 f7;refine⟨fb,us,el,f1,f2,f3,by rw[kn DC];exact g4,by rw[jT DC];exact oj⟩
       ·exact I.good.box j cx aC
      ·simp only at aC;rw[gb]at aC;split at aC
       ·rename_i e;subst e;simp[b0]
       ·exact aC
      ·simp only at iQ;rw[gb]at iQ;split at iQ
       ·rename_i e;subst e;simp[b0]
       ·exact iQ
      ·simp only at aC;rw[gb]at aC;split at aC
       ·rename_i e;subst e;simp[b0]
       ·exact aC
     ·cases he
    ·cases he
   ·cases he
  ·cases he
 ·cases he
def ma{α:Type}(k:av)(l:List (av×α)):List (av×α):=match l with
 |[]=>[]
 |(i,x)::r=>if i=k then ma k r else(i,x)::ma k r
theorem yP{α:Type}(k j:av):∀l:List (av×α),look j (ma k l)=if j=k then none else look j l
 |[]=>by simp[ma,look]
 |(i,x)::r=>by
  simp only[ma];by_cases h:i=k
  ·subst h;rw[cX rfl,yP i j r];by_cases J:j=i
   ·simp[J]
   ·have:¬i=j:=fun e=>J e.symm;simp[look,J,this]
  ·rw[bT h];simp only[look];by_cases J:i=j
   ·subst J;simp[h]
   ·simp only[J,if_false];exact yP k j r
def xu(agg:Bool):List ae->aW ae
 |[p]=>if agg then some (.agg [p])else some p
 |cs=>if agg then some (.agg cs)else none
def n3(st:aS)(agg:Bool)(s:Nat):aW aS:=
 match get s st.t with
 | .ptr k 0=>match look k st.b with
  |some cs=>if fB cs then match xu agg cs with
    |some x=>some {st with t:=put s (.eptr x) st.t,b:=ma k st.b}
    |none=>none
   else none
  |none=>none
 |_=>none
theorem OA{u:Value}(h:u.oneCell'=true):u.cells.toList=[u]:=by cases u<;>first|rfl|(simp[Value.oneCell']at h)
theorem Ee{w:World}{A:Nat->Nat->Prop}{b:Nat}{us:Array Value}{el:eb}(aa:w.heap[b]? =some (.cells us el))(aQ:∀o,o<us.size->A b o):∀(aV:List Value) (off:Nat),us.toList.drop off=aV->gP w A b off aV
 |[],_,_=>trivial
 |v::aV,off,h=>by
  have bS:off<us.toList.length:=by
   rcases Nat.lt_or_ge off us.toList.length with I|I
   ·exact I
   ·rw[List.drop_eq_nil_of_le I]at h;cases h
  have J:=List.drop_eq_getElem_cons bS;rw[h]at J;injection J with J aj;refine⟨⟨aQ off (by simpa using bS),?_⟩,Ee aa aQ aV (off+1) aj.symm⟩;have x6:off<us.size:=by simpa using bS
  simp only[World.cell?,aa,Option.isSome_none,hO,if_false];rw[J];simp[x6]
theorem Kt{C:c7}{st st':aS}{a:Act}{w:World}{ν:aA}(h:bH C st a w ν){agg:Bool}{s:Nat}(he:n3 st agg s=some st'):∃ν',bH C st' a w ν':=by
 unfold n3 at he;split at he
 ·rename_i k U;split at he
  ·rename_i cs b0;split at he
   ·rename_i gm;split at he
    ·rename_i x ad;cases he;obtain⟨bl,us,el,g1,g2,g3,g4,g5⟩:=h.good.box k cs b0;rw[jT gm]at g5;rw[kn gm]at g4;have bS:bl<w.heap.size:=by
      rcases Nat.lt_or_ge bl w.heap.size with I|I
      ·exact I
      ·rw[Array.getElem?_eq_none I]at g4;cases g4
     let ν':aA:={ν with A:=fun b o=>ν.A b o\/(b=bl/\o<us.size)}
     have ab:hP w ν w ν':=⟨fun b o aQ=>⟨.inl aQ,rfl⟩,fun j b _ aC=>aC,fun g n u _ fw=>⟨n,u,fw,.inl ⟨rfl,rfl⟩⟩,fun _ _ _=>rfl,fun _ _ _ _ h=>h⟩;have fl:∀j cx,look j (ma k st.b)=some cx->j≠k/\look j st.b=some cx:=fun j cx aC=>by
      rw[yP]at aC;split at aC
      ·cases aC
      ·rename_i e;exact⟨e,aC⟩
     have uP:∀j,(look j (ma k st.b)).isSome->(look j st.b).isSome:=fun j aC=>by obtain⟨cx,e4⟩:=dK.1 aC;simp[(fl j cx e4).2]
     have hU:∀(g:av) (n:Nat) (v:Value),(look g st.e).isSome->ν.ow g=some (n,v)->v.ownBlock=some bl->cU:=fun g n v I J aj=>h.good.obx g k n v bl I (by simp[b0]) J aj g1;have ie:aw w ν' (.eptr x) (a.tmps.getD s undef):=by
      have af:=h.slot s;rw[U]at af;simp only[aw]at af⊢;obtain⟨dL,bY,cz⟩:=af;rw[g1]at bY;cases bY;have ar:gP w ν'.A bl 0 us.toList:=Ee g4 (fun o ab=>.inr ⟨rfl,ab⟩) _ 0 rfl;have g6:bL w ν' cs us.toList:=FK ab g5;unfold xu at ad;split at ad
      ·rename_i p;simp only[bL]at g6;obtain⟨u,a1,ai,aK,bu⟩:=g6;subst bu;split at ad
       ·cases ad;exact⟨bl,0,.agg us,cz,by simp only[aw];exact⟨us,rfl,by rw[ai];simp only[bL];exact⟨u,[],rfl,aK,rfl⟩⟩,by simpa[h3]using ar⟩
       ·cases ad;refine⟨bl,0,u,cz,aK.1,?_⟩;rw[OA aK.2,<-ai];exact ar
      ·split at ad
       ·cases ad;exact⟨bl,0,.agg us,cz,by simp only[aw];exact⟨us,rfl,g6⟩,by simpa[h3]using ar⟩
       ·cases ad
     refine⟨ν',zp (ν:=ν') (st:={st with b:=ma k st.b}) ⟨⟨fun b o aQ=>?_,fun j cx aC=>?_,fun j dn b I J=>h.good.inj j dn b (uP j I) (uP dn J),fun g o aG=>?_,h.good.oinj,fun g j n v b I J=>h.good.obx g j n v b I (uP j J),h.good.one,fun b az=>h.good.otr b (az.imp (fun⟨j,bk,a2⟩=>⟨j,uP j bk,a2⟩) id)⟩,⟨h.fr.os,h.fr.tape,h.fr.output,h.fr.size,h.fr.block,fun b o aQ=>⟨.inl (h.fr.keep b o aQ).1,(h.fr.keep b o aQ).2⟩,fun b o aQ=>?_,h.fr.obj,h.fr.obn,h.fr.row,h.fr.obr,h.fr.trd,h.fr.trb,h.fr.trn,h.fr.sh,h.fr.nrow⟩,h.defers,h.size,fun i=>nE ab (h.slot i),h.new,fun x ad=>⟨nE ab (h.ext x ad).1,(h.ext x ad).2⟩,h.obk⟩ ie⟩
     ·rcases aQ with aQ|⟨rfl,_⟩
      ·exact h.good.alt b o aQ
      ·exact bS
     ·obtain⟨cD,iQ⟩:=fl j cx aC;obtain⟨fb,a1,dc,f1,f2,f3,f4,f5⟩:=h.good.box j cx iQ;refine⟨fb,a1,dc,f1,f2,fun o aQ=>?_,f4,jU ab f5⟩;rcases aQ with aQ|⟨rfl,_⟩
      ·exact f3 o aQ
      ·exact cD (h.good.inj j k _ (by simp[iQ]) (by simp[b0]) f1 g1)
     ·obtain⟨v0,db,ai,aK,bu,cP⟩:=h.good.own g o aG;have n5:∀b,v0.ownBlock=some b->∀j,ν'.A b j->ν.A b j:=fun b aa j aQ=>by
       rcases aQ with aQ|⟨rfl,_⟩
       ·exact aQ
       ·exact(hU g _ v0 (by simp[aG]) ai aa).elim
      exact⟨v0,db,ai,aK,fun b aa=>⟨(bu b aa).1,fun j aQ=>(bu b aa).2 j (n5 b aa j aQ)⟩,k0 ab n5 cP⟩
     ·rcases aQ with aQ|⟨rfl,_⟩
      ·exact h.fr.fresh b o aQ
      ·exact .inr g2
    ·cases he
   ·cases he
  ·cases he
 ·cases he
def lS(st:aS)(x:bW)(b:Bool):aS:=match x with
 | .t i=>{st with t:=put i (.bool b) st.t}
 | .c _=>st
def b5(P:bj)(ob:List av):C->(Exit->aS->Prop)->aS->Prop
 | .skip,Q,st=>Q .normal st
 | .region gs,Q,st=>eV P ob gs st (Q .normal)
 | .drawn q N gs,Q,st=>e3 P q [] st.n gs st (mL (st.n+N) st.o (Q .normal))
 | .drawnW nw N gs,Q,st=>(∀j∈nw,.obj j∉st.o)/\e3 P false nw st.n gs st (mL (st.n+N) (nw.map av.obj++st.o) (Q .normal))
 | .seq a b,Q,st=>b5 P ob a (fun e st'=>match e with| .normal=>b5 P ob b Q st'|e=>Q e st') st
 | .cond x t e,Q,st=>match bf st.t x with
  | .bool b=>(b=true->b5 P ob t Q (lS st x true))/\(b=false->b5 P ob e Q (lS st x false))
  |_=>cU
 | .block id c,Q,st=>b5 P ob c (fun e st'=>match e with| .exit j=>if j=id then Q .normal st' else Q (.exit j) st'|e=>Q e st') st
 | .loop c,Q,st=> ∃(fV:Nat->aS->Prop) (m:Nat) (oI:aS),hQ ob st oI/\fV m oI/\
   ∀k s,fV k s->(∀i,kB (get i s.t))->(∀j cs,look j s.b=some cs->fB cs=true->ln cs)->b5 P ob c (fun e ah=>match e with| .normal=> ∃aT jy,aT<k/\hQ ob ah jy/\fV aT jy|e=>Q e ah) s
 | .exit id,Q,st=>Q (.exit id) st
 | .ret,Q,st=>Q .ret st
 | .pub s c,Q,st=>match nz st s with
  |some st'=>b5 P ob c Q st'
  |none=>cU
 | .pubB s c,Q,st=>match q6 st s with
  |some st'=>b5 P ob c Q st'
  |none=>cU
 | .fg jO s c,Q,st=>b5 P ob c Q {st with t:=put s (qm jO (get s st.t)) st.t}
 | .fd s c,Q,st=>r8 ob st s/\b5 P ob c Q (ql st s)
 | .fz fi s c,Q,st=>match n3 st fi s with
  |some st'=>b5 P ob c Q st'
  |none=>cU
 | .no,_,_=>cU
def eH(N:Nat)(aR:List (Nat×cw)):C->Code->Bool
 | .skip,.skip=>true
 | .region gs,.region _ ops false=>gI N aR ops.toList gs ops.toList
 | .drawn _ N' gs,.region _ ops true=>N'==N&&gI N aR ops.toList gs ops.toList&&rQ gs ops.toList&&qj N gs
 | .drawnW _ N' gs,.region _ ops true=>N'==N&&gI N aR ops.toList gs ops.toList&&rQ gs ops.toList&&qj N gs
 | .seq a b,.seq x y=>eH N aR a x&&eH N aR b y
 | .cond x t e,.cond o df fS=>cE x o&&eH N aR t df&&eH N aR e fS
 | .block id c,.block sP fe=>id==sP&&eH N aR c fe
 | .loop c,.loop fe=>eH N aR c fe
 | .exit id,.exit sP=>id==sP
 | .ret,.ret=>true
 | .pub _ c,fe=>eH N aR c fe
 | .pubB _ c,fe=>eH N aR c fe
 | .fg _ _ c,fe=>eH N aR c fe
 | .fz _ _ c,fe=>eH N aR c fe
 | .fd _ c,fe=>eH N aR c fe
 | .no,_=>true
 |_,_=>false
theorem CX{N:Nat}{aR:List (Nat×cw)}{ops:List Oper}:∀{gs:List bO} {os:List Oper},gI N aR ops gs os=true->gs.length=os.length
 |[],[],_=>rfl
 |[],_::_,h=>by simp[gI]at h
 |_::_,[],h=>by simp[gI]at h
 |g::gs,o::os,h=>by simp only[gI,bt]at h;simp[CX h.2]
def As(P:bj)(C:c7)(c:Code)(Q:Exit->aS->Prop)(st:aS):Prop:= ∀a w ν,bH C st a w ν->c.wp P (fun e ca w'=> ∃st' ν',Q e st'/\bH C st' ca w' ν') a w
theorem kG{P:bj}(hm:P.follows .mixedOrders=true){aR:List (Nat×cw)}(az:eD P aR=true){X:c7}:∀(c:C) (code:Code) (Q:Exit->aS->Prop) (st:aS),eH X.N aR c code=true->b5 P X.ob c Q st->As P X code Q st
 | .skip,code,Q,st,ab,he=>by
  cases code<;>simp only[eH]at ab<;>try cases ab
  intro a w ν hr;exact wp_skip ⟨st,ν,he,hr⟩
 | .region gs,code,Q,st,ab,he=>by
  cases code<;>try(simp[eH]at ab;done)
  rename_i id ops draw;cases draw<;>simp only[eH]at ab
  ·intro a w ν hr;refine wp_region ?_;have ar:gs.length=ops.size:=by simpa using CX ab
   rw[List.range_eq_range',<-ar];exact Cg az (K:=Q .normal) (fun st' ca w' ν' I J=>⟨st',ν',I,J⟩) gs ops.toList 0 Ψ ab st a w ν he hr
  ·cases ab
 | .drawn q N gs,code,Q,st,ab,he=>by
  cases code<;>try(simp[eH]at ab;done)
  rename_i id ops draw;cases draw<;>simp only[eH]at ab
  ·cases ab
  ·simp only[bt,cI]at ab;obtain⟨⟨⟨rfl,I⟩,J⟩,aj⟩:=ab;intro a w ν hr;exact Cf hm az I J aj (nw:=[]) (K:=Q .normal) (fun st' ca w' ν' I J=>⟨st',ν',I,J⟩) Ψ he hr
 | .drawnW nw N gs,code,Q,st,ab,he=>by
  cases code<;>try(simp[eH]at ab;done)
  rename_i id ops draw;cases draw<;>simp only[eH]at ab
  ·cases ab
  ·simp only[bt,cI]at ab;obtain⟨⟨⟨rfl,I⟩,J⟩,aj⟩:=ab;intro a w ν hr;exact Cf hm az I J aj (nw:=nw) (K:=Q .normal) (fun st' ca w' ν' I J=>⟨st',ν',I,J⟩) he.1 he.2 hr
 | .seq x y,code,Q,st,ab,he=>by
  cases code<;>try(simp[eH]at ab;done)
  rename_i l9 hz;simp only[eH,bt]at ab;intro a w ν hr;refine wp_seq ?_;have I:=kG hm az x l9 _ st ab.1 he a w ν hr;refine wp_mono I fun e ca w' bP=>?_;obtain⟨st',ν',bD,cn⟩:=bP;cases e with
  |normal=>exact kG hm az y hz Q st' ab.2 bD ca w' ν' cn
  |_=>exact⟨st',ν',bD,cn⟩
 | .cond x t e,code,Q,st,ab,he=>by
  cases code<;>try(simp[eH]at ab;done)
  rename_i o Ip ce;simp only[eH,bt]at ab;intro a w ν hr;simp only[b5]at he;have ad:=cF hr ab.1.1;split at he
  ·rename_i b aa;rw[aa]at ad;simp only[aw]at ad;have sH:bH X (lS st x b) a w ν:=by
    unfold lS;split
    ·exact zo hr (by simpa[bf]using aa)
    ·exact hr
   refine wp_cond ad ?_;cases b
   ·exact kG hm az e ce Q _ ab.2 (he.2 rfl) a w ν sH
   ·exact kG hm az t Ip Q _ ab.1.2 (he.1 rfl) a w ν sH
  ·exact he.elim
 | .block id c,code,Q,st,ab,he=>by
  cases code<;>try(simp[eH]at ab;done)
  rename_i sP fe;simp only[eH,bt,cI]at ab;obtain⟨rfl,ab⟩:=ab;intro a w ν hr;refine wp_block ?_;refine wp_mono (kG hm az c fe _ st ab he a w ν hr) fun e ca w' bP=>?_;obtain⟨st',ν',bD,cn⟩:=bP;cases e with
  |exit j=>
   simp only[Exit.inBlock]at bD⊢;by_cases aC:j=id
   ·rw[cX aC]at bD⊢;exact⟨st',ν',bD,cn⟩
   ·rw[bT aC]at bD⊢;exact⟨st',ν',bD,cn⟩
  |_=>exact⟨st',ν',bD,cn⟩
 | .loop c,code,Q,st,ab,he=>by
  cases code<;>try(simp[eH]at ab;done)
  rename_i fe;simp only[eH]at ab;intro a w ν hr;simp only[b5]at he;obtain⟨fV,m,oI,hw,aM,kP⟩:=he;refine wp_loop_ghost (fun k a w=> ∃s ν,fV k s/\bH X s a w ν) m ⟨oI,_,aM,hr.weaker hw⟩ ?_;intro k a w K0;obtain⟨s,ν,af,pk⟩:=K0;have I:=kP k s af (fun i=>FP (pk.slot i)) (fun j cs aC=>by obtain⟨bl,us,el,_,_,_,_,g5⟩:=pk.good.box j cs aC;exact FC g5);refine wp_mono (kG hm az c fe _ s ab I a w ν pk) fun e ca w' bP=>?_;obtain⟨st',ν',bD,cn⟩:=bP;cases e with
  |normal=>obtain⟨aT,jy,ai,aK,bu⟩:=bD;exact⟨aT,ai,jy,_,bu,cn.weaker aK⟩
  |_=>exact⟨st',ν',bD,cn⟩
 | .exit id,code,Q,st,ab,he=>by
  cases code<;>try(simp[eH]at ab;done)
  rename_i sP;simp only[eH,cI]at ab;subst ab;intro a w ν hr;exact wp_exit ⟨st,ν,he,hr⟩
 | .ret,code,Q,st,ab,he=>by
  cases code<;>try(simp[eH]at ab;done)
  intro a w ν hr;exact wp_ret ⟨st,ν,he,hr⟩
 | .pub s c,code,Q,st,ab,he=>by
  simp only[eH]at ab;simp only[b5]at he;split at he
  ·rename_i st' af;intro a w ν hr;obtain⟨ν',I⟩:=ON hr af;exact kG hm az c code Q st' ab he a w ν' I
  ·exact he.elim
 | .pubB s c,code,Q,st,ab,he=>by
  simp only[eH]at ab;simp only[b5]at he;split at he
  ·rename_i st' af;intro a w ν hr;obtain⟨ν',I⟩:=OM hr af;exact kG hm az c code Q st' ab he a w ν' I
  ·exact he.elim
 | .fg jO s c,code,Q,st,ab,he=>by simp only[eH]at ab;simp only[b5]at he;intro a w ν hr;exact kG hm az c code Q _ ab he a w ν (zp hr (Ki (hr.slot s)))
 | .fd s c,code,Q,st,ab,he=>by simp only[eH]at ab;simp only[b5]at he;intro a w ν hr;obtain⟨ν',I⟩:=Kh hr he.1;exact kG hm az c code Q _ ab he.2 a w ν' I
 | .fz fi s c,code,Q,st,ab,he=>by
  simp only[eH]at ab;simp only[b5]at he;intro a w ν hr;split at he
  ·rename_i st' dT;obtain⟨ν',I⟩:=Kt hr dT;exact kG hm az c code Q st' ab he a w ν' I
  ·exact he.elim
 | .no,code,Q,st,ab,he=>by simp only[b5]at he
inductive cm where
 |tmp (i:Nat)
 |cell (i:Nat) (agg:Bool) (sz:Nat)
def bA(st:aS):cm->aW (Prop×ae)
 | .tmp i=>some (True,get i st.t)
 | .cell i agg sz=>ih st.b st.e agg sz (get i st.t)
def bq(st:aS):List cm->aW (Prop×List ae)
 |[]=>some (True,[])
 |r::dI=>match bA st r,bq st dI with
  |some (c,p),some (fe,a8)=>some (c/\fe,p::a8)
  |_,_=>none
def ko(aR:List (Nat×cw)):List cm->List ResultVar->Bool
 |[],[]=>true
 | .tmp i::dI,.tmp j::os=>i==j&&ko aR dI os
 | .cell i agg sz::dI,.cell j t::os=>i==j&&(match tf aR t with|some f=>f.size==sz&&f.kind.isAgg==agg|none=>false)&&ko aR dI os
 |_,_=>false
def bp:List ae->ae
 |[p]=>p
 |a8=>.tuple a8
def vY(tmps:Array Value):ResultVar->Sem Value
 | .tmp t=>pure (tmps.getD t undef)
 | .cell x t=>do loadVar t (<-asAddr (tmps.getD x undef))
theorem O4(fn:Func)(tmps:Array Value):results fn tmps=(do let aV<-fn.results.mapM (vY tmps);pure (if h:aV.size=1 then aV[0]else .tuple aV)):=by unfold results;congr 2
theorem zA{P:bj}{aR:List (Nat×cw)}(az:eD P aR=true){X:c7}{st:aS}{a:Act}{w:World}{ν:aA}(hr:bH X st a w ν):
  ∀(dI:List cm) (os:List ResultVar) (c:Prop) (a8:List ae),ko aR dI os=true->bq st dI=some (c,a8)->c->
  ∃aV,(os.mapM (vY a.tmps)).run P w= .ok aV w/\bG w ν a8 aV
 |[],[],c,a8,_,he,_=>by simp only[bq]at he;cases he;exact⟨[],Ψ,by simp[bG]⟩
 |[],_::_,_,_,ab,_,_=>by simp[ko]at ab
 | .tmp _::_,[],_,_,ab,_,_=>by simp[ko]at ab
 | .cell _ _ _::_,[],_,_,ab,_,_=>by simp[ko]at ab
 |r::dI,o::os,c,a8,ab,he,al=>by
  simp only[bq]at he;split at he
  ·rename_i cO p c2 gA I J;cases he;cases r with
   |tmp i=>
    cases o with
    |cell _ _=>simp[ko]at ab
    |tmp j=>simp only[ko,bt,cI]at ab;obtain⟨rfl,ab⟩:=ab;simp only[bA]at I;cases I;obtain⟨aV,g1,g2⟩:=zA az hr dI os c2 gA ab J al.2;refine⟨a.tmps.getD i undef::aV,?_,by simp only[bG];exact⟨_,_,rfl,hr.slot i,g2⟩⟩;simp only[List.mapM_cons,dk,vY,dP,dr,g1]
   |cell i agg sz=>
    cases o with
    |tmp _=>simp[ko]at ab
    |cell j t=>
     simp only[ko,bt,cI]at ab;obtain⟨⟨rfl,aj⟩,ab⟩:=ab;split at aj
     ·rename_i f aF;simp only[bt,cI]at aj;obtain⟨rfl,rfl⟩:=aj;simp only[bA]at I;obtain⟨aV,g1,g2⟩:=zA az hr dI os c2 gA ab J al.2;obtain⟨v,f1,f2⟩:=vi az hr.good aF (hr.slot i) I al.1;have sG:∃hR,a.tmps.getD i undef= .pointer (some hR):=by
       have af:=hr.slot i;unfold ih at I;split at I
       ·rename_i cj k n hl iv U;rw[U]at af;simp only[aw]at af;obtain⟨⟨b,o,e⟩,_⟩:=af;exact⟨_,e⟩
       ·rename_i k off U;rw[U]at af;simp only[aw]at af;obtain⟨b,_,e⟩:=af;exact⟨_,e⟩
       ·rename_i q U;rw[U]at af;simp only[aw]at af;obtain⟨b,off,u,e,_⟩:=af;exact⟨_,e⟩
       ·cases I
      obtain⟨hR,C3⟩:=sG;rw[C3]at f1;simp only[Instr.loadAt,Instr.sureAddr,dk,dP,dr]at f1;refine⟨v::aV,?_,by simp only[bG];exact⟨_,_,rfl,f2,g2⟩⟩;have K5:(asAddr (.pointer (some hR)):Sem Addr).run P w= .ok hR w:=rfl;simp only[List.mapM_cons,dk,vY,dP,dr,g1,C3,K5,f1]
     ·cases aj
  ·cases he
theorem tp{w:World}{ν:aA}:∀{a8:List ae} {aV:List Value},bG w ν a8 aV->aV.length=a8.length
 |[],aV,h=>by simp only[bG]at h;subst h;rfl
 |p::a8,aV,h=>by simp only[bG]at h;obtain⟨u,a1,rfl,_,J⟩:=h;simp[tp J]
def gC:Nat->List ae->List (Nat×ae)
 |_,[]=>[]
 |i,p::a8=>(i,p)::gC (i+1) a8
theorem ur:∀(a8:List ae) (i j:Nat),get j (gC i a8)=if i<=j/\j<i+a8.length then a8.getD (j-i) .junk else .junk
 |[],i,j=>by simp[gC,get]
 |p::a8,i,j=>by
  simp only[gC,get];by_cases h:i=j
  ·subst h;simp
  ·rw[bT h,ur a8 (i+1) j];by_cases J:i<=j/\j<i+(p::a8).length
   ·rw[cX J,cX (by simp at J⊢;omega)];have:j-i=(j-(i+1))+1:=Ω
    rw[this];simp
   ·rw[bT J,bT (by simp at J⊢;omega)]
def ej{α:Type}(ah:cr):List (av×α)->Prop
 |[]=>True
 |(k,_)::r=>au ah k/\ej ah r
theorem sV{α:Type}{ah:cr}:∀{l:List (av×α)},ej ah l->∀k,(look k l).isSome->au ah k
 |[],_,k,h=>by simp[look]at h
 |(i,x)::r,U,k,h=>by
  simp only[ej]at U;simp only[look]at h;split at h
  ·rename_i e;subst e;exact U.1
  ·exact sV U.2 k h
def b4(dI:List cm)(s:cr)(Q:ae->cr->Prop)(e:Exit)(st:aS):Prop:=
 (e= .ret\/e= .normal)/\match bq st dI with
  |some (c,a8)=>c/\∃ah,ej ah s.b/\ej ah s.e/\iG (au ah) ah.b st.b/\iH (au ah) ah.e st.e/\fK ah/\aB (au ah) (b7 (bp a8))/\Q (b7 (bp a8)) ah
  |none=>cU
theorem br.ofW{P:bj}{aR:List (Nat×cw)}(az:eD P aR=true){f:FuncId}{fn:Func}(aF:P.funcs[f]? =some fn){code:Code}(aa:fn.body=some code)(ph:(fn.name== "runtime.NumGoroutine")=false){dI:List cm}(pk:ko aR dI fn.results.toList=true)
  {args:List ae} (ar:args.length<=fn.ntmps) {s:cr} (js:fK s) {Q:ae->cr->Prop} (he:∀X:c7,X.N=fn.ntmps->X.ob=dG s->X.ex=[]->(∀b o,X.ν0.A b o->b<X.w0.heap.size)->mO args->(∀j cs,look j s.b=some cs->fB cs=true->ln cs)->As P X code (b4 dI s Q) ⟨gC 0 args,s.b,s.e,0,dG s⟩):br P f args s Q:=by
 intro w ν aV gl aG ad hr;refine .inl ⟨⟨fn,aF,by simp[aa],ph⟩,?_⟩;have sN:=tp hr;have hk:aV.size=args.length:=by simpa using sN
 let X:c7:=⟨w,ν,eg ν s,fn.ntmps,dG s,gl,[]⟩
 have iz:∀k,fresh 0 (dG s) k->ν.bx k=none/\ν.ow k=none/\∀j b,¬ν.tr k j b:=by
  intro k U;cases k with
  |loc m=>exact⟨(ad _).1 (js.1 m),(ad _).2.1 (js.2 m),(ad _).2.2⟩
  |obj m=>
   simp only[fresh,true_and]at U;refine⟨?_,?_,(ad _).2.2⟩
   ·refine(ad _).1 ?_;cases h:look (.obj m) s.b with
    |none=>rfl
    |some x=>exact absurd (pG (.inl (by simp[h]))) U
   ·refine(ad _).2.1 ?_;cases h:look (.obj m) s.e with
    |none=>rfl
    |some x=>exact absurd (pG (.inr (by simp[h]))) U
 have mr:∀m,(ν.bx (.obj m)≠none\/ν.ow (.obj m)≠none)-> .obj m∈dG s:=by
  intro m hm;refine Classical.byContradiction fun al=>?_;obtain⟨I,J,_⟩:=iz (.obj m) ⟨trivial,al⟩;rcases hm with hm|hm
  ·exact hm I
  ·exact hm J
 have kf:bH X ⟨gC 0 args,s.b,s.e,0,dG s⟩ {tmps:=aV++Array.replicate (fn.ntmps-aV.size) undef,defers:=[]} w ν:=by
  refine⟨⟨aG.alt,fun k cs U=>?_,aG.inj,fun g o di=>?_,aG.oinj,aG.obx,aG.one,aG.otr⟩,⟨rfl,rfl,rfl,dY _,fun _ _ _=>rfl,fun b o h=>⟨h,rfl⟩,fun b o h=>.inl h,fun n b h=>h,fun n b h=>mr n (.inl (by rw[h];simp)),fun m n u h=>⟨n,u,h,.inl ⟨rfl,rfl⟩⟩,fun m n u h=>mr m (.inr (by rw[h];simp)),fun k j _ _ b h=>absurd h ((ad k).2.2 j b),fun k j b h=>absurd h ((ad k).2.2 j b),fun k j b h=>absurd h ((ad k).2.2 j b),fun _ _ _=>rfl,fun j n u b ai _=>(by rw[(ad _).2.1 (js.2 j)]at ai;cases ai)⟩,rfl,?_,fun i=>?_,iz,fun _ ad=>(by cases ad),fun m hm aF=>aF.2 hm⟩
  ·obtain⟨bl,us,el,g1,g2,g3⟩:=aG.box k cs U;exact⟨bl,us,el,g1,.inl g2,g3⟩
  ·obtain⟨v,us,g1,g2,g3,g4⟩:=aG.own g o di;exact⟨v,us,g1,g2,fun bl dd=>⟨.inl (g3 bl dd).1,(g3 bl dd).2⟩,g4⟩
  ·show(aV++Array.replicate (fn.ntmps-aV.size) undef).size=fn.ntmps;simp;omega
  ·rw[ur];by_cases aM:i<args.length
   ·rw[cX Ω];have nk:args[i]? =some args[i]:=eo aM;obtain⟨v,ai,aK⟩:=vS i hr nk;have aH:(aV++Array.replicate (fn.ntmps-aV.size) undef).getD i undef=v:=by
     have tY:aV[i]? =some v:=by simpa using ai
     rw[Array.getD_eq_getD_getElem?,Array.getElem?_append_left Ω,tY];rfl
    show aw w ν _ ((aV++Array.replicate (fn.ntmps-aV.size) undef).getD i undef);rw[aH];simpa[List.getD,nk]using aK
   ·rw[bT Ω];simp[aw]
 have My:=he X rfl rfl rfl aG.alt (FN hr) (fun j cs aC=>by obtain⟨bl,us,el,_,_,_,_,g5⟩:=aG.box j cs aC;exact FC g5) _ w ν kf;refine calls_of_wp aF aa (wp_mono My fun e ca w' bP=>?_);obtain⟨st',ν',⟨j8,bD⟩,cn⟩:=bP;cases pj:bq st' dI with
 |none=>simp[pj]at bD
 |some x=>
  obtain⟨fe,a8⟩:=x;simp only[pj]at bD;obtain⟨jM,ah,kb,ke,bY,cz,dV,cY,cc⟩:=bD;obtain⟨oH,g1,g2⟩:=zA az cn dI fn.results.toList fe a8 pk pj jM;have Mf:=tp g2;have jo:ca.defers=[]/\∃v,(results fn ca.tmps).run P w'= .ok v w'/\(fun(e:Ending) w'=> ∃v r ah ν',e= .returned v/\Q r ah/\aw w' ν' r v/\Good (fun bl=>eg ν s bl\/w.heap.size<=bl) w' ν' ah.b ah.e/\kI ν' ah/\fK ah/\kx ⟨w,ν,eg ν s,0,dG s,gl,[]⟩ w' ν') (.returned v) w':=by
   refine⟨cn.defers,?_⟩;have eP:(results fn ca.tmps).run P w'= .ok (if h:oH.toArray.size=1 then oH.toArray[0]else .tuple oH.toArray) w':=by rw[O4];simp only[dk,Array.mapM_eq_mapM_toList,Sem.run_map,g1,dr,dP]
   refine⟨_,eP,_,b7 (bp a8),ah,ν'.cut (au ah),rfl,cc,?_,cn.good.cut bY cz (fun bl h _=>h),?_,dV,?_⟩
   ·have hJ:aw w' ν' (bp a8) (if h:oH.toArray.size=1 then oH.toArray[0]else .tuple oH.toArray):=by
     match a8,oH,g2,Mf with
     |[p],[v],g2,_=>simp only[bG]at g2;obtain⟨u,a1,ai,aK,_⟩:=g2;cases ai;simpa[bp]using aK
     |[],[],g2,_=>simp[bp,aw,bG]
     |p::fA::a8,v::v2::oH,g2,_=>rw[dif_neg Ψ];simp only[bp,aw];exact⟨_,rfl,by simpa using g2⟩
     |[_],[],_,h=>simp at h
     |[],_::_,_,h=>simp at h
     |[_],_::_::_,_,h=>simp at h
     |_::_::_,[],_,h=>simp at h
     |_::_::_,[_],_,h=>simp at h
    exact lT (je.cut _ w' ν') _ _ cY (pM _ _ hJ)
   ·intro k;refine⟨?_,?_,?_⟩;rotate_left 2
    ·rintro j b ⟨af,aa⟩;obtain⟨t1,t2⟩:=cn.fr.trn k j b aa;rcases af with af|af<;>obtain⟨x,ju⟩:=dK.1 af
     ·obtain⟨bl,a1,el,ai,_⟩:=cn.good.box k x (bY k x ju).1;rw[t1]at ai;cases ai
     ·obtain⟨v',a1,ai,_⟩:=cn.good.own k x (cz k x ju).1;rw[t2]at ai;cases ai
    ·intro U;by_cases af:au ah k
     ·rw[aA.cut_bx af];rcases af with af|af
      ·rw[U]at af;cases af
      ·obtain⟨x,ju⟩:=dK.1 af;obtain⟨v',a1,ai,_⟩:=cn.good.own k x (cz k x ju).1;rcases cn.good.one k with I|I
       ·exact I
       ·rw[I]at ai;cases ai
     ·exact(aA.cut_no af).1
    ·intro U;by_cases af:au ah k
     ·rw[aA.cut_ow af];rcases af with af|af
      ·obtain⟨x,ju⟩:=dK.1 af;obtain⟨bl,a1,el,ai,_⟩:=cn.good.box k x (bY k x ju).1;rcases cn.good.one k with I|I
       ·rw[I]at ai;cases ai
       ·exact I
      ·rw[U]at af;cases af
     ·exact(aA.cut_no af).2.1
   ·refine⟨cn.fr.os,cn.fr.tape,cn.fr.output,cn.fr.size,cn.fr.block,cn.fr.keep,cn.fr.fresh,fun n b h=>?_,fun n b h=>mr n (.inl (by rw[h];simp)),fun m n u h=>?_,fun m n u h=>mr m (.inr (by rw[h];simp)),fun k j aT dn b I J=>cn.fr.trd k j aT dn b I.2 J.2,fun k j b aa=>cn.fr.trb k j b aa.2,fun k j b aa=>(by rw[aA.cut_bx aa.1,aA.cut_ow aa.1];exact cn.fr.trn k j b aa.2),cn.fr.sh,fun j n u b ai aK=>cn.fr.nrow j n u b (aA.cut_someO ai).2 aK⟩
    ·have af:au ah (.obj n):=by
      cases ar:look (.obj n) s.b with
      |none=>rw[(ad _).1 ar]at h;cases h
      |some x=>exact sV kb _ (by simp[ar])
     rw[aA.cut_bx af];exact cn.fr.obj n b h
    ·have af:au ah (.obj m):=by
      cases ar:look (.obj m) s.e with
      |none=>rw[(ad _).2.1 ar]at h;cases h
      |some x=>exact sV ke _ (by simp[ar])
     rw[aA.cut_ow af];exact cn.fr.row m n u h
  rcases j8 with rfl|rfl<;>exact jo
theorem br.of{P:bj}(hm:P.follows .mixedOrders=true){aR:List (Nat×cw)}(az:eD P aR=true){f:FuncId}{fn:Func}(aF:P.funcs[f]? =some fn){code:Code}(aa:fn.body=some code)(ph:(fn.name== "runtime.NumGoroutine")=false){c:C}(al:eH fn.ntmps aR c code=true){dI:List cm}(pk:ko aR dI fn.results.toList=true)
  {args:List ae} (ar:args.length<=fn.ntmps) {s:cr} (js:fK s) {Q:ae->cr->Prop} (he:mO args->(∀j cs,look j s.b=some cs->fB cs=true->ln cs)->b5 P (dG s) c (b4 dI s Q) ⟨gC 0 args,s.b,s.e,0,dG s⟩):br P f args s Q:=
 br.ofW az aF aa ph pk ar js fun X j5 kL _ _ I J=>kG hm az c code _ _ (by rw[j5];exact al) (by rw[kL];exact he I J)
def cM(aR:List (Nat×cw))(c:C)(dI:List cm)(Ny:Nat)(fn:Func):Bool:=
 match fn.body with
 |some code=>eH fn.ntmps aR c code&&ko aR dI fn.results.toList&& !(fn.name== "runtime.NumGoroutine")&&decide (Ny<=fn.ntmps)
 |none=>false
theorem br.mk{P:bj}(hm:P.follows .mixedOrders=true){aR:List (Nat×cw)}(az:eD P aR=true){f:FuncId}{fn:Func}(aF:P.funcs[f]? =some fn){c:C}{dI:List cm}{n:Nat}(ez:cM aR c dI n fn=true)
  {args:List ae} (ar:args.length<=n) {s:cr} (js:fK s) {Q:ae->cr->Prop} (he:mO args->(∀j cs,look j s.b=some cs->fB cs=true->ln cs)->b5 P (dG s) c (b4 dI s Q) ⟨gC 0 args,s.b,s.e,0,dG s⟩):br P f args s Q:=by
 unfold cM at ez;split at ez
 ·rename_i code aa;simp only[bt,Bool.not_eq_true',eu]at ez;obtain⟨⟨⟨I,J⟩,aj⟩,aO⟩:=ez;exact br.of hm az aF aa aj I J (Nat.le_trans ar aO) js he
 ·cases ez
theorem pF:fK ⟨[],[]⟩:=⟨fun _=>rfl,fun _=>rfl⟩
def dy(dI:List cm)(r:ae)(e:Exit)(st:aS):Prop:=
 (e= .ret\/e= .normal)/\match bq st dI with
  |some (c,a8)=>c/\b7 (bp a8)=r
  |none=>cU
theorem G3{dI:List cm}{r:ae}(hr:aB (fun _=>cU) r):dy dI r=b4 dI ⟨[],[]⟩ (fun dW ah=>dW=r/\ah=⟨[],[]⟩):=by
 funext e st;unfold dy b4;apply propext;refine and_congr_right fun _=>?_;cases bq st dI with
 |none=>exact Iff.rfl
 |some x=>
  obtain⟨c,a8⟩:=x;refine and_congr_right fun _=>?_;constructor
  ·intro h;refine⟨⟨[],[]⟩,trivial,trivial,fun k cs U=>by simp[look]at U,fun k cs U=>by simp[look]at U,pF,?_,h,rfl⟩;rw[h];exact ot (fun k U=>U.elim) r hr
  ·rintro⟨ah,_,_,_,_,_,_,h,_⟩;exact h
theorem c8.mk{P:bj}(hm:P.follows .mixedOrders=true){aR:List (Nat×cw)}(az:eD P aR=true){f:FuncId}{fn:Func}(aF:P.funcs[f]? =some fn){c:C}{dI:List cm}{n:Nat}(ez:cM aR c dI n fn=true)
  {args:List ae} (ar:args.length<=n) {r:ae} (hr:aB (fun _=>cU) r) (he:mO args->b5 P [] c (dy dI r) ⟨gC 0 args,[],[],0,[]⟩):c8 P f args r:=by
 refine br.mk hm az aF ez ar pF fun I _=>?_;rw[<-G3 hr];exact he I
theorem Af{α:Type}{β:Type}:∀l:List (av×α),ba ([]:List (av×β)) l=l
 |[]=>rfl
 |(k,x)::r=>by simp[ba,look,Af r]
theorem bh.val{P:bj}{n:Nat}{args:List ae}{st:aS}{d:aW Nat}{K:aS->Prop}{r:ae}(U:aD (fun _=>cU) args)(aF:c8 P n args r)(h:K {st with t:=dB d r st.t}):bh P n args st d K:=by
 refine .inl ⟨⟨[],[]⟩,_,fun k cs U=>by simp[look]at U,fun k cs U=>by simp[look]at U,pF,mx (fun _ h=>h.elim) _ U,aF,?_⟩;rintro dW ah ⟨rfl,rfl⟩;refine⟨⟨fun m h=>by simp[look]at h,fun m h=>by simp[look]at h⟩,?_⟩;have:after st ⟨[],[]⟩ ⟨[],[]⟩ d dW={st with t:=dB d dW st.t}:=by simp[after,Af,dG]
 rw[this];exact h
@[reducible,simp] def eF(n:Int):bW:= .c (.int .i64 n)
@[reducible,simp] def ag(a b:Nat):bO:=⟨none,.s (.v a (.mov (.t b)))⟩
@[reducible,simp] def bC(a:Nat)(i:dQ):bO:=⟨none,.s (.v a i)⟩
@[reducible,simp] def eT(i:cH):bO:=⟨none,.s i⟩
@[reducible,simp] def h2(a f:Nat)(l:List bW):bO:=⟨none,.call (some a) (.c (.func f [])) l⟩
@[reducible,simp] def cQ(j:Nat)(w:Bool)(a b:Nat):bO:=⟨some (j,w),.s (.v a (.mov (.t b)))⟩
@[reducible,simp] def wo(j:Nat)(w:Bool)(a:Nat)(i:dQ):bO:=⟨some (j,w),.s (.v a i)⟩
@[reducible,simp] def ys(j:Nat)(w:Bool)(i:cH):bO:=⟨some (j,w),.s i⟩
@[reducible,simp] def hc(d s a b:Nat):bO:=bC d (.iaddr s (.t a) (.t b))
@[reducible,simp] def bm(d s a:Nat):bO:=bC d (.load false s (.t a))
@[reducible,simp] def ct(d s a:Nat):bO:=bC d (.load true s (.t a))
@[reducible,simp] def bB(d o s a:Nat):bO:=bC d (.faddr o false s (.t a))
@[reducible,simp] def lR(d o s a:Nat):bO:=bC d (.faddr o true s (.t a))
@[reducible,simp] def ek(d:Nat)(o:BinOp)(a b:Nat):bO:=bC d (.bin o false (.t a) (.t b))
@[reducible,simp] def bI(d:Nat)(o:BinOp)(a:Nat)(n:Int):bO:=bC d (.bin o false (.t a) (eF n))
@[reducible,simp] def fC(d a:Nat):bO:=bC d (.len (.t a))
@[reducible,simp] def eY(d a:Nat):bO:=bC d (.notB (.t a))
@[reducible,simp] def en(d i a:Nat):bO:=bC d (.ext i (.t a))
@[reducible,simp] def eC(d a b:Nat):bO:=bC d (.pick (.t a) (.c (.bool true)) (.t b))
@[reducible,simp] def gp(d a b:Nat):bO:=bC d (.pick (.t a) (.t b) (.c (.bool false)))
@[reducible,simp] def cA(d:Nat)(b:Bool):bO:=bC d (.mov (.c (.bool b)))
@[reducible,simp] def dH(d:Nat)(n:Int):bO:=bC d (.mov (eF n))
@[reducible,simp] def bZ(s a b:Nat):bO:=eT (.store s (.t a) (.t b))
@[reducible,simp] def bc(j:Nat)(w:Bool)(x:bO):bO:=⟨some (j,w),x.i⟩
@[reducible,simp] def ao(l:List bO)(c:C):C:= .seq (.region l) c
@[reducible,simp] def bK(n:Nat)(a b:C):C:= .cond (.t n) a b
@[reducible,simp] def tF(d a:Nat)(l:List bW):bO:=⟨none,.call (some d) (.t a) l⟩
@[reducible,simp] def cZ(d f a:Nat):bO:=h2 d f [.t a]
@[reducible,simp] def du(d f a b:Nat):bO:=h2 d f [.t a,.t b]
@[reducible,simp] def cp:List ae:=[.int .i64 0,.int .i64 0,.str [],.slice 4 .nil []]
@[reducible,simp] def kV:List ae:=[.int .i64 0,.int .i64 0,.int .i64 0,.str [],.slice 4 .nil []]
@[reducible,simp] def hf(a b:Nat):bO:=eT (.box a none (.t b))
@[reducible,simp] def ea(a:Nat)(l:List ae):bO:=eT (.alloc a none (.agg l))
@[reducible,simp] def ja(a n:Nat):bO:=bC a (.mov (.c (.slice n .nil [])))
@[reducible,simp] def pY(a b c d e:Nat):bO:=eT (.app a b c (.t d) (.t e))
@[reducible,simp] def iq(a b c:Nat)(l:List bW):bO:=eT (.bsl a b c l)
@[reducible,simp] def fO(a b:Nat):bO:=bC a (.nck (.t b))
@[reducible,simp] def im(d s a:Nat)(n:Int):bO:=bC d (.iaddr s (.t a) (eF n))
@[reducible,simp] def gF(d:Nat)(l:List ae)(m:List (Nat×Nat×bW)):bO:=bC d (.build l m)
@[reducible,simp] def oM(a b c:Nat)(x:C):C:= .block 0 (.loop (ao [ek a .lss b c] (.seq (bK a .skip (.exit 0)) x)))
end
end Go.Pv
namespace Go.Proofs.YtlnndmgfngfeiaaGreatDoor
section
open Go Go.Pv
def Bo:C:=(ao [eT (.box 2 (some 201) (.t 0)),hf 3 1,ea 4 cp,cA 5 false] (ao [ct 6 4 3,bC 7 (.mkf 145 [.t 2]),du 8 144 6 7,en 9 0 8,en 10 1 8,bZ 4 4 9,ag 5 10] .ret))
@[simp] def Fc:List cm:=[.cell 4 true 4,.tmp 5]
def Bg:C:=(ao [eT (.box 2 (some 101) (.t 0)),eT (.box 3 (some 102) (.t 1)),dH 4 0] (ao [bm 6 1 2,fC 7 6,bC 8 (.mkf 147 [.t 2,.t 3]),du 9 146 7 8,ag 5 9] (.seq (.seq (.drawn true 24 [ag 10 5,bm 11 1 2,fC 12 11,ek 13 .lss 10 12,ag 14 13,bc 14 true (bm 15 1 2),cQ 14 true 16 5,bc 14 true (hc 17 5 15 16),bc 14 true (bB 18 0 1 17),bc 14 true (bm 19 1 18),bc 14 true (bm 20 1 3),bc 14 true (ek 21 .eql 19 20),gp 22 14 21]) (bK 22 (ao [ag 23 5,ag 4 23] .ret) .skip)) (ao [dH 4 (-1)] .ret))))
@[simp] def E7:List cm:=[.tmp 4]
def wQ:C:=(ao [hf 1 0,ea 2 cp] (.seq (ao [bB 3 0 1 1,bm 4 1 3,bI 5 .neq 4 4] (bK 5 (ao [bB 6 0 1 1,bm 7 1 6,bB 8 1 1 1,bm 9 1 8,bB 10 2 1 1,bm 11 1 10,gF 12 cp [(0,1,(.t 7)),(1,1,(.t 9)),(2,1,(.t 11))],bZ 4 2 12] .ret) .skip)) (.seq (.drawn true 25 [bB 13 3 1 1,bm 14 1 13,im 15 4 14 0,ct 16 4 15,cZ 17 75 16,bB 18 3 1 1,bm 19 1 18,im 20 4 19 1,ct 21 4 20,cZ 22 75 21,iq 23 4 40 [.t 17,.t 22],gF 24 cp [(0,1,(eF 4)),(3,1,(.t 23))],bZ 4 2 24]) .ret)))
@[simp] def OW:List cm:=[.cell 2 true 4]
def Bd:C:=(ao [hf 1 0,cA 2 false] (ao [ct 3 4 1,h2 4 150 [.t 3,(eF 5000)],bI 5 .gtr 4 0,ag 2 5] .ret))
@[simp] def E5:List cm:=[.tmp 2]
def Be:C:=(ao [cA 2 false] (.seq (ao [ag 5 0,fC 6 5,bI 7 .gtr 6 400] (bK 7 (ao [cA 2 false] .ret) .skip)) (.seq (ao [ag 8 0,fC 9 8,dH 10 0] (oM 11 10 9 (.seq (.block 1 (ao [ag 12 10,hc 13 5 8 10,ct 14 5 13,ea 4 kV,ag 3 12,bZ 5 4 14] (.seq (.drawn true 45 [bB 15 0 1 4,bm 16 1 15,bI 17 .lss 16 0,ag 18 17,bc 18 false (bB 19 0 1 4),bc 18 false (bm 20 1 19),bc 18 false (bI 21 .gtr 20 100000),eC 22 18 21,ag 23 22,cQ 23 false 24 3,bc 23 false (bI 25 .gtr 24 0),cQ 23 false 26 25,cQ 26 true 27 0,cQ 26 true 28 3,bc 26 true (bI 29 .sub 28 1),bc 26 true (hc 30 5 27 29),bc 26 true (bB 31 0 1 30),bc 26 true (bm 32 1 31),bc 26 true (bB 33 0 1 4),bc 26 true (bm 34 1 33),bc 26 true (ek 35 .geq 32 34),bc 23 false (gp 36 26 35),eC 37 23 36,ag 38 37,bc 38 false (lR 39 1 4 4),bc 38 false (ct 40 4 39),bc 38 false (cZ 41 77 40),bc 38 false (eY 42 41),eC 43 38 42]) (bK 43 (ao [cA 2 false] .ret) .skip)))) (.region [bI 44 .add 10 1,ag 10 44])))) (ao [cA 2 true] .ret))))
@[simp] def vH:List cm:=[.tmp 2]
def tO:C:=(ao [hf 2 0] (.seq (ao [bB 4 0 1 2,bm 5 1 4,bI 6 .eql 5 1] (bK 6 (.region [ag 7 1,bB 8 1 1 2,bm 9 1 8,tF 10 7 [.t 9]]) .skip)) (ao [bB 11 0 1 2,bm 12 1 11,bI 13 .eql 12 4] (bK 13 (ao [bB 14 3 1 2,bm 15 1 14,im 16 4 15 0,ct 17 4 16,ag 18 1,du 19 79 17 18] (.region [bB 20 3 1 2,bm 21 1 20,im 22 4 21 1,ct 23 4 22,ag 24 1,du 25 79 23 24])) .skip))))
@[simp] def vI:List cm:=[]
def BJ:C:=(ao [hf 2 0,hf 3 1,ea 4 cp] (ao [ct 5 4 2,ct 6 4 3,iq 7 4 40 [.t 5,.t 6],gF 8 cp [(0,1,(eF 4)),(3,1,(.t 7))],bZ 4 4 8] .ret))
@[simp] def Ft:List cm:=[.cell 4 true 4]
def BL:C:=(ao [ea 2 cp] (ao [ag 3 0,gF 4 cp [(0,1,(eF 1)),(1,1,(.t 3))],bZ 4 2 4] .ret))
@[simp] def Fv:List cm:=[.cell 2 true 4]
def Bq:C:=(ao [hf 2 0,eT (.box 3 (some 202) (.t 1)),ea 4 cp,cA 5 false] (ao [ct 7 4 2,bC 8 (.mkf 197 [.t 3]),du 9 196 7 8,ag 6 9] (.seq (ao [ag 10 6,bI 11 .gtr 10 5000] (bK 11 (ao [gF 12 cp [],bZ 4 4 12,cA 5 false] .ret) .skip)) (ao [ct 13 4 2,bm 14 1 3,du 15 198 13 14,bZ 4 4 15,cA 5 true] .ret))))
@[simp] def zj:List cm:=[.cell 4 true 4,.tmp 5]
def Bp:C:=(ao [ea 3 cp,cA 4 false] (.seq (ao [bm 6 1 1,ag 7 0,du 8 74 6 7,ag 5 8] (ao [ag 9 5,bI 10 .geq 9 0] (bK 10 (ao [bm 11 1 1,ag 12 5,hc 13 5 11 12,lR 14 1 4 13,ct 15 4 14,bZ 4 3 15,cA 4 true] .ret) .skip))) (ao [gF 16 cp [],bZ 4 3 16,cA 4 false] .ret)))
@[simp] def zi:List cm:=[.cell 3 true 4,.tmp 4]
def Bz:C:=(ao [dH 4 0] (ao [ag 8 0,dH 5 0,ag 6 8] (.seq (.block 0 (.loop (.seq (ao [ag 9 5,ag 10 6,ek 11 .lss 9 10] (bK 11 .skip (.exit 0))) (.block 1 (ao [ag 12 5,ag 13 6,ek 14 .add 12 13,bC 15 (.conv .u64 (.t 14)),bC 16 (.bin .shr false (.t 15) (.c (.int .u64 1))),bC 17 (.conv .i64 (.t 16)),ag 7 17] (ao [ag 18 1,ag 19 7,tF 20 18 [.t 19],eY 21 20] (bK 21 (.region [ag 22 7,bI 23 .add 22 1,ag 5 23]) (.region [ag 24 7,ag 6 24])))))))) (ao [ag 25 5,ag 4 25] .ret))))
@[simp] def Fj:List cm:=[.tmp 4]
def Bh:C:=(ao [cA 4 false] (.seq (.drawn true 12 [bm 5 1 1,ag 6 0,hc 7 5 5 6,bB 8 0 1 7,bm 9 1 8,bm 10 1 2,ek 11 .geq 9 10,ag 4 11]) .ret))
@[simp] def E8:List cm:=[.tmp 4]
def Bk:C:=(ao [hf 2 0,dH 4 0] (.seq (ao [ag 7 1,bI 8 .lss 7 1] (bK 8 (ao [dH 4 (-1)] .ret) .skip)) (.seq (ao [bB 9 0 1 2,bm 10 1 9,bI 11 .neq 10 4] (bK 11 (.seq (ao [bB 12 3 1 2,bm 13 1 12,fC 14 13,bI 15 .neq 14 0] (bK 15 (ao [dH 4 (-1)] .ret) .skip)) (.seq (ao [bB 16 0 1 2,bm 17 1 16] (.block 0 (ao [bI 19 .eql 17 0,ag 18 19] (bK 18 (ao [bB 20 1 1 2,bm 21 1 20,bI 22 .neq 21 0,ag 23 22,bc 23 false (bB 24 2 1 2),bc 23 false (bm 25 1 24),wo 23 false 26 (.bin .neq false (.t 25) (.c (.str []))),eC 27 23 26] (bK 27 (ao [dH 4 (-1)] .ret) .skip)) (ao [bI 29 .eql 17 1,ag 28 29] (bK 28 (ao [bB 30 1 1 2,bm 31 1 30,bI 32 .lss 31 0,ag 33 32,bc 33 false (bB 34 1 1 2),bc 33 false (bm 35 1 34),bc 33 false (bI 36 .gtr 35 100000),eC 37 33 36,ag 38 37,bc 38 false (bB 39 2 1 2),bc 38 false (bm 40 1 39),wo 38 false 41 (.bin .neq false (.t 40) (.c (.str []))),eC 42 38 41] (bK 42 (ao [dH 4 (-1)] .ret) .skip)) (ao [bI 44 .eql 17 2,ag 43 44] (bK 43 (ao [bB 45 1 1 2,bm 46 1 45,bI 47 .neq 46 0,ag 48 47,bc 48 false (bB 49 2 1 2),bc 48 false (bm 50 1 49),bc 48 false (cZ 51 170 50),bc 48 false (eY 52 51),eC 53 48 52] (bK 53 (ao [dH 4 (-1)] .ret) .skip)) (ao [bI 55 .eql 17 3,ag 54 55] (bK 54 (ao [bB 56 1 1 2,bm 57 1 56,bI 58 .lss 57 (-1000000000),ag 59 58,bc 59 false (bB 60 1 1 2),bc 59 false (bm 61 1 60),bc 59 false (bI 62 .gtr 61 1000000000),eC 63 59 62,ag 64 63,bc 64 false (bB 65 2 1 2),bc 64 false (bm 66 1 65),wo 64 false 67 (.bin .neq false (.t 66) (.c (.str []))),eC 68 64 67] (bK 68 (ao [dH 4 (-1)] .ret) .skip)) (ao [dH 4 (-1)] .ret))))))))))) (ao [dH 4 1] .ret))) .skip)) (.seq (ao [bB 69 1 1 2,bm 70 1 69,bI 71 .neq 70 0,ag 72 71,bc 72 false (bB 73 2 1 2),bc 72 false (bm 74 1 73),wo 72 false 75 (.bin .neq false (.t 74) (.c (.str []))),eC 76 72 75,ag 77 76,bc 77 false (bB 78 3 1 2),bc 77 false (bm 79 1 78),bc 77 false (fC 80 79),bc 77 false (bI 81 .neq 80 2),eC 82 77 81] (bK 82 (ao [dH 4 (-1)] .ret) .skip)) (ao [bB 83 3 1 2,bm 84 1 83,im 85 4 84 0,ct 86 4 85,ag 87 1,bI 88 .sub 87 1,du 89 150 86 88,ag 5 89] (.seq (ao [ag 90 5,bI 91 .lss 90 0] (bK 91 (ao [dH 4 (-1)] .ret) .skip)) (ao [bB 92 3 1 2,bm 93 1 92,im 94 4 93 1,ct 95 4 94,ag 96 1,bI 97 .sub 96 1,ag 98 5,ek 99 .sub 97 98,du 100 150 95 99,ag 6 100] (.seq (ao [ag 101 6,bI 102 .lss 101 0] (bK 102 (ao [dH 4 (-1)] .ret) .skip)) (ao [ag 103 5,bC 104 (.bin .add false (eF 1) (.t 103)),ag 105 6,ek 106 .add 104 105,ag 4 106] .ret)))))))))
@[simp] def vK:List cm:=[.tmp 4]
def Bf:C:=(ao [hf 2 0,hf 3 1,cA 4 false] (ao [ct 5 4 2,ct 6 4 3,du 7 204 5 6,bI 8 .eql 7 0,ag 4 8] .ret))
@[simp] def E6:List cm:=[.tmp 4]
def A9:C:=(ao [cA 2 false] (.seq (ao [ag 4 0,bC 5 (.slen (.t 4)),bI 6 .lss 5 1,ag 7 6,cQ 7 false 8 0,bc 7 false (bC 9 (.slen (.t 8))),bc 7 false (bI 10 .gtr 9 12),eC 11 7 10,ag 12 11,cQ 12 false 13 0,bc 12 false (bC 14 (.sidx (.t 13) (eF 0))),bc 12 false (bC 15 (.bin .lss false (.t 14) (.c (.int .u8 97)))),eC 16 12 15,ag 17 16,cQ 17 false 18 0,bc 17 false (bC 19 (.sidx (.t 18) (eF 0))),bc 17 false (bC 20 (.bin .gtr false (.t 19) (.c (.int .u8 122)))),eC 21 17 20] (bK 21 (ao [cA 2 false] .ret) .skip)) (.seq (ao [dH 3 1] (.block 0 (.loop (.seq (ao [ag 22 3,ag 23 0,bC 24 (.slen (.t 23)),ek 25 .lss 22 24] (bK 25 .skip (.exit 0))) (.seq (.block 1 (ao [ag 28 0,ag 29 3,bC 30 (.sidx (.t 28) (.t 29)),bC 31 (.bin .geq false (.t 30) (.c (.int .u8 97))),ag 32 31,cQ 32 true 33 0,cQ 32 true 34 3,bc 32 true (bC 35 (.sidx (.t 33) (.t 34))),bc 32 true (bC 36 (.bin .leq false (.t 35) (.c (.int .u8 122)))),gp 37 32 36,ag 38 37,cQ 38 false 39 0,cQ 38 false 40 3,bc 38 false (bC 41 (.sidx (.t 39) (.t 40))),bc 38 false (bC 42 (.bin .geq false (.t 41) (.c (.int .u8 48)))),cQ 38 false 43 42,cQ 43 true 44 0,cQ 43 true 45 3,bc 43 true (bC 46 (.sidx (.t 44) (.t 45))),bc 43 true (bC 47 (.bin .leq false (.t 46) (.c (.int .u8 57)))),bc 38 false (gp 48 43 47),eC 49 38 48,ag 50 49,cQ 50 false 51 0,cQ 50 false 52 3,bc 50 false (bC 53 (.sidx (.t 51) (.t 52))),bc 50 false (bC 54 (.bin .eql false (.t 53) (.c (.int .u8 45)))),eC 55 50 54,eY 56 55] (bK 56 (ao [cA 2 false] .ret) .skip))) (.region [ag 26 3,bI 27 .add 26 1,ag 3 27])))))) (ao [cA 2 true] .ret))))
@[simp] def vG:List cm:=[.tmp 2]
def tR:C:=(ao [hf 2 0,dH 4 0] (.seq (ao [bB 6 0 1 2,bm 7 1 6] (.block 0 (ao [bI 9 .eql 7 1,ag 8 9] (bK 8 (ao [ag 10 1,bB 11 1 1 2,bm 12 1 11,tF 13 10 [.t 12],bC 14 (.min2 (.t 13) (eF 5001)),ag 4 14] .ret) (ao [bI 16 .eql 7 4,ag 15 16] (bK 15 (ao [bB 17 3 1 2,bm 18 1 17,im 19 4 18 0,ct 20 4 19,ag 21 1,du 22 196 20 21,ag 5 22] (.seq (ao [ag 23 5,bI 24 .gtr 23 5000] (bK 24 (ao [ag 25 5,ag 4 25] .ret) .skip)) (ao [ag 26 5,bC 27 (.bin .add false (eF 1) (.t 26)),bB 28 3 1 2,bm 29 1 28,im 30 4 29 1,ct 31 4 30,ag 32 1,du 33 196 31 32,ek 34 .add 27 33,bC 35 (.min2 (.t 34) (eF 5001)),ag 4 35] .ret))) .skip)))))) (ao [dH 4 1] .ret)))
@[simp] def te:List cm:=[.tmp 4]
def Br:C:=(ao [dH 3 0] (.seq (ao [bm 7 1 1,ag 8 0,tF 9 7 [.t 8],ag 6 9,en 10 0 6,en 11 1 6,ea 4 cp,bZ 4 4 10,ag 5 11] (ao [ag 12 5] (bK 12 (ao [ct 13 4 4,h2 14 150 [.t 13,(eF 5000)],ag 3 14] .ret) .skip))) (ao [dH 3 1] .ret)))
@[simp] def Fe:List cm:=[.tmp 3]
def tP:C:=(ao [hf 2 0,ea 4 cp] (.seq (ao [bB 7 0 1 2,bm 8 1 7] (.block 0 (ao [bI 10 .eql 8 1,ag 9 10] (bK 9 (.seq (ao [ag 12 1,bB 13 1 1 2,bm 14 1 13,tF 15 12 [.t 14],ag 11 15,en 16 0 11,en 17 1 11,ea 5 cp,bZ 4 5 16,ag 6 17] (ao [ag 18 6] (bK 18 (ao [ct 19 4 5,cZ 20 75 19,bZ 4 4 20] .ret) .skip))) (ao [ct 21 4 2,bZ 4 4 21] .ret)) (ao [bI 23 .eql 8 4,ag 22 23] (bK 22 (.seq (.drawn false 38 [bB 24 3 1 2,bm 25 1 24,im 26 4 25 0,ct 27 4 26,ag 28 1,du 29 198 27 28,bB 30 3 1 2,bm 31 1 30,im 32 4 31 1,ct 33 4 32,ag 34 1,du 35 198 33 34,du 36 206 29 35,bZ 4 4 36]) .ret) .skip)))))) (ao [ct 37 4 2,bZ 4 4 37] .ret)))
@[simp] def vJ:List cm:=[.cell 4 true 4]
def tQ:C:=(ao [hf 2 0,hf 3 1,dH 4 0] (.seq (ao [bB 6 0 1 2,bm 7 1 6,bB 8 0 1 3,bm 9 1 8,ek 10 .neq 7 9] (bK 10 (ao [bB 11 0 1 2,bm 12 1 11,bB 13 0 1 3,bm 14 1 13,du 15 250 12 14,ag 4 15] .ret) .skip)) (.seq (ao [bB 16 1 1 2,bm 17 1 16,bB 18 1 1 3,bm 19 1 18,ek 20 .neq 17 19] (bK 20 (ao [bB 21 1 1 2,bm 22 1 21,bB 23 1 1 3,bm 24 1 23,du 25 250 22 24,ag 4 25] .ret) .skip)) (.seq (ao [bB 26 2 1 2,bm 27 1 26,bB 28 2 1 3,bm 29 1 28,ek 30 .neq 27 29] (bK 30 (.seq (ao [bB 31 2 1 2,bm 32 1 31,bB 33 2 1 3,bm 34 1 33,ek 35 .lss 32 34] (bK 35 (ao [dH 4 (-1)] .ret) .skip)) (ao [dH 4 1] .ret)) .skip)) (.seq (ao [bB 36 0 1 2,bm 37 1 36,bI 38 .neq 37 4] (bK 38 (ao [dH 4 0] .ret) .skip)) (.seq (.seq (.drawn true 60 [bB 39 3 1 2,bm 40 1 39,im 41 4 40 0,ct 42 4 41,bB 43 3 1 3,bm 44 1 43,im 45 4 44 0,ct 46 4 45,du 47 204 42 46,ag 5 47]) (ao [ag 48 5,bI 49 .neq 48 0] (bK 49 (ao [ag 50 5,ag 4 50] .ret) .skip))) (.seq (.drawn true 60 [bB 51 3 1 2,bm 52 1 51,im 53 4 52 1,ct 54 4 53,bB 55 3 1 3,bm 56 1 55,im 57 4 56 1,ct 58 4 57,du 59 204 54 58,ag 4 59]) .ret)))))))
@[simp] def vL:List cm:=[.tmp 4]
def Bn:C:=(ao [hf 2 0,hf 3 1,ea 4 cp] (ao [ct 5 4 2,ct 6 4 3,iq 7 4 40 [.t 5,.t 6],gF 8 cp [(0,1,(eF 4)),(3,1,(.t 7))],bZ 4 4 8] .ret))
@[simp] def Fb:List cm:=[.cell 4 true 4]
def Bm:C:=(ao [dH 4 0] (.seq (ao [ag 5 0,ag 6 1,ek 7 .lss 5 6] (bK 7 (ao [dH 4 (-1)] .ret) .skip)) (.seq (ao [ag 8 0,ag 9 1,ek 10 .gtr 8 9] (bK 10 (ao [dH 4 1] .ret) .skip)) (ao [dH 4 0] .ret))))
@[simp] def Fa:List cm:=[.tmp 4]
def aR:List (Nat×cw):=[
 (3,⟨1,8,.int .i64,.int .i64 0⟩),
 (9,⟨1,16,.str,.str []⟩),
 (36,⟨1,24,.slice 120,.slice 5 .nil []⟩),
 (38,⟨1,24,.slice 40,.slice 4 .nil []⟩),
 (40,⟨4,56,.struct [(0,3),(1,3),(2,9),(3,38)],.agg [.int .i64 0,.int .i64 0,.str [],.slice 4 .nil []]⟩),
 (120,⟨5,64,.struct [(0,3),(1,40)],.agg [.int .i64 0,.int .i64 0,.int .i64 0,.str [],.slice 4 .nil []]⟩),
 (136,⟨1,24,.slice 3,.slice 1 .nil []⟩),
 (189,⟨1,8,.other,.junk⟩),
 (199,⟨1,8,.map 3 4,.junk⟩),
 (209,⟨1,8,.int .u64,.int .u64 0⟩)]
theorem mixed:aI.follows .mixedOrders=true:=by kernel_rfl
theorem dS{aR:List (Nat×cw)}(az:eD aI aR=true){f:FuncId}{fn:Func}(aF:aI.funcs[f]? =some fn){c:C}{dI:List cm}{n:Nat}(ez:cM aR c dI n fn=true){args:List ae}{r:ae}(he:mO args->b5 aI [] c (dy dI r) ⟨gC 0 args,[],[],0,[]⟩)(ar:args.length<=n:=by simp)(hr:aB (fun _=>cU) r:=by simp[aB]):c8 aI f args r:=c8.mk mixed az aF ez ar hr he
theorem fs:eD aI aR=true:=by kernel_rfl
theorem N4:cM aR Bo Fc 2 Tryz.f73=true:=by kernel_rfl
theorem JP:aI.funcs[(73:Nat)]? =some Tryz.f73:=Tryz.func73
theorem NW:cM aR Bg E7 2 Tryz.f74=true:=by kernel_rfl
theorem JH:aI.funcs[(74:Nat)]? =some Tryz.f74:=Tryz.func74
theorem EI:cM aR wQ OW 1 Tryz.f75=true:=by kernel_rfl
theorem Co:aI.funcs[(75:Nat)]? =some Tryz.f75:=Tryz.func75
theorem NT:cM aR Bd E5 1 Tryz.f77=true:=by kernel_rfl
theorem JE:aI.funcs[(77:Nat)]? =some Tryz.f77:=Tryz.func77
theorem NU:cM aR Be vH 1 Tryz.f78=true:=by kernel_rfl
theorem JF:aI.funcs[(78:Nat)]? =some Tryz.f78:=Tryz.func78
theorem y6:cM aR tO vI 2 Tryz.f79=true:=by kernel_rfl
theorem xi:aI.funcs[(79:Nat)]? =some Tryz.f79:=Tryz.func79
theorem Ou:cM aR BJ Ft 2 Tryz.f141=true:=by kernel_rfl
theorem Ka:aI.funcs[(141:Nat)]? =some Tryz.f141:=Tryz.func141
theorem Ow:cM aR BL Fv 1 Tryz.f142=true:=by kernel_rfl
theorem Kc:aI.funcs[(142:Nat)]? =some Tryz.f142:=Tryz.func142
theorem N6:cM aR Bq zj 2 Tryz.f144=true:=by kernel_rfl
theorem JR:aI.funcs[(144:Nat)]? =some Tryz.f144:=Tryz.func144
theorem N5:cM aR Bp zi 2 Tryz.f145=true:=by kernel_rfl
theorem JQ:aI.funcs[(145:Nat)]? =some Tryz.f145:=Tryz.func145
theorem Og:cM aR Bz Fj 2 Tryz.f146=true:=by kernel_rfl
theorem J0:aI.funcs[(146:Nat)]? =some Tryz.f146:=Tryz.func146
theorem NX:cM aR Bh E8 3 Tryz.f147=true:=by kernel_rfl
theorem JI:aI.funcs[(147:Nat)]? =some Tryz.f147:=Tryz.func147
theorem N0:cM aR Bk vK 2 Tryz.f150=true:=by kernel_rfl
theorem JL:aI.funcs[(150:Nat)]? =some Tryz.f150:=Tryz.func150
theorem NV:cM aR Bf E6 2 Tryz.f151=true:=by kernel_rfl
theorem JG:aI.funcs[(151:Nat)]? =some Tryz.f151:=Tryz.func151
theorem NP:cM aR A9 vG 1 Tryz.f170=true:=by kernel_rfl
theorem JA:aI.funcs[(170:Nat)]? =some Tryz.f170:=Tryz.func170
theorem y9:cM aR tR te 2 Tryz.f196=true:=by kernel_rfl
theorem xl:aI.funcs[(196:Nat)]? =some Tryz.f196:=Tryz.func196
theorem N7:cM aR Br Fe 2 Tryz.f197=true:=by kernel_rfl
theorem JS:aI.funcs[(197:Nat)]? =some Tryz.f197:=Tryz.func197
theorem y7:cM aR tP vJ 2 Tryz.f198=true:=by kernel_rfl
theorem xj:aI.funcs[(198:Nat)]? =some Tryz.f198:=Tryz.func198
theorem y8:cM aR tQ vL 2 Tryz.f204=true:=by kernel_rfl
theorem xk:aI.funcs[(204:Nat)]? =some Tryz.f204:=Tryz.func204
theorem N3:cM aR Bn Fb 2 Tryz.f206=true:=by kernel_rfl
theorem JO:aI.funcs[(206:Nat)]? =some Tryz.f206:=Tryz.func206
theorem N2:cM aR Bm Fa 2 Tryz.f250=true:=by kernel_rfl
theorem JN:aI.funcs[(250:Nat)]? =some Tryz.f250:=Tryz.func250
end
end Go.Proofs.YtlnndmgfngfeiaaGreatDoor
namespace Go.Pv
section
open Go Go.RowKit
theorem lr{α:Type}{l:List α}{i:Nat}(h:i<l.length):∃b,l[i]? =some b/\∀h,(l[i]'h)=b:=⟨l[i],eo h,fun _=>rfl⟩
def zH(st:aS)(i:cH):Prop:=match hN st i with|some (c,_)=>c|none=>cU
def zI(st:aS)(i:cH):aS:=match hN st i with|some (_,s)=>s|none=>st
def p9(P:bj)(ob:List av)(r:List bO)(K:aS->Prop)(st:aS):Prop:=eV P ob r st K
def qc(P:bj)(ob:List av)(c:C)(Q:Exit->aS->Prop)(st:aS):Prop:=b5 P ob c Q st
def j2(P:bj)(ob:List av)(v:ae)(s:Nat)(w:Bool)(i:cS)(r:List bO)(st:aS)(K:aS->Prop):Prop:=
 match v with
 | .bool b=>(b=w->eV P ob (⟨none,i⟩::r) {st with t:=put s (.bool w) st.t} K)/\(b= !w->eV P ob r {st with t:=dB i.dst (.tuple []) (put s (.bool !w) st.t)} K)
 | .tuple []=>eV P ob r {st with t:=dB i.dst (.tuple []) st.t} K
 |_=>cU
def mV(P:bj)(ob:List av)(v:ae)(x:bW)(t e:C)(Q:Exit->aS->Prop)(st:aS):Prop:=
 match v with
 | .bool b=>(b=true->b5 P ob t Q (lS st x true))/\(b=false->b5 P ob e Q (lS st x false))
 |_=>cU
def xg(P:bj)(ob:List av)(v:ae)(d:aW Nat)(xs:List ae)(r:List bO)(st:aS)(K:aS->Prop):Prop:=
 match v with
 | .func n bX=>bh P n (bR (xs++bX)) st d (p9 P ob r K)
 |_=>cU
section
variable {P:bj} {ob:List av} {st:aS} {K:aS->Prop} {r:List bO} {Q:Exit->aS->Prop} {a b c t e:C}
theorem Jj:eV P ob [] st K=K st:=rfl
theorem Jl{i:cH}:eV P ob (⟨none,.s i⟩::r) st K=(zH st i/\eV P ob r (zI st i) K):=by
 simp only[eV,ls,zH,zI];cases hN st i with
 |none=>simp
 |some x=>rfl
theorem Jg{d:aW Nat}{f:bW}{xs:List bW}:eV P ob (⟨none,.call d f xs⟩::r) st K=xg P ob (bf st.t f) d (xs.map (bf st.t)) r st K:=by simp only[eV,ls,xg];rfl
def xh(P:bj)(ob:List av)(v:ae)(d:aW Nat)(xs:List ae)(r:List bO)(st:aS)(K:aS->Prop):Prop:=
 match v with
 | .func n bX=>rK P ob n (xs++bX) st d (p9 P ob r K)
 |_=>cU
theorem Jk{d:aW Nat}{f:bW}{xs:List bW}:eV P ob (⟨none,.opn d f xs⟩::r) st K=xh P ob (bf st.t f) d (xs.map (bf st.t)) r st K:=by simp only[eV,ls,xh];rfl
theorem Je{n:Nat}{bX xs:List ae}{d:aW Nat}:xh P ob (.func n bX) d xs r st K=rK P ob n (xs++bX) st d (p9 P ob r K):=rfl
theorem Ji{d:Nat}{x:bW}:eV P ob (⟨none,.next d x⟩::r) st K=uc st d (bf st.t x) (p9 P ob r K):=by simp only[eV,ls];rfl
def nP(P:bj)(ob:List av)(c:C)(Q:Exit->aS->Prop):aW aS->Prop
 |some st=>b5 P ob c Q st
 |none=>cU
theorem G2:nP P ob c Q (some st)=b5 P ob c Q st:=rfl
theorem IS{s:Nat}:b5 P ob (.pub s c) Q st=nP P ob c Q (nz st s):=by simp only[b5];cases nz st s<;>rfl
theorem IM{jO:Bool}{s:Nat}:b5 P ob (.fg jO s c) Q st=b5 P ob c Q {st with t:=put s (qm jO (get s st.t)) st.t}:=rfl
theorem IN{jO:Bool}{s:Nat}{d:C}:b5 P ob (.seq (.fg jO s c) d) Q st=b5 P ob (.seq c d) Q {st with t:=put s (qm jO (get s st.t)) st.t}:=rfl
theorem IP{fi:Bool}{s:Nat}:b5 P ob (.fz fi s c) Q st=nP P ob c Q (n3 st fi s):=by simp only[b5];cases n3 st fi s<;>rfl
theorem IQ{fi:Bool}{s:Nat}{d:C}:b5 P ob (.seq (.fz fi s c) d) Q st=nP P ob (.seq c d) Q (n3 st fi s):=by simp only[b5];cases n3 st fi s<;>rfl
theorem IK{s:Nat}:b5 P ob (.fd s c) Q st=(r8 ob st s/\b5 P ob c Q (ql st s)):=rfl
theorem IL{s:Nat}{d:C}:b5 P ob (.seq (.fd s c) d) Q st=(r8 ob st s/\b5 P ob (.seq c d) Q (ql st s)):=rfl
theorem IT{s:Nat}:b5 P ob (.pubB s c) Q st=nP P ob c Q (q6 st s):=by simp only[b5];cases q6 st s<;>rfl
theorem Jf{n:Nat}{bX:List ae}{d:aW Nat}{xs:List ae}:xg P ob (.func n bX) d xs r st K=bh P n (bR (xs++bX)) st d (p9 P ob r K):=rfl
theorem Jh{s:Nat}{w:Bool}{i:cS}:eV P ob (⟨some (s,w),i⟩::r) st K=j2 P ob (get s st.t) s w i r st K:=by simp only[eV,j2];try rfl
theorem Jq{s:Nat}{i:cS}:j2 P ob (.bool true) s true i r st K=eV P ob (⟨none,i⟩::r) {st with t:=put s (.bool true) st.t} K:=by simp[j2]
theorem Jm{s:Nat}{i:cS}:j2 P ob (.bool false) s false i r st K=eV P ob (⟨none,i⟩::r) {st with t:=put s (.bool false) st.t} K:=by simp[j2]
theorem Jp{s:Nat}{i:cS}:j2 P ob (.bool true) s false i r st K=eV P ob r {st with t:=dB i.dst (.tuple []) (put s (.bool true) st.t)} K:=by simp[j2]
theorem Jn{s:Nat}{i:cS}:j2 P ob (.bool false) s true i r st K=eV P ob r {st with t:=dB i.dst (.tuple []) (put s (.bool false) st.t)} K:=by simp[j2]
theorem Jo{s:Nat}{w:Bool}{i:cS}:j2 P ob (.tuple []) s w i r st K=eV P ob r {st with t:=dB i.dst (.tuple []) st.t} K:=by simp[j2]
theorem dN{x:Bool}{s:Nat}{w:Bool}{i:cS}(I:x=w->eV P ob (⟨none,i⟩::r) {st with t:=put s (.bool w) st.t} K)(J:x= !w->eV P ob r {st with t:=dB i.dst (.tuple []) (put s (.bool !w) st.t)} K):j2 P ob (.bool x) s w i r st K:=⟨I,J⟩
theorem Iy:b5 P ob (.seq (.seq a b) c) Q st=b5 P ob (.seq a (.seq b c)) Q st:=by simp only[b5];congr 1;funext e st';cases e<;>rfl
theorem I0:b5 P ob (.seq .skip c) Q st=b5 P ob c Q st:=rfl
theorem IX:b5 P ob (.seq .ret c) Q st=Q .ret st:=rfl
theorem IH{n:Nat}:b5 P ob (.seq (.exit n) c) Q st=Q (.exit n) st:=rfl
theorem I1:b5 P ob .skip Q st=Q .normal st:=rfl
theorem IY:b5 P ob .ret Q st=Q .ret st:=rfl
theorem IJ{n:Nat}:b5 P ob (.exit n) Q st=Q (.exit n) st:=rfl
theorem IU{gs:List bO}:b5 P ob (.seq (.region gs) c) Q st=eV P ob gs st (qc P ob c Q):=rfl
theorem IW{gs:List bO}:b5 P ob (.region gs) Q st=eV P ob gs st (Q .normal):=rfl
theorem IB{x:bW}:b5 P ob (.seq (.cond x t e) c) Q st=mV P ob (bf st.t x) x (.seq t c) (.seq e c) Q st:=by simp only[b5,mV];try rfl
theorem IC{x:bW}:b5 P ob (.cond x t e) Q st=mV P ob (bf st.t x) x t e Q st:=by simp only[b5,mV];try rfl
theorem I3{x:bW}:mV P ob (.bool true) x t e Q st=b5 P ob t Q (lS st x true):=by simp[mV]
theorem I2{x:bW}:mV P ob (.bool false) x t e Q st=b5 P ob e Q (lS st x false):=by simp[mV]
theorem dz{v:Bool}{x:bW}(I:v=true->b5 P ob t Q (lS st x true))(J:v=false->b5 P ob e Q (lS st x false)):mV P ob (.bool v) x t e Q st:=⟨I,J⟩
def p6(P:bj)(ob:List av)(id:Nat)(c:C)(Q:Exit->aS->Prop)(e:Exit)(st:aS):Prop:=
 match e with
 | .normal=>b5 P ob c Q st
 | .exit j=>if j=id then b5 P ob c Q st else Q (.exit j) st
 |e=>Q e st
theorem Iz{id:Nat}:b5 P ob (.seq (.block id a) c) Q st=b5 P ob a (p6 P ob id c Q) st:=by
 simp only[b5];congr 1;funext e st';cases e with
 |exit j=>rfl
 |_=>rfl
theorem IA{id:Nat}:b5 P ob (.block id a) Q st=b5 P ob a (p6 P ob id .skip Q) st:=by
 simp only[b5];congr 1;funext e st';cases e with
 |exit j=>simp only[p6];by_cases aC:j=id<;>simp[aC,b5]
 |_=>rfl
theorem GU{id:Nat}:p6 P ob id c Q .normal st=qc P ob c Q st:=rfl
theorem GS{id j:Nat}:p6 P ob id c Q (.exit j) st=if j=id then qc P ob c Q st else Q (.exit j) st:=rfl
theorem GV{id:Nat}:p6 P ob id c Q .ret st=Q .ret st:=rfl
def dD(ob:List av)(fV:Nat->aS->Prop)(k:Nat)(Q:Exit->aS->Prop)(e:Exit)(st:aS):Prop:=
 match e with
 | .normal=> ∃aT jy,aT<k/\hQ ob st jy/\fV aT jy
 |e=>Q e st
theorem tI{fV:Nat->aS->Prop}{k:Nat}:dD ob fV k Q .normal st= ∃aT jy,aT<k/\hQ ob st jy/\fV aT jy:=rfl
theorem G0{fV:Nat->aS->Prop}{k n:Nat}:dD ob fV k Q (.exit n) st=Q (.exit n) st:=rfl
theorem G1{fV:Nat->aS->Prop}{k:Nat}:dD ob fV k Q .ret st=Q .ret st:=rfl
theorem nZ(fV:Nat->aS->Prop)(m:Nat)(oI:aS)(hw:hQ ob st oI)(ck:fV m oI)(h:∀k s,fV k s->(∀i,kB (get i s.t))->(∀j cs,look j s.b=some cs->fB cs=true->ln cs)->b5 P ob a (dD ob fV k Q) s):b5 P ob (.loop a) Q st:=by
 simp only[b5];refine⟨fV,m,oI,hw,ck,fun k s I J aj=>?_⟩;have:=h k s I J aj;have bD:(dD ob fV k Q)=(fun e ah=>match e with| .normal=> ∃aT jy,aT<k/\hQ ob ah jy/\fV aT jy|e=>Q e ah):=by funext e ah;cases e<;>rfl
 rw[bD]at this;exact this
end
/-Regions bM draw their order. -/
def zF(n0:Nat)(st:aS)(i:cH):Prop:=match cW (jI n0 i) st.n (jI n0 i::st.o) st i with|some (c,_)=>c|none=>cU
def zG(n0:Nat)(st:aS)(i:cH):aS:=match cW (jI n0 i) st.n (jI n0 i::st.o) st i with|some (_,s)=>s|none=>st
def wz(P:bj)(q:Bool)(nw:List Nat)(n0:Nat)(r:List bO)(K:aS->Prop)(st:aS):Prop:=e3 P q nw n0 r st K
def j1(P:bj)(q:Bool)(nw:List Nat)(n0:Nat)(v:ae)(s:Nat)(w:Bool)(i:cS)(r:List bO)(st:aS)(K:aS->Prop):Prop:=
 match v with
 | .bool b=>(b=w->e3 P q nw n0 (⟨none,i⟩::r) {st with t:=put s (.bool w) st.t} K)/\(b= !w->e3 P q nw n0 r {st with t:=dB i.dst (.tuple []) (put s (.bool !w) st.t)} K)
 | .tuple []=>e3 P q nw n0 r {st with t:=dB i.dst (.tuple []) st.t} K
 |_=>cU
def xf(P:bj)(q:Bool)(nw:List Nat)(n0:Nat)(v:ae)(d:aW Nat)(xs:List ae)(r:List bO)(st:aS)(K:aS->Prop):Prop:=
 match v with
 | .func n bX=>iL P q nw n (bR (xs++bX)) st d (wz P q nw n0 r K)
 |_=>cU
section
variable {P:bj} {ob:List av} {st:aS} {K:aS->Prop} {r:List bO} {Q:Exit->aS->Prop} {c:C} {q:Bool} {nw:List Nat} {n0 N:Nat}
theorem I7:e3 P q nw n0 [] st K=K st:=rfl
theorem I8{i:cH}:e3 P q nw n0 (⟨none,.s i⟩::r) st K=(hA q nw n0 st i/\zF n0 st i/\e3 P q nw n0 r (zG n0 st i) K):=by
 simp only[e3,gj,zF,zG];cases cW (jI n0 i) st.n (jI n0 i::st.o) st i with
 |none=>simp
 |some x=>rfl
theorem I5{d:aW Nat}{f:bW}{xs:List bW}:e3 P q nw n0 (⟨none,.call d f xs⟩::r) st K=xf P q nw n0 (bf st.t f) d (xs.map (bf st.t)) r st K:=by simp only[e3,gj,xf];rfl
theorem I4{n:Nat}{bX:List ae}{d:aW Nat}{xs:List ae}:xf P q nw n0 (.func n bX) d xs r st K=iL P q nw n (bR (xs++bX)) st d (wz P q nw n0 r K):=rfl
theorem I6{s:Nat}{w:Bool}{i:cS}:e3 P q nw n0 (⟨some (s,w),i⟩::r) st K=j1 P q nw n0 (get s st.t) s w i r st K:=by simp only[e3,j1];try rfl
theorem Jd{s:Nat}{i:cS}:j1 P q nw n0 (.bool true) s true i r st K=e3 P q nw n0 (⟨none,i⟩::r) {st with t:=put s (.bool true) st.t} K:=by simp[j1]
theorem I9{s:Nat}{i:cS}:j1 P q nw n0 (.bool false) s false i r st K=e3 P q nw n0 (⟨none,i⟩::r) {st with t:=put s (.bool false) st.t} K:=by simp[j1]
theorem Jc{s:Nat}{i:cS}:j1 P q nw n0 (.bool true) s false i r st K=e3 P q nw n0 r {st with t:=dB i.dst (.tuple []) (put s (.bool true) st.t)} K:=by simp[j1]
theorem Ja{s:Nat}{i:cS}:j1 P q nw n0 (.bool false) s true i r st K=e3 P q nw n0 r {st with t:=dB i.dst (.tuple []) (put s (.bool false) st.t)} K:=by simp[j1]
theorem Jb{s:Nat}{w:Bool}{i:cS}:j1 P q nw n0 (.tuple []) s w i r st K=e3 P q nw n0 r {st with t:=dB i.dst (.tuple []) st.t} K:=by simp[j1]
theorem dM{x:Bool}{s:Nat}{w:Bool}{i:cS}(I:x=w->e3 P q nw n0 (⟨none,i⟩::r) {st with t:=put s (.bool w) st.t} K)(J:x= !w->e3 P q nw n0 r {st with t:=dB i.dst (.tuple []) (put s (.bool !w) st.t)} K):j1 P q nw n0 (.bool x) s w i r st K:=⟨I,J⟩
theorem ID{gs:List bO}:b5 P ob (.seq (.drawn q N gs) c) Q st=e3 P q [] st.n gs st (mL (st.n+N) st.o (qc P ob c Q)):=rfl
theorem IE{gs:List bO}:b5 P ob (.drawn q N gs) Q st=e3 P q [] st.n gs st (mL (st.n+N) st.o (Q .normal)):=rfl
theorem IF{gs:List bO}:b5 P ob (.seq (.drawnW nw N gs) c) Q st=((∀j∈nw,.obj j∉st.o)/\e3 P false nw st.n gs st (mL (st.n+N) (nw.map av.obj++st.o) (qc P ob c Q))):=rfl
theorem IG{gs:List bO}:b5 P ob (.drawnW nw N gs) Q st=((∀j∈nw,.obj j∉st.o)/\e3 P false nw st.n gs st (mL (st.n+N) (nw.map av.obj++st.o) (Q .normal))):=rfl
theorem iL.val{n:Nat}{args:List ae}{d:aW Nat}{r:ae}(U:aD (fun _=>cU) args)(aF:c8 P n args r)(h:K {st with t:=dB d r st.t}):iL P q nw n args st d K:=by
 refine .inr ⟨⟨[],[]⟩,⟨[],[]⟩,r,none,fun k cs U=>by simp[look]at U,fun k cs U=>by simp[look]at U,pF,pF,⟨fun k h=>.inl h,fun k h=>.inl h,fun k h=>h,fun k h=>h,fun k h=>by cases h⟩,mx (fun _ h=>h.elim) _ U,aF,fun _=>⟨rfl,rfl⟩,?_⟩;have:({after st ⟨[],[]⟩ ⟨[],[]⟩ d r with o:=st.o}:aS)={st with t:=dB d r st.t}:=by simp[after,Af]
 rw[this];exact h
theorem b9{n:Nat}{args:List ae}{d:aW Nat}{r:ae}(aF:c8 P n args r)(h:K {st with t:=dB d r st.t})(U:aD (fun _=>cU) args:=by simp):iL P q nw n args st d K:=iL.val U aF h
end
section
variable {k:IntKind} {n:Int} {b:Bool} {s:List aX} {sz:Nat} {tag:qb} {xs:List ae} {key:av} {off f:Nat} {x:ae}
@[simp]theorem SE:dC (.int k n)=true:=rfl
@[simp]theorem Su:dC (.bool b)=true:=rfl
@[simp]theorem SJ:dC (.str s)=true:=rfl
@[simp]theorem SI:dC (.slice sz tag xs)=true:=rfl
@[simp]theorem Ss:dC (.agg xs)=true:=rfl
@[simp]theorem SG:dC (.ptr key off)=true:=rfl
@[simp]theorem SA:dC (.eptr x)=true:=rfl
@[simp]theorem SD{t:Nat}:dC (.iface t x)=true:=rfl
@[simp]theorem QO{t:Nat}:cells (.iface t x)=[.iface t x]:=rfl
@[simp]theorem Sw{a:aW Addr}{n c:Nat}:dC (.cst (.slice a n c))=true:=rfl
@[simp]theorem Sx{s}:dC (.cst (.string s))=true:=rfl
@[simp]theorem SF:dC .nilp=true:=rfl
@[simp]theorem SB:dC (.func f xs)=true:=rfl
@[simp]theorem SC:dC (.gmap key)=true:=rfl
@[simp]theorem SH{n:Nat}:dC (.row sz key n)=true:=rfl
@[simp]theorem QS{n:Nat}:cells (.row sz key n)=[.row sz key n]:=rfl
@[simp]theorem QP:cells (.int k n)=[.int k n]:=rfl
@[simp]theorem QI:cells (.bool b)=[.bool b]:=rfl
@[simp]theorem QU:cells (.str s)=[.str s]:=rfl
@[simp]theorem QT:cells (.slice sz tag xs)=[.slice sz tag xs]:=rfl
@[simp]theorem QG:cells (.agg xs)=xs:=rfl
@[simp]theorem QR:cells (.ptr key off)=[.ptr key off]:=rfl
@[simp]theorem QL:cells (.eptr x)=[.eptr x]:=rfl
@[simp]theorem QQ:cells .nilp=[.nilp]:=rfl
@[simp]theorem QM:cells (.func f xs)=[.func f xs]:=rfl
@[simp]theorem QN:cells (.gmap key)=[.gmap key]:=rfl
end
section
variable {b:List (av×List ae)} {e:List (av×cC)} {agg:Bool} {sz off:Nat} {k:av} {p:ae} {cs xs aV:List ae} {hn:IntKind} {n i:Int} {m j:Nat} {tag:qb} {s:List aX} {AO:Bool} {lo aM:aW ae}
@[simp]theorem R3{cj:Nat}{f:Nat}:ih b e agg sz (.rptr cj k m j f)=pN agg sz cj m j f (look k e):=rfl
@[simp]theorem R2:ih b e agg sz (.ptr k off)=(match look k b with
  |some cs=>if agg then some (fB cs=true/\off+sz<=cs.length,.agg ((cs.drop off).take sz))else(cs[off]?).map fun p=>(fB cs=true,p)
  |none=>none):=rfl
@[simp]theorem R1:ih b e agg sz (.eptr p)=if agg then some (isAgg sz p,p)else some (dC p=true/\cells p=[p],p):=rfl
@[simp]theorem Rb:r9 agg sz (.eptr p)=if agg then some (isAgg sz p,p)else some (dC p=true/\cells p=[p],p):=rfl
@[simp]theorem Q5{o:Nat}:mX off agg sz (.ptr k o)=some (True,.ptr k (o+off)):=rfl
@[simp]theorem Q6{cj f:Nat}:mX off agg sz (.rptr cj k m j f)=some (True,.rptr cj k m j (f+off)):=rfl
@[simp]theorem Q2:mX off agg sz (.eptr (.agg cs))=if agg then some (off+sz<=cs.length,.eptr (.agg ((cs.drop off).take sz)))else(cs[off]?).map fun p=>(dC p=true/\cells p=[p],.eptr p):=rfl
@[simp]theorem Q8:oY off agg sz (.agg cs)=if agg then some (off+sz<=cs.length,.agg ((cs.drop off).take sz))else(cs[off]?).map fun p=>(True,p):=rfl
@[simp]theorem RE{cj:Nat}:qM sz (.slice cj tag xs) (.int hn i)=if cj=sz then some (0<=i/\i<xs.length,.eptr (xs.getD i.toNat .junk))else none:=rfl
@[simp]theorem RD{cj:Nat}:qM sz (.row cj k m) (.int hn i)=if cj=sz then some (0<=i/\i<m,.rptr cj k m i.toNat 0)else none:=rfl
@[simp]theorem R0{cj:Nat}:qQ (.slice cj tag xs)=some (True,.int .i64 xs.length):=rfl
@[simp]theorem RZ{cj:Nat}:qQ (.row cj k m)=some (True,.int .i64 m):=rfl
@[simp]theorem RY{a:aW Addr}{n c:Nat}:qQ (.cst (.slice a n c))=some (True,.int .i64 n):=rfl
@[simp]theorem Sq{s}:tv (.cst (.string s))=some (True,.int .i64 s.size):=rfl
@[simp]theorem Sr:tv (.str s)=some (True,.int .i64 s.length):=rfl
@[simp]theorem Q1:uf j (.tuple aV)=(aV[j]?).map fun p=>(True,p):=rfl
@[simp]theorem Sc:qY (.ptr k off)=some (True,.ptr k off):=rfl
@[simp]theorem Sa:qY (.eptr p)=some (True,.eptr p):=rfl
@[simp]theorem Sb:qY (.func j cs)=some (True,.func j cs):=rfl
@[simp]theorem Sd:vs (.bool AO)=some (True,.bool (!AO)):=rfl
@[simp]theorem Sp:vZ (.str s) (.int hn i)=some (0<=i/\i<s.length,.int .u8 (s.getD i.toNat 0).toNat):=rfl
@[simp]theorem SK:wa (.str s) lo aM=(match kX 0 lo,kX s.length aM with
  |some l,some h=>some (0<=l/\l<=h/\h<=s.length,.str ((s.take h.toNat).drop l.toNat))
  |_,_=>none):=rfl
@[simp]theorem R4{cj:Nat}:vj sz (.slice cj tag xs) lo aM=(if cj=sz then match kX 0 lo,kX xs.length aM with
  |some l,some h=>some (0<=l/\l<=h/\h<=xs.length,.slice sz .no ((xs.take h.toNat).drop l.toNat))
  |_,_=>none else none):=rfl
@[simp]theorem Sn{cj f n' el fL:Nat}:pN agg sz cj m j f (some ⟨n',el,fL,some xs⟩)=(if n'=m/\fL=cj then
   (match xs[j]? with
    |some p=>if agg then some (dC p=true/\f+sz<=(cells p).length,.agg (((cells p).drop f).take sz))else((cells p)[f]?).map fun q=>(dC p=true,q)
    |none=>none)else none):=rfl
end
attribute [simp] Iy IU Iz IB I0 IX IH I1 IY IJ IW IA IC qc GU GS GV G0 G1 Jj Jl Jg Jf Jh
 Jq Jm Jp Jn Jo I3 I2 zH zI hN eB gC bf get put fy kj iB iC bV kX aJ aP wc jA mQ vE vo tU vm
 look dB cH.dst cS.dst lS p9 l6 bR b7 aB aD
 ID IE IF IG I7 I8 I5 I4 I6 Jd I9 Jc Ja Jb zF zG cW jI hA oZ dQ.loadO mL wz ps fB l7 Ji IS IT IM IN IP IQ n3 xu ma qm G2 nz s9 q6 k3 k1 tL vl tJ jH
theorem b8{P:bj}{n:Nat}{args:List ae}{st:aS}{d:aW Nat}{K:aS->Prop}{r:ae}(aF:c8 P n args r)(h:K {st with t:=dB d r st.t})(U:aD (fun _=>cU) args:=by simp):bh P n args st d K:=bh.val U aF h
theorem a6{a b:Prop}(aa:b)(bE:a:=by first|omega|(unfold c1;omega)|(unfold bF;omega)):a/\b:=⟨bE,aa⟩
theorem iJ{p:Prop}(h:cU:=by first|contradiction|omega):p:=h.elim
theorem ij{p:Prop}(h:p:=by(try simp[*]);(repeat' first|with_reducible refine a6 ?_|with_reducible refine b8 (by assumption) ?_|with_reducible refine b9 (by assumption) ?_|simp[*]);(all_goals first|done|(simp[dy,bq,bA,bp, *];done))):p:=h
attribute [simp] Jk Je IK IL rS va eK eO rY rX tT qi ql qk r8
end
section
open Go
inductive cL where
 |mk (kind n:Int) (name:List aX) (args:List cL)
def cL.kind:cL->Int| .mk k _ _ _=>k
def cL.num:cL->Int| .mk _ n _ _=>n
def cL.name:cL->List aX| .mk _ _ s _=>s
def cL.args:cL->List cL| .mk _ _ _ a=>a
mutual
def enc:cL->ae
 | .mk k n s a=>.agg [.int .i64 k,.int .i64 n,.str s,.slice 4 .no (kF a)]
def kF:List cL->List ae
 |[]=>[]
 |x::xs=>enc x::kF xs
end
theorem tZ:∀l,kF l=l.map enc
 |[]=>rfl
 |x::xs=>by simp[kF,tZ xs]
theorem ua(t:cL):enc t= .agg [.int .i64 t.kind,.int .i64 t.num,.str t.name,.slice 4 .no (t.args.map enc)]:=by cases t;simp[enc,tZ,cL.kind,cL.num,cL.name,cL.args]
mutual
theorem Ea(S:av->Prop):∀t:cL,aB S (enc t)
 | .mk k n s a=>by simp[enc,aB,aD,yH S a]
theorem yH(S:av->Prop):∀l:List cL,aD S (kF l)
 |[]=>by simp[kF,aD]
 |x::xs=>by simp[kF,aD,Ea S x,yH S xs]
end
mutual
theorem F4:∀t:cL,b7 (enc t)=enc t
 | .mk k n s a=>by simp[enc,b7,bR,zO a]
theorem zO:∀l:List cL,bR (kF l)=kF l
 |[]=>by simp[kF,bR]
 |x::xs=>by simp[kF,bR,F4 x,zO xs]
end
@[simp]theorem RV(S:av->Prop)(t:cL):aB S (enc t)=True:=eq_true (Ea S t)
@[simp]theorem RR(S:av->Prop)(l:List cL):aD S (l.map enc)=True:=by rw[<-tZ];exact eq_true (yH S l)
theorem Pp(l:List cL):bR (l.map enc)=l.map enc:=by rw[<-tZ];exact zO l
attribute [simp] F4 Pp
@[simp]theorem Sz(t:cL):dC (enc t)=true:=by rw[ua];rfl
@[simp]theorem QK(t:cL):cells (enc t)=[.int .i64 t.kind,.int .i64 t.num,.str t.name,.slice 4 .no (t.args.map enc)]:=by rw[ua];rfl
@[simp]theorem Qf(t:cL):ae.agg [.int .i64 t.kind,.int .i64 t.num,.str t.name,.slice 4 .no (t.args.map enc)]=enc t:=(ua t).symm
@[simp]theorem RJ(t:cL):Pv.isAgg 4 (enc t):=by rw[ua];exact⟨_,rfl,rfl⟩
inductive T where
 |nil
 |var (n:Int)
 |sym (s:List aX)
 |num (n:Int)
 |pair (a b:T)
 deriving DecidableEq,Inhabited
def T.tm:T->cL
 | .nil=>.mk 0 0 [] []
 | .var n=>.mk 1 n [] []
 | .sym s=>.mk 2 0 s []
 | .num n=>.mk 3 n [] []
 | .pair a b=>.mk 4 0 [] [a.tm,b.tm]
def T.e:T->ae
 | .nil=>.agg [.int .i64 0,.int .i64 0,.str [],.slice 4 .no []]
 | .var n=>.agg [.int .i64 1,.int .i64 n,.str [],.slice 4 .no []]
 | .sym s=>.agg [.int .i64 2,.int .i64 0,.str s,.slice 4 .no []]
 | .num n=>.agg [.int .i64 3,.int .i64 n,.str [],.slice 4 .no []]
 | .pair a b=>.agg [.int .i64 4,.int .i64 0,.str [],.slice 4 .no [a.e,b.e]]
theorem oV:∀t:T,enc t.tm=t.e
 | .nil| .var _| .sym _| .num _=>rfl
 | .pair a b=>by simp[T.tm,enc,kF,T.e,oV a,oV b]
def T.kind:T->Int
 | .nil=>0| .var _=>1| .sym _=>2| .num _=>3| .pair _ _=>4
def T.int:T->Int
 | .var n=>n| .num n=>n|_=>0
def T.name:T->List aX
 | .sym s=>s|_=>[]
def T.args:T->List T
 | .pair a b=>[a,b]|_=>[]
theorem T.e_eq(t:T):t.e= .agg [.int .i64 t.kind,.int .i64 t.int,.str t.name,.slice 4 .no (t.args.map T.e)]:=by cases t<;>rfl
@[simp]theorem Qe(t:T):ae.agg [.int .i64 t.kind,.int .i64 t.int,.str t.name,.slice 4 .no (t.args.map T.e)]=t.e:=(T.e_eq t).symm
@[simp]theorem Qg:ae.agg [.int .i64 0,.int .i64 0,.str [],.slice 4 .no []]=T.nil.e:=rfl
@[simp]theorem Qk(n:Int):ae.agg [.int .i64 1,.int .i64 n,.str [],.slice 4 .no []]=(T.var n).e:=rfl
@[simp]theorem Qj(s:List aX):ae.agg [.int .i64 2,.int .i64 0,.str s,.slice 4 .no []]=(T.sym s).e:=rfl
@[simp]theorem Qh(n:Int):ae.agg [.int .i64 3,.int .i64 n,.str [],.slice 4 .no []]=(T.num n).e:=rfl
@[simp]theorem Qi(a b:T):ae.agg [.int .i64 4,.int .i64 0,.str [],.slice 4 .no [a.e,b.e]]=(T.pair a b).e:=rfl
@[simp]theorem MY:(T.nil).kind=0:=rfl
@[simp]theorem ME:(T.nil).int=0:=rfl
@[simp]theorem Nt:(T.nil).name=[]:=rfl
@[simp]theorem Hf:(T.nil).args=[]:=rfl
@[simp]theorem M2(n:Int):(T.var n).kind=1:=rfl
@[simp]theorem MI(n:Int):(T.var n).int=n:=rfl
@[simp]theorem Nx(n:Int):(T.var n).name=[]:=rfl
@[simp]theorem Hj(n:Int):(T.var n).args=[]:=rfl
@[simp]theorem M1(s:List aX):(T.sym s).kind=2:=rfl
@[simp]theorem MH(s:List aX):(T.sym s).int=0:=rfl
@[simp]theorem Nw(s:List aX):(T.sym s).name=s:=rfl
@[simp]theorem Hi(s:List aX):(T.sym s).args=[]:=rfl
@[simp]theorem MZ(n:Int):(T.num n).kind=3:=rfl
@[simp]theorem MF(n:Int):(T.num n).int=n:=rfl
@[simp]theorem Nu(n:Int):(T.num n).name=[]:=rfl
@[simp]theorem Hg(n:Int):(T.num n).args=[]:=rfl
@[simp]theorem M0(a b:T):(T.pair a b).kind=4:=rfl
@[simp]theorem MG(a b:T):(T.pair a b).int=0:=rfl
@[simp]theorem Nv(a b:T):(T.pair a b).name=[]:=rfl
@[simp]theorem Hh(a b:T):(T.pair a b).args=[a,b]:=rfl
@[simp]theorem RU(S:av->Prop)(t:T):aB S t.e=True:=by rw[<-oV];simp
@[simp]theorem SQ(t:T):b7 t.e=t.e:=by rw[<-oV];simp
theorem D9(S:av->Prop):∀l:List T,aD S (l.map T.e)
 |[]=>by simp[aD]
 |x::xs=>by simp[aD,D9 S xs]
@[simp]theorem RQ(S:av->Prop)(l:List T):aD S (l.map T.e)=True:=eq_true (D9 S l)
@[simp]theorem Po:∀l:List T,bR (l.map T.e)=l.map T.e
 |[]=>rfl
 |x::xs=>by simp[bR,Po xs]
@[simp]theorem Sy(t:T):dC t.e=true:=by rw[T.e_eq];rfl
@[simp]theorem HJ(t:T):cells t.e=[.int .i64 t.kind,.int .i64 t.int,.str t.name,.slice 4 .no (t.args.map T.e)]:=by rw[T.e_eq];rfl
@[simp]theorem RI(t:T):Pv.isAgg 4 t.e:=by rw[T.e_eq];exact⟨_,rfl,rfl⟩
def T.size:T->Nat
 | .pair a b=>1+a.size+b.size
 |_=>1
theorem T.size_pos(t:T):1<=t.size:=by cases t<;>simp[T.size]<;>omega
def low(b:aX):Bool:=decide (97<=b.toNat/\b.toNat<=122)
def lH(b:aX):Bool:=low b||decide (48<=b.toNat/\b.toNat<=57)||b.toNat==45
def ha(s:List aX):Bool:=decide (1<=s.length/\s.length<=12)&&low (s.getD 0 0)&&(s.drop 1).all lH
def T.ok:T->Bool
 | .nil=>true
 | .var n=>decide (0<=n/\n<=100000)
 | .sym s=>ha s
 | .num n=>decide (-1000000000<=n/\n<=1000000000)
 | .pair a b=>a.ok&&b.ok
def nt(k n:Int)(s:List aX):Bool:=if k=0 then n==0&&s==[]else if k=1 then decide (0<=n/\n<=100000)&&s==[]else if k=2 then n==0&&ha s else if k=3 then decide (-1000000000<=n/\n<=1000000000)&&s==[]else false
def dA:cL->Int->Int
 | .mk k n s [a,b],room=>if room<1\/k≠4\/n≠0\/s≠[]then-1 else if dA a (room-1)<0 then-1 else if dA b (room-1-dA a (room-1))<0 then-1 else 1+dA a (room-1)+dA b (room-1-dA a (room-1))
 | .mk k n s args,room=>if room<1\/k=4\/args≠[]\/nt k n s=false then-1 else 1
theorem yY(k n:Int)(s:List aX)(args:List cL)(room:Int):dA (.mk k n s args) room=if room<1 then-1 else if k≠4 then(if args≠[]then-1 else if nt k n s then 1 else-1)else if n≠0\/s≠[]then-1 else match args with
  |[a,b]=>if dA a (room-1)<0 then-1 else if dA b (room-1-dA a (room-1))<0 then-1 else 1+dA a (room-1)+dA b (room-1-dA a (room-1))
  |_=> -1:=by
 match args with
 |[]=>simp only[dA];by_cases I:room<1<;>by_cases J:k=4<;>by_cases aj:nt k n s=true<;>simp[I,J,aj]
 |[a]=>simp[dA]
 |[a,b]=>simp only[dA];by_cases I:room<1<;>by_cases J:k=4<;>simp[I,J]
 |a::b::c::r=>simp[dA]
theorem vr:∀(t:T) (room:Int),dA t.tm room=if t.ok=true/\(t.size:Int)<=room then(t.size:Int)else-1
 | .nil,room=>by simp[T.tm,dA,T.ok,T.size,nt];split<;>rename_i h<;>simp_all<;>omega
 | .var n,room=>by simp[T.tm,dA,T.ok,T.size,nt];split<;>split<;>simp_all<;>omega
 | .sym s,room=>by simp[T.tm,dA,T.ok,T.size,nt];by_cases I:room<1<;>by_cases J:ha s=true<;>simp[I,J]<;>omega
 | .num n,room=>by simp[T.tm,dA,T.ok,T.size,nt];split<;>split<;>simp_all<;>omega
 | .pair a b,room=>by
  have bE:=a.size_pos;have aa:=b.size_pos;simp only[T.tm,dA,vr a,vr b,T.ok,T.size,bt];by_cases I:room<1
  ·simp[I];omega
  ·by_cases J:a.ok=true/\(a.size:Int)<=room-1
   ·rw[cX J];by_cases aj:b.ok=true/\(b.size:Int)<=room-1-a.size
    ·rw[cX aj];simp[I,J.1,aj.1];split<;>omega
    ·rw[bT aj];simp[I,J.1];intro iO;have:=aj;simp[iO]at this;omega
   ·rw[bT J];simp[I];intro K4;have:=J;simp[K4]at this;omega
theorem s0:∀(t:cL) (room:Int),dA t room= -1\/1<=dA t room
 | .mk k n s [a,b],room=>by
  simp only[dA];split
  ·exact .inl rfl
  ·split
   ·exact .inl rfl
   ·split
    ·exact .inl rfl
    ·right;omega
 | .mk k n s [],room=>by simp only[dA];split<;>simp
 | .mk k n s [a],room=>by simp[dA]
 | .mk k n s (a::b::c::r),room=>by simp[dA]
theorem y0:∀(t:cL) (room:Int),0<dA t room->∃x:T,x.tm=t
 | .mk k n s [a,b],room,h=>by
  simp only[dA]at h;split at h
  ·omega
  ·rename_i I;simp only[not_or,Int.not_lt,ne_eq,S8]at I;obtain⟨I,rfl,rfl,rfl⟩:=I;split at h
   ·omega
   ·split at h
    ·omega
    ·obtain⟨x,rfl⟩:=y0 a (room-1) (by rcases s0 a (room-1)with h|h<;>omega);obtain⟨y,rfl⟩:=y0 b (room-1-dA x.tm (room-1)) (by rcases s0 b (room-1-dA x.tm (room-1))with h|h<;>omega);exact⟨.pair x y,rfl⟩
 | .mk k n s [],room,h=>by
  simp only[dA]at h;split at h
  ·omega
  ·rename_i I;simp only[not_or,ne_eq,not_true_eq_false,not_false_eq_true,true_and,Bool.not_eq_false]at I;obtain⟨_,_,I⟩:=I;unfold nt at I;split at I
   ·rename_i e;subst e;simp at I;obtain⟨rfl,rfl⟩:=I;exact⟨.nil,rfl⟩
   ·split at I
    ·rename_i e;subst e;simp at I;obtain⟨_,rfl⟩:=I;exact⟨.var n,rfl⟩
    ·split at I
     ·rename_i e;subst e;simp at I;obtain⟨rfl,_⟩:=I;exact⟨.sym s,rfl⟩
     ·split at I
      ·rename_i e;subst e;simp at I;obtain⟨_,rfl⟩:=I;exact⟨.num n,rfl⟩
      ·cases I
 | .mk k n s [a],room,h=>by simp[dA]at h
 | .mk k n s (a::b::c::r),room,h=>by simp[dA]at h
theorem yZ:∀(t:cL) (room:Int),dA t room<=room\/dA t room= -1
 | .mk k n s [a,b],room=>by
  simp only[dA];split
  ·exact .inr rfl
  ·split
   ·exact .inr rfl
   ·split
    ·exact .inr rfl
    ·rcases yZ b (room-1-dA a (room-1))with h|h<;>omega
 | .mk k n s [],room=>by simp only[dA];split<;>simp;rename_i h;omega
 | .mk k n s [a],room=>by simp[dA]
 | .mk k n s (a::b::c::r),room=>by simp[dA]
mutual
def cL.sz:cL->Nat
 | .mk _ _ _ a=>1+cL.szL a
def cL.szL:List cL->Nat
 |[]=>0
 |x::xs=>x.sz+cL.szL xs
end
def T.fit(t:T):Bool:=t.ok&&decide (t.size<=5000)
def cL.fits(t:cL):Bool:=decide (0<dA t 5000)
theorem cL.fits_T(t:T):t.tm.fits=t.fit:=by
 unfold cL.fits T.fit;rw[vr];have:=t.size_pos;by_cases I:t.ok=true<;>by_cases J:t.size<=5000
 ·rw[cX ⟨I,Ω⟩];simp[I,J];omega
 ·rw[bT Ω];simp[J]
 ·rw[bT (by simp[I])];simp[I]
 ·rw[bT (by simp[I])];simp[I]
theorem cL.fits_ex{t:cL}(h:t.fits=true):∃x:T,x.tm=t/\x.fit=true:=by obtain⟨x,rfl⟩:=y0 t 5000 (by simpa[cL.fits]using h);exact⟨x,rfl,by rw[<-cL.fits_T];exact h⟩
structure aN where
 v:Int
 t:T
 deriving DecidableEq,Inhabited
def aN.e(b:aN):ae:= .agg [.int .i64 b.v,.int .i64 b.t.kind,.int .i64 b.t.int,.str b.t.name,.slice 4 .no (b.t.args.map T.e)]
@[simp]theorem aN.eta(b:aN):aN.mk b.v b.t=b:=rfl
@[simp]theorem AB(v:Int)(t:T):ae.agg [.int .i64 v,.int .i64 t.kind,.int .i64 t.int,.str t.name,.slice 4 .no (t.args.map T.e)]=(aN.mk v t).e:=rfl
@[simp]theorem P9(v:Int):ae.agg [.int .i64 v,.int .i64 0,.int .i64 0,.str [],.slice 4 .no []]=(aN.mk v .nil).e:=rfl
@[simp]theorem Qd(v n:Int):ae.agg [.int .i64 v,.int .i64 1,.int .i64 n,.str [],.slice 4 .no []]=(aN.mk v (.var n)).e:=rfl
@[simp]theorem Qc(v:Int)(s:List aX):ae.agg [.int .i64 v,.int .i64 2,.int .i64 0,.str s,.slice 4 .no []]=(aN.mk v (.sym s)).e:=rfl
@[simp]theorem Qa(v n:Int):ae.agg [.int .i64 v,.int .i64 3,.int .i64 n,.str [],.slice 4 .no []]=(aN.mk v (.num n)).e:=rfl
@[simp]theorem Qb(v:Int)(a b:T):ae.agg [.int .i64 v,.int .i64 4,.int .i64 0,.str [],.slice 4 .no [a.e,b.e]]=(aN.mk v (.pair a b)).e:=rfl
@[simp]theorem RS(S:av->Prop)(b:aN):aB S b.e=True:=by simp[aN.e,-AB]
@[simp]theorem SN(b:aN):b7 b.e=b.e:=by simp[aN.e,-AB]
theorem D7(S:av->Prop):∀l:List aN,aD S (l.map aN.e)
 |[]=>by simp[aD]
 |x::xs=>by simp[aD,D7 S xs]
@[simp]theorem RO(S:av->Prop)(l:List aN):aD S (l.map aN.e)=True:=eq_true (D7 S l)
@[simp]theorem Pm:∀l:List aN,bR (l.map aN.e)=l.map aN.e
 |[]=>rfl
 |x::xs=>by simp[bR,Pm xs]
@[simp]theorem St(b:aN):dC b.e=true:=rfl
@[simp]theorem QH(b:aN):cells b.e=[.int .i64 b.v,.int .i64 b.t.kind,.int .i64 b.t.int,.str b.t.name,.slice 4 .no (b.t.args.map T.e)]:=rfl
@[simp]theorem RG(b:aN):Pv.isAgg 5 b.e:=⟨_,rfl,rfl⟩
@[simp]theorem Q9(off:Nat)(fi:Bool)(sz:Nat)(b:aN):oY off fi sz b.e=if fi then some (off+sz<=5,.agg (([.int .i64 b.v,.int .i64 b.t.kind,.int .i64 b.t.int,.str b.t.name,.slice 4 .no (b.t.args.map T.e)].drop off).take sz))else(([.int .i64 b.v,.int .i64 b.t.kind,.int .i64 b.t.int,.str b.t.name,.slice 4 .no (b.t.args.map T.e)]:List ae)[off]?).map fun p=>(True,p):=rfl
@[simp]theorem Q3(off:Nat)(fi:Bool)(sz:Nat)(b:aN):mX off fi sz (.eptr b.e)=if fi then some (off+sz<=5,.eptr (.agg (([.int .i64 b.v,.int .i64 b.t.kind,.int .i64 b.t.int,.str b.t.name,.slice 4 .no (b.t.args.map T.e)].drop off).take sz)))else(([.int .i64 b.v,.int .i64 b.t.kind,.int .i64 b.t.int,.str b.t.name,.slice 4 .no (b.t.args.map T.e)]:List ae)[off]?).map fun p=>(dC p=true/\cells p=[p],.eptr p):=rfl
def T.occ(v:Int):T->Bool
 | .var n=>n==v
 | .pair a b=>a.occ v||b.occ v
 |_=>false
def ny(a b:Int):Int:=if a<b then-1 else if b<a then 1 else 0
def q3(a b:List aX):Int:=if a=b then 0 else if Op.bytesLess a b then-1 else 1
def jx:T->T->Int
 | .pair a b,.pair c d=>if jx a c=0 then jx b d else jx a c
 |x,y=>if x.kind≠y.kind then ny x.kind y.kind else if x.int≠y.int then ny x.int y.int else q3 x.name y.name
structure ef where
 v:Int
 t:cL
def ef.e(b:ef):ae:= .agg [.int .i64 b.v,.int .i64 b.t.kind,.int .i64 b.t.num,.str b.t.name,.slice 4 .no (b.t.args.map enc)]
def aN.b(b:aN):ef:=⟨b.v,b.t.tm⟩
theorem aN.b_e(b:aN):b.b.e=b.e:=by obtain⟨v,t⟩:=b;cases t<;>simp only[aN.b,ef.e,aN.e,T.tm,cL.kind,cL.num,cL.name,cL.args,oV,MY,M2,M1,MZ,M0,ME,MI,MH,MF,MG,Nt,Nx,Nw,Nu,Nv,Hf,Hj,Hi,Hg,Hh,eU,List.map_nil]
@[simp]theorem ef.eta(b:ef):ef.mk b.v b.t=b:=rfl
@[simp]theorem AD(v:Int)(t:cL):ae.agg [.int .i64 v,.int .i64 t.kind,.int .i64 t.num,.str t.name,.slice 4 .no (t.args.map enc)]=(ef.mk v t).e:=rfl
@[simp]theorem RT(S:av->Prop)(b:ef):aB S b.e=True:=by simp[ef.e,-AD]
@[simp]theorem SO(b:ef):b7 b.e=b.e:=by simp[ef.e,-AD]
theorem D8(S:av->Prop):∀l:List ef,aD S (l.map ef.e)
 |[]=>by simp[aD]
 |x::xs=>by simp[aD,D8 S xs]
@[simp]theorem RP(S:av->Prop)(l:List ef):aD S (l.map ef.e)=True:=eq_true (D8 S l)
@[simp]theorem Pn:∀l:List ef,bR (l.map ef.e)=l.map ef.e
 |[]=>rfl
 |x::xs=>by simp[bR,Pn xs]
@[simp]theorem Sv(b:ef):dC b.e=true:=rfl
@[simp]theorem QJ(b:ef):cells b.e=[.int .i64 b.v,.int .i64 b.t.kind,.int .i64 b.t.num,.str b.t.name,.slice 4 .no (b.t.args.map enc)]:=rfl
@[simp]theorem RH(b:ef):Pv.isAgg 5 b.e:=⟨_,rfl,rfl⟩
@[simp]theorem Ra(off:Nat)(fi:Bool)(sz:Nat)(b:ef):oY off fi sz b.e=if fi then some (off+sz<=5,.agg (([.int .i64 b.v,.int .i64 b.t.kind,.int .i64 b.t.num,.str b.t.name,.slice 4 .no (b.t.args.map enc)].drop off).take sz))else(([.int .i64 b.v,.int .i64 b.t.kind,.int .i64 b.t.num,.str b.t.name,.slice 4 .no (b.t.args.map enc)]:List ae)[off]?).map fun p=>(True,p):=rfl
@[simp]theorem Q4(off:Nat)(fi:Bool)(sz:Nat)(b:ef):mX off fi sz (.eptr b.e)=if fi then some (off+sz<=5,.eptr (.agg (([.int .i64 b.v,.int .i64 b.t.kind,.int .i64 b.t.num,.str b.t.name,.slice 4 .no (b.t.args.map enc)].drop off).take sz)))else(([.int .i64 b.v,.int .i64 b.t.kind,.int .i64 b.t.num,.str b.t.name,.slice 4 .no (b.t.args.map enc)]:List ae)[off]?).map fun p=>(dC p=true/\cells p=[p],.eptr p):=rfl
def Ew(l:List ef)(i:Nat):Prop:= ∀b,l[i]? =some b->(0<=b.v/\b.v<=100000)/\(∀c,0<i->l[i-1]? =some c->c.v<b.v)/\b.t.fits=true
def wD(l:List ef):Prop:=l.length<=400/\∀i,i<l.length->Ew l i
theorem vA:∀a b:T,jx a b=0↔a=b
 | .pair a b,.pair c d=>by
  simp only[jx,T.pair.injEq];split
  ·rename_i h;rw[vA b d,<-vA a c];simp[h]
  ·rename_i h;simp[h,<-vA a c]
 | .nil,y=>by cases y<;>simp[jx,ny,q3]
 | .var n,y=>by cases y<;>simp[jx,ny,q3]<;>omega
 | .sym s,y=>by cases y<;>simp[jx,ny,q3];rename_i ah;by_cases h:s=ah<;>simp[h];by_cases J:Op.bytesLess s ah=true<;>simp[J]
 | .num n,y=>by cases y<;>simp[jx,ny,q3]<;>omega
 | .pair a b,.nil| .pair a b,.var _| .pair a b,.sym _| .pair a b,.num _=>by simp[jx,ny]
def T.sub(f:Int->aW T):T->T
 | .var n=>match f n with|some x=>x|none=>.var n
 | .pair a b=>.pair (a.sub f) (b.sub f)
 |t=>t
def hq(f:Int->Int):T->Int
 | .var n=>if 5001<f n then 5001 else f n
 | .pair a b=>if 5000<hq f a then hq f a else if 5001<1+hq f a+hq f b then 5001 else 1+hq f a+hq f b
 |_=>1
theorem v7(f:Int->Int)(aF:∀v,-1<=f v):∀t,-1<=hq f t/\hq f t<=5001
 | .var n=>by have:=aF n;simp only[hq];split<;>omega
 | .pair a b=>by have:=v7 f aF a;have:=v7 f aF b;simp only[hq];split<;>(try split)<;>omega
 | .nil| .sym _| .num _=>by simp[hq]
def eJ(l:List aN)(v:Int):aW T:=(l.find? fun b=>b.v==v).map (·.t)
end
end Go.Pv
namespace Go.Proofs.YtlnndmgfngfeiaaGreatDoor
section
open Go Go.Pv
def MK(s:List aX)(k:Nat)(st:aS):Prop:=∃i:Nat,1<=i/\i<=s.length/\k=s.length-i/\((s.drop 1).all lH=(s.drop i).all lH)/\st=⟨[(0,.str s),(3,.int .i64 i)],[],[],0,[]⟩
theorem Gn(s:List aX):c8 aI 170 [.str s] (.bool (ha s)):=by
 refine c8.mk mixed fs JA NP Ψ (by simp[aB]) fun aa=>?_;unfold A9;simp;(with_reducible repeat' first|((first|refine dz (fun h=>?_) fun h=>?_|refine dN (fun h=>?_) fun h=>?_|refine dM (fun h=>?_) fun h=>?_)<;>try simp at h)|refine a6 ?_|simp);case refine_1.refine_1.refine_1.refine_2=>
  have pg:ha s=(s.drop 1).all lH:=by simp[ha,low];omega
  rw[pg];refine nZ (MK s) (s.length-1) _ ⟨Ψ,by simp[iG],by simp[iH],Ψ⟩ ⟨1,Ω,Ω,rfl,rfl,rfl⟩ ?_;rintro k st ⟨i,uI,Rq,U,j6,rfl⟩ jL cb;rw[j6];simp;refine dz (fun bS=>?_) (fun nj=>?_)
  ·simp at bS;have aY:s.drop i=s[i]?.getD 0::s.drop (i+1):=by rw[List.drop_eq_getElem_cons bS];simp[bS]
   simp;(with_reducible repeat' first|((first|refine dz (fun h=>?_) fun h=>?_|refine dN (fun h=>?_) fun h=>?_|refine dM (fun h=>?_) fun h=>?_)<;>try simp at h)|refine a6 ?_|simp);all_goals first
    |(simp[dy,vG,bq,bA,bp,aY,lH,low];omega)
    |(simp only[tI];refine⟨s.length-(i+1),_,Ω,⟨Ψ,by simp[iG],by simp[iH],Ψ⟩,i+1,Ω,Ω,rfl,?_,rfl⟩;rw[j6,aY];simp[lH,low];omega)
  ·simp at nj;have:s.drop i=[]:=by simp;omega
   simp[dy,vG,bq,bA,bp,this]
 all_goals simp[dy,vG,bq,bA,bp,ha,low]
 all_goals omega
theorem Gv(m:Nat):∀(t:cL),t.sz<=m->∀(room:Int),0<=room/\room<=10000->c8 aI 150 [enc t,.int .i64 room] (.int .i64 (dA t room)):=by
 induction m with
 |zero=>intro t az;cases t;simp[cL.sz]at az
 |succ m bz=>
 rintro⟨k,n,s,args⟩ az room iT;refine dS fs JL N0 fun bn=>?_;unfold Bk;simp[cL.kind,cL.num,cL.name,cL.args];(with_reducible repeat' first|((first|refine dz (fun h=>?_) fun h=>?_|refine dN (fun h=>?_) fun h=>?_|refine dM (fun h=>?_) fun h=>?_)<;>try simp at h)|refine a6 ?_|simp);all_goals try refine bh.val Ψ (Gn _) ?_
 all_goals try simp
 (with_reducible repeat' first|((first|refine dz (fun h=>?_) fun h=>?_|refine dN (fun h=>?_) fun h=>?_|refine dM (fun h=>?_) fun h=>?_)<;>try simp at h)|refine a6 ?_|simp);all_goals try simp[dy,vK,bq,bA,bp]
 case succ.refine_2.refine_2.refine_1.refine_1.refine_2=>
  rename_i ck I J aj;match args,h with
  |[a,b],_=>
  simp[cL.sz,cL.szL]at az;subst I J aj;simp;(with_reducible repeat' first|((first|refine dz (fun h=>?_) fun h=>?_|refine dN (fun h=>?_) fun h=>?_|refine dM (fun h=>?_) fun h=>?_)<;>try simp at h)|refine a6 ?_|simp);refine bh.val Ψ (bz a Ω (room-1) Ω) ?_;simp;have bE:=yZ a (room-1);have nd:=s0 a (room-1);(with_reducible repeat' first|((first|refine dz (fun h=>?_) fun h=>?_|refine dN (fun h=>?_) fun h=>?_|refine dM (fun h=>?_) fun h=>?_)<;>try simp at h)|refine a6 ?_|simp)
  ·simp[dy,vK,bq,bA,bp];rw[yY];simp;omega
  ·refine bh.val Ψ (bz b Ω (room-1-dA a (room-1)) Ω) ?_;simp;have aa:=yZ b (room-1-dA a (room-1));have ep:=s0 b (room-1-dA a (room-1));(with_reducible repeat' first|((first|refine dz (fun h=>?_) fun h=>?_|refine dN (fun h=>?_) fun h=>?_|refine dM (fun h=>?_) fun h=>?_)<;>try simp at h)|refine a6 ?_|simp);all_goals simp[dy,vK,bq,bA,bp]
   all_goals rw[yY];simp;omega
 all_goals rw[yY]
 all_goals simp_all[nt]
 all_goals first|omega|(split<;>simp at h⊢)
theorem z1(t:cL):c8 aI 77 [enc t] (.bool t.fits):=by refine dS fs JE NT fun bn=>?_;unfold Bd;simp;refine bh.val Ψ (Gv t.sz t (dY _) 5000 Ω) ?_;simp;simp[dy,E5,bq,bA,bp];simp[cL.fits]
theorem z6(t:T):c8 aI 77 [t.e] (.bool t.fit):=by have:=z1 t.tm;rwa[oV,cL.fits_T]at this
theorem wj(a b:T):c8 aI 206 [a.e,b.e] (T.pair a b).e:=by refine dS fs JO N3 fun bn=>?_;unfold Bn;simp;(with_reducible repeat' first|((first|refine dz (fun h=>?_) fun h=>?_|refine dN (fun h=>?_) fun h=>?_|refine dM (fun h=>?_) fun h=>?_)<;>try simp at h)|refine a6 ?_|simp);all_goals try simp[dy,Fb,bq,bA,bp]
theorem Gs(a b:T):c8 aI 141 [a.e,b.e] (T.pair a b).e:=by refine dS fs Ka Ou fun bn=>?_;unfold BJ;simp;(with_reducible repeat' first|((first|refine dz (fun h=>?_) fun h=>?_|refine dN (fun h=>?_) fun h=>?_|refine dM (fun h=>?_) fun h=>?_)<;>try simp at h)|refine a6 ?_|simp);all_goals try simp[dy,Ft,bq,bA,bp]
theorem z7(t:T):c8 aI 75 [t.e] t.e:=by
 induction t with
 |pair a b gY gZ=>refine dS fs Co EI fun bn=>?_;unfold wQ;exact ij
 |_=>refine dS fs Co EI fun bn=>?_;unfold wQ;exact ij
theorem rB(a b:Int):c8 aI 250 [.int .i64 a,.int .i64 b] (.int .i64 (ny a b)):=by
 refine dS fs JN N2 fun bn=>?_;unfold Bm;simp;((with_reducible repeat' first|refine a6 ?_|simp|((first|apply dz|apply dN|apply dM)<;>intro h<;>try simp at h))<;>(try exact iJ));all_goals simp[dy,Fa,bq,bA,bp]
 all_goals simp[ny]
 all_goals omega
theorem Gx(a:T):∀b:T,c8 aI 204 [a.e,b.e] (.int .i64 (jx a b)):=by
 induction a with
 |pair bk a2 u5 u6=>
  intro b;cases b with
  |pair bJ bQ=>
   refine dS fs xk y8 fun bn=>?_;unfold tQ;simp;((with_reducible repeat' first|refine a6 ?_|refine b8 (u5 _) ?_|refine b9 (u5 _) ?_|refine b8 (u6 _) ?_|refine b9 (u6 _) ?_|refine b8 (rB _ _) ?_|refine b9 (rB _ _) ?_|simp|((first|apply dz|apply dN|apply dM)<;>intro h<;>try simp at h))<;>(try exact iJ));all_goals simp[dy,vL,bq,bA,bp]
   all_goals simp_all[jx]
  |_=>
   refine dS fs xk y8 fun bn=>?_;unfold tQ;simp;(with_reducible repeat' first|refine a6 ?_|refine b8 (rB _ _) ?_|refine b9 (rB _ _) ?_|simp);all_goals simp[dy,vL,bq,bA,bp]
   all_goals simp_all[jx]
 |_=>
  intro b;cases b<;>
  (refine dS fs xk y8 fun bn=>?_;unfold tQ
   simp
   (with_reducible repeat' first|((first|apply dz|apply dN|apply dM)<;>intro h<;>try simp at h)|refine a6 ?_|refine b8 (rB _ _) ?_|refine b9 (rB _ _) ?_|simp)
   all_goals simp[dy,vL,bq,bA,bp]
   all_goals simp_all[jx,q3])
theorem rA(a b:T):c8 aI 151 [a.e,b.e] (.bool (decide (a=b))):=by
 refine dS fs JG NV fun bn=>?_;unfold Bf;simp;(with_reducible repeat' first|refine a6 ?_|refine b8 (Gx _ _) ?_|refine b9 (Gx _ _) ?_|simp);all_goals simp[dy,E6,bq,bA,bp]
 have:=vA a b;by_cases h:jx a b=0<;>simp_all
open Classical in
def MO(l:List ef)(k:Nat)(st:aS):Prop:=∃i:Nat,i<=l.length/\k=l.length-i/\(∀j,j<i->Ew l j)/\st=⟨[(0,.slice 5 .no (l.map ef.e)),(8,.slice 5 .no (l.map ef.e)),(9,.int .i64 l.length),(10,.int .i64 i)],[],[],0,[]⟩
open Classical in
theorem PN(l:List ef):c8 aI 78 [.slice 5 .no (l.map ef.e)] (.bool (decide (wD l))):=by
 refine dS fs JF NU fun bn=>?_;unfold Be;simp;(with_reducible repeat' first|((first|apply dz|apply dN|apply dM)<;>intro h<;>try simp at h)|refine a6 ?_|simp)
 ·simp[dy,vH,bq,bA,bp];intro b3;have:=b3.1;omega
 ·refine nZ (MO l) l.length _ ⟨Ψ,by simp[iG],by simp[iH],Ψ⟩ ⟨0,Ω,Ω,Ψ,rfl⟩ ?_;rintro k st ⟨i,aM,U,j6,rfl⟩ jL cb;simp;refine dz (fun bS=>?_) (fun nj=>?_)
  ·simp at bS;obtain⟨b,aa⟩:∃b,l[i]? =some b:=⟨_,eo bS⟩;obtain⟨c,al⟩:∃c,l[i-1]? =some c:=⟨_,eo Ω⟩;clear jL cb;simp[aa,al];((with_reducible repeat' first|refine a6 ?_|refine b8 (z1 _) ?_|refine b9 (z1 _) ?_|simp[al]|((first|apply dz|apply dN|apply dM)<;>intro h<;>try simp at h))<;>(try exact iJ));all_goals first
    |(simp[dy,vH,bq,bA,bp];intro b3;have I:=b3.2 i bS b aa;have J:=I.2.1 c;have aj:=I.2.2;first|omega|(have:=J Ω al;omega)|(rw[aj]at h;cases h)|simp_all)
    |(simp only[tI];refine⟨l.length-(i+1),_,Ω,⟨Ψ,by simp[iG],by simp[iH],Ψ⟩,i+1,Ω,rfl,fun j aC=>?_,rfl⟩
      by_cases e:j=i
      ·subst e;intro dL ep;rw[aa]at ep;cases ep;refine⟨Ω,fun fe ck jM=>?_,by assumption⟩;rw[al]at jM;cases jM;omega
      ·exact j6 j Ω)
  ·simp at nj;simp[dy,vH,bq,bA,bp];exact⟨Ω,fun j aC=>j6 j Ω⟩
end
end Go.Proofs.YtlnndmgfngfeiaaGreatDoor
namespace Go.Pv
section
open Go Go.RowKit
structure dE (s:cr):Prop where
 obj:fK s
 kb:∀k cs,look k s.b=some cs->aD (au s) cs
 ke:∀k o,look k s.e=some o->eQ (au s) o
structure Same (s ah:cr):Prop where
 b:∀k,(look k s.b).isSome=(look k ah.b).isSome
 e:∀k,(look k s.e).isSome=(look k ah.e).isSome
theorem Same.refl(s:cr):Same s s:=⟨fun _=>rfl,fun _=>rfl⟩
theorem qS{α:Type}{k:av}{x:α}:∀{l:List (av×α)},(k,x)∈l->(look k l).isSome
 |(i,y)::r,h=>by
  simp only[look];split
  ·rfl
  ·rename_i cD;rcases ft.1 h with h|h
   ·cases h;exact absurd rfl cD
   ·exact qS h
theorem MC{s:cr}{k:av}(h:k∈dG s):au s k:=by
 unfold dG at h;rcases ht.1 h with h|h
 ·obtain⟨⟨aT,x⟩,I,rfl⟩:=ku.1 h;exact .inl (qS I)
 ·obtain⟨⟨aT,x⟩,I,rfl⟩:=ku.1 h;exact .inr (qS I)
theorem yM{s:cr}(h:fK s)(m:Nat):av.loc m∉dG s:=fun hm=>by
 rcases MC hm with I|I
 ·rw[h.1 m]at I;cases I
 ·rw[h.2 m]at I;cases I
theorem lY{α β:Type}(s:List (av×β)):∀(a b:List (av×α)),ba s (a++b)=ba s a++ba s b
 |[],b=>rfl
 |(k,x)::r,b=>by
  simp only[cN,ba];cases look k s with
  |none=>simp[lY s r b]
  |some _=>exact lY s r b
theorem GH{α β:Type}(s:List (av×β)):∀(l:List (av×α)),(∀k x,(k,x)∈l->(look k s).isSome)->ba s l=[]
 |[],_=>rfl
 |(k,x)::r,h=>by
  have I:=h k x Ψ;simp only[ba];cases ar:look k s with
  |none=>rw[ar]at I;cases I
  |some _=>exact GH s r fun k x ad=>h k x (by simp[ad])
theorem k9{α:Type}(s:List (av×α)):ba s s=[]:=GH s s fun k x h=>qS h
theorem wh{α:Type}{k:av}{x:α}:∀{l:List (av×α)},look k l=none->bV k x l=l++[(k,x)]
 |[],_=>rfl
 |(i,y)::r,h=>by
  simp only[look]at h;split at h
  ·cases h
  ·rename_i cD;simp[bV,cD,wh h]
theorem fp{α:Type}(k:av):∀(a b:List (av×α)),look k (a++b)=match look k a with|some x=>some x|none=>look k b
 |[],b=>rfl
 |(i,y)::r,b=>by
  simp only[cN,look];split
  ·rfl
  ·exact fp k r b
theorem bh.ob{P:bj}{n:Nat}{args:List ae}{st:aS}{d:aW Nat}{K:aS->Prop}{s:cr}{Q:ae->cr->Prop}(aF:br P n args s Q)(af:dE s)(aa:∀k cs,look k s.b=some cs->look k st.b=some cs)(he:∀k o,look k s.e=some o->look k st.e=some o)
  (U:aD (au s) args) (h:∀r ah,Q r ah->Same s ah/\K ⟨dB d r st.t,ba s.b st.b++ah.b,ba s.e st.e++ah.e,st.n,st.o++dG ah⟩):bh P n args st d K:=by
 refine .inl ⟨s,Q,fun k cs al=>⟨aa k cs al,.inl (by simp[al]),af.kb k cs al⟩,fun k o ab=>⟨he k o ab,.inr (by simp[ab]),af.ke k o ab⟩,af.obj,U,aF,fun r ah bD=>?_⟩;obtain⟨I,J⟩:=h r ah bD;exact⟨⟨fun m hm=>.inl (by rw[I.b];exact hm),fun m hm=>.inl (by rw[I.e];exact hm)⟩,J⟩
theorem b4.ob{dI:List cm}{s ah:cr}{Q:ae->cr->Prop}{e:Exit}{st:aS}{c:Prop}{a8:List ae}(j8:e= .ret\/e= .normal)(pj:bq st dI=some (c,a8))(al:c)(af:dE ah)(ds:Same s ah)(aa:∀k cs,look k ah.b=some cs->look k st.b=some cs)(nb:∀k o,look k ah.e=some o->look k st.e=some o)
  (U:aB (au ah) (b7 (bp a8))) (bD:Q (b7 (bp a8)) ah):b4 dI s Q e st:=by
 refine⟨j8,?_⟩;rw[pj];have Dl:∀{α:Type} (l:List (av×α)),(∀k x,(k,x)∈l->au ah k)->ej ah l:=by
  intro α l;induction l with
  |nil=>intro _;trivial
  |cons x r bz=>obtain⟨k,x⟩:=x;intro h;exact⟨h k x Ψ,bz fun k x ad=>h k x (by simp[ad])⟩
 exact⟨al,ah,Dl _ fun k x ad=>.inl (by rw[<-ds.b];exact qS ad),Dl _ fun k x ad=>.inr (by rw[<-ds.e];exact qS ad),fun k cs b0=>⟨aa k cs b0,.inl (by simp[b0]),af.kb k cs b0⟩,fun k o ab=>⟨nb k o ab,.inr (by simp[ab]),af.ke k o ab⟩,af.obj,U,bD⟩
theorem br.mono{P:bj}{f:FuncId}{args:List ae}{s:cr}{Q ky:ae->cr->Prop}(h:br P f args s Q)(bD:∀r ah,Q r ah->ky r ah):br P f args s ky:=by
 intro w ν aV gl I J aj;have hm:∀(e:Ending) (w':World),(∃v r ah ν',e= .returned v/\Q r ah/\aw w' ν' r v/\Good (fun bl=>eg ν s bl\/w.heap.size<=bl) w' ν' ah.b ah.e/\kI ν' ah/\fK ah/\kx ⟨w,ν,eg ν s,0,dG s,gl,[]⟩ w' ν')->(∃v r ah ν',e= .returned v/\ky r ah/\aw w' ν' r v/\Good (fun bl=>eg ν s bl\/w.heap.size<=bl) w' ν' ah.b ah.e/\kI ν' ah/\fK ah/\kx ⟨w,ν,eg ν s,0,dG s,gl,[]⟩ w' ν'):=by rintro e w' ⟨v,r,ah,ν',bk,a2,a3⟩;exact⟨v,r,ah,ν',bk,bD _ _ a2,a3⟩
 rcases h w ν aV gl I J aj with⟨o8,al⟩|⟨v,w',al,hr⟩
 ·exact .inl ⟨o8,al.mono hm⟩
 ·exact .inr ⟨v,w',al,hm _ _ hr⟩
theorem s3{s:cr}{k:av}(h:au s k):¬fresh 0 (dG s) k:=fun aF=>aF.2 (pG h)
theorem hQ.ob{s:cr}(af:dE s){st:aS}{df:List (Nat×ae)}(az:∀x∈df,get x.1 st.t=x.2/\aB (au s) x.2)(aa:∀k cs,look k s.b=some cs->look k st.b=some cs)(he:∀k o,look k s.e=some o->look k st.e=some o):
  hQ (dG s) st ⟨df,s.b,s.e,0,dG s⟩:=
 ⟨fun x ad=>⟨(az x ad).1,ot (fun k U=>s3 U) _ (az x ad).2⟩,fun k cs al=>⟨aa k cs al,s3 (.inl (by simp[al])),mx (fun k U=>s3 U) _ (af.kb k cs al)⟩,
  fun k o ab=>⟨he k o ab,s3 (.inr (by simp[ab])),fun xs ad=>mx (fun k U=>s3 U) _ (af.ke k o ab xs ad)⟩,fun m hm=>hm⟩
def cg(st:aS)(dI:List cm)(R:ae->Prop):Prop:=match bq st dI with
 |some (c,a8)=>c/\R (b7 (bp a8))
 |none=>cU
theorem b4.at{dI:List cm}{s:cr}{Q:ae->cr->Prop}{e:Exit}{st:aS}(ah:cr)(j8:e= .ret\/e= .normal)(af:dE ah)(ds:Same s ah)(aa:∀k cs,look k ah.b=some cs->look k st.b=some cs)(nb:∀k o,look k ah.e=some o->look k st.e=some o)
  (h:cg st dI fun r=>aB (au ah) r/\Q r ah):b4 dI s Q e st:=by
 unfold cg at h;split at h
 ·rename_i c a8 hr;exact b4.ob j8 hr h.1 af ds aa nb h.2.1 h.2.2
 ·exact h.elim
theorem iL.ob{P:bj}{nw:List Nat}{n:Nat}{args:List ae}{st:aS}{d:aW Nat}{K:aS->Prop}{s ah:cr}{r:ae}(aF:br P n args s fun dW df=>dW=r/\df=ah)(af:dE s)(nm:dE ah)(ds:Same s ah)(aa:∀k cs,look k s.b=some cs->look k st.b=some cs)(he:∀k o,look k s.e=some o->look k st.e=some o)
  (U:aD (au s) args) (h:K ⟨dB d r st.t,ba s.b st.b++ah.b,ba s.e st.e++ah.e,st.n,st.o⟩):iL P false nw n args st d K:=
 .inr ⟨s,ah,r,none,fun k cs al=>⟨aa k cs al,.inl (by simp[al]),af.kb k cs al⟩,fun k o ab=>⟨he k o ab,.inr (by simp[ab]),af.ke k o ab⟩,af.obj,nm.obj,⟨fun k U=>.inl (by rw[ds.b];exact U),fun k U=>.inl (by rw[ds.e];exact U),fun k U=>by rw[<-ds.b];exact U,fun k U=>by rw[<-ds.e];exact U,fun k U=>by cases U⟩,U,aF,(fun e=>by cases e),h⟩
theorem dE.of{s:cr}(ab:fK s)(aa:∀x∈s.b,aD (au s) x.2)(he:∀x∈s.e,∀xs,x.2.xs=some xs->aD (au s) xs):dE s:=⟨ab,fun k cs U=>aa (k,cs) (nu U),fun k o U xs ad=>he (k,o) (nu U) xs ad⟩
@[simp]theorem Se(b:List (av×List ae))(e:List (av×cC)):dG ⟨b,e⟩=b.map (·.1)++e.map (·.1):=rfl
theorem Gg{α:Type}{k:av}{p:α}:∀{a r:List (av×α)},look k a=none->bV k p (a++r)=a++bV k p r
 |[],_,_=>rfl
 |(i,y)::a,r,h=>by
  simp only[look]at h;split at h
  ·cases h
  ·rename_i cD;simp[bV,cD,Gg h]
theorem M3{α:Type}{s b:List (av×α)}(h:∀p∈s,look p.1 b=some p.2):∀k x,look k s=some x->look k b=some x:=fun k x ad=>h (k,x) (nu ad)
theorem e9{S:av->Prop}{dL b:List (av×List ae)}(h:∀p∈dL,look p.1 b=some p.2/\S p.1/\aD S p.2):iG S dL b:=fun k x ad=>h (k,x) (nu ad)
theorem ff{S:av->Prop}{dL b:List (av×cC)}(h:∀p∈dL,look p.1 b=some p.2/\S p.1/\eQ S p.2):iH S dL b:=fun k x ad=>h (k,x) (nu ad)
theorem ak{α:Type}{s b:List (av×α)}(h:∀k x,look k s=some x->look k b=some x:=by first|(refine M3 ?_;simp;done)|(intro k x ad;first|exact ad|(simp[ad,k9];done)|(simp[fp,k9,ad];done)|(cases k<;>simp_all[fp];done))):∀k x,look k s=some x->look k b=some x:=h
theorem gE{ob:List av}{st st':aS}(I:∀x∈st'.t,get x.1 st.t=x.2/\aB (fun k=> ¬fresh st'.n st'.o k) x.2:=by simp[fresh,aD,aB,c6,au,Pv.look])(J:∀p∈st'.b,look p.1 st.b=some p.2/\(¬fresh st'.n st'.o p.1)/\aD (fun k=> ¬fresh st'.n st'.o k) p.2:=by simp[fresh,aD,aB,c6,au,Pv.look])(aj:∀p∈st'.e,look p.1 st.e=some p.2/\(¬fresh st'.n st'.o p.1)/\eQ (fun k=> ¬fresh st'.n st'.o k) p.2:=by simp[fresh,aD,aB,eQ,au,Pv.look])(aO:∀m∈ob,m∈st'.o:=by simp):hQ ob st st':=⟨I,e9 J,ff aj,aO⟩
theorem dD.next{ob:List av}{fV:Nat->aS->Prop}{k:Nat}{Q:Exit->aS->Prop}{st:aS}(aT:Nat){ah:aS}(U:aT<k)(aM:fV aT ah)(hw:hQ ob st ah):dD ob fV k Q .normal st:=⟨aT,ah,U,hw,aM⟩
end
end Go.Pv
namespace Go.Proofs.YtlnndmgfngfeiaaGreatDoor
section
open Go Go.Pv
def h0(p:Nat->Bool)(i j:Nat):Nat:=if i<j then(if p ((i+j)/2)then h0 p i ((i+j)/2)else h0 p ((i+j)/2+1) j)else i
termination_by j-i
def MN(s:cr)(n g:Nat)(bX:List ae)(p:Nat->Bool)(k:Nat)(st:aS):Prop:=∃i j:Nat,i<=j/\j<=n/\k=j-i/\h0 p i j=h0 p 0 n/\st=⟨[(1,.func g bX),(5,.int .i64 i),(6,.int .i64 j)],s.b,s.e,0,dG s⟩
theorem Kv(s:cr)(af:dE s)(n g:Nat)(aU:n<=1000000)(bX:List ae)(al:aD (au s) bX)(dT:bR bX=bX)(p:Nat->Bool)(aF:∀i:Nat,i<n->br aI g (.int .i64 i::bX) s fun r ah=>r= .bool (p i)/\ah=s):
  br aI 146 [.int .i64 n,.func g bX] s fun r ah=>r= .int .i64 (h0 p 0 n)/\ah=s:=by
 refine br.mk mixed fs J0 Og Ψ af.obj fun bn cb=>?_;unfold Bz;simp;refine nZ (MN s n g bX p) n _ (hQ.ob af (by simp[al]) ak ak) ⟨0,n,Ω,Ω,rfl,rfl,rfl⟩ ?_;rintro k st ⟨i,j,qC,aC,U,yk,rfl⟩ jL cb;clear jL cb;simp;refine dz (fun bS=>?_) (fun nj=>?_)
 ·simp at bS;have hw:IntKind.u64.wrap ((i:Int)+j)=i+j:=by simp[IntKind.wrap,IntKind.bits,IntKind.signed];omega
  obtain⟨m,hm⟩:∃m,m=(i+j)/2:=⟨_,rfl⟩;have aY:Int.fdiv ((i:Int)+j) 2=(m:Int):=by rw[Int.fdiv_eq_ediv_of_nonneg _ Ω];omega
  have yt:kr.wrap (m:Int)=m:=by rw[IntWalk.i64_in];omega
  have o5:IntKind.u64.bits=64:=rfl;simp[hw,dT,o5,aY,yt];refine⟨by unfold c1;omega,?_⟩;refine bh.ob (aF m Ω) af ak ak (by simp[al]) ?_;rintro r ah ⟨rfl,rfl⟩;refine⟨Same.refl _,?_⟩;simp[k9];(with_reducible repeat' first|((first|apply dz|apply dN|apply dM)<;>intro h<;>try simp at h)|refine a6 ?_|simp)
  ·simp only[tI];refine⟨j-(m+1),_,Ω,hQ.ob af (by simp[al]) ak ak,m+1,j,Ω,Ω,rfl,?_,rfl⟩;rw[<-yk];conv=>rhs;unfold h0
   simp[bS,<-hm,h]
  ·simp only[tI];refine⟨m-i,_,Ω,hQ.ob af (by simp[al]) ak ak,i,m,Ω,Ω,rfl,?_,rfl⟩;rw[<-yk];conv=>rhs;unfold h0
   simp[bS,<-hm,h]
 ·simp at nj;have:h0 p 0 n=i:=by rw[<-yk];unfold h0;rw[bT Ω]
  rw[this];simp;refine b4.at s (.inl rfl) af (Same.refl s) ak ak ?_;simp[cg,Fj,bq,bA,bp]
def iN(l:List aN)(v:Int):Int:=
 let i:=h0 (fun i=>match l[i]? with|some b=>decide (v<=b.v)|none=>false) 0 l.length
 match l[i]? with|some b=>if b.v=v then i else-1|none=> -1
theorem KD(l:List aN)(v:Int)(i:Nat)(b:aN)(aa:l[i]? =some b):br aI 147 [.int .i64 i,.ptr (.obj 101) 0,.ptr (.obj 102) 0] ⟨[(.obj 101,[.slice 5 .no (l.map aN.e)]),(.obj 102,[.int .i64 v])],[]⟩ fun r ah=>r= .bool (decide (v<=b.v))/\ah=⟨[(.obj 101,[.slice 5 .no (l.map aN.e)]),(.obj 102,[.int .i64 v])],[]⟩:=by have af:dE ⟨[(.obj 101,[.slice 5 .no (l.map aN.e)]),(.obj 102,[.int .i64 v])],[]⟩:=(dE.of ⟨by intro m;simp[Pv.look],by intro m;simp[Pv.look]⟩ (by simp[aD,aB,au,Pv.look]) (by simp[aD,aB,au,Pv.look]));have bS:i<l.length:=(fG.1 aa).1;refine br.mk mixed fs JI NX Ψ af.obj fun bn cb=>?_;unfold Bh;simp[aa];(with_reducible repeat' first|refine a6 ?_|simp);refine b4.at _ (.inl rfl) af (Same.refl _) ak ak ?_;simp[cg,E8,bq,bA,bp]
theorem pW(l:List aN)(v:Int)(ar:l.length<=1000000):c8 aI 74 [.slice 5 .no (l.map aN.e),.int .i64 v] (.int .i64 (iN l v)):=by
 refine dS fs JH NW fun bn=>?_;unfold Bg;simp;have af:dE ⟨[(.obj 101,[.slice 5 .no (l.map aN.e)]),(.obj 102,[.int .i64 v])],[]⟩:=(dE.of ⟨by intro m;simp[Pv.look],by intro m;simp[Pv.look]⟩ (by simp[aD,aB,au,Pv.look]) (by simp[aD,aB,au,Pv.look]));refine bh.ob (Kv ⟨[(.obj 101,[.slice 5 .no (l.map aN.e)]),(.obj 102,[.int .i64 v])],[]⟩ af l.length 147 ar [.ptr (.obj 101) 0,.ptr (.obj 102) 0] (by simp[au]) Ψ (fun i=>match l[i]? with|some b=>decide (v<=b.v)|none=>false) fun i aM=>?_) af ak ak (by simp[au]) ?_
 ·obtain⟨b,aa⟩:∃b,l[i]? =some b:=⟨_,eo aM⟩;simp only[aa];exact KD l v i b aa
 rintro r ah ⟨rfl,rfl⟩;refine⟨Same.refl _,?_⟩;unfold iN;generalize h0 _ 0 l.length=i;cases aa:l[i]? with
 |none=>
  have bS:¬i<l.length:=by simpa using aa
  simp[ba,bS];exact ij
 |some b=>
  have bS:i<l.length:=(fG.1 aa).1;simp[ba,aa,bS];((with_reducible repeat' first|refine a6 ?_|simp[aa]|((first|apply dz|apply dN|apply dM)<;>intro h<;>try simp at h))<;>(try exact iJ));all_goals simp[dy,E7,bq,bA,bp]
  all_goals simp_all
def lO(l:List aN)(v:Int):aW T:=if iN l v<0 then none else(l[(iN l v).toNat]?).map (·.t)
theorem Cy(l:List aN)(v:Int):iN l v<l.length/\ -1<=iN l v:=by
 unfold iN;simp only;split
 ·rename_i b aa;have:=(fG.1 aa).1;split<;>omega
 ·omega
theorem CN(l:List aN)(v:Int)(ar:l.length<=1000000)(o:aW T)(ab:o=lO l v):br aI 145 [.int .i64 v,.ptr (.obj 201) 0] ⟨[(.obj 201,[.slice 5 .no (l.map aN.e)])],[]⟩ fun r ah=>r= .tuple [(o.getD .nil).e,.bool o.isSome]/\ah=⟨[(.obj 201,[.slice 5 .no (l.map aN.e)])],[]⟩:=by
 have af:dE ⟨[(.obj 201,[.slice 5 .no (l.map aN.e)])],[]⟩:=(dE.of ⟨by intro m;simp[Pv.look],by intro m;simp[Pv.look]⟩ (by simp[aD,aB,au,Pv.look]) (by simp[aD,aB,au,Pv.look]));have bS:=(Cy l v).1;unfold lO at ab;refine br.mk mixed fs JQ N5 Ψ af.obj fun bn cb=>?_;unfold Bp;simp;(with_reducible repeat' first|((first|apply dz|apply dN|apply dM)<;>intro h<;>try simp at h)|refine a6 ?_|refine b8 (pW l v ar) ?_|refine b9 (pW l v ar) ?_|simp)
 ·obtain⟨b,aa⟩:∃b,l[(iN l v).toNat]? =some b:=⟨_,eo Ω⟩;have eX:o=some b.t:=by rw[ab,bT Ω,aa];rfl
  simp[aa];(with_reducible repeat' first|((first|apply dz|apply dN|apply dM)<;>intro h<;>try simp at h)|refine a6 ?_|simp[aa]);refine b4.at _ (.inl rfl) af (Same.refl _) ak ak ?_;simp[cg,zi,bq,bA,bp];simp[eX]
 ·have eX:o=none:=by rw[ab,cX h]
  refine b4.at _ (.inl rfl) af (Same.refl _) ak ak ?_;simp[cg,zi,bq,bA,bp];simp[eX]
theorem KL(s:cr)(af:dE s)(g:Nat)(bX:List ae)(al:aD (au s) bX)(dT:bR bX=bX)(f:Int->Int)(Df:∀v,-1<=f v)(t:T)(aF:∀v,t.occ v=true->br aI g (.int .i64 v::bX) s fun r ah=>r= .int .i64 (f v)/\ah=s):
  br aI 196 [t.e,.func g bX] s fun r ah=>r= .int .i64 (hq f t)/\ah=s:=by
 have aU:∀m,Pv.look (.loc m) s.b=none:=af.obj.1;have hu:∀m cs,bV (.loc m) cs s.b=s.b++[(.loc m,cs)]:=fun m cs=>wh (aU m);have ab:∀m,av.loc m∉dG s:=yM af.obj;induction t with
 |pair a b gY gZ=>
  have RC:=v7 f Df a;have RF:=v7 f Df b;refine br.mk mixed fs xl y9 Ψ af.obj fun bn cb=>?_;unfold tR;simp[hu,ab,fp,aU,dT];(with_reducible repeat' first|refine a6 ?_|simp[hu,ab,fp,aU]);refine bh.ob (gY fun v aH=>aF v (by simp[T.occ,aH])) af ak ak (by simp[al]) ?_;rintro r ah ⟨rfl,rfl⟩;refine⟨Same.refl _,?_⟩;simp[k9,lY,ba,aU];(with_reducible repeat' first|((first|apply dz|apply dN|apply dM)<;>intro h<;>try simp at h)|refine a6 ?_|simp[hu,ab,fp,aU])
  ·refine b4.at ah (.inl rfl) af (Same.refl _) ak ak ?_;simp[cg,te,bq,bA,bp];simp[hq];omega
  ·rw[dT];refine bh.ob (gZ fun v aH=>aF v (by simp[T.occ,aH])) af ak ak (by simp[al]) ?_;rintro r s2 ⟨rfl,rfl⟩;refine⟨Same.refl _,?_⟩;simp[k9,lY,ba,aU];(with_reducible repeat' first|((first|apply dz|apply dN|apply dM)<;>intro h<;>try simp at h)|refine a6 ?_|simp[hu,ab,fp,aU]);refine b4.at s2 (.inl rfl) af (Same.refl _) ak ak ?_;simp[cg,te,bq,bA,bp];simp[hq];omega
 |var n=>refine br.mk mixed fs xl y9 Ψ af.obj fun bn cb=>?_;unfold tR;simp[hu,ab,fp,aU,dT];(with_reducible repeat' first|refine a6 ?_|simp[hu,ab,fp,aU]);refine bh.ob (aF n (by simp[T.occ])) af ak ak (by simp[al]) ?_;rintro r ah ⟨rfl,rfl⟩;refine⟨Same.refl _,?_⟩;simp[k9,lY,ba,aU];refine b4.at ah (.inl rfl) af (Same.refl _) ak ak ?_;simp[cg,te,bq,bA,bp];simp[hq]
 |_=>refine br.mk mixed fs xl y9 Ψ af.obj fun bn cb=>?_;unfold tR;simp[hu,ab,fp,aU,dT];(with_reducible repeat' first|refine a6 ?_|simp[hu,ab,fp,aU]);refine b4.at s (.inl rfl) af (Same.refl _) ak ak ?_;simp[cg,te,bq,bA,bp];simp[hq]
theorem KI(s:cr)(af:dE s)(g:Nat)(bX:List ae)(al:aD (au s) bX)(dT:bR bX=bX)(f:Int->aW T)(t:T)(aF:∀v,t.occ v=true->br aI g (.int .i64 v::bX) s fun r ah=>r= .tuple [((f v).getD .nil).e,.bool (f v).isSome]/\ah=s):
  br aI 198 [t.e,.func g bX] s fun r ah=>r=(t.sub f).e/\ah=s:=by
 have aU:∀m,Pv.look (.loc m) s.b=none:=af.obj.1;have cD:∀m,Pv.look (.loc m) s.e=none:=af.obj.2;have hu:∀m cs,bV (.loc m) cs s.b=s.b++[(.loc m,cs)]:=fun m cs=>wh (aU m);have ab:∀m,av.loc m∉dG s:=yM af.obj;have pn:∀m p r,bV (.loc m) p (s.b++r)=s.b++bV (.loc m) p r:=fun m p r=>Gg (aU m);induction t with
 |pair a b gY gZ=>refine br.mk mixed fs xj y7 Ψ af.obj fun bn cb=>?_;unfold tP;simp[hu,ab,fp,aU,cD,dT,pn];(with_reducible repeat' first|refine a6 ?_|simp[hu,ab,fp,aU,cD,pn]);refine iL.ob (gY fun v aH=>aF v (by simp[T.occ,aH])) af af (Same.refl _) ak ak (by simp[al]) ?_;simp[k9,lY,ba,aU,dT];refine iL.ob (gZ fun v aH=>aF v (by simp[T.occ,aH])) af af (Same.refl _) ak ak (by simp[al]) ?_;simp[k9,lY,ba,aU,dT];(with_reducible repeat' first|refine a6 ?_|refine b8 (wj _ _) ?_|refine b9 (wj _ _) ?_|simp);refine b4.at s (.inl rfl) af (Same.refl _) ak ak ?_;simp[cg,vJ,bq,bA,bp,fp,aU];simp[T.sub]
 |var n=>
  refine br.mk mixed fs xj y7 Ψ af.obj fun bn cb=>?_;unfold tP;simp[hu,ab,fp,aU,dT,pn];(with_reducible repeat' first|refine a6 ?_|simp[hu,ab,fp,aU,pn]);refine bh.ob (aF n (by simp[T.occ])) af ak ak (by simp[al]) ?_;rintro r ah ⟨rfl,rfl⟩;refine⟨Same.refl _,?_⟩;simp[k9,lY,ba,aU,hu,ab,fp];(with_reducible repeat' first|((first|apply dz|apply dN|apply dM)<;>intro h<;>try simp at h)|refine a6 ?_|refine b8 (z7 _) ?_|refine b9 (z7 _) ?_|simp[hu,ab,fp,aU,pn]);all_goals refine b4.at ah (.inl rfl) af (Same.refl _) ak ak ?_
  all_goals simp[cg,vJ,bq,bA,bp,fp,aU]
  all_goals cases o8:f n<;>simp_all[T.sub]
 |_=>refine br.mk mixed fs xj y7 Ψ af.obj fun bn cb=>?_;unfold tP;simp[hu,ab,fp,aU,dT,pn];(with_reducible repeat' first|((first|apply dz|apply dN|apply dM)<;>intro h<;>try simp at h)|refine a6 ?_|simp[hu,ab,fp,aU,pn]);refine b4.at s (.inl rfl) af (Same.refl _) ak ak ?_;simp[cg,vJ,bq,bA,bp,fp,aU];simp[T.sub]
def jf(l:List aN):cr:=⟨[(.obj 201,[.slice 5 .no (l.map aN.e)])],[]⟩
def lk(l:List aN):cr:=⟨[(.obj 201,[.slice 5 .no (l.map aN.e)]),(.obj 202,[.func 145 [.ptr (.obj 201) 0]])],[]⟩
theorem rL(l:List aN):dE (jf l):=by unfold jf;exact(dE.of ⟨by intro m;simp[Pv.look],by intro m;simp[Pv.look]⟩ (by simp[aD,aB,au,Pv.look]) (by simp[aD,aB,au,Pv.look]))
theorem wA(l:List aN):dE (lk l):=by unfold lk;exact(dE.of ⟨by intro m;simp[Pv.look],by intro m;simp[Pv.look]⟩ (by simp[aD,aB,au,Pv.look]) (by simp[aD,aB,au,Pv.look]))
def mZ(l:List aN)(v:Int):Int:=match lO l v with|some x=>dA x.tm 5000|none=>1
theorem Ks(l:List aN)(v:Int): -1<=mZ l v:=by
 unfold mZ;split
 ·rename_i x _;rcases s0 x.tm 5000 with h|h<;>omega
 ·omega
theorem Gw(t:T):c8 aI 150 [t.e,.int .i64 5000] (.int .i64 (dA t.tm 5000)):=by have:=Gv t.tm.sz t.tm (dY _) 5000 Ω;rwa[oV]at this
theorem KK(l:List aN)(v:Int)(ar:l.length<=1000000):br aI 197 [.int .i64 v,.ptr (.obj 202) 0] (lk l) fun r ah=>r= .int .i64 (mZ l v)/\ah=lk l:=by
 have af:=wA l;unfold lk at af⊢;refine br.mk mixed fs JS N7 Ψ af.obj fun bn cb=>?_;unfold Br;simp;refine bh.ob (CN l v ar _ rfl) (rL l) ak ak (by simp[au]) ?_;rintro r ah ⟨rfl,rfl⟩;refine⟨Same.refl _,?_⟩;simp[ba];(with_reducible repeat' first|((first|apply dz|apply dN|apply dM)<;>intro h<;>try simp at h)|refine a6 ?_|refine b8 (Gw _) ?_|refine b9 (Gw _) ?_|simp);all_goals refine b4.at _ (.inl rfl) af (Same.refl _) ak ak ?_
 all_goals simp[cg,Fe,bq,bA,bp]
 all_goals unfold mZ
 all_goals cases be:lO l v<;>simp_all
def tb(l:List aN)(t:T):T:=t.sub (lO l)
def mD(l:List aN)(t:T):Bool:=decide (hq (mZ l) t<=5000)
theorem KJ(l:List aN)(t:T)(ar:l.length<=1000000):br aI 144 [t.e,.func 145 [.ptr (.obj 201) 0]] (jf l) fun r ah=>r= .tuple [(if mD l t then tb l t else .nil).e,.bool (mD l t)]/\ah=jf l:=by
 have af:=rL l;unfold jf at af⊢;refine br.mk mixed fs JR N6 Ψ af.obj fun bn cb=>?_;unfold Bq;simp;refine bh.ob (KL (lk l) (wA l) 197 [.ptr (.obj 202) 0] (by simp[au,lk]) Ψ (mZ l) (Ks l) t fun v aH=>KK l v ar) (wA l) (by unfold lk;exact ak) (by unfold lk;exact ak) (by simp[au,lk]) ?_;rintro r ah ⟨rfl,rfl⟩;refine⟨Same.refl _,?_⟩;unfold lk;simp[ba];(with_reducible repeat' first|((first|apply dz|apply dN|apply dM)<;>intro h<;>try simp at h)|refine a6 ?_|simp)
 ·refine b4.at _ (.inl rfl) af (Same.refl _) ak ak ?_;simp[cg,zj,bq,bA,bp];have:mD l t=false:=by simp[mD];omega
  simp[this]
 ·refine bh.ob (KI (jf l) (rL l) 145 [.ptr (.obj 201) 0] (by simp[au,jf]) Ψ (lO l) t fun v aH=>CN l v ar _ rfl) (rL l) (by unfold jf;exact ak) (by unfold jf;exact ak) (by simp[au,jf]) ?_;rintro r ah ⟨rfl,rfl⟩;refine⟨Same.refl _,?_⟩;unfold jf;simp[ba];refine b4.at _ (.inl rfl) af (Same.refl _) ak ak ?_;simp[cg,zj,bq,bA,bp];have:mD l t=true:=by simp[mD];omega
  simp[this,tb]
theorem PS(l:List aN)(t:T)(ar:l.length<=1000000):c8 aI 73 [.slice 5 .no (l.map aN.e),t.e] (.tuple [(if mD l t then tb l t else .nil).e,.bool (mD l t)]):=by refine dS fs JP N4 fun bn=>?_;unfold Bo;simp;refine bh.ob (KJ l t ar) (rL l) (by unfold jf;exact ak) (by unfold jf;exact ak) (by simp[au,jf]) ?_;rintro r ah ⟨rfl,rfl⟩;refine⟨Same.refl _,?_⟩;unfold jf;simp[ba];simp[dy,Fc,bq,bA,bp]
end
end Go.Proofs.YtlnndmgfngfeiaaGreatDoor
namespace Go.Pv
section
open Go
def T.ap(la:Int->T):T->T
 | .var n=>la n
 | .pair a b=>.pair (a.ap la) (b.ap la)
 |t=>t
theorem Ha(f g:Int->T)(t:T):(t.ap f).ap g=t.ap fun v=>(f v).ap g:=by
 induction t with
 |pair a b gY gZ=>simp[T.ap,gY,gZ]
 |_=>simp[T.ap]
theorem wG{f g:Int->T}{t:T}(h:∀v,t.occ v=true->f v=g v):t.ap f=t.ap g:=by
 induction t with
 |var n=>exact h n (by simp[T.occ])
 |pair a b gY gZ=>simp only[T.ap];rw[gY fun v aH=>h v (by simp[T.occ,aH]),gZ fun v aH=>h v (by simp[T.occ,aH])]
 |_=>rfl
theorem Hd(t:T):t.ap .var=t:=by induction t<;>simp_all[T.ap]
theorem Hb{f:Int->T}{t:T}(h:∀v,t.occ v=true->f v= .var v):t.ap f=t:=(wG h).trans (Hd t)
theorem Pq(f:Int->aW T)(t:T):t.sub f=t.ap fun v=>(f v).getD (.var v):=by
 induction t with
 |var n=>simp only[T.sub,T.ap];cases f n<;>rfl
 |pair a b gY gZ=>simp[T.sub,T.ap,gY,gZ]
 |_=>rfl
theorem Ev{la:Int->T}{v:Int}{t:T}:(t.ap la).occ v=true↔∃w,t.occ w=true/\(la w).occ v=true:=by
 induction t with
 |var n=>simp[T.ap,T.occ]
 |pair a b gY gZ=>
  simp only[T.ap,T.occ,Bool.or_eq_true,gY,gZ];constructor
  ·rintro(⟨w,I,J⟩|⟨w,I,J⟩)
   ·exact⟨w,.inl I,J⟩
   ·exact⟨w,.inr I,J⟩
  ·rintro⟨w,I|I,J⟩
   ·exact .inl ⟨w,I,J⟩
   ·exact .inr ⟨w,I,J⟩
 |_=>simp[T.ap,T.occ]
def cK(s:List aN)(v:Int):T:=(eJ s v).getD (.var v)
abbrev gU(s:List aN):Prop:=s.Pairwise fun x y=>x.v<y.v
structure nR (s:List aN):Prop where
 asc:gU s
 free:∀b∈s,∀w,b.t.occ w=true->eJ s w=none
 ori:∀b∈s,∀w,b.t= .var w->w<b.v
theorem oR(b:aN)(s:List aN)(v:Int):eJ (b::s) v=if b.v=v then some b.t else eJ s v:=by
 unfold eJ;by_cases h:b.v=v
 ·simp[h]
 ·have:(b.v==v)=false:=by simp[h]
  simp[this,h,List.find?_cons]
theorem nS{v:Int}{t:T}:∀{s:List aN},eJ s v=some t->(⟨v,t⟩:aN)∈s
 |[],h=>by simp[eJ]at h
 |b::s,h=>by
  rw[oR]at h;split at h
  ·rename_i e;cases h;subst e;simp
  ·exact List.mem_cons_of_mem _ (nS h)
theorem qf{v:Int}:∀{s:List aN},eJ s v=none↔∀b∈s,b.v≠v
 |[]=>by simp[eJ]
 |b::s=>by
  rw[oR];by_cases h:b.v=v
  ·simp[h]
  ·simp[h,qf (s:=s)]
theorem AN{b:aN}:∀{s:List aN},gU s->b∈s->eJ s b.v=some b.t
 |[],_,h=>by simp at h
 |c::s,bE,h=>by
  rw[oR];have nd:=List.pairwise_cons.1 bE;rcases ft.1 h with rfl|h
  ·simp
  ·have:=nd.1 b h;rw[bT Ω];exact AN nd.2 h
theorem Pd{s:List aN}(af:nR s){t:T}(h:∀w,t.occ w=true->eJ s w=none):t.ap (cK s)=t:=Hb fun v aH=>by simp[cK,h v aH]
def p7(s:List aN):Prop:=s.length<=400/\∀b∈s,b.t.size<=5000
theorem Hk{s:List aN}(h:gU s):(s.map (·.v)).Nodup:=by rw[List.nodup_iff_pairwise_ne,List.pairwise_map];exact h.imp fun h=>Ω
def one(v:Int)(x:T)(w:Int):T:=if w=v then x else .var w
theorem Pe{s:List aN}(af:nR s){t:T}{w:Int}(h:(t.ap (cK s)).occ w=true):eJ s w=none:=by
 obtain⟨u,_,J⟩:=Ev.1 h;unfold cK at J;cases e:eJ s u with
 |none=>rw[e]at J;simp[T.occ]at J;subst J;exact e
 |some t=>rw[e]at J;exact af.free _ (nS e) w J
structure GW where
 up:List (Int×Int)
 shape:List (Int×T)
 shaped:List (Int×Bool)
 color:List (Int×Int)
 size:List (Int×Int)
 full:List (Int×T)
end
section
open Go
section
variable {EU:Int->aW T} {hg:Int->Int} {r:Int->Nat}
end
section
variable {c:GW} {hg:Int->Int} {x y:Int}
end
end
section
open Go
def cut(n:Nat):Int:=if 5001<(n:Int)then 5001 else n
section
variable {V:List Int} {EU:Int->aW T} {hg:Int->Int} {r:Int->Nat}
end
end
section
open Go
section
variable {V:List Int} {EU:Int->aW T} {hg:Int->Int} {r:Int->Nat}
end
end
section
open Go
def pI(s:List aN):Prop:= ∀b∈s,(0<=b.v/\b.v<=100000)/\b.t.ok=true
theorem Hc{la:Int->T}{t:T}(az:t.ok=true)(h:∀v,t.occ v=true->(la v).ok=true):(t.ap la).ok=true:=by
 induction t with
 |var n=>exact h n (by simp[T.occ])
 |pair a b gY gZ=>simp only[T.ok,bt]at az;simp only[T.ap,T.ok,bt];exact⟨gY az.1 fun v aH=>h v (by simp[T.occ,aH]),gZ az.2 fun v aH=>h v (by simp[T.occ,aH])⟩
 |_=>exact az
theorem PT{t:T}(az:t.ok=true){v:Int}(h:t.occ v=true):0<=v/\v<=100000:=by
 induction t with
 |var n=>simp[T.occ]at h;subst h;simpa[T.ok]using az
 |pair a b gY gZ=>
  simp only[T.ok,bt]at az;simp only[T.occ,Bool.or_eq_true]at h;rcases h with h|h
  ·exact gY az.1 h
  ·exact gZ az.2 h
 |_=>simp[T.occ]at h
theorem F0{s:List aN}(af:pI s){t:T}(az:t.ok=true):(t.ap (cK s)).ok=true:=Hc az fun v aH=>by
 unfold cK;cases e:eJ s v with
 |none=>have:=PT az aH;simpa[T.ok]using this
 |some x=>exact(af _ (nS e)).2
end
end Go.Pv
namespace Go.Proofs.YtlnndmgfngfeiaaGreatDoor
section
open Go Go.Pv
theorem zL(p:Nat->Bool)(n:Nat)(hm:∀k aT,k<=aT->aT<n->p k=true->p aT=true):∀(m i j:Nat),j-i<=m->i<=j->j<=n->(∀k,k<i->p k=false)->(∀k,j<=k->k<n->p k=true)->
  (i<=h0 p i j/\h0 p i j<=j)/\(∀k,k<h0 p i j->p k=false)/\(∀k,h0 p i j<=k->k<n->p k=true)
 |m,i,j,aY,qC,aC,I,J=>by
  rw[h0];split
  ·rename_i bS;obtain⟨m,rfl⟩:∃Nb,m=Nb+1:=⟨m-1,Ω⟩;split
   ·rename_i be;have:=zL p n hm m i ((i+j)/2) Ω Ω Ω I (fun k U x5=>hm _ k U x5 be);exact⟨⟨this.1.1,Ω⟩,this.2⟩
   ·rename_i be;have:=zL p n hm m ((i+j)/2+1) j Ω Ω aC (fun k U=>by
     by_cases e5:p k=true
     ·exact absurd (hm k ((i+j)/2) Ω Ω e5) be
     ·simpa using e5) J
    exact⟨⟨Ω,this.1.2⟩,this.2⟩
  ·obtain rfl:i=j:=Ω
   exact⟨⟨dY _,dY _⟩,I,J⟩
theorem ze{l:List aN}(af:gU l)(v:Int):lO l v=eJ l v:=by
 have bS:∀(i j:Nat) (x y:aN),i<j->l[i]? =some x->l[j]? =some y->x.v<y.v:=by intro i j x y qC ad b6;obtain⟨I,rfl⟩:=fG.1 ad;obtain⟨J,rfl⟩:=fG.1 b6;exact List.pairwise_iff_getElem.1 af i j I J qC
 obtain⟨p,be⟩:∃p:Nat->Bool,p=(fun i=>match l[i]? with|some b=>decide (v<=b.v)|none=>false):=⟨_,rfl⟩;have uX:∀i b,l[i]? =some b->p i=decide (v<=b.v):=fun i b aa=>by rw[be];simp[aa]
 have hm:∀k aT,k<=aT->aT<l.length->p k=true->p aT=true:=by
  intro k aT U e5 h;have ai:l[k]? =some l[k]:=eo Ω;have aK:l[aT]? =some l[aT]:=eo e5;rw[uX k _ ai]at h;rw[uX aT _ aK];simp only[eu]at h⊢;rcases Nat.lt_or_eq_of_le U with x6|rfl
  ·have:=bS k aT _ _ x6 ai aK;omega
  ·exact h
 obtain⟨⟨_,hle⟩,hbef,sl⟩:=zL p l.length hm l.length 0 l.length Ω Ω (dY _) (fun k U=>Ω) (fun k I J=>Ω);have xW:iN l v=(match l[h0 p 0 l.length]? with|some b=>if b.v=v then((h0 p 0 l.length:Nat):Int)else-1|none=> -1):=by rw[be];rfl
 generalize h0 p 0 l.length=r at hle hbef sl xW;by_cases hex:∃(k:Nat) (b:aN),l[k]? =some b/\b.v=v
 ·obtain⟨k,b,aa,C9⟩:=hex;have uM:k<l.length:=(fG.1 aa).1;have ss:r<=k:=by
   rcases Nat.lt_or_ge k r with h|h
   ·have:=hbef k h;rw[uX k b aa]at this;simp at this;omega
   ·exact h
  have hr:l[r]? =some l[r]:=eo Ω;have qJ:=sl r (dY _) Ω;rw[uX r _ hr]at qJ;simp only[eu]at qJ;have Me:r=k:=by
   rcases Nat.lt_or_eq_of_le ss with h|h
   ·have:=bS r k _ _ h hr aa;omega
   ·exact h
  subst Me;have xY:iN l v=r:=by rw[xW,aa];simp[C9]
  have I:lO l v=some b.t:=by unfold lO;rw[xY,bT Ω];simp[aa]
  have J:l.find? (fun b=>b.v==v)=some b:=by
   rw[List.find?_eq_some_iff_getElem];refine⟨by simp[C9],r,uM,?_,fun j aC=>?_⟩
   ·rw[eo uM]at aa;simpa using aa
   ·have:=bS j r l[j] b aC (eo Ω) aa;simp;omega
  rw[I];simp[eJ,J]
 ·have J:l.find? (fun b=>b.v==v)=none:=by rw[List.find?_eq_none];intro b aa;obtain⟨k,U,rfl⟩:=List.mem_iff_getElem.1 aa;simp;intro e;exact hex ⟨k,l[k],eo U,e⟩
  have xY:iN l v= -1:=by
   rw[xW];split
   ·rename_i b aa;rw[bT (fun e=>hex ⟨r,b,aa,e⟩)]
   ·rfl
  unfold lO;rw[xY];simp[eJ,J]
theorem Cz{l:List aN}(af:gU l)(v:Int):iN l v<0↔eJ l v=none:=by
 rw[<-ze af v];unfold lO;have I:=Cy l v;by_cases h:iN l v<0
 ·simp[h]
 ·simp only[h,if_false,false_iff];intro e;rw[Option.map_eq_none_iff,List.getElem?_eq_none_iff]at e;omega
def qn(s:List aN):Prop:= ∀b∈s,b.t.fit=true
theorem Kr{l:List aN}(af:gU l)(h:qn l)(v:Int):mZ l v=(cK l v).size:=by
 unfold mZ cK;rw[ze af];cases aa:eJ l v with
 |none=>simp[T.size]
 |some x=>have:=h _ (nS aa);simp only[T.fit,bt,eu]at this;simp only[Option.getD_some];rw[vr,cX ⟨this.1,Ω⟩]
theorem Pg{l:List aN}(af:gU l)(h:qn l)(t:T):hq (mZ l) t=cut (t.ap (cK l)).size:=by
 induction t with
 |var n=>simp only[hq,Kr af h,T.ap];rfl
 |pair a b gY gZ=>have aa:=T.size_pos (b.ap (cK l));simp only[hq,gY,gZ,T.ap,T.size];unfold cut;(repeat' split)<;>omega
 |_=>simp[hq,T.ap,T.size,cut]
theorem OO{l:List aN}(af:gU l)(h:qn l)(t:T):mD l t=decide ((t.ap (cK l)).size<=5000):=by unfold mD;rw[Pg af h];unfold cut;split<;>simp<;>omega
theorem OP{l:List aN}(af:gU l)(t:T):tb l t=t.ap (cK l):=by unfold tb;rw[Pq];exact wG fun v _=>by rw[ze af];rfl
theorem wk(l:List aN)(t:T)(ar:l.length<=1000000)(af:gU l)(h:qn l):c8 aI 73 [.slice 5 .no (l.map aN.e),t.e] (.tuple [(if(t.ap (cK l)).size<=5000 then t.ap (cK l)else .nil).e,.bool (decide ((t.ap (cK l)).size<=5000))]):=by have:=PS l t ar;rw[OO af h,OP af]at this;simpa using this
end
end Go.Proofs.YtlnndmgfngfeiaaGreatDoor
namespace Go.Pv
section
open Go Go.RowKit
def Cs:List (Int×ae)->List ae
 |[]=>[]
 |(k,v)::r=>.int .i64 k::v::Cs r
def pB(l:List (Int×ae)):List ae:= .hdm l.length (List.range l.length)::Cs l
@[simp]theorem R6:[ae.hdm 0 []]=pB []:=rfl
def c6(n:Nat)(seen:List Nat)(m:av):List ae:=[.hdi n seen n,.gmap m]
@[simp]theorem Sm(m:av)(l:List (Int×ae)):vN m (pB l)=some (c6 l.length [] m):=rfl
@[simp]theorem Sl(l:List (Int×ae)):fB (pB l)=false:=rfl
end
end Go.Pv
namespace Go.Proofs.YtlnndmgfngfeiaaGreatDoor
section
open Go Go.Pv
def Ej(l:List (Int×T)):List ae:=pB (l.map fun x=>(x.1,x.2.e))
@[simp]theorem R5:Ej []=pB []:=rfl
@[simp]theorem Sk(l:List (Int×T)):fB (Ej l)=false:=rfl
end
end Go.Proofs.YtlnndmgfngfeiaaGreatDoor
namespace Go.Pv
section
open Go Go.RowKit
theorem bH.start{w:World}{ν:aA}(gl:jc w ν){s:cr}{args:List ae}{aV:Array Value}(js:fK s)(aG:Good (eg ν s) w ν s.b s.e)(ad:kI ν s)(hr:bG w ν args aV.toList):
  bH ⟨w,ν,eg ν s,aV.size,dG s,gl,[]⟩ ⟨gC 0 args,s.b,s.e,0,dG s⟩ {tmps:=aV,defers:=[]} w ν:=by
 have sN:=tp hr;have hk:aV.size=args.length:=by simpa using sN
 have iz:∀k,fresh 0 (dG s) k->ν.bx k=none/\ν.ow k=none/\∀j b,¬ν.tr k j b:=by
  intro k U;cases k with
  |loc m=>exact⟨(ad _).1 (js.1 m),(ad _).2.1 (js.2 m),(ad _).2.2⟩
  |obj m=>
   simp only[fresh,true_and]at U;refine⟨?_,?_,(ad _).2.2⟩
   ·refine(ad _).1 ?_;cases h:look (.obj m) s.b with
    |none=>rfl
    |some x=>exact absurd (pG (.inl (by simp[h]))) U
   ·refine(ad _).2.1 ?_;cases h:look (.obj m) s.e with
    |none=>rfl
    |some x=>exact absurd (pG (.inr (by simp[h]))) U
 have mr:∀m,(ν.bx (.obj m)≠none\/ν.ow (.obj m)≠none)-> .obj m∈dG s:=by
  intro m hm;refine Classical.byContradiction fun al=>?_;obtain⟨I,J,_⟩:=iz (.obj m) ⟨trivial,al⟩;rcases hm with hm|hm
  ·exact hm I
  ·exact hm J
 refine⟨⟨aG.alt,fun k cs U=>?_,aG.inj,fun g o di=>?_,aG.oinj,aG.obx,aG.one,aG.otr⟩,⟨rfl,rfl,rfl,dY _,fun _ _ _=>rfl,fun b o h=>⟨h,rfl⟩,fun b o h=>.inl h,fun n b h=>h,fun n b h=>mr n (.inl (by rw[h];simp)),fun m n u h=>⟨n,u,h,.inl ⟨rfl,rfl⟩⟩,fun m n u h=>mr m (.inr (by rw[h];simp)),fun k j _ _ b h=>absurd h ((ad k).2.2 j b),fun k j b h=>absurd h ((ad k).2.2 j b),fun k j b h=>absurd h ((ad k).2.2 j b),fun _ _ _=>rfl,fun j n u b ai _=>(by rw[(ad _).2.1 (js.2 j)]at ai;cases ai)⟩,rfl,rfl,fun i=>?_,iz,fun _ ad=>(by cases ad),fun m hm aF=>aF.2 hm⟩
 ·obtain⟨bl,us,el,g1,g2,g3⟩:=aG.box k cs U;exact⟨bl,us,el,g1,.inl g2,g3⟩
 ·obtain⟨v,us,g1,g2,g3,g4⟩:=aG.own g o di;exact⟨v,us,g1,g2,fun bl dd=>⟨.inl (g3 bl dd).1,(g3 bl dd).2⟩,g4⟩
 ·rw[ur];by_cases aM:i<args.length
  ·rw[cX Ω];have nk:args[i]? =some args[i]:=eo aM;obtain⟨v,ai,aK⟩:=vS i hr nk;have tY:aV[i]? =some v:=by simpa using ai
   show aw w ν _ (aV.getD i undef);rw[Array.getD_eq_getD_getElem?,tY];simpa[List.getD,nk]using aK
  ·rw[bT Ω];simp[aw]
theorem br.sem{P:bj}{f:FuncId}{args:List ae}{s:cr}{Q:ae->cr->Prop}(js:fK s)
  (h:∀(w:World) (ν:aA) (aV:Array Value) (gl:jc w ν),aV.size=args.length->bH ⟨w,ν,eg ν s,aV.size,dG s,gl,[]⟩ ⟨gC 0 args,s.b,s.e,0,dG s⟩ {tmps:=aV,defers:=[]} w ν->
   nO P f aV w fun e w'=> ∃v st' ca ν' r ah,e= .returned v/\bH ⟨w,ν,eg ν s,aV.size,dG s,gl,[]⟩ st' ca w' ν'/\aw w' ν' r v/\ej ah s.b/\ej ah s.e/\iG (au ah) ah.b st'.b/\iH (au ah) ah.e st'.e/\fK ah/\aB (au ah) r/\Q r ah):br P f args s Q:=by
 intro w ν aV gl aG ad hr;have hk:aV.size=args.length:=by simpa using tp hr
 have kf:=bH.start gl js aG ad hr;have hm:∀(e:Ending) (w':World),(∃v st' ca ν' r ah,e= .returned v/\bH ⟨w,ν,eg ν s,aV.size,dG s,gl,[]⟩ st' ca w' ν'/\aw w' ν' r v/\ej ah s.b/\ej ah s.e/\iG (au ah) ah.b st'.b/\iH (au ah) ah.e st'.e/\fK ah/\aB (au ah) r/\Q r ah)->
   ∃v r ah ν',e= .returned v/\Q r ah/\aw w' ν' r v/\Good (fun bl=>eg ν s bl\/w.heap.size<=bl) w' ν' ah.b ah.e/\kI ν' ah/\fK ah/\kx ⟨w,ν,eg ν s,0,dG s,gl,[]⟩ w' ν':=by
  rintro e w' ⟨v,st',ca,ν',r,ah,rfl,cn,zf,kb,ke,bY,cz,dV,cY,cc⟩;refine⟨v,r,ah,ν'.cut (au ah),rfl,cc,lT (je.cut _ w' ν') _ _ cY zf,cn.good.cut bY cz (fun bl h _=>h),?_,dV,?_⟩
  ·intro k;refine⟨?_,?_,?_⟩;rotate_left 2
   ·rintro j b ⟨af,aa⟩;obtain⟨t1,t2⟩:=cn.fr.trn k j b aa;rcases af with af|af<;>obtain⟨x,ju⟩:=dK.1 af
    ·obtain⟨bl,a1,el,ai,_⟩:=cn.good.box k x (bY k x ju).1;rw[t1]at ai;cases ai
    ·obtain⟨v',a1,ai,_⟩:=cn.good.own k x (cz k x ju).1;rw[t2]at ai;cases ai
   ·intro U;by_cases af:au ah k
    ·rw[aA.cut_bx af];rcases af with af|af
     ·rw[U]at af;cases af
     ·obtain⟨x,ju⟩:=dK.1 af;obtain⟨v',a1,ai,_⟩:=cn.good.own k x (cz k x ju).1;rcases cn.good.one k with I|I
      ·exact I
      ·rw[I]at ai;cases ai
    ·exact(aA.cut_no af).1
   ·intro U;by_cases af:au ah k
    ·rw[aA.cut_ow af];rcases af with af|af
     ·obtain⟨x,ju⟩:=dK.1 af;obtain⟨bl,a1,el,ai,_⟩:=cn.good.box k x (bY k x ju).1;rcases cn.good.one k with I|I
      ·rw[I]at ai;cases ai
      ·exact I
     ·rw[U]at af;cases af
    ·exact(aA.cut_no af).2.1
  ·refine⟨cn.fr.os,cn.fr.tape,cn.fr.output,cn.fr.size,cn.fr.block,cn.fr.keep,cn.fr.fresh,fun n b h=>?_,cn.fr.obn,fun m n u h=>?_,cn.fr.obr,fun k j aT dn b I J=>cn.fr.trd k j aT dn b I.2 J.2,fun k j b aa=>cn.fr.trb k j b aa.2,fun k j b aa=>(by rw[aA.cut_bx aa.1,aA.cut_ow aa.1];exact cn.fr.trn k j b aa.2),cn.fr.sh,fun j n u b ai aK=>cn.fr.nrow j n u b (aA.cut_someO ai).2 aK⟩
   ·have af:au ah (.obj n):=by
     cases ar:look (.obj n) s.b with
     |none=>rw[(ad _).1 ar]at h;cases h
     |some x=>exact sV kb _ (by simp[ar])
    rw[aA.cut_bx af];exact cn.fr.obj n b h
   ·have af:au ah (.obj m):=by
     cases ar:look (.obj m) s.e with
     |none=>rw[(ad _).2.1 ar]at h;cases h
     |some x=>exact sV ke _ (by simp[ar])
    rw[aA.cut_ow af];exact cn.fr.row m n u h
 rcases h w ν aV gl hk kf with⟨o8,al⟩|⟨v,w',al,pj⟩
 ·exact .inl ⟨o8,al.mono hm⟩
 ·exact .inr ⟨v,w',al,hm _ _ pj⟩
theorem bH.grown{C:c7}{st:aS}{a:Act}{w w':World}{ν:aA}(h:bH C st a w ν)(aG:w.grownBy w' none):bH C st a w' ν:=by
 have kM:hP w ν w' ν:=⟨fun b o aQ=>⟨aQ,BW aG (h.good.alt b o aQ)⟩,fun _ _ _ h=>h,fun _ n u _ h=>⟨n,u,h,.inl ⟨rfl,rfl⟩⟩,fun b o aQ=>pR (aG.block b (h.good.alt b o aQ) Ψ),fun _ _ _ _ h=>h⟩;refine h.over kM rfl ⟨fun b o aQ=>Nat.lt_of_lt_of_le (h.good.alt b o aQ) aG.size,fun k cs U=>?_,h.good.inj,fun g o di=>?_,h.good.oinj,h.good.obx,h.good.one,h.good.otr⟩
  ⟨aG.os.trans h.fr.os,aG.tape.trans h.fr.tape,aG.output.trans h.fr.output,Nat.le_trans h.fr.size aG.size,fun k U hm=>?_,fun b o aQ=>?_,h.fr.fresh,h.fr.obj,h.fr.obn,h.fr.row,h.fr.obr,h.fr.trd,fun k j b aa=>⟨(h.fr.trb k j b aa).1,Nat.lt_of_lt_of_le (h.fr.trb k j b aa).2 aG.size⟩,h.fr.trn,fun b o aQ=>(kM.sh b o (h.fr.keep b o aQ).1).trans (h.fr.sh b o aQ),h.fr.nrow⟩ h.new
 ·obtain⟨bl,us,el,g1,g2,g3,g4,g5⟩:=h.good.box k cs U;exact⟨bl,us,el,g1,g2,g3,by rw[aG.block bl (Array.getElem?_eq_some_iff.1 g4).1 Ψ];exact g4,jU kM g5⟩
 ·obtain⟨v,us,g1,g2,g3,g4⟩:=h.good.own g o di;exact⟨v,us,g1,g2.kept aG (by cases v.ownBlock<;>simp),g3,k0 kM (fun _ _ _ h=>h) g4⟩
 ·rw[aG.block k (Nat.lt_of_lt_of_le U h.fr.size) Ψ];exact h.fr.block k U hm
 ·obtain⟨cl,cy⟩:=h.fr.keep b o aQ;exact⟨cl,(kM.A b o cl).2.trans cy⟩
end
end Go.Pv
namespace Go.Proofs
section
open Go.Shelf
end
end Go.Proofs

namespace Go.Proofs.YtlnndmgfngfeiaaGreatDoor
section
open Go Go.Pv
end
end Go.Proofs.YtlnndmgfngfeiaaGreatDoor
namespace Go.Pv
section
open Go Go.RowKit
theorem bh.new{P:bj}{n:Nat}{args:List ae}{st:aS}{d:aW Nat}{K:aS->Prop}{s:cr}{Q:ae->cr->Prop}(aF:br P n args s Q)(af:dE s)(aa:∀k cs,look k s.b=some cs->look k st.b=some cs)(he:∀k o,look k s.e=some o->look k st.e=some o)
  (U:aD (au s) args) (h:∀r ah,Q r ah->(∀m,au ah (.obj m)->au s (.obj m)/\Same s ah\/ .obj m∉st.o)/\K ⟨dB d r st.t,ba s.b st.b++ah.b,ba s.e st.e++ah.e,st.n,st.o++dG ah⟩):bh P n args st d K:=by
 refine .inl ⟨s,Q,fun k cs al=>⟨aa k cs al,.inl (by simp[al]),af.kb k cs al⟩,fun k o ab=>⟨he k o ab,.inr (by simp[ab]),af.ke k o ab⟩,af.obj,U,aF,fun r ah bD=>?_⟩;obtain⟨I,J⟩:=h r ah bD;refine⟨⟨fun m hm=>?_,fun m hm=>?_⟩,J⟩
 ·rcases I m (.inl hm)with⟨_,aj⟩|aj
  ·exact .inl (by rw[aj.b];exact hm)
  ·exact .inr aj
 ·rcases I m (.inr hm)with⟨_,aj⟩|aj
  ·exact .inl (by rw[aj.e];exact hm)
  ·exact .inr aj
theorem b4.new{dI:List cm}{s:cr}{Q:ae->cr->Prop}{e:Exit}{st:aS}(ah:cr)(j8:e= .ret\/e= .normal)(af:dE ah)(ds:ej ah s.b/\ej ah s.e)(aa:∀k cs,look k ah.b=some cs->look k st.b=some cs)(nb:∀k o,look k ah.e=some o->look k st.e=some o)
  (h:cg st dI fun r=>aB (au ah) r/\Q r ah):b4 dI s Q e st:=by
 unfold cg at h;split at h
 ·rename_i c a8 hr;refine⟨j8,?_⟩;rw[hr];exact⟨h.1,ah,ds.1,ds.2,fun k cs b0=>⟨aa k cs b0,.inl (by simp[b0]),af.kb k cs b0⟩,fun k o ab=>⟨nb k o ab,.inr (by simp[ab]),af.ke k o ab⟩,af.obj,h.2.1,h.2.2⟩
 ·exact h.elim
@[simp]theorem Q0{P:bj}{ob:List av}{c d:C}{Q:Exit->aS->Prop}{st:aS}{s:Nat}:b5 P ob (.seq (.pub s c) d) Q st=nP P ob (.seq c d) Q (nz st s):=by simp only[b5];cases nz st s<;>rfl
end
end Go.Pv
namespace Go.Proofs.YtlnndmgfngfeiaaGreatDoor
section
open Go Go.Pv
def AJ(l:List Int):List ae:=pB (l.map fun x=>(x,.bool true))
@[simp]theorem Ql:AJ []=pB []:=rfl
@[simp]theorem Sj(l:List Int):fB (AJ l)=false:=rfl
def _root_.Go.Pv.T.fold{α:Type}(f:Int->α->α):T->α->α
 | .var n,a=>f n a
 | .pair x y,a=>y.fold f (x.fold f a)
 |_,a=>a
theorem KC{α:Type}(S:α->cr)(h8:∀a,dE (S a))(iU:∀a b,Same (S a) (S b))(g:Nat)(bX:List ae)(al:∀a,aD (au (S a)) bX)(dT:bR bX=bX)(f:Int->α->α)(aF:∀v a,br aI g (.int .i64 v::bX) (S a) fun r ah=>r= .tuple []/\ah=S (f v a))(t:T):
  ∀a,br aI 79 [t.e,.func g bX] (S a) fun r ah=>r= .tuple []/\ah=S (t.fold f a):=by
 have aU:∀a m,Pv.look (.loc m) (S a).b=none:=fun a=>(h8 a).obj.1;have hu:∀a m cs,bV (.loc m) cs (S a).b=(S a).b++[(.loc m,cs)]:=fun a m cs=>wh (aU a m);have ab:∀a m,av.loc m∉dG (S a):=fun a=>yM (h8 a).obj;induction t with
 |pair x y yx yy=>intro a;have af:=h8 a;refine br.mk mixed fs xi y6 Ψ af.obj fun bn cb=>?_;unfold tO;simp[hu,ab,fp,aU,dT];(with_reducible repeat' first|refine a6 ?_|simp[hu,ab,fp,aU]);refine bh.ob (yx a) af ak ak (by simp[al]) ?_;rintro r ah ⟨rfl,rfl⟩;refine⟨iU _ _,?_⟩;simp[k9,lY,ba,aU];(with_reducible repeat' first|refine a6 ?_|simp[hu,ab,fp,aU]);rw[dT];refine bh.ob (yy (x.fold f a)) (h8 (x.fold f a)) ak ak (by simp[al]) ?_;rintro r ah ⟨rfl,rfl⟩;refine⟨iU _ _,?_⟩;simp[k9,lY,ba,aU];refine b4.at (S (y.fold f (x.fold f a))) (.inr rfl) (h8 _) (iU _ _) ak ak ?_;simp[cg,vI,bq,bA,bp];simp[T.fold]
 |var n=>intro a;have af:=h8 a;refine br.mk mixed fs xi y6 Ψ af.obj fun bn cb=>?_;unfold tO;simp[hu,ab,fp,aU,dT];(with_reducible repeat' first|refine a6 ?_|simp[hu,ab,fp,aU]);refine bh.ob (aF n a) af ak ak (by simp[al]) ?_;rintro r ah ⟨rfl,rfl⟩;refine⟨iU _ _,?_⟩;simp[k9,lY,ba,aU,fp];refine b4.at (S (f n a)) (.inr rfl) (h8 _) (iU _ _) ak ak ?_;simp[cg,vI,bq,bA,bp];simp[T.fold]
 |_=>intro a;have af:=h8 a;refine br.mk mixed fs xi y6 Ψ af.obj fun bn cb=>?_;unfold tO;simp[hu,ab,fp,aU,dT];(with_reducible repeat' first|refine a6 ?_|simp[hu,ab,fp,aU]);refine b4.at (S a) (.inr rfl) af (Same.refl _) ak ak ?_;simp[cg,vI,bq,bA,bp];simp[T.fold]
def wN:C:=(ao [hf 1 0,cA 2 false] (.seq (.seq (.fz false 1 (.region [bm 6 1 1,cZ 7 78 6,eY 8 7])) (bK 8 (ao [cA 2 false] .ret) .skip)) (.seq (ao [bm 9 1 1,fC 10 9,dH 11 0] (oM 12 11 10 (.seq (.block 1 (ao [hc 13 5 9 11,ct 14 5 13,ea 4 kV,bZ 5 4 14] (ao [eT (.alloc 5 (some 731) (.bool false)),eT (.store 1 (.t 5) (.c (.bool true)))] (ao [lR 15 1 4 4,ct 16 4 15,bC 17 (.mkf 80 [.t 1,.t 5]),du 18 79 16 17] (ao [bm 19 1 5,eY 20 19,ag 21 20,bc 21 false (lR 22 1 4 4),bc 21 false (bB 23 0 1 22),bc 21 false (bm 24 1 23),bc 21 false (bI 25 .eql 24 1),cQ 21 false 26 25,bc 26 true (lR 27 1 4 4),bc 26 true (bB 28 1 1 27),bc 26 true (bm 29 1 28),bc 26 true (bB 30 0 1 4),bc 26 true (bm 31 1 30),bc 26 true (ek 32 .geq 29 31),bc 21 false (gp 33 26 32),eC 34 21 33] (bK 34 (ao [cA 2 false] .ret) .skip)))))) (.region [bI 35 .add 11 1,ag 11 35])))) (ao [cA 2 true] .ret))))
@[simp] def OV:List cm:=[.tmp 2]
def wO:C:=(ao [bm 4 1 1,ag 5 0,du 6 74 4 5,bI 7 .geq 6 0] (bK 7 (.region [eT (.store 1 (.t 2) (.c (.bool false)))]) .skip))
@[simp] def zg:List cm:=[]
def Bj:C:=(ao [cA 4 false] (.seq (ao [ag 11 0,fC 12 11,dH 13 0] (oM 14 13 12 (.seq (.block 1 (ao [hc 15 5 11 13,ct 16 5 15,ea 6 kV,bZ 5 6 16] (ao [ag 18 1,bB 19 0 1 6,bm 20 1 19,cZ 21 86 20,du 22 73 18 21,ag 17 22,en 23 0 17,en 24 1 17,ea 7 cp,bZ 4 7 23,ag 8 24] (ao [ag 26 1,lR 27 1 4 6,ct 28 4 27,du 29 73 26 28,ag 25 29,en 30 0 25,en 31 1 25,ea 9 cp,bZ 4 9 30,ag 10 31] (ao [ag 32 8,eY 33 32,ag 34 33,cQ 34 false 35 10,bc 34 false (eY 36 35),eC 37 34 36,ag 38 37,bc 38 false (ct 39 4 7),bc 38 false (ct 40 4 9),bc 38 false (du 41 151 39 40),bc 38 false (eY 42 41),eC 43 38 42] (bK 43 (ao [cA 4 false] .ret) .skip)))))) (.region [bI 44 .add 13 1,ag 13 44])))) (ao [cA 4 true] .ret)))
@[simp] def zh:List cm:=[.tmp 4]
def wg:List (Nat×cw):=[
 (3,⟨1,8,.int .i64,.int .i64 0⟩),
 (4,⟨1,1,.bool,.bool false⟩),
 (36,⟨1,24,.slice 120,.slice 5 .nil []⟩),
 (40,⟨4,56,.struct [(0,3),(1,3),(2,9),(3,38)],.agg [.int .i64 0,.int .i64 0,.str [],.slice 4 .nil []]⟩),
 (120,⟨5,64,.struct [(0,3),(1,40)],.agg [.int .i64 0,.int .i64 0,.int .i64 0,.str [],.slice 4 .nil []]⟩)]
theorem tB:eD aI wg=true:=by kernel_rfl
theorem EF:cM wg wN OV 1 Tryz.f20=true:=by kernel_rfl
theorem Cl:aI.funcs[(20:Nat)]? =some Tryz.f20:=Tryz.func20
theorem EG:cM wg wO zg 3 Tryz.f80=true:=by kernel_rfl
theorem Cm:aI.funcs[(80:Nat)]? =some Tryz.f80:=Tryz.func80
theorem NZ:cM wg Bj zh 2 Tryz.f81=true:=by kernel_rfl
theorem JK:aI.funcs[(81:Nat)]? =some Tryz.f81:=Tryz.func81
theorem yQ{α β:Type}(k:av):∀{l:List (av×α)} {eA:List (av×β)},l.map (·.1)=eA.map (·.1)->(Pv.look k l).isSome=(Pv.look k eA).isSome
 |[],[],_=>rfl
 |[],_::_,h=>by simp at h
 |_::_,[],h=>by simp at h
 |(i,x)::r,(j,y)::dW,h=>by
  simp only[eU,tG]at h;simp only[Pv.look];obtain⟨rfl,h⟩:=h;split
  ·rfl
  ·exact yQ k h
theorem _root_.Go.Pv.Same.keys{s ah:cr}(aa:s.b.map (·.1)=ah.b.map (·.1))(he:s.e.map (·.1)=ah.e.map (·.1)):Same s ah:=⟨fun k=>yQ k aa,fun k=>yQ k he⟩
end
end Go.Proofs.YtlnndmgfngfeiaaGreatDoor
namespace Go.Pv
section
open Go Go.RowKit
def sU(t:List (Nat×ae))(bo:List Nat):List (Nat×ae):=bo.map fun k=>(k,get k t)
@[simp]theorem RM(t:List (Nat×ae)):sU t []=[]:=rfl
@[simp]theorem RL(t:List (Nat×ae))(k:Nat)(bo:List Nat):sU t (k::bo)=(k,get k t)::sU t bo:=rfl
def nx(st:aS)(bo:List Nat)(cs:List (Nat×ae)):aS:=⟨sU st.t bo++cs,st.b,st.e,st.n,st.o⟩
theorem Nl(t:List (Nat×ae))(b:List (av×List ae))(e:List (av×cC))(n:Nat)(o:List av)(bo:List Nat)(cs:List (Nat×ae)):nx ⟨t,b,e,n,o⟩ bo cs=⟨sU t bo++cs,b,e,n,o⟩:=rfl
def p8{α:Type}(S:Nat->α->aS)(n:Nat)(fH:Nat->α->Prop)(k:Nat)(st:aS):Prop:= ∃i a,i<=n/\k=n-i/\fH i a/\st=S i a
section
variable {P:bj} {ob:List av} {st:aS} {Q:Exit->aS->Prop} {c:C} {α:Type}
theorem oW(S:Nat->α->aS)(n:Nat)(fH:Nat->α->Prop)(a0:α)(hw:hQ ob st (S 0 a0))(ck:fH 0 a0)(j9:∀a,fH n a->(∀i,kB (get i (S n a).t))->b5 P ob c (dD ob (p8 S n fH) 0 Q) (S n a))
  (kP:∀i a,i<n->fH i a->(∀j,kB (get j (S i a).t))->b5 P ob c (dD ob (p8 S n fH) (n-i) Q) (S i a)):b5 P ob (.loop c) Q st:=by
 refine nZ (p8 S n fH) n _ hw ⟨0,a0,Ω,Ω,ck,rfl⟩ ?_;rintro k s ⟨i,a,aM,rfl,aC,rfl⟩ aa _;rcases Nat.lt_or_ge i n with h|h
 ·exact kP i a h aC aa
 ·obtain rfl:i=n:=Ω
  rw[Nat.sub_self];exact j9 a aC aa
theorem dD.rng{S:Nat->α->aS}{n:Nat}{fH:Nat->α->Prop}{i:Nat}(ca:α)(aM:i<n)(aC:fH (i+1) ca)(hw:hQ ob st (S (i+1) ca)):dD ob (p8 S n fH) (n-i) Q .normal st:=⟨n-(i+1),_,Ω,hw,i+1,ca,Ω,rfl,aC,rfl⟩
def wx{α:Type}(S:α->aS)(μ:α->Nat)(fH:α->Prop)(k:Nat)(st:aS):Prop:= ∃a,k=μ a/\fH a/\st=S a
theorem kH(S:α->aS)(μ:α->Nat)(fH:α->Prop)(a0:α)(hw:hQ ob st (S a0))(ck:fH a0)
  (kP:∀a,fH a->(∀j,kB (get j (S a).t))->b5 P ob c (dD ob (wx S μ fH) (μ a) Q) (S a)):b5 P ob (.loop c) Q st:=by
 refine nZ (wx S μ fH) (μ a0) _ hw ⟨a0,rfl,ck,rfl⟩ ?_;rintro k s ⟨a,rfl,aC,rfl⟩ aa _;exact kP a aC aa
theorem dD.whl{S:α->aS}{μ:α->Nat}{fH:α->Prop}{k:Nat}(ca:α)(hm:μ ca<k)(aC:fH ca)(hw:hQ ob st (S ca)):dD ob (wx S μ fH) k Q .normal st:=⟨μ ca,_,hm,hw,ca,rfl,aC,rfl⟩
end
end
section
open Go Go.RowKit
section
variable {α:Type}
end
end
section
open Go Go.RowKit
section
variable {P:bj} {ob:List av} {st:aS} {Q:Exit->aS->Prop} {c:C} {α:Type}
theorem IZ(bo:List Nat)(cs:Nat->α->List (Nat×ae))(n:Nat)(fH:Nat->α->Prop)(a0:α)(hw:hQ ob st (nx st bo (cs 0 a0)))(ck:fH 0 a0)(j9:∀a,fH n a->(∀i,kB (get i (nx st bo (cs n a)).t))->b5 P ob c (dD ob (p8 (fun i a=>nx st bo (cs i a)) n fH) 0 Q) (nx st bo (cs n a)))
  (kP:∀i a,i<n->fH i a->(∀j,kB (get j (nx st bo (cs i a)).t))->b5 P ob c (dD ob (p8 (fun i a=>nx st bo (cs i a)) n fH) (n-i) Q) (nx st bo (cs i a))):b5 P ob (.loop c) Q st:=
 oW (fun i a=>nx st bo (cs i a)) n fH a0 hw ck j9 kP
end
attribute [simp] Nl
end
end Go.Pv
namespace Go.Proofs.YtlnndmgfngfeiaaGreatDoor
section
open Go Go.Pv
theorem Pu:∀{a b:T},a.tm=b.tm->a=b:=by
 intro a;induction a with
 |pair x y yx yy=>intro b h;cases b<;>simp[T.tm]at h;rw[yx h.1,yy h.2]
 |_=>intro b h;cases b<;>simp[T.tm]at h⊢ <;>exact h
def G8(l:List ef):Prop:= ∃s:List aN,l=s.map aN.b/\pI s/\gU s/\p7 s
def Az(l:List ef):Prop:= ∃s:List aN,l=s.map aN.b/\pI s/\nR s/\p7 s
theorem AT:∀{l:List ef},(∀b∈l,b.t.fits=true)->∃s:List aN,l=s.map aN.b/\qn s
 |[],_=>⟨[],rfl,fun b aa=>by simp at aa⟩
 |b::l,h=>by
  obtain⟨s,I,J⟩:=AT (l:=l) fun c al=>h c (by simp[al]);obtain⟨x,aj,aO⟩:=cL.fits_ex (h b Ψ);refine⟨⟨b.v,x⟩::s,by rw[I];simp[aN.b,aj],fun c al=>?_⟩;rcases ft.1 al with rfl|al
  ·exact aO
  ·exact J c al
theorem GB{l:List ef}:wD l↔G8 l:=by
 constructor
 ·rintro⟨I,J⟩;obtain⟨s,rfl,xU⟩:=AT (l:=l) fun b aa=>by obtain⟨i,aM,e⟩:=List.getElem_of_mem aa;exact(J i aM b (by rw[eo aM,e])).2.2
  have Dg:∀b∈s,b.t.ok=true/\b.t.size<=5000:=fun b aa=>by have:=xU b aa;simpa[T.fit]using this
  refine⟨s,rfl,fun b aa=>⟨?_,(Dg b aa).1⟩,?_,by simpa using I,fun b aa=>(Dg b aa).2⟩
  ·obtain⟨i,aM,e⟩:=List.getElem_of_mem aa;have:=(J i (by simpa using aM) b.b (by simp[eo aM,e])).1;exact this
  ·rw[gU,List.pairwise_iff_getElem];have kP:∀i (h:i+1<s.length),s[i].v<s[i+1].v:=fun i h=>by have:=(J (i+1) (by simpa using h) s[i+1].b (by simp[eo h])).2.1 s[i].b Ω (by simp[eo (show i<s.length by omega)]);exact this
   have:∀(d i:Nat) (h:i+d+1<s.length),s[i].v<s[i+d+1].v:=by
    intro d;induction d with
    |zero=>intro i h;exact kP i h
    |succ d bz=>intro i h;have bk:=bz i Ω;have a2:=kP (i+d+1) Ω;simp only[Nat.add_assoc]at bk a2⊢;omega
   intro i j aM aC qC;have:=this (j-i-1) i Ω;simpa[show i+(j-i-1)+1=j from by omega]using this
 ·rintro⟨s,rfl,ab,bE,aF⟩;refine⟨by simpa using aF.1,fun i aM b aa=>?_⟩;simp only[List.getElem?_map,hv]at aa;obtain⟨c,al,rfl⟩:=aa;have hm:=List.mem_of_getElem? al;refine⟨(ab c hm).1,fun d ck aY=>?_,?_⟩
  ·simp only[List.getElem?_map,hv]at aY;obtain⟨e,he,rfl⟩:=aY;obtain⟨I,ai⟩:=fG.1 he;obtain⟨J,aK⟩:=fG.1 al;have:=List.pairwise_iff_getElem.1 bE (i-1) i I J Ω;rw[ai,aK]at this;exact this
  ·show c.t.tm.fits=true;rw[cL.fits_T];simp[T.fit,(ab c hm).2,aF.2 c hm]
def nW(s:List aN)(v:Int)(f:Bool):Bool:=if 0<=iN s v then false else f
def l8(s:List aN)(b:aN):Bool:=b.t.fold (nW s) true&& !(b.t.kind==1&&decide (b.v<=b.t.int))
theorem Kn{s:List aN}(bE:gU s)(t:T):∀f:Bool,t.fold (nW s) f=true↔f=true/\∀w,t.occ w=true->eJ s w=none:=by
 induction t with
 |var n=>
  intro f;simp only[T.fold,T.occ,cI,nW];have:=Cz bE n;by_cases h:0<=iN s n
  ·rw[cX h];constructor
   ·intro h;cases h
   ·rintro⟨_,J⟩;have:=this.2 (J n rfl);omega
  ·rw[bT h];exact⟨fun aF=>⟨aF,fun w hw=>by subst hw;exact this.1 Ω⟩,fun h=>h.1⟩
 |pair a b gY gZ=>
  intro f;simp only[T.fold,gY,gZ,T.occ,Bool.or_eq_true];constructor
  ·rintro⟨⟨I,J⟩,aj⟩;exact⟨I,fun w hw=>hw.elim (J w) (aj w)⟩
  ·rintro⟨I,J⟩;exact⟨⟨I,fun w hw=>J w (.inl hw)⟩,fun w hw=>J w (.inr hw)⟩
 |_=>intro f;simp[T.fold,T.occ]
theorem wH{s:List aN}(bE:gU s)(b:aN):l8 s b=true↔(∀w,b.t.occ w=true->eJ s w=none)/\∀w,b.t= .var w->w<b.v:=by
 unfold l8;rw[bt,Kn bE];simp only[true_and];refine and_congr_right fun _=>?_;constructor
 ·intro h w hw;have U:(b.t.kind==1)=true:=by rw[hw];rfl
  have aM:b.t.int=w:=by rw[hw];rfl
  rw[U,aM]at h;simpa using h
 ·intro h;cases U:(b.t.kind==1)with
  |false=>rfl
  |true=>
   obtain⟨w,hw⟩:∃w,b.t= .var w:=by
    cases e:b.t with
    |var w=>exact⟨w,rfl⟩
    |_=>rw[e]at U;simp at U
   have aM:b.t.int=w:=by rw[hw];rfl
   have:=h w hw;rw[aM];simpa using this
theorem Ph{s:List aN}(bE:gU s):nR s↔∀b∈s,l8 s b=true:=by
 constructor
 ·intro h b aa;exact(wH bE b).2 ⟨h.free b aa,h.ori b aa⟩
 ·intro h;exact⟨bE,fun b aa=>((wH bE b).1 (h b aa)).1,fun b aa=>((wH bE b).1 (h b aa)).2⟩
def sS{α:Type}(p:α->Bool)(s:List α)(i:Nat)(_:Unit):Prop:= ∀k b,k<i->s[k]? =some b->p b=true
theorem sS.step{α:Type}{p:α->Bool}{s:List α}{i:Nat}(h:sS p s i ()){b:α}(aa:s[i]? =some b)(be:p b=true):sS p s (i+1) ():=fun k c U al=>by
 rcases(by omega:k<i\/k=i)with I|rfl
 ·exact h k c I al
 ·rw[aa]at al;cases al;exact be
open Classical in
noncomputable def rl(l:List ef):Bool:=decide (Az l)
theorem F6{l:List ef}:rl l=true↔Az l:=by unfold rl;simp
def fu(f:Bool):cr:=⟨[(.obj 731,[.bool f])],[]⟩
theorem nQ(f:Bool):dE (fu f):=by unfold fu;exact dE.of ⟨by intro m;simp[Pv.look],by intro m;simp[Pv.look]⟩ Ψ Ψ
theorem G4(a b:Bool):Same (fu a) (fu b):=Same.keys (by simp[fu]) (by simp[fu])
theorem Kw(s:List aN)(ar:s.length<=1000000)(v:Int)(f:Bool):br aI 80 [.int .i64 v,.eptr (.slice 5 .no (s.map aN.e)),.ptr (.obj 731) 0] (fu f) fun r ah=>r= .tuple []/\ah=fu (nW s v f):=by
 have af:=nQ f;simp only[fu]at af⊢;by_cases h:0<=iN s v
 ·rw[nW,cX h];refine br.mk mixed tB Cm EG Ψ af.obj fun bn cb=>?_;unfold wO;simp;(with_reducible repeat' first|refine a6 ?_|refine b8 (pW s v ar) ?_|refine b9 (pW s v ar) ?_|simp[h]);(refine b4.at (fu false) Ψ (by first|exact nQ _|exact nQ ‹_› _) (Same.keys (by simp[fu]) (by simp[fu])) (by simp only[fu,cN,dx];exact ak) (by simp only[fu,cN,dx];exact ak) ?_;simp[cg,zg,bq,bA,bp,au,Pv.look,fu])
 ·rw[nW,bT h];refine br.mk mixed tB Cm EG Ψ af.obj fun bn cb=>?_;unfold wO;simp;(with_reducible repeat' first|refine a6 ?_|refine b8 (pW s v ar) ?_|refine b9 (pW s v ar) ?_|simp[h]);(refine b4.at (fu f) Ψ (by first|exact nQ _|exact nQ ‹_› _) (Same.keys (by simp[fu]) (by simp[fu])) (by simp only[fu,cN,dx];exact ak) (by simp only[fu,cN,dx];exact ak) ?_;simp[cg,zg,bq,bA,bp,au,Pv.look,fu])
theorem PL(l:List ef):c8 aI 20 [.slice 5 .no (l.map ef.e)] (.bool (rl l)):=by
 have aH:=PN l;by_cases h:wD l;rotate_left
 ·have ck:rl l=false:=by unfold rl;simp only[decide_eq_false_iff_not];rintro⟨s,I,J,aj,aO⟩;exact h (GB.2 ⟨s,I,J,aj.asc,aO⟩)
  rw[ck];refine dS tB Cl EF fun bn=>?_;unfold wN;exact ij
 ·obtain⟨s,rfl,ab,bE,aF⟩:=GB.1 h;have ar:s.length<=1000000:=by have:=aF.1;omega
  have ai:(s.map aN.b).map ef.e=s.map aN.e:=by rw[List.map_map];exact List.map_congr_left fun b _=>aN.b_e b
  have ck:rl (s.map aN.b)=s.all (l8 s):=by
   rw[Bool.eq_iff_iff,ld,F6,<-Ph bE];constructor
   ·rintro⟨ah,I,J,aj,aO⟩;have:ah=s:=by
     have x3:∀a b:List aN,a.map aN.b=b.map aN.b->a=b:=by
      intro a;induction a with
      |nil=>intro b aa;cases b<;>simp at aa⊢
      |cons x a bz=>
       intro b aa;cases b with
       |nil=>simp at aa
       |cons y b=>simp only[eU,tG,aN.b,ef.mk.injEq]at aa;rw[bz b aa.2];have:=Pu aa.1.2;obtain⟨⟨iO,_⟩,_⟩:=aa;cases x;cases y;simp_all
     exact(x3 _ _ I).symm
    rw[<-this];exact aj
   ·intro aj;exact⟨s,rfl,ab,aj,aF⟩
  rw[ck];rw[ai]at aH⊢;refine dS tB Cl EF fun bn=>?_;unfold wN;simp;((with_reducible repeat' first|refine a6 ?_|refine b8 aH ?_|refine b9 aH ?_|simp[h]|((first|apply dz|apply dN|apply dM)<;>intro h<;>try simp at h))<;>(try exact iJ));refine oW (α:=Unit) (fun i _=>⟨[(1,.eptr (.slice 5 .no (s.map aN.e))),(9,.slice 5 .no (s.map aN.e)),(10,.int .i64 s.length),(11,.int .i64 i)],[],[],1,[]⟩) s.length (sS (l8 s) s) () gE (fun k b U=>Ω) (fun _ aC _=>?_) (fun i _ aM aC _=>?_)
  ·have:s.all (l8 s)=true:=by rw[ld];intro b aa;obtain⟨k,U,e⟩:=List.getElem_of_mem aa;exact aC k b U (by rw[eo U,e])
   rw[this];exact ij
  ·obtain⟨b,sL⟩:∃b,s[i]? =some b:=⟨_,eo aM⟩;have fm:∀h,(s[i]'h)=b:=fun h=>by rw[eo aM]at sL;exact p3 sL
   have key:=KC fu nQ G4 80 [.eptr (.slice 5 .no (s.map aN.e)),.ptr (.obj 731) 0] (fun a=>by simp[fu,au,Pv.look]) Ψ (nW s) (fun v a=>Kw s ar v a) b.t true;have lx:l8 s b=false->s.all (l8 s)=false:=fun h=>by rw[Bool.eq_false_iff];intro b3;rw[ld]at b3;rw[b3 b (List.mem_of_getElem? sL)]at h;cases h
   simp[aM,fm];(with_reducible repeat' first|refine a6 ?_|simp[fm,aM]);(refine bh.ob (key) (by first|exact nQ _|exact nQ ‹_› _) (by simp only[fu,cN,dx];exact ak) (by simp only[fu,cN,dx];exact ak) (by simp[au,Pv.look,fu]) ?_;rintro r ah ⟨rfl,rfl⟩;refine⟨(Same.keys (by simp[fu]) (by simp[fu])),?_⟩;simp[ba,fu]);generalize Ls:b.t.fold (nW s) true=mj;have uD:l8 s b=(mj&& !(b.t.kind==1&&decide (b.v<=b.t.int))):=by unfold l8;rw[Ls]
   cases mj with
   |false=>rw[lx (by rw[uD];rfl)];exact ij
   |true=>
    cases U:(b.t.kind==1)with
    |false=>(with_reducible repeat' first|refine a6 ?_|simp[U]);refine dD.rng () aM (aC.step sL (by rw[uD,U];rfl)) ?_;exact gE
    |true=>
     by_cases hle:b.v<=b.t.int
     ·rw[lx (by rw[uD,U];simp[hle])];exact ij
     ·(with_reducible repeat' first|refine a6 ?_|simp[U,hle]);refine dD.rng () aM (aC.step sL (by rw[uD,U];simp[hle])) ?_;exact gE
end
section
end
section
open Go Go.Pv
structure jz (s:List aN):Prop where
 ok:pI s
 sol:nR s
 fits:p7 s
theorem jz.len{s:List aN}(h:jz s):s.length<=1000000:=by have:=h.fits.1;omega
theorem jz.fit{s:List aN}(h:jz s):qn s:=fun b aa=>by simp[T.fit,(h.ok b aa).2,h.fits.2 b aa]
theorem Nh(s:List aN):(s.map aN.b).map ef.e=s.map aN.e:=by rw[List.map_map];exact List.map_congr_left fun b _=>aN.b_e b
theorem nN{s:List aN}(h:jz s):c8 aI 20 [.slice 5 .no (s.map aN.e)] (.bool true):=by have:=PL (s.map aN.b);rw[Nh,F6.2 ⟨s,rfl,h.ok,h.sol,h.fits⟩]at this;exact this
end
end Go.Proofs.YtlnndmgfngfeiaaGreatDoor
namespace Go.Pv
section
open Go Go.RowKit
end
end Go.Pv
namespace Go.Pv
open Go Go.RowKit
theorem Ko(w:World)(a:Addr)(n:Nat):(w.freeze a n).os=w.os/\(w.freeze a n).tape=w.tape/\(w.freeze a n).output=w.output/\(w.freeze a n).heap.size=w.heap.size/\∀j,j≠a.block->(w.freeze a n).heap[j]? =w.heap[j]?:=by
 unfold World.freeze;split
 ·exact⟨rfl,rfl,rfl,rfl,fun _ _=>rfl⟩
 ·exact⟨rfl,rfl,rfl,Ψ,fun j aC=>by simp only[Array.getElem?_modify];rw[bT (Ne.symm aC)]⟩
theorem bH.dropRow{C:c7}{st:aS}{a:Act}{w w':World}{ν:aA}(h:bH C st a w ν){g:av}{o:cC}(aG:look g st.e=some o){xs:List ae}(ad:o.xs=some xs){n:Nat}{v:Value}(aH:ν.ow g=some (n,v)){bl:Nat}(dd:v.ownBlock=some bl)
  (og:w'.os=w.os) (sJ:w'.tape=w.tape) (lD:w'.output=w.output) (gM:∀j,j≠bl->w'.heap[j]? =w.heap[j]?) (dt:w'.heap.size=w.heap.size):bH C {st with e:=ba [(g,o)] st.e} a w' ν:=by
 obtain⟨v0,us,bY,cz,dV,cY⟩:=h.good.own g o aG;rw[aH]at bY;simp only[cR,fQ]at bY;obtain⟨zf,rfl⟩:=bY;obtain⟨_,_,uT⟩:=cY xs ad;have aQ:∀b o,ν.A b o->b≠bl:=fun b o aQ e=>uT bl dd o (e▸aQ);have ab:hP w ν w' ν:=⟨fun b o na=>⟨na,World.cell?_of_block (gM b (aQ b o na))⟩,fun _ _ _ h=>h,fun g n u _ aG=>⟨n,u,aG,.inl ⟨rfl,rfl⟩⟩,fun b o na=>pR (gM b (aQ b o na)),fun _ _ _ _ h=>h⟩;have ar:∀k p,look k (ba [(g,o)] st.e)=some p->k≠g/\look k st.e=some p:=by
  intro k p U;rw[mz]at U;by_cases e:g=k
  ·subst e;simp[look]at U
  ·simp[look,e]at U;exact⟨Ne.symm e,U⟩
 have uR:∀k,(look k (ba [(g,o)] st.e)).isSome->k≠g/\(look k st.e).isSome:=by intro k U;obtain⟨p,be⟩:=dK.1 U;exact⟨(ar k p be).1,by simp[(ar k p be).2]⟩
 refine h.over ab rfl ⟨fun b o aa=>by rw[dt];exact h.good.alt b o aa,fun k cs U=>?_,h.good.inj,fun k p U=>?_,fun k aT n n' u dq b I J=>h.good.oinj k aT n n' u dq b (uR k I).2 (uR aT J).2,fun k j n u b I J=>h.good.obx k j n u b (uR k I).2 J,h.good.one,fun b aa=>h.good.otr b (aa.imp id fun⟨k,n,u,I,J⟩=>⟨k,n,u,(uR k I).2,J⟩)⟩
  ⟨og.trans h.fr.os,sJ.trans h.fr.tape,lD.trans h.fr.output,by rw[dt];exact h.fr.size,fun k U hm=>?_,fun b o na=>?_,h.fr.fresh,h.fr.obj,h.fr.obn,h.fr.row,h.fr.obr,h.fr.trd,fun k j b aa=>⟨(h.fr.trb k j b aa).1,by rw[dt];exact(h.fr.trb k j b aa).2⟩,h.fr.trn,fun b o na=>(ab.sh b o (h.fr.keep b o na).1).trans (h.fr.sh b o na),h.fr.nrow⟩ h.new
 ·obtain⟨b,a1,el,g1,g2,g3,g4,g5⟩:=h.good.box k cs U;refine⟨b,a1,el,g1,g2,g3,?_,jU ab g5⟩;rw[gM b fun e=>h.good.obx g k n v b (by simp[aG]) (by simp[U]) aH (by rw[e];exact dd) g1];exact g4
 ·obtain⟨cD,e5⟩:=ar k p U;obtain⟨u,a1,ai,aK,bu,cP⟩:=h.good.own k p e5;refine⟨u,a1,ai,⟨aK.1,?_⟩,bu,k0 ab (fun _ _ _ h=>h) cP⟩;rcases aK.2 with aK|⟨e1,cap,cur,f1,f2,f3,f4⟩
  ·exact .inl aK
  ·refine .inr ⟨e1,cap,cur,f1,f2,?_,f4⟩;rw[gM e1 fun e=>cD (h.good.oinj k g _ _ _ _ bl (by simp[e5]) (by simp[aG]) ai aH (by rw[f1,<-e];rfl) dd)];exact f3
 ·have be:=(dV bl dd).1;rw[gM k fun e=>by subst e;exact be.elim hm (fun J=>Ω)];exact h.fr.block k U hm
 ·obtain⟨cl,cy⟩:=h.fr.keep b o na;exact⟨cl,(ab.A b o cl).2.trans cy⟩
theorem FF{w:World}{ν:aA}:∀{l:List aX} {us:List Value},bN w ν 1 (dZ l) us->us=Lib.byteCells l
 |[],us,h=>by simpa[dZ,bN,Lib.byteCells]using h
 |x::xs,us,h=>by simp only[dZ,eU,bN]at h;obtain⟨u,a1,rfl,⟨I,_,_⟩,J⟩:=h;simp only[aw]at I;subst I;have:=FF (l:=xs) J;rw[this];simp[Lib.byteCells,h3]
end Go.Pv
namespace Go.Proofs
open Go.Shelf Go.RowKit
variable {P:bj} {hg:Ren}
set_option maxRecDepth 100000 in
theorem Any.Builder_String_ex(L:Lays.n169 P hg)(X:Builder.Extra P hg)(b:Nat)(l:List aX)(w:World)(ck:l≠[])(p:Value)(g cap:Nat)(cur:Array Value)(K8:w.heap[b]? =some (.cells #[p,.slice (some ⟨g,0,none⟩) l.length cap] (hg.t 72) (0,0)))
  (gN:w.ownsRow 0 (hg.t 5) 1 (.slice (some ⟨g,0,none⟩) l.length cap) l.length (Lib.byteCells l)) (aG:w.heap[g]? =some (.cells cur (hg.t 5) (0,0))) (lz:l.length<=cap) (qx:cap<=maxLen) (Db:cur.size=cap*1):
  Calls P (hg.f 169) #[.pointer (some ⟨b,0,none⟩)] w fun e w'=>e= .returned (.string ⟨l.toArray⟩)/\w'=w.drew.freeze ⟨g,0,none⟩ l.length:=by
 have uO:l.length≠0:=by simpa using ck
 have cO:w.drew.cell? ⟨b,1,none⟩=some (.slice (some ⟨g,0,none⟩) l.length cap):=by have:w.drew.heap[b]? =some (.cells #[p,.slice (some ⟨g,0,none⟩) l.length cap] (hg.t 72) (0,0)):=K8;rw[Lib.cell_of_heap this];rfl
 have Rf:(Builtin.unsafeSliceData_ #[(hg.t 37)] (hg.t 127) #[.slice (some ⟨g,0,none⟩) l.length cap]).run P w.drew= .ok (.pointer (some ⟨g,0,none⟩)) w.drew:=Lib.run_unsafeSliceData_row _ _ _ _ _ _ Ω
 have Rg:(Builtin.unsafeString_ #[(hg.t 127),(hg.t 3)] (hg.t 9) #[.pointer (some ⟨g,0,none⟩),.int .i64 l.length]).run P w.drew= .ok (.string ⟨l.toArray⟩) (w.drew.freeze ⟨g,0,none⟩ l.length):=by refine Lib.run_unsafeString_row w.drew (hg.t 127) (hg.t 3) (hg.t 9) (hg.t 5) L.t127 X.cellsByte g cur.size (by have Lv:w.drew.heap[g]? =some (.cells cur (hg.t 5) (0,0)):=aG;simp[World.shape?,Lv]) l ck Ω (by unfold maxLen at qx;omega) ?_;intro j x ad;have:=gN.cells (g:=g) rfl j (.int .u8 x.toNat) (by simp[Lib.byteCells,ad]);exact this
 have mixed:=L.mixed;have t72:=L.t72;have a72:=L.a72;have z72:=L.z72;have v72:=L.v72;have S3:=run_underlying L.t72;have t70:=L.t70;have a70:=L.a70;have z70:=L.z70;have v70:=L.v70;have S2:=run_underlying L.t70;have t37:=L.t37;have a37:=L.a37;have z37:=L.z37;have v37:=L.v37;have S0:=run_underlying L.t37;have t127:=L.t127;have a127:=L.a127;have z127:=L.z127;have v127:=L.v127;have SY:=run_underlying L.t127;have t3:=L.t3;have a3:=L.a3;have z3:=L.z3;have v3:=L.v3;have SZ:=run_underlying L.t3;have t9:=L.t9;have a9:=L.a9;have z9:=L.z9;have v9:=L.v9;have S4:=run_underlying L.t9;have t5:=X.t5;have a5:=X.a5;have z5:=X.z5;have v5:=X.v5;have S1:=run_underlying X.t5;go_enter L.f169,Body.n169_ntmps hg;go_wp2;go_region_o;all_goals(go_wp2;go_ret;exact⟨rfl,rfl⟩)
end Go.Proofs
namespace Go.Proofs
section
open Go.Shelf
def Tryz.lays169_ren:Go.Shelf.Ren:=⟨fun|169=>66|n=>n,fun|70=>104|9=>9|0=>0|72=>106|37=>35|127=>181|3=>3|5=>5|n=>n,fun|n=>n⟩
theorem Tryz.lays169:Go.Proofs.Lays.n169 aI Tryz.lays169_ren:={
 mixed:=by kernel_rfl
 f169:=Tryz.func66.trans (cB some (by kernel_rfl))
 t0:=Tryz.underlying0
 a0:=Tryz.isAgg0
 z0:=Tryz.sizeOf0
 v0:=Tryz.zeroValue0
 t3:=Tryz.underlying3
 a3:=Tryz.isAgg3
 z3:=Tryz.sizeOf3
 v3:=Tryz.zeroValue3
 t9:=Tryz.underlying9
 a9:=Tryz.isAgg9
 z9:=Tryz.sizeOf9
 v9:=Tryz.zeroValue9
 t37:=Tryz.underlying35
 a37:=Tryz.isAgg35
 z37:=Tryz.sizeOf35
 v37:=Tryz.zeroValue35
 t70:=Tryz.underlying104
 a70:=Tryz.isAgg104
 z70:=Tryz.sizeOf104
 v70:=Tryz.zeroValue104
 t72:=Tryz.underlying106
 a72:=Tryz.isAgg106
 z72:=Tryz.sizeOf106
 v72:=Tryz.zeroValue106
 t127:=Tryz.underlying181
 a127:=Tryz.isAgg181
 z127:=Tryz.sizeOf181
 v127:=Tryz.zeroValue181}
theorem Tryz.builderE:Builder.Extra aI Tryz.lays169_ren:={
 sizeBuilder:=by kernel_rfl
 liesBuilder:=by kernel_rfl
 t5:=Tryz.underlying5
 a5:=Tryz.isAgg5
 z5:=Tryz.sizeOf5
 v5:=Tryz.zeroValue5
 infoByte:=by kernel_rfl
 cellsByte:=by kernel_rfl
 sizeByte:=by kernel_rfl
 neB5:=by decide}
def Tryz.laysM171_ren:Go.Shelf.Ren:=⟨fun|171=>136|243=>192|246=>229|283=>261|284=>262|285=>263|286=>264|129=>241|317=>278|318=>279|319=>280|320=>281|337=>296|338=>297|n=>n,fun|3=>3|9=>9|2=>2|4=>4|171=>284|0=>0|53=>267|37=>35|5=>5|173=>286|212=>302|51=>265|20=>20|213=>303|46=>209|232=>326|233=>327|n=>n,fun|17=>0|18=>3|19=>4|n=>n⟩
theorem Tryz.laysM171:Go.Proofs.LaysM.n171 aI Tryz.laysM171_ren:={
 mixed:=by kernel_rfl
 f129:=Tryz.func241.trans (cB some (by kernel_rfl))
 f171:=Tryz.func136.trans (cB some (by kernel_rfl))
 f243:=Tryz.func192.trans (cB some (by kernel_rfl))
 f246:=Tryz.func229.trans (cB some (by kernel_rfl))
 f283:=Tryz.func261.trans (cB some (by kernel_rfl))
 f284:=Tryz.func262.trans (cB some (by kernel_rfl))
 f285:=Tryz.func263.trans (cB some (by kernel_rfl))
 f286:=Tryz.func264.trans (cB some (by kernel_rfl))
 f317:=Tryz.func278.trans (cB some (by kernel_rfl))
 f318:=Tryz.func279.trans (cB some (by kernel_rfl))
 f319:=Tryz.func280.trans (cB some (by kernel_rfl))
 f320:=Tryz.func281.trans (cB some (by kernel_rfl))
 f337:=Tryz.func296.trans (cB some (by kernel_rfl))
 f338:=Tryz.func297.trans (cB some (by kernel_rfl))
 t0:=Tryz.underlying0
 a0:=Tryz.isAgg0
 z0:=Tryz.sizeOf0
 v0:=Tryz.zeroValue0
 t2:=Tryz.underlying2
 a2:=Tryz.isAgg2
 z2:=Tryz.sizeOf2
 v2:=Tryz.zeroValue2
 t3:=Tryz.underlying3
 a3:=Tryz.isAgg3
 z3:=Tryz.sizeOf3
 v3:=Tryz.zeroValue3
 t4:=Tryz.underlying4
 a4:=Tryz.isAgg4
 z4:=Tryz.sizeOf4
 v4:=Tryz.zeroValue4
 t5:=Tryz.underlying5
 a5:=Tryz.isAgg5
 z5:=Tryz.sizeOf5
 v5:=Tryz.zeroValue5
 t9:=Tryz.underlying9
 a9:=Tryz.isAgg9
 z9:=Tryz.sizeOf9
 v9:=Tryz.zeroValue9
 t20:=Tryz.underlying20
 a20:=Tryz.isAgg20
 z20:=Tryz.sizeOf20
 v20:=Tryz.zeroValue20
 t37:=Tryz.underlying35
 a37:=Tryz.isAgg35
 z37:=Tryz.sizeOf35
 v37:=Tryz.zeroValue35
 t46:=Tryz.underlying209
 a46:=Tryz.isAgg209
 z46:=Tryz.sizeOf209
 v46:=Tryz.zeroValue209
 t51:=Tryz.underlying265
 a51:=Tryz.isAgg265
 z51:=Tryz.sizeOf265
 v51:=Tryz.zeroValue265
 t53:=Tryz.underlying267
 a53:=Tryz.isAgg267
 z53:=Tryz.sizeOf267
 v53:=Tryz.zeroValue267
 t171:=Tryz.underlying284
 a171:=Tryz.isAgg284
 z171:=Tryz.sizeOf284
 v171:=Tryz.zeroValue284
 t173:=Tryz.underlying286
 a173:=Tryz.isAgg286
 z173:=Tryz.sizeOf286
 v173:=Tryz.zeroValue286
 t212:=Tryz.underlying302
 a212:=Tryz.isAgg302
 z212:=Tryz.sizeOf302
 v212:=Tryz.zeroValue302
 t213:=Tryz.underlying303
 a213:=Tryz.isAgg303
 z213:=Tryz.sizeOf303
 t232:=Tryz.underlying326
 a232:=Tryz.isAgg326
 z232:=Tryz.sizeOf326
 v232:=Tryz.zeroValue326
 t233:=Tryz.underlying327
 a233:=Tryz.isAgg327
 z233:=Tryz.sizeOf327
 v233:=Tryz.zeroValue327
 g17:=by kernel_rfl
 g18:=by kernel_rfl
 g19:=by kernel_rfl
 i0:=by kernel_rfl
 i2:=by kernel_rfl
 i3:=by kernel_rfl
 i4:=by kernel_rfl
 i5:=by kernel_rfl
 i9:=by kernel_rfl
 i20:=by kernel_rfl
 i37:=by kernel_rfl
 i46:=by kernel_rfl
 i51:=by kernel_rfl
 i53:=by kernel_rfl
 i171:=by kernel_rfl
 i173:=by kernel_rfl
 i212:=by kernel_rfl
 i232:=by kernel_rfl
 i233:=by kernel_rfl
 m17:=by kernel_rfl
 m18:=by kernel_rfl
 m19:=by kernel_rfl}
def Tryz.laysC172_ren:Go.Shelf.Ren:=⟨fun|172=>223|244=>257|245=>258|247=>273|279=>274|280=>275|281=>276|282=>277|287=>293|316=>294|171=>136|205=>295|321=>304|322=>305|243=>192|246=>229|283=>261|284=>262|285=>263|286=>264|129=>241|317=>278|318=>279|319=>280|320=>281|337=>296|338=>297|n=>n,fun|9=>9|3=>3|75=>108|76=>109|4=>4|5=>5|167=>295|37=>35|0=>0|85=>296|2=>2|168=>298|53=>267|175=>314|46=>209|210=>317|127=>181|145=>325|143=>323|21=>21|171=>284|173=>286|212=>302|51=>265|20=>20|213=>303|232=>326|233=>327|80=>112|n=>n,fun|15=>1|16=>2|17=>0|18=>3|19=>4|n=>n⟩
theorem Tryz.laysC172:Go.Proofs.LaysC.n172 aI Tryz.laysC172_ren:={
 mixed:=by kernel_rfl
 f129:=Tryz.func241.trans (cB some (by kernel_rfl))
 f171:=Tryz.func136.trans (cB some (by kernel_rfl))
 f172:=Tryz.func223.trans (cB some (by kernel_rfl))
 f205:=Tryz.func295.trans (cB some (by kernel_rfl))
 f243:=Tryz.func192.trans (cB some (by kernel_rfl))
 f244:=Tryz.func257.trans (cB some (by kernel_rfl))
 f245:=Tryz.func258.trans (cB some (by kernel_rfl))
 f246:=Tryz.func229.trans (cB some (by kernel_rfl))
 f247:=Tryz.func273.trans (cB some (by kernel_rfl))
 f279:=Tryz.func274.trans (cB some (by kernel_rfl))
 f280:=Tryz.func275.trans (cB some (by kernel_rfl))
 f281:=Tryz.func276.trans (cB some (by kernel_rfl))
 f282:=Tryz.func277.trans (cB some (by kernel_rfl))
 f283:=Tryz.func261.trans (cB some (by kernel_rfl))
 f284:=Tryz.func262.trans (cB some (by kernel_rfl))
 f285:=Tryz.func263.trans (cB some (by kernel_rfl))
 f286:=Tryz.func264.trans (cB some (by kernel_rfl))
 f287:=Tryz.func293.trans (cB some (by kernel_rfl))
 f316:=Tryz.func294.trans (cB some (by kernel_rfl))
 f317:=Tryz.func278.trans (cB some (by kernel_rfl))
 f318:=Tryz.func279.trans (cB some (by kernel_rfl))
 f319:=Tryz.func280.trans (cB some (by kernel_rfl))
 f320:=Tryz.func281.trans (cB some (by kernel_rfl))
 f321:=Tryz.func304.trans (cB some (by kernel_rfl))
 f322:=Tryz.func305.trans (cB some (by kernel_rfl))
 f337:=Tryz.func296.trans (cB some (by kernel_rfl))
 f338:=Tryz.func297.trans (cB some (by kernel_rfl))
 t0:=Tryz.underlying0
 a0:=Tryz.isAgg0
 z0:=Tryz.sizeOf0
 v0:=Tryz.zeroValue0
 t2:=Tryz.underlying2
 a2:=Tryz.isAgg2
 z2:=Tryz.sizeOf2
 v2:=Tryz.zeroValue2
 t3:=Tryz.underlying3
 a3:=Tryz.isAgg3
 z3:=Tryz.sizeOf3
 v3:=Tryz.zeroValue3
 t4:=Tryz.underlying4
 a4:=Tryz.isAgg4
 z4:=Tryz.sizeOf4
 v4:=Tryz.zeroValue4
 t5:=Tryz.underlying5
 a5:=Tryz.isAgg5
 z5:=Tryz.sizeOf5
 v5:=Tryz.zeroValue5
 t9:=Tryz.underlying9
 a9:=Tryz.isAgg9
 z9:=Tryz.sizeOf9
 v9:=Tryz.zeroValue9
 t20:=Tryz.underlying20
 a20:=Tryz.isAgg20
 z20:=Tryz.sizeOf20
 v20:=Tryz.zeroValue20
 t21:=Tryz.underlying21
 a21:=Tryz.isAgg21
 z21:=Tryz.sizeOf21
 v21:=Tryz.zeroValue21
 t37:=Tryz.underlying35
 a37:=Tryz.isAgg35
 z37:=Tryz.sizeOf35
 v37:=Tryz.zeroValue35
 t46:=Tryz.underlying209
 a46:=Tryz.isAgg209
 z46:=Tryz.sizeOf209
 v46:=Tryz.zeroValue209
 t51:=Tryz.underlying265
 a51:=Tryz.isAgg265
 z51:=Tryz.sizeOf265
 v51:=Tryz.zeroValue265
 t53:=Tryz.underlying267
 a53:=Tryz.isAgg267
 z53:=Tryz.sizeOf267
 v53:=Tryz.zeroValue267
 t75:=Tryz.underlying108
 a75:=Tryz.isAgg108
 z75:=Tryz.sizeOf108
 v75:=Tryz.zeroValue108
 t76:=Tryz.underlying109
 a76:=Tryz.isAgg109
 z76:=Tryz.sizeOf109
 v76:=Tryz.zeroValue109
 t85:=Tryz.underlying296
 a85:=Tryz.isAgg296
 z85:=Tryz.sizeOf296
 v85:=Tryz.zeroValue296
 t127:=Tryz.underlying181
 a127:=Tryz.isAgg181
 z127:=Tryz.sizeOf181
 v127:=Tryz.zeroValue181
 t143:=Tryz.underlying323
 a143:=Tryz.isAgg323
 z143:=Tryz.sizeOf323
 v143:=Tryz.zeroValue323
 t145:=Tryz.underlying325
 a145:=Tryz.isAgg325
 z145:=Tryz.sizeOf325
 v145:=Tryz.zeroValue325
 t167:=Tryz.underlying295
 a167:=Tryz.isAgg295
 z167:=Tryz.sizeOf295
 v167:=Tryz.zeroValue295
 t168:=Tryz.underlying298
 a168:=Tryz.isAgg298
 z168:=Tryz.sizeOf298
 v168:=Tryz.zeroValue298
 t171:=Tryz.underlying284
 a171:=Tryz.isAgg284
 z171:=Tryz.sizeOf284
 v171:=Tryz.zeroValue284
 t173:=Tryz.underlying286
 a173:=Tryz.isAgg286
 z173:=Tryz.sizeOf286
 v173:=Tryz.zeroValue286
 t175:=Tryz.underlying314
 a175:=Tryz.isAgg314
 z175:=Tryz.sizeOf314
 v175:=Tryz.zeroValue314
 t210:=Tryz.underlying317
 a210:=Tryz.isAgg317
 z210:=Tryz.sizeOf317
 v210:=Tryz.zeroValue317
 t212:=Tryz.underlying302
 a212:=Tryz.isAgg302
 z212:=Tryz.sizeOf302
 v212:=Tryz.zeroValue302
 t213:=Tryz.underlying303
 a213:=Tryz.isAgg303
 z213:=Tryz.sizeOf303
 t232:=Tryz.underlying326
 a232:=Tryz.isAgg326
 z232:=Tryz.sizeOf326
 v232:=Tryz.zeroValue326
 t233:=Tryz.underlying327
 a233:=Tryz.isAgg327
 z233:=Tryz.sizeOf327
 v233:=Tryz.zeroValue327
 g15:=by kernel_rfl
 g16:=by kernel_rfl
 g17:=by kernel_rfl
 g18:=by kernel_rfl
 g19:=by kernel_rfl
 t80:=Tryz.underlying112
 a80:=Tryz.isAgg112
 z80:=Tryz.sizeOf112
 v80:=Tryz.zeroValue112
 i0:=by kernel_rfl
 i2:=by kernel_rfl
 i3:=by kernel_rfl
 i4:=by kernel_rfl
 i5:=by kernel_rfl
 i9:=by kernel_rfl
 i20:=by kernel_rfl
 i21:=by kernel_rfl
 i37:=by kernel_rfl
 i46:=by kernel_rfl
 i51:=by kernel_rfl
 i53:=by kernel_rfl
 i75:=by kernel_rfl
 i76:=by kernel_rfl
 i80:=by kernel_rfl
 i85:=by kernel_rfl
 i127:=by kernel_rfl
 i143:=by kernel_rfl
 i145:=by kernel_rfl
 i167:=by kernel_rfl
 i168:=by kernel_rfl
 i171:=by kernel_rfl
 i173:=by kernel_rfl
 i175:=by kernel_rfl
 i210:=by kernel_rfl
 i212:=by kernel_rfl
 i232:=by kernel_rfl
 i233:=by kernel_rfl
 m15:=by kernel_rfl
 m16:=by kernel_rfl
 m17:=by kernel_rfl
 m18:=by kernel_rfl
 m19:=by kernel_rfl
 c0:=by kernel_rfl
 c2:=by kernel_rfl
 c3:=by kernel_rfl
 c4:=by kernel_rfl
 c5:=by kernel_rfl
 c9:=by kernel_rfl
 c20:=by kernel_rfl
 c21:=by kernel_rfl
 c37:=by kernel_rfl
 c46:=by kernel_rfl
 c51:=by kernel_rfl
 c53:=by kernel_rfl
 c75:=by kernel_rfl
 c76:=by kernel_rfl
 c80:=by kernel_rfl
 c85:=by kernel_rfl
 c127:=by kernel_rfl
 c143:=by kernel_rfl
 c145:=by kernel_rfl
 c167:=by kernel_rfl
 c168:=by kernel_rfl
 c171:=by kernel_rfl
 c173:=by kernel_rfl
 c175:=by kernel_rfl
 c210:=by kernel_rfl
 c212:=by kernel_rfl
 c213:=by kernel_rfl
 c232:=by kernel_rfl
 c233:=by kernel_rfl}
end
end Go.Proofs
