/- The most general unifier within the limits. -/
import Derived.Deep.LoopGhost
import Derived.Test.YtahlgcidhnjlbaaGreatH1
set_option linter.all false
set_option maxHeartbeats 4000000
open Array renaming getElem?_toList→tO
open Bool renaming and_eq_true→cE,false_eq_true→hb,not_eq_true'→sx,or_eq_true→mT
open Decidable renaming not_not→at2
open Go renaming Program→cF,TypeId→gm
open Go.IntKind renaming bits→og,signed→sy,u64→hr,wrap→sA
open Go.IntWalk renaming i64_in→o8
open Go.Op renaming bytesLess→hC
open Go.Region renaming wanted→o9
open Go.Result renaming andThen_ok→fR
open Go.Sem renaming run_bind→fJ,run_pure→gu
open Go.Value renaming cells→pR
open List renaming all_eq_true→hs,cons_append→bX,drop_eq_getElem_cons→lv,getElem?_eq_getElem→cl,getElem?_eq_none→qw,getElem?_eq_some_iff→fV,length_append→pS,length_cons→pT,map_cons→gS,map_nil→mU,mem_append→ka,mem_cons→gf,mem_cons_of_mem→pa,mem_filter→mV,mem_map→iC,nil_append→b3,pairwise_cons→mW,pairwise_iff_getElem→pU
open List.Nodup renaming length_le_of_subset→Oy
open List.Pairwise renaming imp_of_mem→aoS,nil→at9
open List.Perm renaming eq_of_pairwise→Oz
open List.cons renaming injEq→qv
open Nat renaming le_refl→eY,le_trans→kc
open Ne renaming symm→k8
open Option renaming bind_some→ju,getD_none→hO,getD_some→h5,isSome_iff_exists→fE,isSome_none→ht,map_eq_some_iff→gT,map_some→oi
open Option.some renaming inj→fq,injEq→dM
open Prod.mk renaming injEq→jF
open _root_ renaming False→eA,UInt8→dm,beq_iff_eq→dS,congrArg→ff,decide_eq_false→h6,decide_eq_false_iff_not→hR,decide_eq_true_eq→fK
namespace Go.Pv
open Go Go.RowKit
def aiy(A:dn)(s ai:cL)(rm:Option aH):Prop:=(∀k,(look k ai.b).isSome→(look k s.b).isSome∨rm=some k)∧(∀k,(look k ai.e).isSome→(look k s.e).isSome∨rm=some k)∧(∀k,(look k s.b).isSome→(look k ai.b).isSome)∧(∀k,(look k s.e).isSome→(look k ai.e).isSome)∧
 (∀k,rm=some k→(∃j,k= .obj j)∧A.F k∧A.b k=none∧A.e k=none∧((look k ai.b).isSome∨(look k ai.e).isSome))
def Zd(P:cF)(n:Nat)(args:List ah)(A:dn)(d:Option Nat)(x:kT):Prop:=
 ∃s ai r rm,(∀k cs,look k s.b=some cs→A.b k=some cs∧aJ (inObs s) cs)∧(∀k o,look k s.e=some o→A.e k=some o∧dV (inObs s) o)∧iL s∧iL ai∧aiy A s ai rm∧aJ (inObs s) args∧
  bV P n args s (fun eS dE=>eS=r∧dE=ai)∧x=⟨d,r,ai.b,ai.e,rm⟩
def Ze(P:cF)(n0 n:Nat)(args:List ah)(A:dn)(d:Option Nat)(x:kT):Prop:=
 ∃cI r,d=some cI∧(A.F (.loc (n0+cI))∧A.b (.loc (n0+cI))=none∧A.e (.loc (n0+cI))=none)∧aJ (fun _=>eA) args∧
  Io P n (n0+cI) args ⟨[],[]⟩ (fun eS dE=>eS=r∧dE=⟨[],[]⟩)∧x=⟨d,r,[],[],some (.loc (n0+cI))⟩
def x9:ah→Bool
 | .ptr (.loc _) _=>true
 | .eptr _=>true
 |_=>false
def fY.isB:fY→Bool
 | .loadB _ _ _=>true
 | .mgetB _ _ _ _ _=>true
 |_=>false
def fY.ptrOf(t:Nat→ah):fY→ah
 | .load _ _ x=>dF t x
 | .loadB _ _ x=>dF t x
 |_=>.junk
def eB(P:cF)(q:Bool)(n0:Nat):ek→dn→kT→Prop
 | .s (.v d i),A,x=> ∃c p,pQ A.t A.b A.e i=some (c,p)∧c∧(i.isLoad=true→i.isB=true∨q=true∨x9 (i.ptrOf A.t)=true)∧x=⟨some d,p,[],[],none⟩
 | .s (.box d none v),A,x=>(A.F (.loc (n0+d))∧A.b (.loc (n0+d))=none∧A.e (.loc (n0+d))=none)∧ei (dF A.t v)=true∧x=⟨some d,.ptr (.loc (n0+d)) 0,[(.loc (n0+d),cells (dF A.t v))],[],some (.loc (n0+d))⟩
 | .s (.alloc d none z),A,x=>(A.F (.loc (n0+d))∧A.b (.loc (n0+d))=none∧A.e (.loc (n0+d))=none)∧x=⟨some d,.ptr (.loc (n0+d)) 0,[(.loc (n0+d),cells z)],[],some (.loc (n0+d))⟩
 | .s (.store sz u v),A,x=> ∃k off cs,dF A.t u= .ptr k off∧A.b k=some cs∧(h2 cs=true∧ei (dF A.t v)=true∧(cells (dF A.t v)).length=sz∧off+sz≤cs.length)∧x=⟨none,.junk,[(k,n7 cs off (cells (dF A.t v)))],[],none⟩
 | .s (.bsl d sz el xs),A,x=>(A.F (.loc (n0+d))∧A.b (.loc (n0+d))=none∧A.e (.loc (n0+d))=none)∧sG sz (xs.map (dF A.t))∧x=⟨some d,.slice sz (.own (.loc (n0+d))) (xs.map (dF A.t)),[],[(.loc (n0+d),⟨xs.length,el,sz,none⟩)],some (.loc (n0+d))⟩
 | .s (.app d sz el u v),A,x=> ∃tag xs k4 ys,dF A.t u= .slice sz tag xs∧dF A.t v= .slice sz k4 ys∧
   ((∃k o,tag= .own k∧A.e k=some o∧(o.xs=none∧o.n=xs.length∧o.el=el∧o.sz=sz∧xs.length+ys.length≤lim)∧x=⟨some d,.slice sz (.own k) (xs++ys),[],[(k,⟨xs.length+ys.length,el,sz,none⟩)],none⟩)∨
    (tag= .nil∧ys.length≤lim∧(A.F (.loc (n0+d))∧A.b (.loc (n0+d))=none∧A.e (.loc (n0+d))=none)∧x=⟨some d,.slice sz (.own (.loc (n0+d))) ys,[],[(.loc (n0+d),⟨ys.length,el,sz,none⟩)],some (.loc (n0+d))⟩))
 | .s (.appm d _ sz el u v),A,x=> ∃k n xs k4 ys,dF A.t u= .row sz k n∧dF A.t v= .slice sz k4 ys∧A.e k=some ⟨n,el,sz,some xs⟩∧xs.length+ys.length≤lim∧x=⟨some d,.row sz k (xs.length+ys.length),[],[(k,⟨xs.length+ys.length,el,sz,some (xs++ys)⟩)],none⟩
 | .s (.storeE sz u v),A,x=> ∃k n i f el dL xs q,dF A.t u= .rptr dL k n i f∧A.e k=some ⟨n,el,dL,some xs⟩∧xs[i]? =some q∧(ei q=true∧ei (dF A.t v)=true∧(cells (dF A.t v)).length=sz∧f+sz≤(cells q).length∧0<sz)∧x=⟨none,.junk,[],[(k,⟨n,el,dL,some (xs.set i (mP q f (cells (dF A.t v))))⟩)],none⟩
 | .s (.mkmap d (some m)),A,x=>(A.F (.obj m)∧A.b (.obj m)=none∧A.e (.obj m)=none)∧x=⟨some d,.gmap (.obj m),[(.obj m,[.hdm 0 []])],[],some (.obj m)⟩
 | .s (.mput cf u k v),A,x=> ∃m cs cs',dF A.t u= .gmap m∧A.b m=some cs∧oW cf (dF A.t k) (dF A.t v) cs=some cs'∧x=⟨none,.junk,[(m,cs')],[],none⟩
 | .call d f xs,A,x=> ∃n dv,dF A.t f= .func n dv∧((Zd P n (cW (xs.map (dF A.t)++dv)) A d x∧(q=true→x.bw=[]∧x.ew=[]))∨Ze P n0 n (cW (xs.map (dF A.t)++dv)) A d x)
 |_,_,_=>eA
inductive Bt where
 |v|l|n|s|w|a|c|m|r|k
 deriving DecidableEq
def ek.mode:ek→Bt
 | .s (.v _ (.loadB _ _ _))=>.m
 | .s (.v _ (.mgetB _ _ _ _ _))=>.m
 | .s (.v _ i)=>if i.isLoad then .l else .v
 | .s (.storeE _ _ _)=>.r
 | .s (.box _ _ _)=>.n
 | .s (.alloc _ _ _)=>.n
 | .s (.store _ _ _)=>.w
 | .s (.bsl _ _ _ _)=>.s
 | .s (.app _ _ _ _ _)=>.a
 | .s (.bslm _ _ _ _ _)=>.w
 | .s (.mks _ _ _ _ _ _)=>.w
 | .s (.appm _ _ _ _ _ _)=>.r
 | .s (.mkmap _ _)=>.k
 | .s (.mput _ _ _ _)=>.w
 | .s (.range _ _ _)=>.w
 | .call _ _ _=>.c
 | .next _ _=>.w
structure Iy (q:Bool) (n0:Nat) (m:Bt) (dst:Option Nat) (A:dn) (x:kT):Prop where
 d:x.d=dst
 b:∀k,(look k x.bw).isSome→(m= .n∧∃d,dst=some d∧k= .loc (n0+d)∧A.b k=none∧A.e k=none)∨m= .w∨(m= .c∧(∃j,k= .obj j)∧q=false)∨(m= .k∧(∃j,k= .obj j)∧A.b k=none∧A.e k=none)
 e:∀k,(look k x.ew).isSome→(m= .s∧∃d,dst=some d∧k= .loc (n0+d)∧A.b k=none∧A.e k=none)∨(m= .a∧(A.e k≠none∨ ∃d,dst=some d∧k= .loc (n0+d)∧A.b k=none∧A.e k=none))∨(m= .c∧(∃j,k= .obj j)∧q=false)∨(m= .r∧∃o,A.e k=some o∧o.xs≠none)
 r:∀k,x.rm=some k→(∃d,dst=some d∧k= .loc (n0+d))∨((m= .c∨m= .k)∧(∃j,k= .obj j)∧((look k x.bw).isSome∨(look k x.ew).isSome))
 ex:m= .a→∀k o,(look k x.ew).isSome→A.e k=some o→o.xs=none
 xn:m= .a∨m= .s→∀k o,look k x.ew=some o→o.xs=none
theorem tk{α:Type}{k bH:aH}{x:α}(h:(look k [(bH,x)]).isSome):k=bH:=by
 simp only[look]at h;split at h
 ·rename_i e;exact e.symm
 ·cases h
theorem LI{k bH:aH}{n el sz:Nat}{o:fL}(h:look k [(bH,(⟨n,el,sz,none⟩:fL))]=some o):o.xs=none:=by
 simp only[look]at h;split at h
 ·cases h;rfl
 ·cases h
theorem Ya{P:cF}{q:Bool}{n0:Nat}{i:ek}{A:dn}{x:kT}(h:eB P q n0 i A x):Iy q n0 i.mode i.dst A x:=by
 cases i with
 |s i=>
  cases i with
  |v d i=>simp only[eB]at h;obtain⟨c,p,_,_,_,rfl⟩:=h;exact⟨rfl,fun k ad=>by simp[look]at ad,fun k ad=>by simp[look]at ad,fun k ad=>by simp at ad,fun _ k o ad=>by simp[look]at ad,fun _ k o ad=>by simp[look]at ad⟩
  |box d key v=>
   cases key with
   |some m=>simp only[eB]at h
   |none=>simp only[eB]at h;obtain⟨⟨_,U,ar⟩,_,rfl⟩:=h;exact⟨rfl,fun k ad=>by obtain rfl:=tk ad;exact .inl ⟨rfl,d,rfl,rfl,U,ar⟩,fun k ad=>by simp[look]at ad,fun k ad=>by simp at ad;exact .inl ⟨d,rfl,ad.symm⟩,fun _ k o ad=>by simp[look]at ad,fun _ k o ad=>by simp[look]at ad⟩
  |alloc d key z=>
   cases key with
   |some m=>simp only[eB]at h
   |none=>simp only[eB]at h;obtain⟨⟨_,U,ar⟩,rfl⟩:=h;exact⟨rfl,fun k ad=>by obtain rfl:=tk ad;exact .inl ⟨rfl,d,rfl,rfl,U,ar⟩,fun k ad=>by simp[look]at ad,fun k ad=>by simp at ad;exact .inl ⟨d,rfl,ad.symm⟩,fun _ k o ad=>by simp[look]at ad,fun _ k o ad=>by simp[look]at ad⟩
  |store sz u v=>simp only[eB]at h;obtain⟨k,off,cs,_,_,_,rfl⟩:=h;exact⟨rfl,fun k ad=>.inr (.inl rfl),fun k ad=>by simp[look]at ad,fun k ad=>by simp at ad,fun _ k o ad=>by simp[look]at ad,fun _ k o ad=>by simp[look]at ad⟩
  |bsl d sz el xs=>simp only[eB]at h;obtain⟨⟨_,U,ar⟩,_,rfl⟩:=h;exact⟨rfl,fun k ad=>by simp[look]at ad,fun k ad=>by obtain rfl:=tk ad;exact .inl ⟨rfl,d,rfl,rfl,U,ar⟩,fun k ad=>by simp at ad;exact .inl ⟨d,rfl,ad.symm⟩,fun e=>by simp[ek.mode]at e,fun _ k o ad=>LI ad⟩
  |app d sz el u v=>
   simp only[eB]at h;obtain⟨tag,xs,k4,ys,_,_,h⟩:=h;rcases h with⟨k,o,_,J,⟨hY,_⟩,rfl⟩|⟨_,_,⟨_,U,ar⟩,rfl⟩
   ·exact⟨rfl,fun k ad=>by simp[look]at ad,fun k ad=>by obtain rfl:=tk ad;exact .inr (.inl ⟨rfl,.inl (by rw[J];simp)⟩),fun k ad=>by simp at ad,fun _ bH o' ad ax=>by obtain rfl:=tk ad;rw[J]at ax;cases ax;exact hY,fun _ k o ad=>LI ad⟩
   ·exact⟨rfl,fun k ad=>by simp[look]at ad,fun k ad=>by obtain rfl:=tk ad;exact .inr (.inl ⟨rfl,.inr ⟨d,rfl,rfl,U,ar⟩⟩),fun k ad=>by simp at ad;exact .inl ⟨d,rfl,ad.symm⟩,fun _ bH o' ad ax=>(by obtain rfl:=tk ad;rw[ar]at ax;cases ax),fun _ k o ad=>LI ad⟩
  |bslm d key sz el xs=>simp only[eB]at h
  |mks d key sz el z x=>simp only[eB]at h
  |appm d key sz el u v=>simp only[eB]at h;obtain⟨k,n,xs,k4,ys,_,_,J,_,rfl⟩:=h;exact⟨rfl,fun k ad=>by simp[look]at ad,fun k ad=>by obtain rfl:=tk ad;exact .inr (.inr (.inr ⟨rfl,_,J,by simp⟩)),fun k ad=>by simp at ad,fun e=>by simp[ek.mode]at e,fun e=>by simp[ek.mode]at e⟩
  |storeE sz u v=>simp only[eB]at h;obtain⟨k,n,i,f,el,dL,xs,q,_,J,_,_,rfl⟩:=h;exact⟨rfl,fun k ad=>by simp[look]at ad,fun k ad=>by obtain rfl:=tk ad;exact .inr (.inr (.inr ⟨rfl,_,J,by simp⟩)),fun k ad=>by simp at ad,fun e=>by simp[ek.mode]at e,fun e=>by simp[ek.mode]at e⟩
  |mkmap d key=>
   cases key with
   |none=>simp only[eB]at h
   |some m=>simp only[eB]at h;obtain⟨⟨_,U,ar⟩,rfl⟩:=h;exact⟨rfl,fun k ad=>by obtain rfl:=tk ad;exact .inr (.inr (.inr ⟨rfl,⟨m,rfl⟩,U,ar⟩)),fun k ad=>by simp[look]at ad,fun k ad=>by simp at ad;subst ad;exact .inr ⟨.inr rfl,⟨m,rfl⟩,.inl (by simp[look])⟩,fun e=>by simp[ek.mode]at e,fun e=>by simp[ek.mode]at e⟩
  |mput cf x k v=>simp only[eB]at h;obtain⟨m,cs,cs',_,_,_,rfl⟩:=h;exact⟨rfl,fun k ad=>.inr (.inl rfl),fun k ad=>by simp[look]at ad,fun k ad=>by simp at ad,fun e=>by simp[ek.mode]at e,fun e=>by simp[ek.mode]at e⟩
  |range d key x=>simp only[eB]at h
 |next d x=>simp only[eB]at h
 |call d f xs=>
  simp only[eB]at h;obtain⟨n,dv,_,h⟩:=h;rcases h with⟨⟨s,ai,r,rm,_,_,_,ax,TI,_,_,rfl⟩,bh⟩|⟨cI,r,rfl,_,_,_,rfl⟩;rotate_left
  ·exact⟨rfl,fun k ad=>by simp[look]at ad,fun k ad=>by simp[look]at ad,fun k ad=>by simp at ad;exact .inl ⟨cI,rfl,ad.symm⟩,fun _ k o ad=>by simp[look]at ad,fun _ k o ad=>by simp[look]at ad⟩
  refine⟨rfl,fun k ad=>.inr (.inr (.inl ⟨rfl,?_,?_⟩)),fun k ad=>.inr (.inr (.inl ⟨rfl,?_,?_⟩)),fun k ad=>.inr ⟨.inl rfl,(TI.2.2.2.2 k ad).1,(TI.2.2.2.2 k ad).2.2.2.2⟩,fun e=>by simp[ek.mode]at e,fun e=>by simp[ek.mode]at e⟩
  ·cases k with
   |loc m=>rw[ax.1 m]at ad;cases ad
   |obj m=>exact⟨m,rfl⟩
  ·cases q with
   |false=>rfl
   |true=>rw[(bh rfl).1]at ad;simp[look]at ad
  ·cases k with
   |loc m=>rw[ax.2 m]at ad;cases ad
   |obj m=>exact⟨m,rfl⟩
  ·cases q with
   |false=>rfl
   |true=>rw[(bh rfl).2]at ad;simp[look]at ad
theorem OD{P:cF}{q:Bool}{n0:Nat}{i:ek}{A gn:dn}{x:kT}(h:eB P q n0 i A x)(aL:qC i.looks A.t gn.t)
  (aw:i.mode= .l→∀k,(q=true∨ ∃m,k= .loc m)→A.b k≠none→gn.b k=A.b k) (Tx:i.mode= .m→∀k,A.b k≠none→gn.b k=A.b k)
  (lg:i.mode= .l→q=true→∀k o,A.e k=some o→o.xs≠none→gn.e k=some o)
  (au:∀d,i.dst=some d→(i.mode= .n∨i.mode= .s∨i.mode= .a∨i.mode= .c)→(A.F (.loc (n0+d))∧A.b (.loc (n0+d))=none∧A.e (.loc (n0+d))=none)→(gn.F (.loc (n0+d))∧gn.b (.loc (n0+d))=none∧gn.e (.loc (n0+d))=none))
  (br:i.mode= .a→∀k o,A.e k=some o→gn.e k=some o) (hw:i.mode= .w→∀k,gn.b k=A.b k) (agO:i.mode= .k→∀m,(A.F (.obj m)∧A.b (.obj m)=none∧A.e (.obj m)=none)→(gn.F (.obj m)∧gn.b (.obj m)=none∧gn.e (.obj m)=none)) (CJ:i.mode= .r→∀k o,A.e k=some o→o.xs≠none→gn.e k=some o)
  (ay:i.mode= .c→∀m,gn.b (.obj m)=A.b (.obj m)∧gn.e (.obj m)=A.e (.obj m)∧(A.F (.obj m)→gn.F (.obj m))):eB P q n0 i gn x:=by
 cases i with
 |s i=>
  cases i with
  |v d i=>
   simp only[eB]at h⊢;obtain⟨c,p,J,U,ar,a8⟩:=h;by_cases kW:∃agg sz y,i= .loadB agg sz y
   ·obtain⟨agg,sz,y,rfl⟩:=kW;simp only[ek.looks,ev.looks,fY.looks]at aL;have uC:=gx aL;refine⟨c,p,?_,U,fun _=>.inl rfl,a8⟩;rw[←J];simp only[pQ,←uC];have hm:=Tx (by simp[ek.mode]);simp only[pQ]at J;cases bQ:dF A.t y<;>simp only[r5];rename_i key off;rw[bQ]at J;simp only[r5]at J;cases ae:A.b key with
    |none=>simp[ae]at J
    |some cs=>have:gn.b key=A.b key:=hm key (by rw[ae];simp);rw[this,ae]
   by_cases FF:∃cf zero ok y z,i= .mgetB cf zero ok y z
   ·obtain⟨cf,zero,ok,y,z,rfl⟩:=FF;simp only[ek.looks,ev.looks,fY.looks]at aL;obtain⟨t1,t2⟩:=kr aL;refine⟨c,p,?_,U,fun _=>.inl rfl,a8⟩;simp only[pQ]at J⊢;rw[←gx t1,←gx t2];exact Vs (Tx (by simp[ek.mode])) J
   replace ar:i.isLoad=true→q=true∨x9 (i.ptrOf A.t)=true:=fun nX=>(ar nX).resolve_left (fun ae=>by cases i<;>simp[fY.isB]at ae;exact kW ⟨_,_,_,rfl⟩;exact FF ⟨_,_,_,_,_,rfl⟩);have af6:i.isLoad=true→(ek.s (.v d i)).mode= .l:=by intro nX;cases i<;>simp only[fY.isLoad]at nX<;>first|(cases nX;done)|(simp[ek.mode,fY.isLoad];done)|exact absurd ⟨_,_,_,rfl⟩ kW|exact absurd ⟨_,_,_,_,_,rfl⟩ FF
   by_cases nX:i.isLoad=true
   ·have bh:∀(bQ:x9 (i.ptrOf A.t)=false),∀k,A.b k≠none→gn.b k=A.b k:=fun bQ k ad=>aw (af6 nX) k (.inl ((ar nX).resolve_right (by rw[bQ];simp))) ad;cases i<;>simp only[fY.isLoad]at nX<;>try(cases nX;done)
    case mget cf zero ok y z=>simp only[ek.looks,ev.looks,fY.looks]at aL;obtain⟨t1,t2⟩:=kr aL;refine⟨c,p,?_,U,fun _=>.inr (ar rfl),a8⟩;simp only[pQ]at J⊢;rw[←gx t1,←gx t2];exact Vs (bh rfl) J
    case ment y=>simp only[ek.looks,ev.looks,fY.looks]at aL;refine⟨c,p,?_,U,fun _=>.inr (ar rfl),a8⟩;simp only[pQ]at J⊢;rw[←gx aL];exact ah2 (bh rfl) J
    case mlen y=>simp only[ek.looks,ev.looks,fY.looks]at aL;refine⟨c,p,?_,U,fun _=>.inr (ar rfl),a8⟩;simp only[pQ]at J⊢;rw[←gx aL];exact aim (bh rfl) J
    case loadB agg sz y=>exact absurd ⟨_,_,_,rfl⟩ kW
    case mgetB=>exact absurd ⟨_,_,_,_,_,rfl⟩ FF
    rename_i agg sz y;simp only[ek.looks,ev.looks,fY.looks]at aL;have uC:=gx aL;refine⟨c,p,?_,U,fun _=>.inr (by have:=ar rfl;simpa only[fY.ptrOf,←uC]using this),a8⟩;rw[←J];simp only[pQ,←uC];have hm:=aw (by simp[ek.mode,fY.isLoad]);simp only[pQ]at J;have sQ:=ar rfl;simp only[fY.ptrOf]at sQ;cases bQ:dF A.t y<;>simp only[r5]
    ·rename_i key off;rw[bQ]at J sQ;simp only[r5]at J;cases ae:A.b key with
     |none=>simp[ae]at J
     |some cs=>have:gn.b key=A.b key:=hm key (by rcases sQ with h|h;exact .inl h;cases key;exact .inr ⟨_,rfl⟩;simp[x9]at h) (by rw[ae];simp);rw[this,ae]
    ·rename_i dL key n i f;rw[bQ]at J sQ;simp only[r5]at J;have TT:q=true:=sQ.resolve_right (by simp[x9]);unfold yH at J;split at J
     ·rename_i n' el jr xs he;rw[he,lg (by simp[ek.mode,fY.isLoad]) TT key _ he (by simp)]
     ·cases J
   ·have nX:i.isLoad=false:=by simpa using nX
    refine⟨c,p,?_,U,(fun e=>by rw[nX]at e;cases e),a8⟩;rw[←J];exact(anc (by simpa only[ek.looks,ev.looks]using aL) nX).symm
  |box d key v=>
   cases key with
   |some m=>simp only[eB]at h
   |none=>simp only[eB,ek.looks,ev.looks]at h aL⊢;obtain⟨J,U,ar⟩:=h;rw[←gx aL];exact⟨au d rfl (.inl rfl) J,U,ar⟩
  |alloc d key z=>
   cases key with
   |some m=>simp only[eB]at h
   |none=>simp only[eB]at h⊢;exact⟨au d rfl (.inl rfl) h.1,h.2⟩
  |store sz u v=>simp only[eB,ek.looks,ev.looks]at h aL⊢;obtain⟨J,U⟩:=kr aL;rw[←gx J,←gx U];obtain⟨k,off,cs,g1,g2,g3,g4⟩:=h;exact⟨k,off,cs,g1,by rw[hw rfl];exact g2,g3,g4⟩
  |bsl d sz el xs=>simp only[eB,ek.looks,ev.looks]at h aL⊢;rw[←GK aL];exact⟨au d rfl (.inr (.inl rfl)) h.1,h.2⟩
  |app d sz el u v=>
   simp only[eB,ek.looks,ev.looks]at h aL⊢;obtain⟨J,U⟩:=kr aL;rw[←gx J,←gx U];obtain⟨tag,xs,k4,ys,g1,g2,h⟩:=h;refine⟨tag,xs,k4,ys,g1,g2,?_⟩;rcases h with⟨k,o,ak,aC,bk⟩|⟨ak,aC,bk,dg⟩
   ·exact .inl ⟨k,o,ak,br rfl k o aC,bk⟩
   ·exact .inr ⟨ak,aC,au d rfl (.inr (.inr (.inl rfl))) bk,dg⟩
  |bslm d key sz el xs=>simp only[eB]at h
  |mks d key sz el z x=>simp only[eB]at h
  |appm d key sz el u v=>simp only[eB,ek.looks,ev.looks]at h aL⊢;obtain⟨J,U⟩:=kr aL;rw[←gx J,←gx U];obtain⟨k,n,xs,k4,ys,g1,g2,g3,g4,g5⟩:=h;exact⟨k,n,xs,k4,ys,g1,g2,CJ rfl k _ g3 (by simp),g4,g5⟩
  |storeE sz u v=>simp only[eB,ek.looks,ev.looks]at h aL⊢;obtain⟨J,U⟩:=kr aL;rw[←gx J,←gx U];obtain⟨k,n,i,f,el,dL,xs,q,g1,g2,g3⟩:=h;exact⟨k,n,i,f,el,dL,xs,q,g1,CJ rfl k _ g2 (by simp),g3⟩
  |mkmap d key=>
   cases key with
   |none=>simp only[eB]at h
   |some m=>simp only[eB]at h⊢;exact⟨agO rfl m h.1,h.2⟩
  |mput cf u k v=>simp only[eB,ek.looks,ev.looks]at h aL⊢;obtain⟨t1,t3⟩:=kr aL;obtain⟨t1,t2⟩:=kr t1;obtain⟨m,cs,cs',g1,g2,g3,g4⟩:=h;rw[←gx t1,←gx t2,←gx t3];exact⟨m,cs,cs',g1,by rw[hw rfl];exact g2,g3,g4⟩
  |range d key x=>simp only[eB]at h
 |next d x=>simp only[eB]at h
 |call d f xs=>
  simp only[eB,ek.looks]at h aL⊢;obtain⟨J,U⟩:=kr aL;rw[←gx J,←GK U];obtain⟨n,dv,g1,h⟩:=h;rcases h with⟨⟨s,ai,r,rm,bN,cq,dj,iH,l0,pn⟩,g3⟩|⟨cI,r,rfl,bN,cq⟩;rotate_left
  ·exact⟨n,dv,g1,.inr ⟨cI,r,rfl,au cI rfl (.inr (.inr (.inr rfl))) bN,cq⟩⟩
  refine⟨n,dv,g1,.inl ⟨⟨s,ai,r,rm,fun k cs ad=>?_,fun k o ad=>?_,dj,iH,⟨l0.1,l0.2.1,l0.2.2.1,l0.2.2.2.1,fun k ad=>?_⟩,pn⟩,g3⟩⟩
  ·cases k with
   |loc m=>rw[dj.1 m]at ad;cases ad
   |obj m=>rw[(ay rfl m).1];exact bN _ _ ad
  ·cases k with
   |loc m=>rw[dj.2 m]at ad;cases ad
   |obj m=>rw[(ay rfl m).2.1];exact cq _ _ ad
  ·obtain⟨⟨j,rfl⟩,d2,d3,d4,d5⟩:=l0.2.2.2.2 k ad;exact⟨⟨j,rfl⟩,(ay rfl j).2.2 d2,by rw[(ay rfl j).1];exact d3,by rw[(ay rfl j).2.1];exact d4,d5⟩
def lq(d:Option Nat):kT:=⟨d,.tuple [],[],[],none⟩
def kU(P:cF)(q:Bool)(n0:Nat)(g:da)(A:dn)(x:kT):Prop:=
 match g.g with
 |none=>eB P q n0 g.i A x
 |some (s,w)=>match A.t s with
  | .bool b=>(b=w∧eB P q n0 g.i A x)∨(b= !w∧x=lq g.i.dst)
  | .tuple []=>x=lq g.i.dst
  |_=>eA
def fb:Bt→Bt→Bool
 | .v,_=>true
 |_,.v=>true
 | .l,.l| .l,.n| .l,.s| .l,.a| .l,.c=>true
 | .n,.n| .n,.s| .n,.a| .n,.c=>true
 | .s,.l| .s,.n| .s,.s| .s,.c=>true
 | .a,.l| .a,.n| .a,.s=>true
 | .c,.l| .c,.n| .c,.s=>true
 | .l,.m| .m,.l| .m,.m| .m,.n| .m,.s| .m,.a| .s,.m| .a,.m=>true
 | .l,.k| .m,.k| .n,.k| .s,.k=>true
 | .m,.r| .r,.m| .r,.n| .r,.s| .n,.r| .s,.r| .r,.w| .w,.r=>true
 |_,_=>false
def zx(g h:da):Bool:=(match g.i.dst with|some d=> !(h.looks.contains d)&&h.i.dst !=some d|none=>true)&&(match h.i.dst with|some d=> !(g.looks.contains d)|none=>true)&&fb g.i.mode h.i.mode
theorem Yb(q:Bool)(n0:Nat)(m:Bt)(d:Option Nat)(A:dn):Iy q n0 m d A (lq d):=⟨rfl,fun k ad=>by simp[lq,look]at ad,fun k ad=>by simp[lq,look]at ad,fun k ad=>by simp[lq]at ad,fun _ k o ad=>by simp[lq,look]at ad,fun _ k o ad=>by simp[lq,look]at ad⟩
theorem NU{P:cF}{q:Bool}{n0:Nat}{g:da}{A:dn}{x:kT}(h:kU P q n0 g A x):Iy q n0 g.i.mode g.i.dst A x:=by
 unfold kU at h;split at h
 ·exact Ya h
 ·split at h
  ·rcases h with⟨_,h⟩|⟨_,rfl⟩
   ·exact Ya h
   ·exact Yb _ _ _ _ _
  ·subst h;exact Yb _ _ _ _ _
  ·exact h.elim
theorem sL{A:dn}{x:kT}{k:aH}(h:look k x.bw=none):(A.do x).b k=A.b k:=by simp[dn.do,iI,h]
theorem sM{A:dn}{x:kT}{k:aH}(h:look k x.ew=none):(A.do x).e k=A.e k:=by simp[dn.do,iI,h]
theorem Jo{A:dn}{x:kT}{k:aH}(h:(A.do x).b k=none):A.b k=none:=by
 simp only[dn.do,iI]at h;split at h
 ·cases h
 ·exact h
theorem Jp{A:dn}{x:kT}{k:aH}(h:(A.do x).e k=none):A.e k=none:=by
 simp only[dn.do,iI]at h;split at h
 ·cases h
 ·exact h
theorem lR{α:Type}{o:Option α}(h:¬o.isSome):o=none:=by cases o<;>simp at h⊢
theorem OF{P:cF}{q:Bool}{n0:Nat}{g:da}{A gn:dn}{x:kT}(h:kU P q n0 g A x)(aL:qC g.looks A.t gn.t)(hm:eB P q n0 g.i A x→eB P q n0 g.i gn x):kU P q n0 g gn x:=by
 unfold kU at h⊢;cases aX:g.g with
 |none=>simp only[aX]at h⊢;exact hm h
 |some yQ=>
  obtain⟨s,w⟩:=yQ;have:A.t s=gn.t s:=aL s (by simp[da.looks,aX]);simp only[aX,this]at h⊢;split at h
  ·rcases h with⟨J,U⟩|h
   ·exact .inl ⟨J,hm U⟩
   ·exact .inr h
  ·exact h
  ·exact h
theorem swap{P:cF}{q:Bool}{n0:Nat}{g h:da}(To:zx g h=true){A:dn}{x y:kT}(ab:kU P q n0 g A x)(aG:kU P q n0 h (A.do x) y):
  kU P q n0 h A y∧kU P q n0 g (A.do y) x∧x.apart y:=by
 simp only[zx,cE]at To;obtain⟨⟨fw,eU⟩,hm⟩:=To;have yT:=NU ab;have cH:∀d ca,g.i.dst=some d→h.i.dst=some ca→d≠ca:=by intro d ca ak aC e;simp only[ak,cE,bne_iff_ne]at fw;exact fw.2 (by rw[aC,e])
 have FH:qC h.looks (A.do x).t A.t:=by intro i hi;simp only[dn.do];rw[if_neg];intro e;rw[yT.d]at e;simp only[e,cE,sx,List.contains_eq_mem,hR]at fw;exact fw.1 hi
 have qS:∀k,(look k x.bw).isSome→_:=yT.b;have hle:∀k,(look k x.ew).isSome→_:=yT.e;have UB:kU P q n0 h A y:=by
  refine OF aG FH fun hg=>OD hg (fun i hi=>FH i (by simp[da.looks,hi])) (fun e k ad ae=>?_) (fun e k ae=>?_) (fun e bh k o ax hY=>?_) (fun d aR TF lG=>?_) (fun e k o ax=>?_) (fun e k=>?_) (fun e m lG=>⟨lG.1.1,Jo lG.2.1,Jp lG.2.2⟩) (fun e k o ax hY=>?_) (fun e m=>?_)
  ·rw[sL (lR fun ag=>?_)];rcases qS k ag with⟨ak,_⟩|ak|⟨ak,⟨j,aC⟩,bk⟩|⟨ak,_⟩;rotate_left 3
   ·rw[e,ak]at hm;simp[fb]at hm
   ·rw[e,ak]at hm;simp[fb]at hm
   ·rw[e,ak]at hm;simp[fb]at hm
   ·rcases ad with ad|⟨m,ad⟩
    ·rw[ad]at bk;cases bk
    ·rw[ad]at aC;cases aC
  ·rw[sL (lR fun ag=>?_)];rcases qS k ag with⟨ak,_⟩|ak|⟨ak,_⟩|⟨ak,_⟩<;>(rw[e,ak]at hm;simp[fb]at hm)
  ·rw[e]at hm;cases hM:look k x.ew with
   |none=>rw[sM hM]at ax;exact ax
   |some o'=>
    exfalso;have KN:(A.do x).e k=some o':=by simp[dn.do,iI,hM]
    rw[KN]at ax;cases ax;rcases hle k (by simp[hM])with⟨ak,_⟩|⟨ak,_⟩|⟨ak,_,bk⟩|⟨ak,_⟩
    ·exact hY (yT.xn (.inr ak) k _ hM)
    ·exact hY (yT.xn (.inl ak) k _ hM)
    ·rw[bh]at bk;cases bk
    ·rw[ak]at hm;simp[fb]at hm
  ·exact⟨lG.1.1,Jo lG.2.1,Jp lG.2.2⟩
  ·rw[sM (lR fun ag=>?_)]at ax
   ·exact ax
   ·rw[e]at hm;rcases hle k ag with⟨ak,_⟩|⟨ak,_⟩|⟨ak,_⟩|⟨ak,_⟩<;>(rw[ak]at hm;simp[fb]at hm)
  ·rw[sL (lR fun ag=>?_)];rw[e]at hm;rcases qS k ag with⟨ak,_⟩|ak|⟨ak,_⟩|⟨ak,_⟩<;>(rw[ak]at hm;simp[fb]at hm)
  ·rw[e]at hm;cases hM:look k x.ew with
   |none=>rw[sM hM]at ax;exact ax
   |some o'=>
    exfalso;have KN:(A.do x).e k=some o':=by simp[dn.do,iI,hM]
    rw[KN]at ax;cases ax;rcases hle k (by simp[hM])with⟨ak,_⟩|⟨ak,_⟩|⟨ak,_⟩|⟨ak,_⟩
    ·exact hY (yT.xn (.inr ak) k _ hM)
    ·rw[ak]at hm;simp[fb]at hm
    ·rw[ak]at hm;simp[fb]at hm
    ·rw[ak]at hm;simp[fb]at hm
  ·rw[e]at hm;refine⟨?_,?_,fun gp=>gp.1⟩
   ·rw[sL (lR fun ag=>?_)];rcases qS _ ag with⟨ak,d,_,aC,_⟩|ak|⟨ak,_⟩|⟨ak,_⟩;rotate_left 3
    ·rw[ak]at hm;simp[fb]at hm
    ·cases aC
    ·rw[ak]at hm;simp[fb]at hm
    ·rw[ak]at hm;simp[fb]at hm
   ·rw[sM (lR fun ag=>?_)];rcases hle _ ag with⟨ak,d,_,aC,_⟩|⟨ak,_⟩|⟨ak,_⟩|⟨ak,_⟩
    ·cases aC
    ·rw[ak]at hm;simp[fb]at hm
    ·rw[ak]at hm;simp[fb]at hm
    ·rw[ak]at hm;simp[fb]at hm
 have ty:=NU UB;have S5:qC g.looks A.t (A.do y).t:=by intro i hi;simp only[dn.do];rw[if_neg];intro e;rw[ty.d]at e;simp only[e,sx,List.contains_eq_mem,hR]at eU;exact eU hi
 refine⟨UB,?_,?_⟩
 ·refine OF ab S5 fun hg=>OD hg (fun i hi=>S5 i (by simp[da.looks,hi])) (fun e k ad ae=>?_) (fun e k ae=>?_) (fun e bh k o ax hY=>?_) (fun d aR TF lG=>?_) (fun e k o ax=>?_) (fun e k=>?_) (fun e m lG=>?_) (fun e k o ax hY=>?_) (fun e m=>?_)
  ·refine sL (lR fun ag=>?_);rcases ty.b k ag with⟨ak,d,_,_,aC,_⟩|ak|⟨ak,⟨j,aC⟩,bk⟩|⟨_,_,aC,_⟩;rotate_left 3
   ·exact ae aC
   ·exact ae aC
   ·rw[e,ak]at hm;simp[fb]at hm
   ·rcases ad with ad|⟨m,ad⟩
    ·rw[ad]at bk;cases bk
    ·rw[ad]at aC;cases aC
  ·refine sL (lR fun ag=>?_);rcases ty.b k ag with⟨ak,d,_,_,aC,_⟩|ak|⟨ak,_⟩|⟨_,_,aC,_⟩;rotate_left 3
   ·exact ae aC
   ·exact ae aC
   ·rw[e,ak]at hm;simp[fb]at hm
   ·rw[e,ak]at hm;simp[fb]at hm
  ·rw[sM (lR fun ag=>?_)]
   ·exact ax
   ·rcases ty.e k ag with⟨ak,d,_,_,_,aC⟩|⟨ak,aC⟩|⟨ak,_,bk⟩|⟨ak,_⟩
    ·rw[aC]at ax;cases ax
    ·exact hY (ty.ex ak k o ag ax)
    ·rw[bh]at bk;cases bk
    ·rw[e,ak]at hm;simp[fb]at hm
  ·refine⟨⟨lG.1,fun qK=>?_⟩,?_,?_⟩
   ·rcases ty.r _ qK with⟨ca,ak,aC⟩|⟨_,⟨j,aC⟩,_⟩
    ·simp only[aH.loc.injEq]at aC;exact cH d ca aR ak (by omega)
    ·cases aC
   ·rw[sL (lR fun ag=>?_)]
    ·exact lG.2.1
    ·rcases ty.b _ ag with⟨ak,ca,aC,bk,_⟩|ak|⟨ak,⟨j,aC⟩,_⟩|⟨ak,⟨j,aC⟩,_⟩;rotate_left 3
     ·cases aC
     ·simp only[aH.loc.injEq]at bk;exact cH d ca aR aC (by omega)
     ·rcases TF with aC|aC|aC|aC<;>(rw[ak,aC]at hm;simp[fb]at hm)
     ·cases aC
   ·rw[sM (lR fun ag=>?_)]
    ·exact lG.2.2
    ·rcases ty.e _ ag with⟨ak,ca,aC,bk,_⟩|⟨ak,aC⟩|⟨ak,⟨j,aC⟩,_⟩|⟨ak,o,aC,_⟩
     ·simp only[aH.loc.injEq]at bk;exact cH d ca aR aC (by omega)
     ·rcases aC with aC|⟨ca,aC,bk,_⟩
      ·exact aC lG.2.2
      ·simp only[aH.loc.injEq]at bk;exact cH d ca aR aC (by omega)
     ·cases aC
     ·rw[lG.2.2]at aC;cases aC
  ·rw[sM (lR fun ag=>?_)]
   ·exact ax
   ·rw[e]at hm;rcases ty.e k ag with⟨ak,d,_,_,_,aC⟩|⟨ak,_⟩|⟨ak,_⟩|⟨ak,_⟩
    ·rw[aC]at ax;cases ax
    ·rw[ak]at hm;simp[fb]at hm
    ·rw[ak]at hm;simp[fb]at hm
    ·rw[ak]at hm;simp[fb]at hm
  ·refine sL (lR fun ag=>?_);rw[e]at hm;rcases ty.b k ag with⟨ak,_⟩|ak|⟨ak,_⟩|⟨ak,_⟩<;>(rw[ak]at hm;simp[fb]at hm)
  ·rw[e]at hm;refine⟨⟨lG.1,fun qK=>?_⟩,?_,?_⟩
   ·rcases ty.r _ qK with⟨ca,ak,aC⟩|⟨ak|ak,_⟩
    ·cases aC
    ·rw[ak]at hm;simp[fb]at hm
    ·rw[ak]at hm;simp[fb]at hm
   ·rw[sL (lR fun ag=>?_)]
    ·exact lG.2.1
    ·rcases ty.b _ ag with⟨ak,_⟩|ak|⟨ak,_⟩|⟨ak,_⟩<;>(rw[ak]at hm;simp[fb]at hm)
   ·rw[sM (lR fun ag=>?_)]
    ·exact lG.2.2
    ·rcases ty.e _ ag with⟨ak,_⟩|⟨ak,_⟩|⟨ak,_⟩|⟨ak,o,aC,_⟩
     ·rw[ak]at hm;simp[fb]at hm
     ·rw[ak]at hm;simp[fb]at hm
     ·rw[ak]at hm;simp[fb]at hm
     ·rw[lG.2.2]at aC;cases aC
  ·rw[sM (lR fun ag=>?_)]
   ·exact ax
   ·rw[e]at hm;rcases ty.e k ag with⟨ak,d,_,_,_,aC⟩|⟨ak,_⟩|⟨ak,_⟩|⟨ak,_⟩
    ·rw[aC]at ax;cases ax
    ·rw[ak]at hm;simp[fb]at hm
    ·rw[ak]at hm;simp[fb]at hm
    ·rw[ak]at hm;simp[fb]at hm
  ·rw[e]at hm;refine⟨?_,?_,fun gp=>⟨gp,fun qK=>?_⟩⟩;rotate_left 2
   ·rcases ty.r _ qK with⟨ca,_,aC⟩|⟨aC|aC,_⟩
    ·cases aC
    ·rw[aC]at hm;simp[fb]at hm
    ·rw[aC]at hm;simp[fb]at hm
   ·refine sL (lR fun ag=>?_);rcases ty.b _ ag with⟨ak,d,_,aC,_⟩|ak|⟨ak,_⟩|⟨ak,_⟩;rotate_left 3
    ·rw[ak]at hm;simp[fb]at hm
    ·cases aC
    ·rw[ak]at hm;simp[fb]at hm
    ·rw[ak]at hm;simp[fb]at hm
   ·refine sM (lR fun ag=>?_);rcases ty.e _ ag with⟨ak,d,_,aC,_⟩|⟨ak,_⟩|⟨ak,_⟩|⟨ak,_⟩
    ·cases aC
    ·rw[ak]at hm;simp[fb]at hm
    ·rw[ak]at hm;simp[fb]at hm
    ·rw[ak]at hm;simp[fb]at hm
 ·refine⟨fun i hi e=>?_,fun k ad=>lR fun ag=>?_,fun k ad=>lR fun ag=>?_⟩
  ·rw[yT.d]at hi;rw[ty.d]at e;exact cH i i hi e rfl
  ·rcases qS k ad with⟨bG,d,a2,a3,_⟩|bG|⟨bG,⟨j,a2⟩,_⟩|⟨bG,_⟩<;>rcases ty.b k ag with⟨b1,ca,b2,fN,_⟩|b1|⟨b1,⟨dJ,b2⟩,_⟩|⟨b1,⟨dJ,b2⟩,_⟩;all_goals first|(rw[bG,b1]at hm;simp[fb]at hm;done)|skip
   ·rw[a3]at fN;simp only[aH.loc.injEq]at fN;exact cH d ca a2 b2 (by omega)
   ·rw[a3]at b2;cases b2
   ·rw[a3]at b2;cases b2
   ·rw[a2]at fN;cases fN
  ·rcases hle k ad with⟨bG,d,a2,a3,_,a4⟩|⟨bG,a2⟩|⟨bG,⟨j,a2⟩,_⟩|⟨bG,gG,a2,_⟩<;>rcases ty.e k ag with⟨b1,ca,b2,fN,_,ov⟩|⟨b1,b2⟩|⟨b1,⟨dJ,b2⟩,_⟩|⟨b1,gD,b2,_⟩
   ·rw[a3]at fN;simp only[aH.loc.injEq]at fN;exact cH d ca a2 b2 (by omega)
   ·rw[bG,b1]at hm;simp[fb]at hm
   ·rw[a3]at b2;cases b2
   ·rw[a4]at b2;cases b2
   ·rcases a2 with a2|⟨d,a2,a3,_⟩
    ·exact a2 ov
    ·rw[a3]at fN;simp only[aH.loc.injEq]at fN;exact cH d ca a2 b2 (by omega)
   ·rw[bG,b1]at hm;simp[fb]at hm
   ·rw[bG,b1]at hm;simp[fb]at hm
   ·rw[bG,b1]at hm;simp[fb]at hm
   ·rw[a2]at fN;cases fN
   ·rw[bG,b1]at hm;simp[fb]at hm
   ·rw[bG,b1]at hm;simp[fb]at hm
   ·rw[bG,b1]at hm;simp[fb]at hm
   ·rw[ov]at a2;cases a2
   ·rw[bG,b1]at hm;simp[fb]at hm
   ·rw[bG,b1]at hm;simp[fb]at hm
   ·rw[bG,b1]at hm;simp[fb]at hm
def xg(C:fh)(A:dn)(a:Act)(w:World):Prop:= ∃st ν,lx st A∧(∀k,A.F k→fresh st.n st.o k)∧cR C st a w ν
theorem LF{st:bs}{A:dn}(h:lx st A)(d:Nat)(p:ah):lx {st with t:=put d p st.t} (A.do ⟨some d,p,[],[],none⟩):=by
 refine⟨fun i=>?_,fun k=>?_,fun k=>?_⟩
 ·simp only[dn.do,pC,dM,h.t]
 ·simpa[dn.do,iI,look]using h.b k
 ·simpa[dn.do,iI,look]using h.e k
theorem Vc{st:bs}{A:dn}(h:lx st A)(d:Nat)(p:ah)(o':List aH)(rm:Option aH):lx {st with t:=put d p st.t,o:=o'} (A.do ⟨some d,p,[],[],rm⟩):=by have:=LF h d p;exact⟨this.t,this.b,this.e⟩
theorem Y2{α:Type}{β:Type}:∀l:List (aH×α),cz ([]:List (aH×β)) l=l
 |[]=>rfl
 |(k,x)::r=>by simp[cz,look,Y2 r]
theorem Aq{st:bs}{A:dn}(h:lx st A)(d:Nat)(p:ah)(κ:aH)(cs:List ah)(n':Nat)(o':List aH)(rm:Option aH):lx ⟨put d p st.t,cB κ cs st.b,st.e,n',o'⟩ (A.do ⟨some d,p,[(κ,cs)],[],rm⟩):=by
 refine⟨fun i=>?_,fun k=>?_,fun k=>?_⟩
 ·simp only[dn.do,pC,dM,h.t]
 ·simp only[dn.do,iI,look,jc,h.b];by_cases e:κ=k<;>simp[e]
 ·simpa[dn.do,iI,look]using h.e k
theorem GF{st:bs}{A:dn}(h:lx st A)(κ:aH)(cs:List ah)(p:ah):lx {st with b:=cB κ cs st.b} (A.do ⟨none,p,[(κ,cs)],[],none⟩):=by
 refine⟨fun i=>?_,fun k=>?_,fun k=>?_⟩
 ·simpa[dn.do]using h.t i
 ·simp only[dn.do,iI,look,jc,h.b];by_cases e:κ=k<;>simp[e]
 ·simpa[dn.do,iI,look]using h.e k
theorem wB{st:bs}{A:dn}(h:lx st A)(d:Nat)(p:ah)(κ:aH)(o:fL)(n':Nat)(o':List aH)(rm:Option aH):lx ⟨put d p st.t,st.b,cB κ o st.e,n',o'⟩ (A.do ⟨some d,p,[],[(κ,o)],rm⟩):=by
 refine⟨fun i=>?_,fun k=>?_,fun k=>?_⟩
 ·simp only[dn.do,pC,dM,h.t]
 ·simpa[dn.do,iI,look]using h.b k
 ·simp only[dn.do,iI,look,jc,h.e];by_cases e:κ=k<;>simp[e]
theorem Vb{st:bs}{A:dn}(h:lx st A)(κ:aH)(o:fL)(p:ah):lx {st with e:=cB κ o st.e} (A.do ⟨none,p,[],[(κ,o)],none⟩):=by
 refine⟨fun i=>?_,fun k=>?_,fun k=>?_⟩
 ·simpa[dn.do]using h.t i
 ·simpa[dn.do,iI,look]using h.b k
 ·simp only[dn.do,iI,look,jc];by_cases e:κ=k<;>simp[e,h.e]
theorem LV{α:Type}{k:aH}:∀{l:List (aH×α)},k∈l.map (·.1)→(look k l).isSome
 |[],h=>by simp at h
 |(i,x)::r,h=>by
  simp only[look];split
  ·rfl
  ·rename_i e;simp only[gS,gf]at h;rcases h with h|h
   ·exact absurd h.symm e
   ·exact LV h
theorem vJ{n:Nat}{o:List aH}{κ:aH}:∀j,fresh n (κ::o) j→fresh n o j∧j≠κ:=by intro j af;simp only[fresh,gf,not_or]at af⊢;exact⟨⟨af.1,af.2.2⟩,af.2.1⟩
theorem aed{n:Nat}{o:List aH}{κ j:aH}(h:fresh n o j)(af:some κ≠some j):fresh n (κ::o) j:=by simp only[fresh,gf,not_or]at h⊢;exact⟨h.1,fun e=>af (by rw[e]),h.2⟩
theorem OE{P:cF}{bC:List (Nat×dI)}(aL:fU P bC=true){C:fh}{q:Bool}{n0:Nat}{i:ek}{o:Oper}(ax:va C.N bC i o=true){A:dn}{x:kT}(ab:eB P q n0 i A x){a:Act}{w:World}(aM:xg C A a w)
  {K:Act→World→Prop} {Q:Exit→Act→World→Prop} (dh:∀bp w',xg C (A.do x) bp w'→K bp w'):o.wp P a w K Q:=by
 obtain⟨st,ν,aw,gp,aM⟩:=aM;have xF:∀(t:List (Nat×ah)) (b:List (aH×List ah)) (e:List (aH×fL)) (d:Option Nat) (p:ah) (bw:List (aH×List ah)) (ew:List (aH×fL)),∀k,(A.do ⟨d,p,bw,ew,none⟩).F k→fresh st.n st.o k:=fun t b e d p bw ew k ad=>gp k ad.1;have nk:∀(d:Option Nat) (p:ah) (bw:List (aH×List ah)) (ew:List (aH×fL)) (κ:aH),∀k,(A.do ⟨d,p,bw,ew,some κ⟩).F k→fresh st.n (κ::st.o) k:=fun d p bw ew κ k ad=>aed (gp k ad.1) ad.2;cases i with
 |s i=>
  have hX:DN C.N bC i o=true:=by simpa only[va]using ax
  cases i with
  |v d i=>simp only[eB]at ab;obtain⟨c,p,J,U,_,rfl⟩:=ab;rw[←Yh aw]at J;refine jV (κ:= .loc 0) (n':=0) (o₁:=[]) aL aM hX (fun h=>by simp[ev.makes]at h) (fun h=>by simp[ev.makes]at h) (st':={st with t:=put d p st.t}) (by simp only[eK,J]) U fun bp w' bo cx=>dh _ _ ⟨_,bo,LF aw d p,fun k ad=>gp k ad.1,cx⟩
  |box d key v=>
   cases key with
   |some m=>simp only[eB]at ab
   |none=>simp only[eB]at ab;obtain⟨⟨J,_⟩,U,rfl⟩:=ab;rw[←iX aw]at U;refine jV (κ:= .loc (n0+d)) (n':=st.n) (o₁:= .loc (n0+d)::st.o) aL aM hX (fun _=>gp _ J) (fun _=>vJ) (st':=⟨put d (.ptr (.loc (n0+d)) 0) st.t,cB (.loc (n0+d)) (cells (cu st.t v)) st.b,st.e,st.n,.loc (n0+d)::st.o⟩) (by simp only[eK]) U fun bp w' bo cx=>dh _ _ ⟨_,bo,?_,nk _ _ _ _ _,cx⟩;rw[iX aw];exact Aq aw d _ _ _ _ _ _
  |alloc d key z=>
   cases key with
   |some m=>simp only[eB]at ab
   |none=>simp only[eB]at ab;obtain⟨⟨J,_⟩,rfl⟩:=ab;refine jV (κ:= .loc (n0+d)) (n':=st.n) (o₁:= .loc (n0+d)::st.o) aL aM hX (fun _=>gp _ J) (fun _=>vJ) (st':=⟨put d (.ptr (.loc (n0+d)) 0) st.t,cB (.loc (n0+d)) (cells z) st.b,st.e,st.n,.loc (n0+d)::st.o⟩) (by simp only[eK]) trivial fun bp w' bo cx=>dh _ _ ⟨_,bo,Aq aw d _ _ _ _ _ _,nk _ _ _ _ _,cx⟩
  |store sz u v=>simp only[eB]at ab;obtain⟨k,off,cs,J,U,ar,rfl⟩:=ab;rw[←iX aw]at J ar;rw[←aw.b]at U;refine jV (κ:= .loc 0) (n':=0) (o₁:=[]) aL aM hX (fun h=>by simp[ev.makes]at h) (fun h=>by simp[ev.makes]at h) (st':={st with b:=cB k (n7 cs off (cells (cu st.t v))) st.b}) (by simp only[eK,J,U]) ar fun bp w' bo cx=>dh _ _ ⟨{st with b:=cB k (n7 cs off (cells (cu st.t v))) st.b},bo,by rw[iX aw];exact GF aw k _ _,fun k ad=>gp k ad.1,cx⟩
  |bsl d sz el xs=>simp only[eB]at ab;obtain⟨⟨J,_⟩,U,rfl⟩:=ab;rw[←ur aw]at U;refine jV (κ:= .loc (n0+d)) (n':=st.n) (o₁:= .loc (n0+d)::st.o) aL aM hX (fun _=>gp _ J) (fun _=>vJ) (st':=⟨put d (.slice sz (.own (.loc (n0+d))) (xs.map (cu st.t))) st.t,st.b,cB (.loc (n0+d)) ⟨xs.length,el,sz,none⟩ st.e,st.n,.loc (n0+d)::st.o⟩) (by simp only[eK]) U fun bp w' bo cx=>dh _ _ ⟨_,bo,?_,nk _ _ _ _ _,cx⟩;rw[ur aw];exact wB aw d _ _ _ _ _ _
  |app d sz el u v=>
   simp only[eB]at ab;obtain⟨tag,xs,k4,ys,J,U,ab⟩:=ab;rw[←iX aw]at J U;rcases ab with⟨k,ow,rfl,ar,a8,rfl⟩|⟨rfl,ar,⟨a8,_⟩,rfl⟩
   ·rw[←aw.e]at ar;refine jV (κ:= .loc 0) (n':=0) (o₁:=[]) aL aM hX (fun h=>by simp[ev.makes,J]at h) (fun h=>by simp[ev.makes,J]at h) (st':=⟨put d (.slice sz (.own k) (xs++ys)) st.t,st.b,cB k ⟨xs.length+ys.length,el,sz,none⟩ st.e,st.n,st.o⟩) (by simp only[eK,J,U,ar,and_self,if_true]) a8.2 fun bp w' bo cx=>dh _ _ ⟨_,bo,wB aw d _ _ _ _ _ _,fun k ad=>gp k ad.1,cx⟩
   ·refine jV (κ:= .loc (n0+d)) (n':=st.n) (o₁:= .loc (n0+d)::st.o) aL aM hX (fun _=>gp _ a8) (fun _=>vJ) (st':=⟨put d (.slice sz (.own (.loc (n0+d))) ys) st.t,st.b,cB (.loc (n0+d)) ⟨ys.length,el,sz,none⟩ st.e,st.n,.loc (n0+d)::st.o⟩) (by simp only[eK,J,U,and_self,if_true]) ar fun bp w' bo cx=>dh _ _ ⟨_,bo,wB aw d _ _ _ _ _ _,nk _ _ _ _ _,cx⟩
  |bslm d key sz el xs=>simp only[eB]at ab
  |mks d key sz el z x=>simp only[eB]at ab
  |appm d key sz el u v=>simp only[eB]at ab;obtain⟨k,n,xs,k4,ys,J,U,ar,a8,rfl⟩:=ab;rw[←iX aw]at J U;rw[←aw.e]at ar;refine jV (κ:= .loc 0) (n':=0) (o₁:=[]) aL aM hX (fun h=>by simp[ev.makes,J]at h) (fun h=>by simp[ev.makes,J]at h) (st':=⟨put d (.row sz k (xs.length+ys.length)) st.t,st.b,cB k ⟨xs.length+ys.length,el,sz,some (xs++ys)⟩ st.e,st.n,st.o⟩) (by simp only[eK,sH,J,U,ar,and_self,if_true]) a8 fun bp w' bo cx=>dh _ _ ⟨_,bo,wB aw d _ _ _ _ _ _,fun k ad=>gp k ad.1,cx⟩
  |storeE sz u v=>simp only[eB]at ab;obtain⟨k,n,i,f,el,dL,xs,q,J,U,ar,a8,rfl⟩:=ab;rw[←iX aw]at J a8;rw[←aw.e]at U;refine jV (κ:= .loc 0) (n':=0) (o₁:=[]) aL aM hX (fun h=>by simp[ev.makes]at h) (fun h=>by simp[ev.makes]at h) (st':={st with e:=cB k ⟨n,el,dL,some (xs.set i (mP q f (cells (cu st.t v))))⟩ st.e}) (by simp only[eK,rb,J,U,ar,and_self,if_true]) a8 fun bp w' bo cx=>dh _ _ ⟨{st with e:=cB k ⟨n,el,dL,some (xs.set i (mP q f (cells (cu st.t v))))⟩ st.e},bo,by rw[iX aw];exact Vb aw k _ _,fun k ad=>gp k ad.1,cx⟩
  |mkmap d key=>
   cases key with
   |none=>simp only[eB]at ab
   |some m=>simp only[eB]at ab;obtain⟨⟨J,_⟩,rfl⟩:=ab;exact jV (κ:= .obj m) (n':=st.n) (o₁:= .obj m::st.o) aL aM hX (fun _=>gp _ J) (fun _=>vJ) (st':=⟨put d (.gmap (.obj m)) st.t,cB (.obj m) [.hdm 0 []] st.b,st.e,st.n,.obj m::st.o⟩) (by simp only[eK]) trivial fun bp w' bo cx=>dh _ _ ⟨_,bo,Aq aw d _ _ _ _ _ _,nk _ _ _ _ _,cx⟩
  |mput cf u k v=>simp only[eB]at ab;obtain⟨m,cs,cs',J,U,ar,rfl⟩:=ab;rw[←iX aw]at J;rw[←iX aw,←iX aw]at ar;rw[←aw.b]at U;exact jV (κ:= .loc 0) (n':=0) (o₁:=[]) aL aM hX (fun h=>by simp[ev.makes]at h) (fun h=>by simp[ev.makes]at h) (st':={st with b:=cB m cs' st.b}) (by simp only[eK,J,U,ar]) trivial fun bp w' bo cx=>dh _ _ ⟨{st with b:=cB m cs' st.b},bo,GF aw m _ _,fun k ad=>gp k ad.1,cx⟩
  |range d key x=>simp only[eB]at ab
 |next d x=>simp only[eB]at ab
 |call d f xs=>
  simp only[eB]at ab;obtain⟨n,dv,J,ab⟩:=ab;rw[←iX aw]at J;rcases ab with⟨⟨s,ai,r,rm,bN,cq,dj,iH,l0,pn,BI,rfl⟩,_⟩|⟨cI,r,rfl,bN,cq,dj,rfl⟩;rotate_left
  ·rw[←ur aw]at cq dj;simp only[va]at ax;split at ax
   ·rename_i ry args Bd nt;simp only[cE,dS]at ax;obtain⟨⟨⟨ak,aC⟩,bk⟩,dg⟩:=ax;have l5:=et aM bk;rw[J]at l5;refine Rg aM nt ak aC l5 (DI aM dg) (K:=fun st'=>st'={st with t:=put cI r st.t,o:= .loc (n0+cI)::st.o}) ⟨⟨[],[]⟩,_,some (n0+cI),st.n,fun _=>.loc (n0+cI)::st.o,fun k cs ad=>by simp[look]at ad,fun k cs ad=>by simp[look]at ad,⟨fun _=>rfl,fun _=>rfl⟩,j1 (fun _ h=>h.elim) _ cq,dj,fun m hm=>?_,fun k eS ai bh ad=>?_,?_⟩ ?_
    ·cases hm;exact gp _ bN.1
    ·obtain⟨_,rfl⟩:=bh;have:=vJ k ad;exact⟨by simpa[cV]using this.1,fun m hm=>by cases hm;exact this.2⟩
    ·rintro eS oY ⟨rfl,rfl⟩;refine⟨⟨fun m hm=>by simp[look]at hm,fun m hm=>by simp[look]at hm⟩,?_⟩;simp[after,Y2,eX]
    ·rintro st' bp w' bo rfl cx;exact dh _ _ ⟨_,bo,Vc aw cI r _ _,nk _ _ _ _ _,cx⟩
   ·cases ax
  rw[←ur aw]at pn BI;simp only[va]at ax;split at ax
  ·rename_i ry args Bd nt;simp only[cE,dS]at ax;obtain⟨⟨⟨ak,aC⟩,bk⟩,dg⟩:=ax;have l5:=et aM bk;rw[J]at l5;obtain⟨aP,a6,bR,dq,cS⟩:=l0;refine Rf aM nt ak aC l5 (DI aM dg) (K:=fun st'=>st'=after st s ai d r) (.inl ⟨s,_,fun k cs ad=>⟨by rw[aw.b];exact(bN k cs ad).1,.inl (by simp[ad]),(bN k cs ad).2⟩,fun k o' ad=>⟨by rw[aw.e];exact(cq k o' ad).1,.inr (by simp[ad]),(cq k o' ad).2⟩,dj,pn,BI,?_⟩) ?_
   ·rintro eS oY ⟨rfl,rfl⟩;refine⟨⟨fun m hm=>?_,fun m hm=>?_⟩,rfl⟩
    ·rcases aP _ hm with h|h
     ·exact .inl h
     ·exact .inr (gp _ (cS _ h).2.1).2
    ·rcases a6 _ hm with h|h
     ·exact .inl h
     ·exact .inr (gp _ (cS _ h).2.1).2
   ·rintro st' bp w' bo rfl cx;refine dh _ _ ⟨_,bo,⟨fun i=>?_,fun k=>?_,fun k=>?_⟩,fun k ad=>?_,cx⟩
    ·simp only[after,dn.do];cases d with
     |none=>simpa[eX]using aw.t i
     |some d=>simp only[eX,pC,dM,aw.t]
    ·simp only[after,dn.do,iI,yi,uZ];by_cases ag:(look k s.b).isSome
     ·have:=bR k ag;obtain⟨y,aG⟩:=fE.1 this;simp[ag,aG]
     ·cases au:look k ai.b with
      |none=>simp only[ag,aw.b];cases A.b k<;>simp
      |some y=>
       rcases aP k (by simp[au])with h|h
       ·exact absurd h ag
       ·have:=cS k h;simp[ag,aw.b,this]
    ·simp only[after,dn.do,iI,yi,uZ];by_cases ag:(look k s.e).isSome
     ·have:=dq k ag;obtain⟨y,aG⟩:=fE.1 this;simp[ag,aG]
     ·cases au:look k ai.e with
      |none=>simp only[ag,aw.e];cases A.e k<;>simp
      |some y=>
       rcases a6 k (by simp[au])with h|h
       ·exact absurd h ag
       ·have:=cS k h;simp[ag,aw.e,this]
    ·have Kx:=gp k ad.1;have oM:=aM.lookNone Kx;simp only[after];refine⟨Kx.1,fun jN=>?_⟩;rcases ka.1 jN with jN|jN
     ·exact Kx.2 jN
     ·rcases ka.1 jN with jN|jN
      ·rcases aP k (LV jN)with h|h
       ·obtain⟨y,aG⟩:=fE.1 h;have:=(bN k y aG).1;rw[←aw.b,oM.1]at this;cases this
       ·exact ad.2 h
      ·rcases a6 k (LV jN)with h|h
       ·obtain⟨y,aG⟩:=fE.1 h;have:=(cq k y aG).1;rw[←aw.e,oM.2]at this;cases this
       ·exact ad.2 h
  ·cases ax
theorem Zg{P:cF}{bC:List (Nat×dI)}(aL:fU P bC=true){C:fh}{q:Bool}{n0:Nat}{ops:Array Oper}{g:da}{o:Oper}{j:Nat}(af:ops[j]? =some o)(ax:B7 C.N bC ops.toList g o=true){A:dn}{x:kT}(ab:kU P q n0 g A x){a:Act}{w:World}(aM:xg C A a w)
  {K:Act→World→Prop} {Q:Exit→Act→World→Prop} (dh:∀bp w',xg C (A.do x) bp w'→K bp w'):wpOp P ops Q j K a w:=by
 unfold wpOp;rw[af];simp only;simp only[B7,cE]at ax;obtain⟨qQ,oK⟩:=ax;unfold kU at ab;cases Cs:g.g with
 |none=>
  cases de:o.guard with
  |some x=>simp[de,Cs]at qQ
  |none=>
   have hw:o9 o (yielded ops a.tmps)=true:=by simp[o9,de]
   rw[if_pos hw];simp only[Cs]at ab;exact .inl (OE aL oK ab aM dh)
 |some yQ=>
  obtain⟨s,want⟩:=yQ;cases de:o.guard with
  |none=>simp[de,Cs]at qQ
  |some aoH=>
   obtain⟨aqR,bP⟩:=aoH;simp only[de,Cs,cE,dS,fK]at qQ;obtain⟨⟨⟨⟨rfl,U⟩,ar⟩,a8⟩,b4⟩:=qQ;obtain⟨st,ν,aw,gp,dp⟩:=id aM;obtain⟨kQ,o7⟩:=Y5 dp U ar;simp only[Cs]at ab;have T0:∀(h:x=lq g.i.dst),K (a.put o.dst undef) w:=by
    rintro rfl;rw[a8];refine dh _ _ ⟨_,ν,?_,fun k ad=>?_,dp.put b4 (p:= .tuple []) (by simp[ba,cM,undef])⟩
    ·refine⟨fun i=>?_,fun k=>?_,fun k=>?_⟩
     ·simp only[dn.do,lq];cases g.i.dst with
      |none=>simpa[eX]using aw.t i
      |some d=>simp only[eX,pC,dM,aw.t]
     ·simpa[dn.do,iI,look,lq]using aw.b k
     ·simpa[dn.do,iI,look,lq]using aw.e k
    ·exact gp k ad.1
   split at ab
   ·rename_i b ae;have aG:=kQ b (by rw[aw.t];exact ae);rcases ab with⟨rfl,ab⟩|⟨rfl,ab⟩
    ·have hw:o9 o (yielded ops a.tmps)=true:=by simp[o9,de,aG]
     rw[if_pos hw];exact .inl (OE aL oK ab aM dh)
    ·have hw:¬(o9 o (yielded ops a.tmps)=true):=by simp[o9,de,aG]
     rw[if_neg hw];exact T0 ab
   ·rename_i ae;have aG:=o7 (by rw[aw.t];exact ae);have hw:¬(o9 o (yielded ops a.tmps)=true):=by simp[o9,de,aG]
    rw[if_neg hw];exact T0 ab
   ·exact ab.elim
def oz(P:cF)(q:Bool)(n0:Nat)(K:dn→Prop):List (Nat×da)→dn→Prop
 |[],A=>K A
 |(_,g)::r,A=> ∃x,kU P q n0 g A x∧oz P q n0 K r (A.do x)
theorem Pc{P:cF}{q:Bool}{n0:Nat}{K:dn→Prop}{i:Nat}{g:da}:∀(oj pe:List (Nat×da)) (A:dn),(∀x∈oj,zx x.2 g=true)→oz P q n0 K (oj++(i,g)::pe) A→∃x,kU P q n0 g A x∧oz P q n0 K (oj++pe) (A.do x)
 |[],pe,A,_,h=>h
 |(j,SP)::oj,pe,A,ay,h=>by simp only[bX,oz]at h;obtain⟨y,aG,h⟩:=h;obtain⟨x,ab,h⟩:=Pc oj pe (A.do y) (fun z bq=>ay z (pa _ bq)) h;obtain⟨s1,s2,s3⟩:=swap (ay _ (List.mem_cons_self ..)) aG ab;refine⟨x,s1,y,s2,?_⟩;rw[←dn.do_comm A s3];exact h
def rem(hN:Array Bool):Nat→List da→List (Nat×da)
 |_,[]=>[]
 |k,g::r=>if hN.getD k false then rem hN (k+1) r else(k,g)::rem hN (k+1) r
theorem Xe{l a1:Array Bool}:∀(gs:List da) (k:Nat),(∀j,k≤j→l.getD j false=a1.getD j false)→rem l k gs=rem a1 k gs
 |[],_,_=>rfl
 |g::r,k,h=>by simp only[rem,h k (eY _),Xe r (k+1) fun j af=>h j (by omega)]
theorem FA{l:Array Bool}{i j:Nat}(h:i<l.size):(l.setIfInBounds i true).getD j false=if i=j then true else l.getD j false:=by
 simp only[Array.getD_eq_getD_getElem?];by_cases e:i=j
 ·subst e;simp[h]
 ·simp[e]
theorem M9{l:Array Bool}{i:Nat}(hi:i<l.size)(au:l.getD i false=false):∀(gs:List da) (k:Nat),k≤i→i<k+gs.length→∃oj pe g,gs[i-k]? =some g∧rem l k gs=oj++(i,g)::pe∧rem (l.setIfInBounds i true) k gs=oj++pe∧
  ∀x∈oj,gs[x.1-k]? =some x.2∧k≤x.1∧x.1<i∧l.getD x.1 false=false
 |[],k,J,U=>by simp at U;omega
 |g::r,k,J,U=>by
  by_cases e:k=i
  ·subst e;refine⟨[],rem l (k+1) r,g,by simp,by simp[rem,au],?_,fun x ab=>by simp at ab⟩;simp only[rem,FA hi,if_true,b3];exact Xe r (k+1) fun j af=>by rw[FA hi,if_neg (by omega)]
  ·obtain⟨oj,pe,e9,ak,aC,bk,dg⟩:=M9 hi au r (k+1) (by omega) (by simp at U;omega);have vU:i-k=(i-(k+1))+1:=by omega
   have hj:(l.setIfInBounds i true).getD k false=l.getD k false:=by rw[FA hi,if_neg (by omega)]
   by_cases ad:l.getD k false=true
   ·refine⟨oj,pe,e9,by rw[vU];simpa using ak,by simp only[rem,ad,if_true,aC],by simp only[rem,hj,ad,if_true,bk],fun x ab=>?_⟩;obtain⟨f1,f2,f3,f4⟩:=dg x ab;refine⟨?_,by omega,f3,f4⟩;have:x.1-k=(x.1-(k+1))+1:=by omega
    rw[this];simpa using f1
   ·have ad:l.getD k false=false:=by simpa using ad
    refine⟨(k,g)::oj,pe,e9,by rw[vU];simpa using ak,by simp[rem,ad,aC],by simp[rem,hj,ad,bk],fun x ab=>?_⟩;rcases gf.1 ab with rfl|ab
    ·exact⟨by simp,eY _,by simp;omega,ad⟩
    ·obtain⟨f1,f2,f3,f4⟩:=dg x ab;refine⟨?_,by omega,f3,f4⟩;have:x.1-k=(x.1-(k+1))+1:=by omega
     rw[this];simpa using f1
def u0(acc:List Nat):List Edge→Nat
 |[]=>0
 |e::r=>if Region.binds .any e then(2 ^ e.on)|||(acc.getD e.on 0)|||u0 acc r else u0 acc r
def r7(acc:List Nat):List Oper→List Nat
 |[]=>acc
 |o::os=>r7 (acc++[u0 acc o.after.toList]) os
def DK(m:Nat)(h:da):Nat→List da→Bool
 |_,[]=>true
 |i,g::r=>(m.testBit i||zx g h)&&DK m h (i+1) r
def Dv:List da→List da→List Nat→Bool
 |_,[],_=>true
 |pre,h::r,m::ms=>DK m h 0 pre&&Dv (pre++[h]) r ms
 |_,_,[]=>false
def BR:Nat→List Oper→Bool
 |_,[]=>true
 |k,o::os=>o.after.toList.all (fun e=> !Region.binds .any e||decide (e.on<k))&&BR (k+1) os
def BB(gs:List da)(ops:List Oper):Bool:=BR 0 ops&&Dv [] gs (r7 [] ops)
theorem LN{acc:List Nat}{j:Nat}:∀{es:List Edge},(u0 acc es).testBit j=true→∃e∈es,Region.binds .any e=true∧(j=e.on∨(acc.getD e.on 0).testBit j=true)
 |[],h=>by simp[u0]at h
 |e::r,h=>by
  simp only[u0]at h;split at h
  ·rename_i ae;simp only[Nat.testBit_or,mT]at h;rcases h with(h|h)|h
   ·refine⟨e,by simp,ae,.inl ?_⟩;rw[Nat.testBit_two_pow]at h;have cx:e.on=j:=by simpa using h
    exact cx.symm
   ·exact⟨e,by simp,ae,.inr h⟩
   ·obtain⟨fT,J,U⟩:=LN h;exact⟨fT,by simp[J],U⟩
  ·obtain⟨fT,J,U⟩:=LN h;exact⟨fT,by simp[J],U⟩
theorem LO:∀(os:List Oper) (acc:List Nat) (k:Nat),k<acc.length→(r7 acc os)[k]? =acc[k]?
 |[],acc,k,_=>rfl
 |o::os,acc,k,h=>by simp only[r7];rw[LO os _ k (by simp;omega),List.getElem?_append_left h]
theorem Vj:∀(os:List Oper) (acc:List Nat) (k:Nat) (o:Oper),os[k]? =some o→∃tZ,(r7 acc os)[acc.length+k]? =some (u0 tZ o.after.toList)∧tZ.length=acc.length+k∧∀i,i<tZ.length→tZ[i]? =(r7 acc os)[i]?
 |[],acc,k,o,h=>by simp at h
 |o'::os,acc,0,o,h=>by
  simp only[List.getElem?_cons_zero,dM]at h;subst h;refine⟨acc,?_,by simp,fun i hi=>?_⟩
  ·simp only[r7,Nat.add_zero];rw[LO os _ _ (by simp)];simp
  ·simp only[r7];rw[LO os _ i (by simp;omega),List.getElem?_append_left hi]
 |o'::os,acc,k+1,o,h=>by simp only[List.getElem?_cons_succ]at h;obtain⟨tZ,J,U,ar⟩:=Vj os (acc++[u0 acc o'.after.toList]) k o h;refine⟨tZ,?_,by rw[U];simp;omega,fun i hi=>by rw[ar i hi];rfl⟩;simp only[r7];rw[show acc.length+(k+1)=(acc++[u0 acc o'.after.toList]).length+k from by simp;omega];exact J
def OA(ops:Array Oper)(hN:Array Bool):Prop:= ∀k o,ops[k]? =some o→hN.getD k false=true→∀e∈o.after.toList,Region.binds .any e=true→hN.getD e.on false=true
theorem ahY{ops:Array Oper}{hN:Array Bool}(aR:OA ops hN):∀(k:Nat) (o:Oper),ops[k]? =some o→(∀e∈o.after.toList,Region.binds .any e=true→hN.getD e.on false=true)→∀j,((r7 [] ops.toList).getD k 0).testBit j=true→hN.getD j false=true:=by
 intro k;induction k using Nat.strongRecOn with
 |_ k bZ=>
  intro o ax aw j af;obtain⟨tZ,J,U,ar⟩:=Vj ops.toList [] k o (by simpa using ax);simp only[List.length_nil,Nat.zero_add]at J U;rw[List.getD_eq_getElem?_getD,J]at af;obtain⟨e,he,ae,cP⟩:=LN af;rcases cP with rfl|cP
  ·exact aw e he ae
  ·by_cases bE:e.on<tZ.length
   ·have hm:tZ.getD e.on 0=(r7 [] ops.toList).getD e.on 0:=by rw[List.getD_eq_getElem?_getD,ar _ bE,List.getD_eq_getElem?_getD]
    have ad:k<ops.size:=(Array.getElem?_eq_some_iff.1 ax).1;have hX:ops[e.on]? =some ops[e.on]:=Array.getElem?_eq_getElem (by omega);rw[hm]at cP;exact bZ e.on (by omega) _ hX (fun fT vS gb=>aR e.on _ hX (aw e he ae) fT vS gb) j cP
   ·rw[List.getD_eq_getElem?_getD,qw (by omega)]at cP;simp at cP
theorem Xx{m:Nat}{h:da}:∀{gs:List da} {i0:Nat},DK m h i0 gs=true→∀i g,gs[i]? =some g→m.testBit (i0+i)=true∨zx g h=true
 |[],i0,_,i,g,aX=>by simp at aX
 |e9::r,i0,aM,0,g,aX=>by simp only[DK,cE,mT]at aM;simp only[List.getElem?_cons_zero,dM]at aX;subst aX;simpa using aM.1
 |e9::r,i0,aM,i+1,g,aX=>by simp only[DK,cE]at aM;have:=Xx aM.2 i g (by simpa using aX);rwa[show i0+1+i=i0+(i+1)from by omega]at this
theorem Wf:∀{gs pre:List da} {ms:List Nat},Dv pre gs ms=true→∀j h,gs[j]? =some h→∀i g,i<pre.length+j→(pre++gs)[i]? =some g→(ms.getD j 0).testBit i=true∨zx g h=true
 |[],pre,ms,_,j,h,af,_,_,_,_=>by simp at af
 |cx::r,pre,[],bQ,j,h,af,_,_,_,_=>by simp[Dv]at bQ
 |cx::r,pre,m::ms,bQ,j,h,af,i,g,hi,aX=>by
  simp only[Dv,cE]at bQ;cases j with
  |zero=>simp only[List.getElem?_cons_zero,dM]at af;subst af;rw[List.getElem?_append_left (by omega)]at aX;simpa using Xx bQ.1 i g aX
  |succ j=>have:=Wf bQ.2 j h (by simpa using af) i g (by simp;omega) (by simpa using aX);simpa using this
theorem RI:∀{os:List Oper} {k:Nat},BR k os=true→∀i o,os[i]? =some o→∀e∈o.after.toList,Region.binds .any e=true→e.on<k+i
 |[],k,_,i,o,ax,_,_,_=>by simp at ax
 |o'::os,k,h,0,o,ax,e,he,ae=>by simp only[BR,cE,hs]at h;simp only[List.getElem?_cons_zero,dM]at ax;subst ax;have:=h.1 e he;simpa[ae]using this
 |o'::os,k,h,i+1,o,ax,e,he,ae=>by simp only[BR,cE]at h;have:=RI h.2 i o (by simpa using ax) e he ae;omega
theorem SR{N:Nat}{bC:List (Nat×dI)}{ops:List Oper}:∀{gs:List da} {os:List Oper},kv N bC ops gs os=true→∀(i:Nat) (g:da),gs[i]? =some g→∃o,os[i]? =some o∧B7 N bC ops g o=true
 |[],[],_,i,g,h=>by simp at h
 |[],_::_,h,_,_,_=>by simp[kv]at h
 |_::_,[],h,_,_,_=>by simp[kv]at h
 |e9::gs,o::os,h,0,g,aX=>by simp only[kv,cE]at h;simp only[List.getElem?_cons_zero,dM]at aX;subst aX;exact⟨o,by simp,h.1⟩
 |e9::gs,o::os,h,i+1,g,aX=>by simp only[kv,cE]at h;obtain⟨o',J,U⟩:=SR h.2 i g (by simpa using aX);exact⟨o',by simpa using J,U⟩
theorem Kc{N:Nat}{bC:List (Nat×dI)}{ops:List Oper}:∀{gs:List da} {os:List Oper},kv N bC ops gs os=true→gs.length=os.length
 |[],[],_=>rfl
 |[],_::_,h=>by simp[kv]at h
 |_::_,[],h=>by simp[kv]at h
 |g::gs,o::os,h=>by simp only[kv,cE]at h;simp[Kc h.2]
theorem Xf{l:Array Bool}:∀(gs:List da) (k:Nat),rem l k gs=[]∨ ∃i g,i<gs.length∧gs[i]? =some g∧l.getD (k+i) false=false∧∀j,j<i→l.getD (k+j) false=true
 |[],_=>.inl rfl
 |g::r,k=>by
  by_cases h:l.getD k false=true
  ·rcases Xf (l:=l) r (k+1)with J|⟨i,e9,J,U,ar,a8⟩
   ·left;simp only[rem,h,if_true,J]
   ·refine .inr ⟨i+1,e9,by simp;omega,by simpa using U,by rw[show k+(i+1)=k+1+i from by omega];exact ar,fun j af=>?_⟩;cases j with
    |zero=>simpa using h
    |succ j=>rw[show k+(j+1)=k+1+j from by omega];exact a8 j (by omega)
  ·exact .inr ⟨0,g,by simp,by simp,by simpa using h,fun j af=>by omega⟩
theorem ZF{P:cF}{bC:List (Nat×dI)}(aL:fU P bC=true){C:fh}{q:Bool}{n0:Nat}{ops:Array Oper}{gs:List da}(kA:kv C.N bC ops.toList gs ops.toList=true)(FJ:BB gs ops.toList=true){K:dn→Prop}{Q:Exit→Act→World→Prop}
  (ib:∀A a w,K A→xg C A a w→Q .normal a w):∀(fuel:Nat) (hN:Array Bool) (A:dn) (a:Act) (w:World),hN.size=ops.size→OA ops hN→(rem hN 0 gs).length≤fuel→oz P q n0 K (rem hN 0 gs) A→xg C A a w→wpAny P .any ops Q fuel hN a w:=by
 simp only[BB,cE]at FJ;obtain⟨Kp,agn⟩:=FJ;have hlen:gs.length=ops.size:=by simpa using Kc kA
 have Tg:∀(hN:Array Bool) (A:dn) (a:Act) (w:World),hN.size=ops.size→oz P q n0 K (rem hN 0 gs) A→xg C A a w→Region.ready .any ops hN=[]→Q .normal a w:=by
  intro hN A a w ep sT aM F7;rcases Xf (l:=hN) gs 0 with h|⟨i,g,J,U,ar,a8⟩
  ·rw[h]at sT;exact ib A a w sT aM
  ·exfalso;have hi:i<ops.size:=by omega
   have jN:i∈Region.ready .any ops hN:=by
    unfold Region.ready;simp only[mV,List.mem_range,cE,sx];refine⟨hi,?_,?_⟩
    ·rw[Nat.zero_add]at ar;simp only[Array.getD_eq_getD_getElem?]at ar⊢;rw[Array.getElem?_eq_getElem (by omega)]at ar⊢;simpa using ar
    ·rw[Array.getElem?_eq_getElem hi];simp only[oi,h5];rw[←Array.all_toList,hs];intro e he;by_cases ae:Region.binds .any e=true
     ·have bE:=RI Kp i ops[i] (by simp[hi]) e he ae;have:=a8 e.on (by omega);rw[Nat.zero_add]at this;simp[this]
     ·simp[ae]
   rw[F7]at jN;simp at jN
 intro fuel;induction fuel with
 |zero=>
  intro hN A a w ep aR aI sT aM;have agf:rem hN 0 gs=[]:=List.eq_nil_of_length_eq_zero (by omega);have F7:Region.ready .any ops hN=[]:=by
   rw[List.eq_nil_iff_forall_not_mem];intro i hi;unfold Region.ready at hi;simp only[mV,List.mem_range,cE,sx]at hi;obtain⟨J,U,_⟩:=hi;have au:hN.getD i false=false:=by simp only[Array.getD_eq_getD_getElem?]at U⊢;rw[Array.getElem?_eq_getElem (by omega)]at U⊢;simpa using U
   obtain⟨oj,pe,g,_,aC,_⟩:=M9 (by omega) au gs 0 (by omega) (by omega);rw[agf]at aC;simp at aC
  exact⟨F7,Tg hN A a w ep sT aM F7⟩
 |succ fuel bZ=>
  intro hN A a w ep aR aI sT aM;refine⟨Tg hN A a w ep sT aM,fun i hi=>?_⟩;unfold Region.ready at hi;simp only[mV,List.mem_range,cE,sx]at hi;obtain⟨J,U,ar⟩:=hi;have au:hN.getD i false=false:=by simp only[Array.getD_eq_getD_getElem?]at U⊢;rw[Array.getElem?_eq_getElem (by omega)]at U⊢;simpa using U
  have ax:ops[i]? =some ops[i]:=Array.getElem?_eq_getElem J;have Ti:∀e∈ops[i].after.toList,Region.binds .any e=true→hN.getD e.on false=true:=by rw[ax]at ar;simp only[oi,h5]at ar;rw[←Array.all_toList,hs]at ar;intro e he ae;simpa[ae]using ar e he
  obtain⟨oj,pe,g,ak,aC,bk,dg⟩:=M9 (by omega) au gs 0 (by omega) (by omega);simp only[Nat.sub_zero]at ak dg;rw[aC]at sT;obtain⟨x,ab,afp⟩:=Pc oj pe A (fun y aG=>by
   obtain⟨f1,f2,f3,f4⟩:=dg y aG;rcases Wf agn i g ak y.1 y.2 (by simpa using f3) (by simpa using f1)with h|h
   ·have:=ahY aR i ops[i] ax Ti y.1 h;rw[f4]at this;cases this
   ·exact h) sT
  obtain⟨o',g1,g2⟩:=SR kA i g ak;have:o'=ops[i]:=by rw[tO,ax]at g1;exact(fq g1).symm
  subst this;refine Zg aL ax g2 ab aM fun bp w' dp=>?_;refine bZ (hN.setIfInBounds i true) (A.do x) bp w' (by simpa using ep) ?_ ?_ (by rw[bk];exact afp) dp
  ·intro k o ad aw e he ae;rw[FA (by omega)]at aw⊢;split
   ·rfl
   ·by_cases vU:i=k
    ·subst vU;rw[ax]at ad;cases ad;exact Ti e he ae
    ·rw[if_neg vU]at aw;exact aR k o ad aw e he ae
  ·rw[bk];rw[aC]at aI;simp at aI⊢;omega
def xB(n0 d:Nat)(st:bs):Prop:= .loc (n0+d)∉st.o∧look (.loc (n0+d)) st.b=none∧look (.loc (n0+d)) st.e=none
def fY.loadO(q:Bool)(t:List (Nat×ah)):fY→Prop
 | .load _ _ x=>q=true∨x9 (cu t x)=true
 | .loadB _ _ _=>True
 | .mgetB _ _ _ _ _=>True
 | .mget _ _ _ _ _=>q=true
 | .ment _=>q=true
 | .mlen _=>q=true
 |_=>True
def l2(q:Bool)(nw:List Nat)(n0:Nat)(st:bs):ev→Prop
 | .v _ i=>i.loadO q st.t
 | .box d none _=>xB n0 d st
 | .alloc d none _=>xB n0 d st
 | .box _ (some _) _=>eA
 | .alloc _ (some _) _=>eA
 | .store _ x _=>match cu st.t x with| .ptr _ _=>True|_=>eA
 | .bslm _ _ _ _ _=>eA
 | .mks _ _ _ _ _ _=>eA
 | .appm _ _ _ _ x _=>match cu st.t x with| .row _ _ _=>True|_=>eA
 | .storeE _ _ _=>True
 | .mkmap _ none=>eA
 | .mkmap _ (some m)=>m∈nw∧look (.obj m) st.b=none∧look (.obj m) st.e=none
 | .mput _ _ _ _=>True
 | .range _ _ _=>eA
 | .bsl d _ _ _=>xB n0 d st
 | .app d _ _ x _=>match cu st.t x with
  | .slice _ .nil _=>xB n0 d st
  | .slice _ (.own k) _=>(look k st.e).bind (·.xs)=none
  |_=>True
def ps(n0:Nat):ev→aH
 | .mkmap _ (some m)=>.obj m
 | .v d _| .box d _ _| .alloc d _ _| .bsl d _ _ _| .app d _ _ _ _| .bslm d _ _ _ _| .appm d _ _ _ _ _| .mkmap d _| .range d _ _| .mks d _ _ _ _ _=>.loc (n0+d)
 | .store _ _ _| .mput _ _ _ _| .storeE _ _ _=>.loc n0
def ahu(nw:List Nat)(st:bs)(s ai:cL)(rm:Option aH):Prop:=(∀k,(look k ai.b).isSome→(look k s.b).isSome∨rm=some k)∧(∀k,(look k ai.e).isSome→(look k s.e).isSome∨rm=some k)∧(∀k,(look k s.b).isSome→(look k ai.b).isSome)∧(∀k,(look k s.e).isSome→(look k ai.e).isSome)∧
 (∀k,rm=some k→(∃j,j∈nw∧k= .obj j)∧look k st.b=none∧look k st.e=none∧((look k ai.b).isSome∨(look k ai.e).isSome))
def ih(P:cF)(q:Bool)(nw:List Nat)(n:Nat)(args:List ah)(st:bs)(d:Option Nat)(K:bs→Prop):Prop:=
 (∃cI r,d=some cI∧xB st.n cI st∧aJ (fun _=>eA) args∧Io P n (st.n+cI) args ⟨[],[]⟩ (fun eS dE=>eS=r∧dE=⟨[],[]⟩)∧K {st with t:=put cI r st.t,o:= .loc (st.n+cI)::st.o})∨
 ∃s ai r rm,gL (inObs s) s.b st.b∧o1 (inObs s) s.e st.e∧iL s∧iL ai∧ahu nw st s ai rm∧aJ (inObs s) args∧bV P n args s (fun eS dE=>eS=r∧dE=ai)∧(q=true→ai.b=[]∧ai.e=[])∧K {after st s ai d r with o:=st.o}
def kt(P:cF)(q:Bool)(nw:List Nat)(n0:Nat)(st:bs)(K:bs→Prop):ek→Prop
 | .s i=>match eK (ps n0 i) st.n (ps n0 i::st.o) st i with
  |some (c,st')=>l2 q nw n0 st i∧c∧K st'
  |none=>eA
 | .call d f xs=>match cu st.t f with
  | .func n dv=>ih P q nw n (cW (xs.map (cu st.t)++dv)) st d K
  |_=>eA
 | .next _ _=>eA
def hV(P:cF)(q:Bool)(nw:List Nat)(n0:Nat):List da→bs→(bs→Prop)→Prop
 |[],st,K=>K st
 |⟨none,i⟩::r,st,K=>kt P q nw n0 st (fun st'=>hV P q nw n0 r st' K) i
 |⟨some (s,want),i⟩::r,st,K=>match get s st.t with
  | .bool b=>(b=want→kt P q nw n0 {st with t:=put s (.bool want) st.t} (fun st'=>hV P q nw n0 r st' K) i)∧(b= !want→hV P q nw n0 r {st with t:=eX i.dst (.tuple []) (put s (.bool !want) st.t)} K)
  | .tuple []=>hV P q nw n0 r {st with t:=eX i.dst (.tuple []) st.t} K
  |_=>eA
structure sD (nw:List Nat) (n0 N:Nat) (pM:List aH) (st:bs) (A:dn):Prop where
 like:lx st A
 n:st.n=n0
 F:∀k,fresh n0 st.o k→(∀j∈nw,k≠ .obj j)→A.F k
 o:∀k∈st.o,k∈pM∨(∃d,d<N∧k= .loc (n0+d))∨ ∃j∈nw,k= .obj j
def Bu(nw:List Nat)(A:dn):Prop:= ∀j∈nw,A.b (.obj j)=none→A.e (.obj j)=none→A.F (.obj j)
theorem Bu.do{P:cF}{q:Bool}{n0:Nat}{nw:List Nat}{A:dn}(h:Bu nw A){g:da}{x:kT}(ab:kU P q n0 g A x):Bu nw (A.do x):=by
 intro j af ae he;refine⟨h j af (Jo ae) (Jp he),fun qK=>?_⟩;rcases(NU ab).r _ qK with⟨d,_,e⟩|⟨_,_,ag⟩
 ·cases e
 ·rcases ag with ag|ag
  ·obtain⟨y,aG⟩:=fE.1 ag;simp[dn.do,iI,aG]at ae
  ·obtain⟨y,aG⟩:=fE.1 ag;simp[dn.do,iI,aG]at he
theorem RQ{P:cF}{q:Bool}{nw:List Nat}{n0 N:Nat}{pM:List aH}{i:ek}(aR:∀d,i.dst=some d→d<N){st:bs}{A:dn}(h:sD nw n0 N pM st A)(oF:Bu nw A){K:bs→Prop}(he:kt P q nw n0 st K i):∃x st',eB P q n0 i A x∧K st'∧sD nw n0 N pM st' (A.do x):=by
 have aw:=h.like;have xN:∀d,xB n0 d st→(A.F (.loc (n0+d))∧A.b (.loc (n0+d))=none∧A.e (.loc (n0+d))=none):=fun d aI=>⟨h.F _ ⟨by simp,aI.1⟩ (fun _ _ e=>by cases e),by rw[←aw.b];exact aI.2.1,by rw[←aw.e];exact aI.2.2⟩;have nk:∀(d:Option Nat) (p:ah) (bw:List (aH×List ah)) (ew:List (aH×fL)) (κ:aH),∀k,fresh n0 (κ::st.o) k→(∀j∈nw,k≠ .obj j)→(A.do ⟨d,p,bw,ew,some κ⟩).F k:=fun d p bw ew κ k ad af=>⟨h.F k (vJ k ad).1 af,fun e=>(vJ k ad).2 (fq e).symm⟩;have xF:∀(d:Option Nat) (p:ah) (bw:List (aH×List ah)) (ew:List (aH×fL)),∀k,fresh n0 st.o k→(∀j∈nw,k≠ .obj j)→(A.do ⟨d,p,bw,ew,none⟩).F k:=fun d p bw ew k ad af=>⟨h.F k ad af,by simp⟩;have lJ:∀d,d<N→∀k∈aH.loc (n0+d)::st.o,k∈pM∨(∃d,d<N∧k= .loc (n0+d))∨ ∃j∈nw,k= .obj j:=fun d aR k ad=>by
  rcases gf.1 ad with rfl|ad
  ·exact .inr (.inl ⟨d,aR,rfl⟩)
  ·exact h.o k ad
 cases i with
 |s i=>
  cases i with
  |v d i=>
   simp only[kt,eK]at he;cases aK:hp st i with
   |none=>simp[aK]at he
   |some Jl=>
    obtain⟨c,p⟩:=Jl;simp only[aK]at he;obtain⟨J,U,ar⟩:=he;refine⟨⟨some d,p,[],[],none⟩,_,⟨c,p,by rw[←Yh aw];exact aK,U,fun nX=>?_,rfl⟩,ar,LF aw d p,h.n,xF _ _ _ _,h.o⟩;cases i<;>simp only[fY.isLoad]at nX<;>try(cases nX;done)
    case mget=>exact .inr (.inl J)
    case ment=>exact .inr (.inl J)
    case mlen=>exact .inr (.inl J)
    case loadB=>exact .inl rfl
    case mgetB=>exact .inl rfl
    simp only[l2,fY.loadO,iX aw]at J;exact .inr (by simpa only[fY.ptrOf]using J)
  |box d key v=>
   cases key with
   |some m=>simp only[kt,eK,l2,false_and]at he
   |none=>simp only[kt,eK,l2,ps]at he;obtain⟨J,U,ar⟩:=he;rw[iX aw]at U;refine⟨_,_,⟨xN d J,U,rfl⟩,ar,?_,h.n,nk _ _ _ _ _,lJ d (aR d rfl)⟩;rw[iX aw];exact Aq aw d _ _ _ _ _ _
  |alloc d key z=>
   cases key with
   |some m=>simp only[kt,eK,l2,false_and]at he
   |none=>simp only[kt,eK,l2,ps]at he;obtain⟨J,U,ar⟩:=he;exact⟨_,_,⟨xN d J,rfl⟩,ar,Aq aw d _ _ _ _ _ _,h.n,nk _ _ _ _ _,lJ d (aR d rfl)⟩
  |store sz u v=>
   simp only[kt,eK]at he;cases hu:cu st.t u with
   |ptr k off=>
    cases ae:look k st.b with
    |none=>simp[hu,ae]at he
    |some cs=>simp only[hu,ae]at he;obtain⟨J,U,ar⟩:=he;rw[iX aw]at U hu;refine⟨⟨none,.junk,[(k,n7 cs off (cells (dF A.t v)))],[],none⟩,_,⟨k,off,cs,hu,by rw[←aw.b];exact ae,U,rfl⟩,ar,?_,h.n,xF _ _ _ _,h.o⟩;rw[iX aw];exact GF aw k _ _
   |_=>
    exfalso;simp only[hu]at he;split at he
    ·have:=he.1;simp[l2,hu]at this
    ·exact he
  |bsl d sz el xs=>simp only[kt,eK,l2,ps]at he;obtain⟨J,U,ar⟩:=he;rw[ur aw]at U;refine⟨_,_,⟨xN d J,U,rfl⟩,ar,?_,h.n,nk _ _ _ _ _,lJ d (aR d rfl)⟩;rw[ur aw];exact wB aw d _ _ _ _ _ _
  |app d sz el u v=>
   simp only[kt,eK]at he;cases hu:cu st.t u with
   |slice dL tag xs=>
    cases aK:cu st.t v with
    |slice jr k4 ys=>
     simp only[hu,aK]at he;by_cases fk:dL=sz∧jr=sz
     ·obtain⟨rfl,rfl⟩:=fk;rw[iX aw]at hu aK;cases tag with
      |no=>simp at he
      |tr k j=>simp at he
      |lo k=>simp at he
      |nil=>simp only[and_self,if_true,l2,iX aw,hu,ps]at he;obtain⟨J,U,ar⟩:=he;exact⟨_,_,⟨.nil,xs,k4,ys,hu,aK,.inr ⟨rfl,U,xN d J,rfl⟩⟩,ar,wB aw d _ _ _ _ _ _,h.n,nk _ _ _ _ _,lJ d (aR d rfl)⟩
      |own k=>
       cases ad:look k st.e with
       |none=>simp[ad]at he
       |some o=>simp only[and_self,if_true,ad]at he;obtain⟨J,U,ar⟩:=he;exact⟨_,_,⟨.own k,xs,k4,ys,hu,aK,.inl ⟨k,o,rfl,by rw[←aw.e];exact ad,⟨by simpa[l2,iX aw,hu,ad]using J,U⟩,rfl⟩⟩,ar,wB aw d _ _ _ _ _ _,h.n,xF _ _ _ _,h.o⟩
     ·simp[fk]at he
    |_=>simp[hu,aK]at he
   |_=>simp[hu]at he
  |bslm d key sz el xs=>simp only[kt,eK,l2,false_and]at he
  |mks d key sz el z x=>simp only[kt,eK,l2,false_and]at he;split at he<;>simp at he
  |appm d key sz el u v=>
   simp only[kt,eK]at he;cases hu:cu st.t u with
   |row dL k n=>
    cases aK:cu st.t v with
    |slice jr k4 ys=>
     simp only[hu,aK,sH]at he;by_cases fk:dL=sz∧jr=sz
     ·obtain⟨rfl,rfl⟩:=fk;rw[iX aw]at hu aK;simp only[and_self,if_true]at he;cases ad:look k st.e with
      |none=>simp[ad]at he
      |some o=>
       obtain⟨n',fZ,wY,Mw⟩:=o;cases Mw with
       |none=>simp[ad]at he
       |some xs=>
        simp only[ad]at he;by_cases xJ:n'=n∧fZ=el∧wY=jr
        ·obtain⟨rfl,rfl,rfl⟩:=xJ;simp only[and_self,if_true]at he;obtain⟨J,U,ar⟩:=he;exact⟨_,_,⟨k,n',xs,k4,ys,hu,aK,by rw[←aw.e];exact ad,U,rfl⟩,ar,wB aw d _ _ _ _ _ _,h.n,xF _ _ _ _,h.o⟩
        ·simp[xJ]at he
     ·simp[fk]at he
    |_=>simp[hu,aK,sH]at he
   |slice dL tag xs=>
    exfalso;simp only[hu]at he;split at he
    ·have:=he.1;simp[l2,hu]at this
    ·exact he
   |_=>simp[hu,sH]at he
  |storeE sz u v=>
   simp only[kt,eK]at he;cases hu:cu st.t u with
   |rptr dL k n i f=>
    cases ad:look k st.e with
    |none=>simp[hu,rb,ad]at he
    |some o=>
     obtain⟨n',el,wY,Mw⟩:=o;cases Mw with
     |none=>simp[hu,rb,ad]at he
     |some xs=>
      simp only[hu,rb,ad]at he;by_cases xJ:n'=n∧wY=dL
      ·obtain⟨rfl,rfl⟩:=xJ;simp only[and_self,if_true]at he;cases bh:xs[i]? with
       |none=>simp[bh]at he
       |some q=>simp only[bh]at he;obtain⟨J,U,ar⟩:=he;rw[iX aw]at U hu;refine⟨⟨none,.junk,[],[(k,⟨n',el,wY,some (xs.set i (mP q f (cells (dF A.t v))))⟩)],none⟩,_,⟨k,n',i,f,el,wY,xs,q,hu,by rw[←aw.e];exact ad,bh,U,rfl⟩,ar,?_,h.n,xF _ _ _ _,h.o⟩;rw[iX aw];exact Vb aw k _ _
      ·simp[xJ]at he
   |_=>simp[hu,rb]at he
  |mkmap d key=>
   cases key with
   |none=>simp only[kt,eK,l2,false_and]at he
   |some m=>
    simp only[kt,eK,l2,ps]at he;obtain⟨⟨bD,J,U⟩,_,ar⟩:=he;rw[aw.b]at J;rw[aw.e]at U;refine⟨_,_,⟨⟨oF m bD J U,J,U⟩,rfl⟩,ar,Aq aw d _ _ _ _ _ _,h.n,nk _ _ _ _ _,fun k ad=>?_⟩;rcases gf.1 ad with rfl|ad
    ·exact .inr (.inr ⟨m,bD,rfl⟩)
    ·exact h.o k ad
  |mput cf u k v=>
   simp only[kt,eK,l2]at he;cases hu:cu st.t u with
   |gmap m=>
    cases ae:look m st.b with
    |none=>simp[hu,ae]at he
    |some cs=>
     cases hm:oW cf (cu st.t k) (cu st.t v) cs with
     |none=>simp[hu,ae,hm]at he
     |some cs'=>simp only[hu,ae,hm]at he;rw[iX aw]at hu;rw[iX aw,iX aw]at hm;exact⟨⟨none,.junk,[(m,cs')],[],none⟩,_,⟨m,cs,cs',hu,by rw[←aw.b];exact ae,hm,rfl⟩,he.2.2,GF aw m _ _,h.n,xF _ _ _ _,h.o⟩
   |_=>simp[hu]at he
  |range d key x=>simp only[kt,l2,false_and]at he;split at he<;>exact he.elim
 |next d x=>simp only[kt]at he
 |call d f xs=>
  simp only[kt]at he;cases aI:cu st.t f with
  |func n dv=>
   simp only[aI]at he;rw[iX aw]at aI;rcases he with⟨cI,r,rfl,bN,cq,dj,iH⟩|⟨s,ai,r,rm,bN,cq,dj,iH,l0,pn,BI,Z5,Z6⟩
   ·rw[ur aw]at cq dj;have au:=h.n;subst au;refine⟨⟨some cI,r,[],[],some (.loc (st.n+cI))⟩,_,⟨n,dv,aI,.inr ⟨cI,r,rfl,xN cI bN,cq,dj,rfl⟩⟩,iH,Vc aw cI r _ _,rfl,nk _ _ _ _ _,lJ cI (aR cI rfl)⟩
   rw[ur aw]at pn BI;obtain⟨aP,a6,bR,dq,cS⟩:=l0;refine⟨⟨d,r,ai.b,ai.e,rm⟩,_,⟨n,dv,aI,.inl ⟨⟨s,ai,r,rm,fun k cs ad=>⟨by rw[←aw.b];exact(bN k cs ad).1,(bN k cs ad).2.2⟩,fun k o ad=>⟨by rw[←aw.e];exact(cq k o ad).1,(cq k o ad).2.2⟩,dj,iH,⟨aP,a6,bR,dq,fun k ad=>?_⟩,pn,BI,rfl⟩,Z5⟩⟩,Z6,⟨fun i=>?_,fun k=>?_,fun k=>?_⟩,h.n,fun k ad af=>⟨h.F k ad af,fun qK=>?_⟩,h.o⟩
   ·obtain⟨⟨j,af,rfl⟩,aC,bk,dg⟩:=cS k ad;rw[aw.b]at aC;rw[aw.e]at bk;exact⟨⟨j,rfl⟩,oF j af aC bk,aC,bk,dg⟩
   ·simp only[after,dn.do];cases d with
    |none=>simpa[eX]using aw.t i
    |some d=>simp only[eX,pC,dM,aw.t]
   ·simp only[after,dn.do,iI,yi,uZ];by_cases ag:(look k s.b).isSome
    ·have:=bR k ag;obtain⟨y,aG⟩:=fE.1 this;simp[ag,aG]
    ·cases au:look k ai.b with
     |none=>simp only[ag,aw.b];cases A.b k<;>simp
     |some y=>
      rcases aP k (by simp[au])with h|h
      ·exact absurd h ag
      ·have:=cS k h;simp[ag,this]
   ·simp only[after,dn.do,iI,yi,uZ];by_cases ag:(look k s.e).isSome
    ·have:=dq k ag;obtain⟨y,aG⟩:=fE.1 this;simp[ag,aG]
    ·cases au:look k ai.e with
     |none=>simp only[ag,aw.e];cases A.e k<;>simp
     |some y=>
      rcases a6 k (by simp[au])with h|h
      ·exact absurd h ag
      ·have:=cS k h;simp[ag,this]
   ·obtain⟨⟨j,jy,rfl⟩,_⟩:=cS k qK;exact af j jy rfl
  |_=>simp[aI]at he
def zn(N:Nat):List da→Bool
 |[]=>true
 |g::r=>jw N g.i.dst&&zn N r
def y1:Nat→List da→List (Nat×da)
 |_,[]=>[]
 |k,g::r=>(k,g)::y1 (k+1) r
theorem OS{nw:List Nat}{n0 N:Nat}{pM:List aH}{st:bs}{A:dn}(h:sD nw n0 N pM st A){s:Nat}{p:ah}(ag:get s st.t=p):sD nw n0 N pM {st with t:=put s p st.t} A:=by
 refine⟨⟨fun i=>?_,h.like.b,h.like.e⟩,h.n,h.F,h.o⟩;simp only[pC];split
 ·rename_i e;subst e;rw[←ag];exact h.like.t _
 ·exact h.like.t i
theorem OT{nw:List Nat}{n0 N:Nat}{pM:List aH}{st:bs}{A:dn}(h:sD nw n0 N pM st A)(d:Option Nat):sD nw n0 N pM {st with t:=eX d (.tuple []) st.t} (A.do (lq d)):=by
 refine⟨⟨fun i=>?_,fun k=>?_,fun k=>?_⟩,h.n,fun k ad af=>⟨h.F k ad af,by simp[lq]⟩,h.o⟩
 ·simp only[dn.do,lq];cases d with
  |none=>simpa[eX]using h.like.t i
  |some d=>simp only[eX,pC,dM,h.like.t]
 ·simpa[dn.do,iI,look,lq]using h.like.b k
 ·simpa[dn.do,iI,look,lq]using h.like.e k
theorem BU{P:cF}{q:Bool}{nw:List Nat}{n0 N:Nat}{pM:List aH}{K:bs→Prop}:∀(gs:List da) (k:Nat),zn N gs=true→∀(st:bs) (A:dn),sD nw n0 N pM st A→Bu nw A→hV P q nw n0 gs st K→oz P q n0 (fun gn=> ∃st',K st'∧sD nw n0 N pM st' gn) (y1 k gs) A
 |[],k,_,st,A,h,_,he=>⟨st,he,h⟩
 |⟨nj,i⟩::r,k,aR,st,A,h,oF,he=>by
  simp only[zn,cE]at aR;have sU:∀d,i.dst=some d→d<N:=fun d e=>by have:=aR.1;rw[e]at this;simpa[jw]using this
  simp only[y1,oz];cases nj with
  |none=>simp only[hV]at he;obtain⟨x,st',J,U,ar⟩:=RQ sU h oF he;have aX:kU P q n0 ⟨none,i⟩ A x:=J;exact⟨x,aX,BU r (k+1) aR.2 st' _ ar (oF.do aX) U⟩
  |some yQ=>
   obtain⟨s,want⟩:=yQ;simp only[hV]at he;split at he
   ·rename_i b ae;by_cases e:b=want
    ·subst e;obtain⟨x,st',J,U,ar⟩:=RQ sU (OS h ae) oF (he.1 rfl);have aX:kU P q n0 ⟨some (s,b),i⟩ A x:=by unfold kU;simp only[←h.like.t,ae];exact .inl ⟨trivial,J⟩
     exact⟨x,aX,BU r (k+1) aR.2 st' _ ar (oF.do aX) U⟩
    ·have gb:b= !want:=by cases b<;>cases want<;>simp at e⊢
     subst gb;have aX:kU P q n0 ⟨some (s,want),i⟩ A (lq i.dst):=by unfold kU;simp only[←h.like.t,ae];exact .inr ⟨trivial,trivial⟩
     exact⟨lq i.dst,aX,BU r (k+1) aR.2 _ _ (OT (OS h ae) i.dst) (oF.do aX) (he.2 rfl)⟩
   ·rename_i ae;have aX:kU P q n0 ⟨some (s,want),i⟩ A (lq i.dst):=by unfold kU;simp only[←h.like.t,ae]
    exact⟨lq i.dst,aX,BU r (k+1) aR.2 _ _ (OT h i.dst) (oF.do aX) he⟩
   ·exact he.elim
theorem M8:∀(gs:List da) (l:Array Bool) (k:Nat),(∀j,l.getD j false=false)→rem l k gs=y1 k gs
 |[],_,_,_=>rfl
 |g::r,l,k,h=>by simp only[rem,h k,y1,M8 r l (k+1) h];simp
def tR(n:Nat)(o:List aH)(K:bs→Prop)(st:bs):Prop:=K {st with n:=n,o:=o}
theorem Good.like{pr:Nat→Prop}{w:World}{ν:bf}{b bP:List (aH×List ah)}{e fT:List (aH×fL)}(h:Good pr w ν b e)(ae:∀k,look k bP=look k b)(he:∀k,look k fT=look k e):Good pr w ν bP fT:=
 ⟨h.alt,fun k cs ad=>h.box k cs (by rw[←ae];exact ad),fun k bH bl J U=>h.inj k bH bl (by rw[←ae];exact J) (by rw[←ae];exact U),fun g o aX=>h.own g o (by rw[←he];exact aX),
  fun g e9 n n' v v' bl J U=>h.oinj g e9 n n' v v' bl (by rw[←he];exact J) (by rw[←he];exact U),fun g k n v bl J U=>h.obx g k n v bl (by rw[←he];exact J) (by rw[←ae];exact U),h.one,
  fun bl aL=>h.otr bl (aL.imp (fun⟨k,bG,a2⟩=>⟨k,by rw[←ae];exact bG,a2⟩) (fun⟨g,n,v,bG,a2⟩=>⟨g,n,v,by rw[←he];exact bG,a2⟩))⟩
theorem RS{P:cF}(hm:P.follows .mixedOrders=true){bC:List (Nat×dI)}(aL:fU P bC=true){C:fh}{q:Bool}{nw:List Nat}{id:Nat}{ops:Array Oper}{gs:List da}(kA:kv C.N bC ops.toList gs ops.toList=true)(FJ:BB gs ops.toList=true)(iY:zn C.N gs=true)
  {K:bs→Prop} {Q:Exit→Act→World→Prop} (ib:∀st' bp w' bo,K st'→cR C st' bp w' bo→Q .normal bp w') {st:bs} {a:Act} {w:World} {ν:bf} (agj:∀j∈nw,.obj j∉st.o) (he:hV P q nw st.n gs st (tR (st.n+C.N) (nw.map aH.obj++st.o) K)) (aM:cR C st a w ν):(Code.region id ops true).wp P Q a w:=by
 refine wp_region_any hm ?_;have dp:cR C st a {w with drawn:=w.drawn+1} ν:=aM.drawn _;let A:dn:=⟨fun i=>get i st.t,fun k=>look k st.b,fun k=>look k st.e,fresh st.n st.o⟩
 have rL:sD nw st.n C.N st.o st A:=⟨⟨fun _=>rfl,fun _=>rfl,fun _=>rfl⟩,rfl,fun k ad _=>ad,fun k ad=>.inl ad⟩;have sT:=BU gs 0 iY st A rL (fun j af _ _=>⟨trivial,agj j af⟩) he;have oM:∀j,(Array.replicate ops.size false).getD j false=false:=fun j=>by simp[Array.getD_eq_getD_getElem?,Array.getElem?_replicate];split<;>rfl
 refine ZF aL kA FJ (q:=q) (n0:=st.n) (K:=fun gn=> ∃st',tR (st.n+C.N) (nw.map aH.obj++st.o) K st'∧sD nw st.n C.N st.o st' gn) ?_ ops.size _ A a _ (by simp) ?_ ?_ (by rw[M8 gs _ 0 oM];exact sT) ⟨st,ν,rL.like,fun k ad=>ad,dp⟩
 ·rintro gn bp w' ⟨st',ad,br⟩ ⟨atD,bo,oL,Cc,mD⟩;refine ib _ bp w' bo ad ⟨mD.good.like (fun k=>by rw[oL.b,←br.like.b]) (fun k=>by rw[oL.e,←br.like.e]),mD.fr,mD.defers,mD.size,fun i=>?_,fun k zP=>?_⟩
  ·have:=mD.slot i;rw[oL.t,←br.like.t]at this;exact this
  ·refine mD.new k (Cc k (br.F k ?_ fun j af e=>zP.2 (by subst e;exact List.mem_append_left _ (List.mem_map_of_mem af))));simp only at zP;refine⟨(J1 (Nat.le_add_right st.n C.N) (fun _ h=>h) zP).1,fun jN=>?_⟩;rcases br.o k jN with h|⟨d,aR,rfl⟩|⟨j,af,rfl⟩;rotate_left 2
   ·exact zP.2 (List.mem_append_left _ (List.mem_map_of_mem af))
   ·exact zP.2 (List.mem_append_right _ h)
   ·have:=zP.1;simp at this;omega
 ·intro k o ad aw;rw[oM]at aw;cases aw
 ·rw[M8 gs _ 0 oM];have:∀(gs:List da) k,(y1 k gs).length=gs.length:=by
   intro gs;induction gs with
   |nil=>intro k;rfl
   |cons g r bZ=>intro k;simp[y1,bZ]
  rw[this];have:=Kc kA;simp at this;omega
def en:List ah→Prop
 |[]=>True
 |p::cm=>(match p with| .slice _ _ xs=>xs.length≤lim| .str s=>s.length≤lim|_=>True)∧en cm
def ea:ah→Prop
 | .slice _ _ xs=>xs.length≤lim
 | .str s=>s.length≤lim
 | .agg cs=>en cs
 |_=>True
def ey:List ah→Prop
 |[]=>True
 |p::r=>ea p∧ey r
theorem Nc{w:World}{ν:bf}:∀{cs:List ah} {us:List Value},c5 w ν cs us→en cs
 |[],_,_=>trivial
 |c::cs,us,h=>by
  simp only[c5]at h;obtain⟨u,ch,_,J,U⟩:=h;refine⟨?_,Nc U⟩;cases c<;>simp only<;>have ar:=J.1<;>simp only[ba]at ar
  ·exact ar.2
  ·obtain⟨⟨a,cap,_,_,a8,_⟩,_⟩:=ar;exact a8.2
theorem Xi{w:World}{ν:bf}{cs:List ah}{us:List Value}(h:jq w ν cs us):h2 cs=true→en cs:=fun bQ=>by rw[u7 bQ]at h;exact Nc h
theorem Xt{w:World}{ν:bf}{p:ah}{v:Value}(h:ba w ν p v):ea p:=by
 cases p<;>simp only[ea]<;>simp only[ba]at h
 ·exact h.2
 ·obtain⟨⟨a,cap,_,_,a8,_⟩,_⟩:=h;exact a8.2
 ·obtain⟨us,_,U⟩:=h;exact Nc U
theorem Nf{w:World}{ν:bf}:∀{cs:List ah} {us:List Value},cM w ν cs us→ey cs
 |[],_,_=>trivial
 |c::cs,us,h=>by simp only[cM]at h;obtain⟨u,ch,_,J,U⟩:=h;exact⟨Xt J,Nf U⟩
inductive C where
 |skip
 |region (gs:List da)
 |drawn (q:Bool) (N:Nat) (gs:List da)
 |drawnW (nw:List Nat) (N:Nat) (gs:List da)
 |seq (a b:C)
 |cond (x:dz) (t e:C)
 |block (id:Nat) (c:C)
 |loop (c:C)
 |exit (id:Nat)
 |ret
 |pub (s:Nat) (c:C)
 |pubB (s:Nat) (c:C)
 |fg (pJ:Bool) (s:Nat) (c:C)
 |fz (agg:Bool) (s:Nat) (c:C)
 |no
def Dy(st:bs):ah→Option (ah×List (aH×fL))
 | .row sz k n=>match look k st.e with
  |some ⟨n',el,dL,some xs⟩=>if n'=n∧dL=sz then some (.slice sz (.own k) xs,cB k ⟨n,el,sz,none⟩ st.e)else none
  |_=>none
 |_=>none
def wO(st:bs)(s:Nat):Option bs:=
 match Dy st (get s st.t)with
 |some (p,e)=>some {st with t:=put s p st.t,e:=e}
 |none=>none
def wN(st:bs)(s:Nat):Option bs:=
 match get (s%1000) st.t with
 | .ptr k off=>match look k st.b with
  |some cs=>match cs[off+s/1000]? with
   |some p=>match Dy st p with
    |some (AP,e)=>if h2 cs then some {st with b:=cB k (cs.set (off+s/1000) AP) st.b,e:=e}else none
    |none=>none
   |none=>none
  |none=>none
 |_=>none
theorem M7{C:fh}{st:bs}{a:Act}{w:World}{ν:bf}(h:cR C st a w ν){s:Nat}{p:ah}(ag:ba w ν p (a.tmps.getD s undef)):cR C {st with t:=put s p st.t} a w ν:=by
 refine⟨h.good,h.fr,h.defers,h.size,fun i=>?_,h.new⟩;have:=h.slot i;simp only[pC];split
 ·rename_i e;subst e;exact ag
 ·exact this
theorem Wk{C:fh}{st:bs}{a:Act}{w:World}{ν:bf}(h:cR C st a w ν){p AP:ah}{e:List (aH×fL)}{v:Value}(bQ:ba w ν p v)(he:Dy st p=some (AP,e)):
  ∃bo,cR C {st with e:=e} a w bo∧ba w bo AP v∧ly w ν w bo:=by
 unfold Dy at he;split at he
 ·rename_i sz k n;split at he
  ·rename_i n' el dL xs ad;split at he
   ·rename_i ay;obtain⟨rfl,rfl⟩:=ay;cases he;simp only[ba]at bQ;obtain⟨_,aw,n0,u,J,U,ar⟩:=bQ;obtain⟨v0,fC,a7,bF,b0,cZ⟩:=h.good.own k _ ad;rw[J]at a7;simp only[dM,jF]at a7;obtain⟨rfl,rfl⟩:=a7;have aK:v=u:=ar rfl;subst aK;obtain⟨df,_,_⟩:=cZ xs rfl;simp only at df;obtain⟨g1,g2⟩:=h.publish ad rfl J (by rw[df];exact aw);refine⟨_,g1,g2,⟨fun b o bm=>⟨.inl bm,rfl⟩,fun j b _ af=>af,fun g n u _ iZ=>⟨n,u,?_,.inl ⟨rfl,rfl⟩⟩,fun _ _ _=>rfl,fun _ _ _ _ h=>h⟩⟩;simp only[bf.withRowOf];split
    ·rename_i e;subst e;rw[J]at iZ;exact iZ
    ·exact iZ
   ·cases he
  ·cases he
 ·cases he
def zt(pJ:Bool):ah→ah
 | .slice sz tag xs=>.slice sz (if pJ then tag else .no) (cW xs)
 |p=>dr p
theorem ad4{w:World}{ν:bf}{pJ:Bool}{p:ah}{v:Value}(h:ba w ν p v):ba w ν (zt pJ p) v:=by
 have J:=k3 p v h;cases p with
 |slice sz tag xs=>
  simp only[zt];cases pJ with
  |false=>simpa only[hb,if_false,dr]using J
  |true=>
   simp only[if_true];simp only[ba,dr]at h J⊢;refine⟨J.1,fun e=>h.2.1 e,fun g e=>?_,fun k j e=>?_,fun k e=>?_⟩
   ·obtain⟨n,u,ak,aC,bk⟩:=h.2.2.1 g e;exact⟨n,u,ak,by rw[sn];exact aC,by rw[sn];exact bk⟩
   ·exact Sx _ _ (h.2.2.2.1 k j e)
   ·exact Sx _ _ (h.2.2.2.2 k e)
 |_=>exact J
theorem akK{C:fh}{st st':bs}{a:Act}{w:World}{ν:bf}(h:cR C st a w ν){s:Nat}(he:wO st s=some st'):∃bo,cR C st' a w bo:=by
 unfold wO at he;split at he
 ·rename_i p e bQ;cases he;obtain⟨bo,J,U,_⟩:=Wk h (h.slot s) bQ;exact⟨_,M7 J U⟩
 ·cases he
theorem Xp{w:World}{ν:bf}:∀{cs:List ah} {us:List Value} {i:Nat} {p q:ah} {v:Value},c5 w ν cs us→cs[i]? =some p→us[i]? =some v→ba w ν q v→c5 w ν (cs.set i q) us
 |[],_,_,_,_,_,_,h,_,_=>by simp at h
 |c::cs,us,0,p,q,v,h,_,aK,bh=>by simp only[c5]at h;obtain⟨u,ch,rfl,J,U⟩:=h;simp only[List.getElem?_cons_zero,dM]at aK;subst aK;simp only[List.set_cons_zero,c5];exact⟨_,_,rfl,⟨bh,J.2⟩,U⟩
 |c::cs,us,i+1,p,q,v,h,bQ,aK,bh=>by simp only[c5]at h;obtain⟨u,ch,rfl,J,U⟩:=h;simp only[List.set_cons_succ,c5];exact⟨_,_,rfl,J,Xp U (by simpa using bQ) (by simpa using aK) bh⟩
theorem akJ{C:fh}{st st':bs}{a:Act}{w:World}{ν:bf}(h:cR C st a w ν){s:Nat}(he:wN st s=some st'):∃bo,cR C st' a w bo:=by
 unfold wN at he;split at he
 ·rename_i k aiD ad;generalize aiD+s/1000=off at he;split at he
  ·rename_i cs di;split at he
   ·rename_i p bQ;split at he
    ·rename_i AP e F4;split at he
     ·rename_i s7;cases he;obtain⟨bl,us,el,g1,g2,g3,g4,g5⟩:=h.good.box k cs di;rw[u7 s7]at g5;have bE:off<us.toList.length:=by rw[pP g5];exact(fV.1 bQ).1
      obtain⟨v,aK⟩:∃v,us.toList[off]? =some v:=⟨_,cl bE⟩;have zZ:ba w ν p v:=by have:=A4 off g5;rw[lv (fV.1 bQ).1,lv bE]at this;simp only[c5]at this;obtain⟨u,ch,ak,aC,_⟩:=this;rw[(fV.1 bQ).2]at aC;rw[(fV.1 aK).2]at ak;cases ak;exact aC.1
      obtain⟨bo,J,U,ar⟩:=Wk h zZ F4;have wb:c5 w bo (cs.set off AP) us.toList:=Xp (Xo ar g5) bQ aK U;have TP:=A6 wb;refine⟨bo,⟨J.good.alt,fun j eT af=>?_,fun j dJ b af jy=>J.good.inj j dJ b ?_ ?_,J.good.own,J.good.oinj,fun g j n v b aX af=>J.good.obx g j n v b aX ?_,J.good.one,fun bl ae=>J.good.otr bl (ae.imp (fun⟨bH,bG,a2⟩=>⟨bH,by rw[jc]at bG;split at bG;(rename_i e;subst e;simp[di]);exact bG,a2⟩) id)⟩,J.fr,J.defers,J.size,J.slot,J.new⟩
      ·simp only at af;rw[jc]at af;split at af
       ·rename_i e;subst e;cases af;obtain⟨iG,ch,fZ,f1,f2,f3,f4,f5⟩:=J.good.box k cs di;have:iG=bl:=by have:=ar.bx k bl trivial g1;rw[this]at f1;cases f1;rfl
        subst this;rw[u6 s7]at g4 f4;rw[g4]at f4;injection f4 with f4;injection f4 with f4 f6 f7;refine⟨iG,us,el,f1,f2,f3,by rw[u6 TP];exact g4,by rw[u7 TP];exact wb⟩
       ·exact J.good.box j eT af
      ·simp only at af;rw[jc]at af;split at af
       ·rename_i e;subst e;simp[di]
       ·exact af
      ·simp only at jy;rw[jc]at jy;split at jy
       ·rename_i e;subst e;simp[di]
       ·exact jy
      ·simp only at af;rw[jc]at af;split at af
       ·rename_i e;subst e;simp[di]
       ·exact af
     ·cases he
    ·cases he
   ·cases he
  ·cases he
 ·cases he
def sK{α:Type}(k:aH)(l:List (aH×α)):List (aH×α):=match l with
 |[]=>[]
 |(i,x)::r=>if i=k then sK k r else(i,x)::sK k r
theorem LG{α:Type}(k j:aH):∀l:List (aH×α),look j (sK k l)=if j=k then none else look j l
 |[]=>by simp[sK,look]
 |(i,x)::r=>by
  simp only[sK];by_cases h:i=k
  ·subst h;rw[if_pos rfl,LG i j r];by_cases U:j=i
   ·simp[U]
   ·have:¬i=j:=fun e=>U e.symm;simp[look,U,this]
  ·rw[if_neg h];simp only[look];by_cases U:i=j
   ·subst U;simp[h]
   ·simp only[U,if_false];exact LG k j r
def J4(agg:Bool):List ah→Option ah
 |[p]=>if agg then some (.agg [p])else some p
 |cs=>if agg then some (.agg cs)else none
def vK(st:bs)(agg:Bool)(s:Nat):Option bs:=
 match get s st.t with
 | .ptr k 0=>match look k st.b with
  |some cs=>if h2 cs then match J4 agg cs with
    |some x=>some {st with t:=put s (.eptr x) st.t,b:=sK k st.b}
    |none=>none
   else none
  |none=>none
 |_=>none
theorem aky{u:Value}(h:u.oneCell'=true):u.cells.toList=[u]:=by cases u<;>first|rfl|(simp[Value.oneCell']at h)
theorem U2{w:World}{A:Nat→Nat→Prop}{b:Nat}{us:Array Value}{el:gm}(ae:w.heap[b]? =some (.cells us el))(bm:∀o,o<us.size→A b o):∀(be:List Value) (off:Nat),us.toList.drop off=be→lQ w A b off be
 |[],_,_=>trivial
 |v::be,off,h=>by
  have bE:off<us.toList.length:=by
   rcases Nat.lt_or_ge off us.toList.length with J|J
   ·exact J
   ·rw[List.drop_eq_nil_of_le J]at h;cases h
  have U:=lv bE;rw[h]at U;injection U with U ar;refine⟨⟨bm off (by simpa using bE),?_⟩,U2 ae bm be (off+1) ar.symm⟩;have vZ:off<us.size:=by simpa using bE
  simp only[World.cell?,ae,ht,hb,if_false];rw[U];simp[vZ]
theorem aeh{C:fh}{st st':bs}{a:Act}{w:World}{ν:bf}(h:cR C st a w ν){agg:Bool}{s:Nat}(he:vK st agg s=some st'):∃bo,cR C st' a w bo:=by
 unfold vK at he;split at he
 ·rename_i k ad;split at he
  ·rename_i cs di;split at he
   ·rename_i s7;split at he
    ·rename_i x ab;cases he;obtain⟨bl,us,el,g1,g2,g3,g4,g5⟩:=h.good.box k cs di;rw[u7 s7]at g5;rw[u6 s7]at g4;have bE:bl<w.heap.size:=by
      rcases Nat.lt_or_ge bl w.heap.size with J|J
      ·exact J
      ·rw[Array.getElem?_eq_none J]at g4;cases g4
     let bo:bf:={ν with A:=fun b o=>ν.A b o∨(b=bl∧o<us.size)}
     have ax:ly w ν w bo:=⟨fun b o bm=>⟨.inl bm,rfl⟩,fun j b _ af=>af,fun g n u _ iZ=>⟨n,u,iZ,.inl ⟨rfl,rfl⟩⟩,fun _ _ _=>rfl,fun _ _ _ _ h=>h⟩;have hM:∀j eT,look j (sK k st.b)=some eT→j≠k∧look j st.b=some eT:=fun j eT af=>by
      rw[LG]at af;split at af
      ·cases af
      ·rename_i e;exact⟨e,af⟩
     have FX:∀j,(look j (sK k st.b)).isSome→(look j st.b).isSome:=fun j af=>by obtain⟨eT,iY⟩:=fE.1 af;simp[(hM j eT iY).2]
     have qN:∀(g:aH) (n:Nat) (v:Value),(look g st.e).isSome→ν.ow g=some (n,v)→v.ownBlock=some bl→eA:=fun g n v J U ar=>h.good.obx g k n v bl J (by simp[di]) U ar g1;have mE:ba w bo (.eptr x) (a.tmps.getD s undef):=by
      have ag:=h.slot s;rw[ad]at ag;simp only[ba]at ag⊢;obtain⟨bP,a7,bF⟩:=ag;rw[g1]at a7;cases a7;have aw:lQ w bo.A bl 0 us.toList:=U2 g4 (fun o ax=>.inr ⟨rfl,ax⟩) _ 0 rfl;have g6:c5 w bo cs us.toList:=Xo ax g5;unfold J4 at ab;split at ab
      ·rename_i p;simp only[c5]at g6;obtain⟨u,ch,ak,aC,bk⟩:=g6;subst bk;split at ab
       ·cases ab;exact⟨bl,0,.agg us,bF,by simp only[ba];exact⟨us,rfl,by rw[ak];simp only[c5];exact⟨u,[],rfl,aC,rfl⟩⟩,by simpa[pR]using aw⟩
       ·cases ab;refine⟨bl,0,u,bF,aC.1,?_⟩;rw[aky aC.2,←ak];exact aw
      ·split at ab
       ·cases ab;exact⟨bl,0,.agg us,bF,by simp only[ba];exact⟨us,rfl,g6⟩,by simpa[pR]using aw⟩
       ·cases ab
     refine⟨bo,M7 (ν:=bo) (st:={st with b:=sK k st.b}) ⟨⟨fun b o bm=>?_,fun j eT af=>?_,fun j dJ b J U=>h.good.inj j dJ b (FX j J) (FX dJ U),fun g o aX=>?_,h.good.oinj,fun g j n v b J U=>h.good.obx g j n v b J (FX j U),h.good.one,fun b aL=>h.good.otr b (aL.imp (fun⟨j,bG,a2⟩=>⟨j,FX j bG,a2⟩) id)⟩,⟨h.fr.os,h.fr.tape,h.fr.output,h.fr.size,h.fr.block,fun b o bm=>⟨.inl (h.fr.keep b o bm).1,(h.fr.keep b o bm).2⟩,fun b o bm=>?_,h.fr.obj,h.fr.obn,h.fr.row,h.fr.obr,h.fr.trd,h.fr.trb,h.fr.trn,h.fr.sh⟩,h.defers,h.size,fun i=>yG ax (h.slot i),h.new⟩ mE⟩
     ·rcases bm with bm|⟨rfl,_⟩
      ·exact h.good.alt b o bm
      ·exact bE
     ·obtain⟨cH,jy⟩:=hM j eT af;obtain⟨iG,ch,fZ,f1,f2,f3,f4,f5⟩:=h.good.box j eT jy;refine⟨iG,ch,fZ,f1,f2,fun o bm=>?_,f4,qn ax f5⟩;rcases bm with bm|⟨rfl,_⟩
      ·exact f3 o bm
      ·exact cH (h.good.inj j k _ (by simp[jy]) (by simp[di]) f1 g1)
     ·obtain⟨v0,fC,ak,aC,bk,dg⟩:=h.good.own g o aX;have vN:∀b,v0.ownBlock=some b→∀j,bo.A b j→ν.A b j:=fun b ae j bm=>by
       rcases bm with bm|⟨rfl,_⟩
       ·exact bm
       ·exact(qN g _ v0 (by simp[aX]) ak ae).elim
      exact⟨v0,fC,ak,aC,fun b ae=>⟨(bk b ae).1,fun j bm=>(bk b ae).2 j (vN b ae j bm)⟩,sj ax vN dg⟩
     ·rcases bm with bm|⟨rfl,_⟩
      ·exact h.fr.fresh b o bm
      ·exact .inr g2
    ·cases he
   ·cases he
  ·cases he
 ·cases he
def si(st:bs)(x:dz)(b:Bool):bs:=match x with
 | .t i=>{st with t:=put i (.bool b) st.t}
 | .c _=>st
def c0(P:cF)(ob:List aH):C→(Exit→bs→Prop)→bs→Prop
 | .skip,Q,st=>Q .normal st
 | .region gs,Q,st=>h9 P gs st (Q .normal)
 | .drawn q N gs,Q,st=>hV P q [] st.n gs st (tR (st.n+N) st.o (Q .normal))
 | .drawnW nw N gs,Q,st=>(∀j∈nw,.obj j∉st.o)∧hV P false nw st.n gs st (tR (st.n+N) (nw.map aH.obj++st.o) (Q .normal))
 | .seq a b,Q,st=>c0 P ob a (fun e st'=>match e with| .normal=>c0 P ob b Q st'|e=>Q e st') st
 | .cond x t e,Q,st=>match cu st.t x with
  | .bool b=>(b=true→c0 P ob t Q (si st x true))∧(b=false→c0 P ob e Q (si st x false))
  |_=>eA
 | .block id c,Q,st=>c0 P ob c (fun e st'=>match e with| .exit j=>if j=id then Q .normal st' else Q (.exit j) st'|e=>Q e st') st
 | .loop c,Q,st=> ∃(hd:Nat→bs→Prop) (m:Nat) (wW:bs),iU ob st wW∧hd m wW∧
   ∀k s,hd k s→(∀i,ea (get i s.t))→(∀j cs,look j s.b=some cs→h2 cs=true→en cs)→c0 P ob c (fun e ai=>match e with| .normal=> ∃bH oY,bH<k∧iU ob ai oY∧hd bH oY|e=>Q e ai) s
 | .exit id,Q,st=>Q (.exit id) st
 | .ret,Q,st=>Q .ret st
 | .pub s c,Q,st=>match wO st s with
  |some st'=>c0 P ob c Q st'
  |none=>eA
 | .pubB s c,Q,st=>match wN st s with
  |some st'=>c0 P ob c Q st'
  |none=>eA
 | .fg pJ s c,Q,st=>c0 P ob c Q {st with t:=put s (zt pJ (get s st.t)) st.t}
 | .fz e8 s c,Q,st=>match vK st e8 s with
  |some st'=>c0 P ob c Q st'
  |none=>eA
 | .no,_,_=>eA
def hF(N:Nat)(bC:List (Nat×dI)):C→Code→Bool
 | .skip,.skip=>true
 | .region gs,.region _ ops false=>kv N bC ops.toList gs ops.toList
 | .drawn _ N' gs,.region _ ops true=>N'==N&&kv N bC ops.toList gs ops.toList&&BB gs ops.toList&&zn N gs
 | .drawnW _ N' gs,.region _ ops true=>N'==N&&kv N bC ops.toList gs ops.toList&&BB gs ops.toList&&zn N gs
 | .seq a b,.seq x y=>hF N bC a x&&hF N bC b y
 | .cond x t e,.cond o dE fT=>er x o&&hF N bC t dE&&hF N bC e fT
 | .block id c,.block CR ct=>id==CR&&hF N bC c ct
 | .loop c,.loop ct=>hF N bC c ct
 | .exit id,.exit CR=>id==CR
 | .ret,.ret=>true
 | .pub _ c,ct=>hF N bC c ct
 | .pubB _ c,ct=>hF N bC c ct
 | .fg _ _ c,ct=>hF N bC c ct
 | .fz _ _ c,ct=>hF N bC c ct
 | .no,_=>true
 |_,_=>false
theorem SU{N:Nat}{bC:List (Nat×dI)}{ops:List Oper}:∀{gs:List da} {os:List Oper},kv N bC ops gs os=true→gs.length=os.length
 |[],[],_=>rfl
 |[],_::_,h=>by simp[kv]at h
 |_::_,[],h=>by simp[kv]at h
 |g::gs,o::os,h=>by simp only[kv,cE]at h;simp[SU h.2]
def Zf(P:cF)(C:fh)(c:Code)(Q:Exit→bs→Prop)(st:bs):Prop:= ∀a w ν,cR C st a w ν→c.wp P (fun e bp w'=> ∃st' bo,Q e st'∧cR C st' bp w' bo) a w
theorem qL{P:cF}(hm:P.follows .mixedOrders=true){bC:List (Nat×dI)}(aL:fU P bC=true){X:fh}:∀(c:C) (code:Code) (Q:Exit→bs→Prop) (st:bs),hF X.N bC c code=true→c0 P X.ob c Q st→Zf P X code Q st
 | .skip,code,Q,st,ax,he=>by
  cases code<;>simp only[hF]at ax<;>try cases ax
  intro a w ν aM;exact wp_skip ⟨st,ν,he,aM⟩
 | .region gs,code,Q,st,ax,he=>by
  cases code<;>try(simp[hF]at ax;done)
  rename_i id ops draw;cases draw<;>simp only[hF]at ax
  ·intro a w ν aM;refine wp_region ?_;have aw:gs.length=ops.size:=by simpa using SU ax
   rw[List.range_eq_range',←aw];exact RT aL (K:=Q .normal) (fun st' bp w' bo J U=>⟨st',bo,J,U⟩) gs ops.toList 0 (by simp) ax st a w ν he aM
  ·cases ax
 | .drawn q N gs,code,Q,st,ax,he=>by
  cases code<;>try(simp[hF]at ax;done)
  rename_i id ops draw;cases draw<;>simp only[hF]at ax
  ·cases ax
  ·simp only[cE,dS]at ax;obtain⟨⟨⟨rfl,J⟩,U⟩,ar⟩:=ax;intro a w ν aM;exact RS hm aL J U ar (nw:=[]) (K:=Q .normal) (fun st' bp w' bo J U=>⟨st',bo,J,U⟩) (by simp) he aM
 | .drawnW nw N gs,code,Q,st,ax,he=>by
  cases code<;>try(simp[hF]at ax;done)
  rename_i id ops draw;cases draw<;>simp only[hF]at ax
  ·cases ax
  ·simp only[cE,dS]at ax;obtain⟨⟨⟨rfl,J⟩,U⟩,ar⟩:=ax;intro a w ν aM;exact RS hm aL J U ar (nw:=nw) (K:=Q .normal) (fun st' bp w' bo J U=>⟨st',bo,J,U⟩) he.1 he.2 aM
 | .seq x y,code,Q,st,ax,he=>by
  cases code<;>try(simp[hF]at ax;done)
  rename_i po lB;simp only[hF,cE]at ax;intro a w ν aM;refine wp_seq ?_;have J:=qL hm aL x po _ st ax.1 he a w ν aM;refine wp_mono J fun e bp w' cP=>?_;obtain⟨st',bo,bh,dp⟩:=cP;cases e with
  |normal=>exact qL hm aL y lB Q st' ax.2 bh bp w' bo dp
  |_=>exact⟨st',bo,bh,dp⟩
 | .cond x t e,code,Q,st,ax,he=>by
  cases code<;>try(simp[hF]at ax;done)
  rename_i o aaS ce;simp only[hF,cE]at ax;intro a w ν aM;simp only[c0]at he;have ab:=et aM ax.1.1;split at he
  ·rename_i b ae;rw[ae]at ab;simp only[ba]at ab;have CJ:cR X (si st x b) a w ν:=by
    unfold si;split
    ·exact M6 aM (by simpa[cu]using ae)
    ·exact aM
   refine wp_cond ab ?_;cases b
   ·exact qL hm aL e ce Q _ ax.2 (he.2 rfl) a w ν CJ
   ·exact qL hm aL t aaS Q _ ax.1.2 (he.1 rfl) a w ν CJ
  ·exact he.elim
 | .block id c,code,Q,st,ax,he=>by
  cases code<;>try(simp[hF]at ax;done)
  rename_i CR ct;simp only[hF,cE,dS]at ax;obtain⟨rfl,ax⟩:=ax;intro a w ν aM;refine wp_block ?_;refine wp_mono (qL hm aL c ct _ st ax he a w ν aM) fun e bp w' cP=>?_;obtain⟨st',bo,bh,dp⟩:=cP;cases e with
  |exit j=>
   simp only[Exit.inBlock]at bh⊢;by_cases af:j=id
   ·rw[if_pos af]at bh⊢;exact⟨st',bo,bh,dp⟩
   ·rw[if_neg af]at bh⊢;exact⟨st',bo,bh,dp⟩
  |_=>exact⟨st',bo,bh,dp⟩
 | .loop c,code,Q,st,ax,he=>by
  cases code<;>try(simp[hF]at ax;done)
  rename_i ct;simp only[hF]at ax;intro a w ν aM;simp only[c0]at he;obtain⟨hd,m,wW,hw,hi,jQ⟩:=he;refine wp_loop_ghost (fun k a w=> ∃s ν,hd k s∧cR X s a w ν) m ⟨wW,_,hi,aM.weaker hw⟩ ?_;intro k a w afc;obtain⟨s,ν,ag,z1⟩:=afc;have J:=jQ k s ag (fun i=>Xt (z1.slot i)) (fun j cs af=>by obtain⟨bl,us,el,_,_,_,_,g5⟩:=z1.good.box j cs af;exact Xi g5);refine wp_mono (qL hm aL c ct _ s ax J a w ν z1) fun e bp w' cP=>?_;obtain⟨st',bo,bh,dp⟩:=cP;cases e with
  |normal=>obtain⟨bH,oY,ak,aC,bk⟩:=bh;exact⟨bH,ak,oY,_,bk,dp.weaker aC⟩
  |_=>exact⟨st',bo,bh,dp⟩
 | .exit id,code,Q,st,ax,he=>by
  cases code<;>try(simp[hF]at ax;done)
  rename_i CR;simp only[hF,dS]at ax;subst ax;intro a w ν aM;exact wp_exit ⟨st,ν,he,aM⟩
 | .ret,code,Q,st,ax,he=>by
  cases code<;>try(simp[hF]at ax;done)
  intro a w ν aM;exact wp_ret ⟨st,ν,he,aM⟩
 | .pub s c,code,Q,st,ax,he=>by
  simp only[hF]at ax;simp only[c0]at he;split at he
  ·rename_i st' ag;intro a w ν aM;obtain⟨bo,J⟩:=akK aM ag;exact qL hm aL c code Q st' ax he a w bo J
  ·exact he.elim
 | .pubB s c,code,Q,st,ax,he=>by
  simp only[hF]at ax;simp only[c0]at he;split at he
  ·rename_i st' ag;intro a w ν aM;obtain⟨bo,J⟩:=akJ aM ag;exact qL hm aL c code Q st' ax he a w bo J
  ·exact he.elim
 | .fg pJ s c,code,Q,st,ax,he=>by simp only[hF]at ax;simp only[c0]at he;intro a w ν aM;exact qL hm aL c code Q _ ax he a w ν (M7 aM (ad4 (aM.slot s)))
 | .fz e8 s c,code,Q,st,ax,he=>by
  simp only[hF]at ax;simp only[c0]at he;intro a w ν aM;split at he
  ·rename_i st' cY;obtain⟨bo,J⟩:=aeh aM cY;exact qL hm aL c code Q st' ax he a w bo J
  ·exact he.elim
 | .no,code,Q,st,ax,he=>by simp only[c0]at he
inductive bB where
 |tmp (i:Nat)
 |cell (i:Nat) (agg:Bool) (sz:Nat)
def aZ(st:bs):bB→Option (Prop×ah)
 | .tmp i=>some (True,get i st.t)
 | .cell i agg sz=>mM st.b st.e agg sz (get i st.t)
def aY(st:bs):List bB→Option (Prop×List ah)
 |[]=>some (True,[])
 |r::eN=>match aZ st r,aY st eN with
  |some (c,p),some (ct,cm)=>some (c∧ct,p::cm)
  |_,_=>none
def q7(bC:List (Nat×dI)):List bB→List ResultVar→Bool
 |[],[]=>true
 | .tmp i::eN,.tmp j::os=>i==j&&q7 bC eN os
 | .cell i agg sz::eN,.cell j t::os=>i==j&&(match eg bC t with|some f=>f.size==sz&&f.kind.isAgg==agg|none=>false)&&q7 bC eN os
 |_,_=>false
def aW:List ah→ah
 |[p]=>p
 |cm=>.tuple cm
def HO(tmps:Array Value):ResultVar→Sem Value
 | .tmp t=>pure (tmps.getD t undef)
 | .cell x t=>do loadVar t (←asAddr (tmps.getD x undef))
theorem Xu(fn:Func)(tmps:Array Value):results fn tmps=(do let be←fn.results.mapM (HO tmps);pure (if h:be.size=1 then be[0]else .tuple be)):=by unfold results;congr 2
theorem HI{P:cF}{bC:List (Nat×dI)}(aL:fU P bC=true){X:fh}{st:bs}{a:Act}{w:World}{ν:bf}(aM:cR X st a w ν):
  ∀(eN:List bB) (os:List ResultVar) (c:Prop) (cm:List ah),q7 bC eN os=true→aY st eN=some (c,cm)→c→
  ∃be,(os.mapM (HO a.tmps)).run P w= .ok be w∧cM w ν cm be
 |[],[],c,cm,_,he,_=>by simp only[aY]at he;cases he;exact⟨[],by simp,by simp[cM]⟩
 |[],_::_,_,_,ax,_,_=>by simp[q7]at ax
 | .tmp _::_,[],_,_,ax,_,_=>by simp[q7]at ax
 | .cell _ _ _::_,[],_,_,ax,_,_=>by simp[q7]at ax
 |r::eN,o::os,c,cm,ax,he,ay=>by
  simp only[aY]at he;split at he
  ·rename_i bN p cq Wj J U;cases he;cases r with
   |tmp i=>
    cases o with
    |cell _ _=>simp[q7]at ax
    |tmp j=>simp only[q7,cE,dS]at ax;obtain⟨rfl,ax⟩:=ax;simp only[aZ]at J;cases J;obtain⟨be,g1,g2⟩:=HI aL aM eN os cq Wj ax U ay.2;refine⟨a.tmps.getD i undef::be,?_,by simp only[cM];exact⟨_,_,rfl,aM.slot i,g2⟩⟩;simp only[List.mapM_cons,fJ,HO,gu,fR,g1]
   |cell i agg sz=>
    cases o with
    |tmp _=>simp[q7]at ax
    |cell j t=>
     simp only[q7,cE,dS]at ax;obtain⟨⟨rfl,ar⟩,ax⟩:=ax;split at ar
     ·rename_i f aI;simp only[cE,dS]at ar;obtain⟨rfl,rfl⟩:=ar;simp only[aZ]at J;obtain⟨be,g1,g2⟩:=HI aL aM eN os cq Wj ax U ay.2;obtain⟨v,f1,f2⟩:=GG aL aM.good aI (aM.slot i) J ay.1;have CG:∃lz,a.tmps.getD i undef= .pointer (some lz):=by
       have ag:=aM.slot i;unfold mM at J;split at J
       ·rename_i dL k n wk ry ad;rw[ad]at ag;simp only[ba]at ag;obtain⟨⟨b,o,e⟩,_⟩:=ag;exact⟨_,e⟩
       ·rename_i k off ad;rw[ad]at ag;simp only[ba]at ag;obtain⟨b,_,e⟩:=ag;exact⟨_,e⟩
       ·rename_i q ad;rw[ad]at ag;simp only[ba]at ag;obtain⟨b,off,u,e,_⟩:=ag;exact⟨_,e⟩
       ·cases J
      obtain⟨lz,Ch⟩:=CG;rw[Ch]at f1;simp only[Instr.loadAt,Instr.sureAddr,fJ,gu,fR]at f1;refine⟨v::be,?_,by simp only[cM];exact⟨_,_,rfl,f2,g2⟩⟩;have aff:(asAddr (.pointer (some lz)):Sem Addr).run P w= .ok lz w:=rfl;simp only[List.mapM_cons,fJ,HO,gu,fR,g1,Ch,aff,f1]
     ·cases ar
  ·cases he
theorem yE{w:World}{ν:bf}:∀{cm:List ah} {be:List Value},cM w ν cm be→be.length=cm.length
 |[],be,h=>by simp only[cM]at h;subst h;rfl
 |p::cm,be,h=>by simp only[cM]at h;obtain⟨u,ch,rfl,_,U⟩:=h;simp[yE U]
def jW:Nat→List ah→List (Nat×ah)
 |_,[]=>[]
 |i,p::cm=>(i,p)::jW (i+1) cm
theorem FB:∀(cm:List ah) (i j:Nat),get j (jW i cm)=if i≤j∧j<i+cm.length then cm.getD (j-i) .junk else .junk
 |[],i,j=>by simp[jW,get]
 |p::cm,i,j=>by
  simp only[jW,get];by_cases h:i=j
  ·subst h;simp
  ·rw[if_neg h,FB cm (i+1) j];by_cases U:i≤j∧j<i+(p::cm).length
   ·rw[if_pos U,if_pos (by simp at U⊢;omega)];have:j-i=(j-(i+1))+1:=by omega
    rw[this];simp
   ·rw[if_neg U,if_neg (by simp at U⊢;omega)]
def mg{α:Type}(ai:cL):List (aH×α)→Prop
 |[]=>True
 |(k,_)::r=>inObs ai k∧mg ai r
theorem Ak{α:Type}{ai:cL}:∀{l:List (aH×α)},mg ai l→∀k,(look k l).isSome→inObs ai k
 |[],_,k,h=>by simp[look]at h
 |(i,x)::r,ad,k,h=>by
  simp only[mg]at ad;simp only[look]at h;split at h
  ·rename_i e;subst e;exact ad.1
  ·exact Ak ad.2 k h
def cX(eN:List bB)(s:cL)(Q:ah→cL→Prop)(e:Exit)(st:bs):Prop:=
 (e= .ret∨e= .normal)∧match aY st eN with
  |some (c,cm)=>c∧∃ai,mg ai s.b∧mg ai s.e∧gL (inObs ai) ai.b st.b∧o1 (inObs ai) ai.e st.e∧iL ai∧aF (inObs ai) (dr (aW cm))∧Q (dr (aW cm)) ai
  |none=>eA
theorem bV.of{P:cF}(hm:P.follows .mixedOrders=true){bC:List (Nat×dI)}(aL:fU P bC=true){f:FuncId}{fn:Func}(aI:P.funcs[f]? =some fn){code:Code}(ae:fn.body=some code)(zT:(fn.name== "runtime.NumGoroutine")=false){c:C}(ay:hF fn.ntmps bC c code=true){eN:List bB}(z1:q7 bC eN fn.results.toList=true)
  {args:List ah} (aw:args.length≤fn.ntmps) {s:cL} (pH:iL s) {Q:ah→cL→Prop} (he:ey args→(∀j cs,look j s.b=some cs→h2 cs=true→en cs)→c0 P (cV s) c (cX eN s Q) ⟨jW 0 args,s.b,s.e,0,cV s⟩):bV P f args s Q:=by
 intro w ν be aX ab aM;refine .inl ⟨⟨fn,aI,by simp[ae],zT⟩,?_⟩;have oR:=yE aM;have kE:be.size=args.length:=by simpa using oR
 let X:fh:=⟨w,ν,fm ν s,fn.ntmps,cV s⟩
 have oM:∀k,fresh 0 (cV s) k→ν.bx k=none∧ν.ow k=none∧∀j b,¬ν.tr k j b:=by
  intro k ad;cases k with
  |loc m=>exact⟨(ab _).1 (pH.1 m),(ab _).2.1 (pH.2 m),(ab _).2.2⟩
  |obj m=>
   simp only[fresh,true_and]at ad;refine⟨?_,?_,(ab _).2.2⟩
   ·refine(ab _).1 ?_;cases h:look (.obj m) s.b with
    |none=>rfl
    |some x=>exact absurd (tq (.inl (by simp[h]))) ad
   ·refine(ab _).2.1 ?_;cases h:look (.obj m) s.e with
    |none=>rfl
    |some x=>exact absurd (tq (.inr (by simp[h]))) ad
 have jx:∀m,(ν.bx (.obj m)≠none∨ν.ow (.obj m)≠none)→ .obj m∈cV s:=by
  intro m hm;refine Classical.byContradiction fun ay=>?_;obtain⟨J,U,_⟩:=oM (.obj m) ⟨trivial,ay⟩;rcases hm with hm|hm
  ·exact hm J
  ·exact hm U
 have oO:cR X ⟨jW 0 args,s.b,s.e,0,cV s⟩ {tmps:=be++Array.replicate (fn.ntmps-be.size) undef,defers:=[]} w ν:=by
  refine⟨⟨aX.alt,fun k cs ad=>?_,aX.inj,fun g o de=>?_,aX.oinj,aX.obx,aX.one,aX.otr⟩,⟨rfl,rfl,rfl,eY _,fun _ _ _=>rfl,fun b o h=>⟨h,rfl⟩,fun b o h=>.inl h,fun n b h=>h,fun n b h=>jx n (.inl (by rw[h];simp)),fun m n u h=>⟨n,u,h,.inl ⟨rfl,rfl⟩⟩,fun m n u h=>jx m (.inr (by rw[h];simp)),fun k j _ _ b h=>absurd h ((ab k).2.2 j b),fun k j b h=>absurd h ((ab k).2.2 j b),fun k j b h=>absurd h ((ab k).2.2 j b),fun _ _ _=>rfl⟩,rfl,?_,fun i=>?_,oM⟩
  ·obtain⟨bl,us,el,g1,g2,g3⟩:=aX.box k cs ad;exact⟨bl,us,el,g1,.inl g2,g3⟩
  ·obtain⟨v,us,g1,g2,g3,g4⟩:=aX.own g o de;exact⟨v,us,g1,g2,fun bl fs=>⟨.inl (g3 bl fs).1,(g3 bl fs).2⟩,g4⟩
  ·show(be++Array.replicate (fn.ntmps-be.size) undef).size=fn.ntmps;simp;omega
  ·rw[FB];by_cases hi:i<args.length
   ·rw[if_pos (by omega)];have qR:args[i]? =some args[i]:=cl hi;obtain⟨v,ak,aC⟩:=DJ i aM qR;have aK:(be++Array.replicate (fn.ntmps-be.size) undef).getD i undef=v:=by
     have BQ:be[i]? =some v:=by simpa using ak
     rw[Array.getD_eq_getD_getElem?,Array.getElem?_append_left (by omega),BQ];rfl
    show ba w ν _ ((be++Array.replicate (fn.ntmps-be.size) undef).getD i undef);rw[aK];simpa[List.getD,qR]using aC
   ·rw[if_neg (by omega)];simp[ba]
 have uC:=he (Nf aM) (fun j cs af=>by obtain⟨bl,us,el,_,_,_,_,g5⟩:=aX.box j cs af;exact Xi g5);have K8:=qL hm aL (X:=X) c code (cX eN s Q) _ ay uC _ w ν oO;refine calls_of_wp aI ae (wp_mono K8 fun e bp w' cP=>?_);obtain⟨st',bo,⟨rP,bh⟩,dp⟩:=cP;cases rV:aY st' eN with
 |none=>simp[rV]at bh
 |some x=>
  obtain⟨ct,cm⟩:=x;simp only[rV]at bh;obtain⟨hh,ai,kb,ke,a7,bF,b0,cZ,df⟩:=bh;obtain⟨nG,g1,g2⟩:=HI aL dp eN fn.results.toList ct cm z1 rV hh;have KT:=yE g2;have c7:bp.defers=[]∧∃v,(results fn bp.tmps).run P w'= .ok v w'∧(fun(e:Ending) w'=> ∃v r ai bo,e= .returned v∧Q r ai∧ba w' bo r v∧Good (fun bl=>fm ν s bl∨w.heap.size≤bl) w' bo ai.b ai.e∧oD bo ai∧iL ai∧pW ⟨w,ν,fm ν s,0,cV s⟩ w' bo) (.returned v) w':=by
   refine⟨dp.defers,?_⟩;have ir:(results fn bp.tmps).run P w'= .ok (if h:nG.toArray.size=1 then nG.toArray[0]else .tuple nG.toArray) w':=by rw[Xu];simp only[fJ,Array.mapM_eq_mapM_toList,Sem.run_map,g1,fR,gu]
   refine⟨_,ir,_,dr (aW cm),ai,bo.cut (inObs ai),rfl,df,?_,dp.good.cut a7 bF (fun bl h _=>h),?_,b0,?_⟩
   ·have lL:ba w' bo (aW cm) (if h:nG.toArray.size=1 then nG.toArray[0]else .tuple nG.toArray):=by
     match cm,nG,g2,KT with
     |[p],[v],g2,_=>simp only[cM]at g2;obtain⟨u,ch,ak,aC,_⟩:=g2;cases ak;simpa[aW]using aC
     |[],[],g2,_=>simp[aW,ba,cM]
     |p::dy::cm,v::v2::nG,g2,_=>rw[dif_neg (by simp)];simp only[aW,ba];exact⟨_,rfl,by simpa using g2⟩
     |[_],[],_,h=>simp at h
     |[],_::_,_,h=>simp at h
     |[_],_::_::_,_,h=>simp at h
     |_::_::_,[],_,h=>simp at h
     |_::_::_,[_],_,h=>simp at h
    exact kp (oo.cut _ w' bo) _ _ cZ (k3 _ _ lL)
   ·intro k;refine⟨?_,?_,?_⟩;rotate_left 2
    ·rintro j b ⟨ag,ae⟩;obtain⟨t1,t2⟩:=dp.fr.trn k j b ae;rcases ag with ag|ag<;>obtain⟨x,iu⟩:=fE.1 ag
     ·obtain⟨bl,ch,el,ak,_⟩:=dp.good.box k x (a7 k x iu).1;rw[t1]at ak;cases ak
     ·obtain⟨v',ch,ak,_⟩:=dp.good.own k x (bF k x iu).1;rw[t2]at ak;cases ak
    ·intro ad;by_cases ag:inObs ai k
     ·rw[bf.cut_bx ag];rcases ag with ag|ag
      ·rw[ad]at ag;cases ag
      ·obtain⟨x,iu⟩:=fE.1 ag;obtain⟨v',ch,ak,_⟩:=dp.good.own k x (bF k x iu).1;rcases dp.good.one k with J|J
       ·exact J
       ·rw[J]at ak;cases ak
     ·exact(bf.cut_no ag).1
    ·intro ad;by_cases ag:inObs ai k
     ·rw[bf.cut_ow ag];rcases ag with ag|ag
      ·obtain⟨x,iu⟩:=fE.1 ag;obtain⟨bl,ch,el,ak,_⟩:=dp.good.box k x (a7 k x iu).1;rcases dp.good.one k with J|J
       ·rw[J]at ak;cases ak
       ·exact J
      ·rw[ad]at ag;cases ag
     ·exact(bf.cut_no ag).2.1
   ·refine⟨dp.fr.os,dp.fr.tape,dp.fr.output,dp.fr.size,dp.fr.block,dp.fr.keep,dp.fr.fresh,fun n b h=>?_,fun n b h=>jx n (.inl (by rw[h];simp)),fun m n u h=>?_,fun m n u h=>jx m (.inr (by rw[h];simp)),fun k j bH dJ b J U=>dp.fr.trd k j bH dJ b J.2 U.2,fun k j b ae=>dp.fr.trb k j b ae.2,fun k j b ae=>(by rw[bf.cut_bx ae.1,bf.cut_ow ae.1];exact dp.fr.trn k j b ae.2),dp.fr.sh⟩
    ·have ag:inObs ai (.obj n):=by
      cases aw:look (.obj n) s.b with
      |none=>rw[(ab _).1 aw]at h;cases h
      |some x=>exact Ak kb _ (by simp[aw])
     rw[bf.cut_bx ag];exact dp.fr.obj n b h
    ·have ag:inObs ai (.obj m):=by
      cases aw:look (.obj m) s.e with
      |none=>rw[(ab _).2.1 aw]at h;cases h
      |some x=>exact Ak ke _ (by simp[aw])
     rw[bf.cut_ow ag];exact dp.fr.row m n u h
  rcases rP with rfl|rfl<;>exact c7
def bY(bC:List (Nat×dI))(c:C)(eN:List bB)(aix:Nat)(fn:Func):Bool:=
 match fn.body with
 |some code=>hF fn.ntmps bC c code&&q7 bC eN fn.results.toList&& !(fn.name== "runtime.NumGoroutine")&&decide (aix≤fn.ntmps)
 |none=>false
theorem bV.mk{P:cF}(hm:P.follows .mixedOrders=true){bC:List (Nat×dI)}(aL:fU P bC=true){f:FuncId}{fn:Func}(aI:P.funcs[f]? =some fn){c:C}{eN:List bB}{n:Nat}(eJ:bY bC c eN n fn=true)
  {args:List ah} (aw:args.length≤n) {s:cL} (pH:iL s) {Q:ah→cL→Prop} (he:ey args→(∀j cs,look j s.b=some cs→h2 cs=true→en cs)→c0 P (cV s) c (cX eN s Q) ⟨jW 0 args,s.b,s.e,0,cV s⟩):bV P f args s Q:=by
 unfold bY at eJ;split at eJ
 ·rename_i code ae;simp only[cE,sx,fK]at eJ;obtain⟨⟨⟨J,U⟩,ar⟩,a8⟩:=eJ;exact bV.of hm aL aI ae ar J U (kc aw a8) pH he
 ·cases eJ
theorem u3:iL ⟨[],[]⟩:=⟨fun _=>rfl,fun _=>rfl⟩
def bu(eN:List bB)(r:ah)(e:Exit)(st:bs):Prop:=
 (e= .ret∨e= .normal)∧match aY st eN with
  |some (c,cm)=>c∧dr (aW cm)=r
  |none=>eA
theorem bt.mk{P:cF}(hm:P.follows .mixedOrders=true){bC:List (Nat×dI)}(aL:fU P bC=true){f:FuncId}{fn:Func}(aI:P.funcs[f]? =some fn){c:C}{eN:List bB}{n:Nat}(eJ:bY bC c eN n fn=true)
  {args:List ah} (aw:args.length≤n) {r:ah} (aM:aF (fun _=>eA) r) (he:ey args→c0 P [] c (bu eN r) ⟨jW 0 args,[],[],0,[]⟩):bt P f args r:=by
 refine bV.mk hm aL aI eJ aw u3 fun J _=>?_;have:=he J;have ib:bu eN r=cX eN ⟨[],[]⟩ (fun eS ai=>eS=r∧ai=⟨[],[]⟩):=by
  funext e st;unfold bu cX;apply propext;refine and_congr_right fun _=>?_;cases aY st eN with
  |none=>exact Iff.rfl
  |some x=>
   obtain⟨c,cm⟩:=x;refine and_congr_right fun _=>?_;constructor
   ·intro h;refine⟨⟨[],[]⟩,trivial,trivial,fun k cs ad=>by simp[look]at ad,fun k cs ad=>by simp[look]at ad,u3,?_,h,rfl⟩;rw[h];exact wy (fun k ad=>ad.elim) r aM
   ·rintro⟨ai,_,_,_,_,_,_,h,_⟩;exact h
 rw[ib]at this;exact this
theorem On{α:Type}{β:Type}:∀l:List (aH×α),cz ([]:List (aH×β)) l=l
 |[]=>rfl
 |(k,x)::r=>by simp[cz,look,On r]
theorem c9.val{P:cF}{n:Nat}{args:List ah}{st:bs}{d:Option Nat}{K:bs→Prop}{r:ah}(ad:aJ (fun _=>eA) args)(aI:bt P n args r)(h:K {st with t:=eX d r st.t}):c9 P n args st d K:=by
 refine .inl ⟨⟨[],[]⟩,_,fun k cs ad=>by simp[look]at ad,fun k cs ad=>by simp[look]at ad,u3,j1 (fun _ h=>h.elim) _ ad,aI,?_⟩;rintro eS ai ⟨rfl,rfl⟩;refine⟨⟨fun m h=>by simp[look]at h,fun m h=>by simp[look]at h⟩,?_⟩;have:after st ⟨[],[]⟩ ⟨[],[]⟩ d eS={st with t:=eX d eS st.t}:=by simp[after,On,cV]
 rw[this];exact h
@[reducible,simp] def fI(n:Int):dz:= .c (.int .i64 n)
@[reducible,simp] def I(a b:Nat):da:=⟨none,.s (.v a (.mov (.t b)))⟩
@[reducible,simp] def b9(a:Nat)(i:fY):da:=⟨none,.s (.v a i)⟩
@[reducible,simp] def c4(i:ev):da:=⟨none,.s i⟩
@[reducible,simp] def c8(a f:Nat)(l:List dz):da:=⟨none,.call (some a) (.c (.func f [])) l⟩
@[reducible,simp] def b6(j:Nat)(w:Bool)(a b:Nat):da:=⟨some (j,w),.s (.v a (.mov (.t b)))⟩
@[reducible,simp] def xa(j:Nat)(w:Bool)(a:Nat)(i:fY):da:=⟨some (j,w),.s (.v a i)⟩
@[reducible,simp] def ys(j:Nat)(w:Bool)(i:ev):da:=⟨some (j,w),.s i⟩
@[reducible,simp] def cp(d s a b:Nat):da:=b9 d (.iaddr s (.t a) (.t b))
@[reducible,simp] def av(d s a:Nat):da:=b9 d (.load false s (.t a))
@[reducible,simp] def aS(d s a:Nat):da:=b9 d (.load true s (.t a))
@[reducible,simp] def aB(d o s a:Nat):da:=b9 d (.faddr o false s (.t a))
@[reducible,simp] def gY(d o s a:Nat):da:=b9 d (.faddr o true s (.t a))
@[reducible,simp] def bn(d:Nat)(o:BinOp)(a b:Nat):da:=b9 d (.bin o false (.t a) (.t b))
@[reducible,simp] def aV(d:Nat)(o:BinOp)(a:Nat)(n:Int):da:=b9 d (.bin o false (.t a) (fI n))
@[reducible,simp] def cg(d a:Nat):da:=b9 d (.len (.t a))
@[reducible,simp] def cd(d a:Nat):da:=b9 d (.notB (.t a))
@[reducible,simp] def cn(d i a:Nat):da:=b9 d (.ext i (.t a))
@[reducible,simp] def cU(d a b:Nat):da:=b9 d (.pick (.t a) (.c (.bool true)) (.t b))
@[reducible,simp] def dD(d a b:Nat):da:=b9 d (.pick (.t a) (.t b) (.c (.bool false)))
@[reducible,simp] def bd(d:Nat)(b:Bool):da:=b9 d (.mov (.c (.bool b)))
@[reducible,simp] def bU(d:Nat)(n:Int):da:=b9 d (.mov (fI n))
@[reducible,simp] def bz(s a b:Nat):da:=c4 (.store s (.t a) (.t b))
@[reducible,simp] def aq(j:Nat)(w:Bool)(x:da):da:=⟨some (j,w),x.i⟩
@[reducible,simp] def aa(l:List da)(c:C):C:= .seq (.region l) c
@[reducible,simp] def aU(n:Nat)(a b:C):C:= .cond (.t n) a b
@[reducible,simp] def gM(d a:Nat)(l:List dz):da:=⟨none,.call (some d) (.t a) l⟩
@[reducible,simp] def cA(d f a:Nat):da:=c8 d f [.t a]
@[reducible,simp] def b8(d f a b:Nat):da:=c8 d f [.t a,.t b]
@[reducible,simp] def dY:List ah:=[.int .i64 0,.int .i64 0,.str [],.slice 4 .nil []]
@[reducible,simp] def iK:List ah:=[.int .i64 0,.int .i64 0,.int .i64 0,.str [],.slice 4 .nil []]
@[reducible,simp] def eF:List ah:=[.int .i64 0,.slice 5 .nil [],.slice 1 .nil [],.slice 2 .nil [],.slice 2 .nil []]
@[reducible,simp] def cw(a b:Nat):da:=c4 (.box a none (.t b))
@[reducible,simp] def cO(a:Nat)(l:List ah):da:=c4 (.alloc a none (.agg l))
@[reducible,simp] def eu(a n:Nat):da:=b9 a (.mov (.c (.slice n .nil [])))
@[reducible,simp] def gR(a b c d e:Nat):da:=c4 (.app a b c (.t d) (.t e))
@[reducible,simp] def eb(a b c:Nat)(l:List dz):da:=c4 (.bsl a b c l)
@[reducible,simp] def fD(a b:Nat):da:=b9 a (.nck (.t b))
@[reducible,simp] def jY(d s a:Nat)(n:Int):da:=b9 d (.iaddr s (.t a) (fI n))
@[reducible,simp] def ha(d:Nat)(l:List ah)(m:List (Nat×Nat×dz)):da:=b9 d (.build l m)
@[reducible,simp] def fp(a b c:Nat)(x:C):C:= .block 0 (.loop (aa [bn a .lss b c] (.seq (aU a .skip (.exit 0)) x)))
end Go.Pv
namespace Go.Pv
open Go Go.RowKit
theorem dP{α:Type}{l:List α}{i:Nat}(h:i<l.length):∃b,l[i]? =some b∧∀h,(l[i]'h)=b:=⟨l[i],cl h,fun _=>rfl⟩
def Nn(st:bs)(i:ev):Prop:=match mi st i with|some (c,_)=>c|none=>eA
def Np(st:bs)(i:ev):bs:=match mi st i with|some (_,s)=>s|none=>st
def Eo(P:cF)(r:List da)(K:bs→Prop)(st:bs):Prop:=h9 P r st K
def y6(P:cF)(ob:List aH)(c:C)(Q:Exit→bs→Prop)(st:bs):Prop:=c0 P ob c Q st
def p1(P:cF)(v:ah)(s:Nat)(w:Bool)(i:ek)(r:List da)(st:bs)(K:bs→Prop):Prop:=
 match v with
 | .bool b=>(b=w→h9 P (⟨none,i⟩::r) {st with t:=put s (.bool w) st.t} K)∧(b= !w→h9 P r {st with t:=eX i.dst (.tuple []) (put s (.bool !w) st.t)} K)
 | .tuple []=>h9 P r {st with t:=eX i.dst (.tuple []) st.t} K
 |_=>eA
def uq(P:cF)(ob:List aH)(v:ah)(x:dz)(t e:C)(Q:Exit→bs→Prop)(st:bs):Prop:=
 match v with
 | .bool b=>(b=true→c0 P ob t Q (si st x true))∧(b=false→c0 P ob e Q (si st x false))
 |_=>eA
def JB(P:cF)(v:ah)(d:Option Nat)(xs:List ah)(r:List da)(st:bs)(K:bs→Prop):Prop:=
 match v with
 | .func n dv=>c9 P n (cW (xs++dv)) st d (Eo P r K)
 |_=>eA
section
variable {P:cF} {ob:List aH} {st:bs} {K:bs→Prop} {r:List da} {Q:Exit→bs→Prop} {a b c t e:C}
theorem abT:h9 P [] st K=K st:=rfl
theorem abU{i:ev}:h9 P (⟨none,.s i⟩::r) st K=(Nn st i∧h9 P r (Np st i) K):=by
 simp only[h9,uo,Nn,Np];cases mi st i with
 |none=>simp
 |some x=>rfl
theorem abQ{d:Option Nat}{f:dz}{xs:List dz}:h9 P (⟨none,.call d f xs⟩::r) st K=JB P (cu st.t f) d (xs.map (cu st.t)) r st K:=by simp only[h9,uo,JB];rfl
theorem abS{d:Nat}{x:dz}:h9 P (⟨none,.next d x⟩::r) st K=sN st d (cu st.t x) (Eo P r K):=by simp only[h9,uo];rfl
def xf(P:cF)(ob:List aH)(c:C)(Q:Exit→bs→Prop):Option bs→Prop
 |some st=>c0 P ob c Q st
 |none=>eA
theorem Zn:xf P ob c Q (some st)=c0 P ob c Q st:=rfl
theorem abv{s:Nat}:c0 P ob (.pub s c) Q st=xf P ob c Q (wO st s):=by simp only[c0];cases wO st s<;>rfl
theorem abq{pJ:Bool}{s:Nat}:c0 P ob (.fg pJ s c) Q st=c0 P ob c Q {st with t:=put s (zt pJ (get s st.t)) st.t}:=rfl
theorem abr{pJ:Bool}{s:Nat}{d:C}:c0 P ob (.seq (.fg pJ s c) d) Q st=c0 P ob (.seq c d) Q {st with t:=put s (zt pJ (get s st.t)) st.t}:=rfl
theorem abt{e8:Bool}{s:Nat}:c0 P ob (.fz e8 s c) Q st=xf P ob c Q (vK st e8 s):=by simp only[c0];cases vK st e8 s<;>rfl
theorem abu{e8:Bool}{s:Nat}{d:C}:c0 P ob (.seq (.fz e8 s c) d) Q st=xf P ob (.seq c d) Q (vK st e8 s):=by simp only[c0];cases vK st e8 s<;>rfl
theorem abw{s:Nat}:c0 P ob (.pubB s c) Q st=xf P ob c Q (wN st s):=by simp only[c0];cases wN st s<;>rfl
theorem abP{n:Nat}{dv:List ah}{d:Option Nat}{xs:List ah}:JB P (.func n dv) d xs r st K=c9 P n (cW (xs++dv)) st d (Eo P r K):=rfl
theorem abR{s:Nat}{w:Bool}{i:ek}:h9 P (⟨some (s,w),i⟩::r) st K=p1 P (get s st.t) s w i r st K:=by simp only[h9,p1];try rfl
theorem abZ{s:Nat}{i:ek}:p1 P (.bool true) s true i r st K=h9 P (⟨none,i⟩::r) {st with t:=put s (.bool true) st.t} K:=by simp[p1]
theorem abV{s:Nat}{i:ek}:p1 P (.bool false) s false i r st K=h9 P (⟨none,i⟩::r) {st with t:=put s (.bool false) st.t} K:=by simp[p1]
theorem abY{s:Nat}{i:ek}:p1 P (.bool true) s false i r st K=h9 P r {st with t:=eX i.dst (.tuple []) (put s (.bool true) st.t)} K:=by simp[p1]
theorem abW{s:Nat}{i:ek}:p1 P (.bool false) s true i r st K=h9 P r {st with t:=eX i.dst (.tuple []) (put s (.bool false) st.t)} K:=by simp[p1]
theorem abX{s:Nat}{w:Bool}{i:ek}:p1 P (.tuple []) s w i r st K=h9 P r {st with t:=eX i.dst (.tuple []) st.t} K:=by simp[p1]
theorem bM{x:Bool}{s:Nat}{w:Bool}{i:ek}(J:x=w→h9 P (⟨none,i⟩::r) {st with t:=put s (.bool w) st.t} K)(U:x= !w→h9 P r {st with t:=eX i.dst (.tuple []) (put s (.bool !w) st.t)} K):p1 P (.bool x) s w i r st K:=⟨J,U⟩
theorem abf:c0 P ob (.seq (.seq a b) c) Q st=c0 P ob (.seq a (.seq b c)) Q st:=by simp only[c0];congr 1;funext e st';cases e<;>rfl
theorem abB:c0 P ob (.seq .skip c) Q st=c0 P ob c Q st:=rfl
theorem abz:c0 P ob (.seq .ret c) Q st=Q .ret st:=rfl
theorem abo{n:Nat}:c0 P ob (.seq (.exit n) c) Q st=Q (.exit n) st:=rfl
theorem abC:c0 P ob .skip Q st=Q .normal st:=rfl
theorem abA:c0 P ob .ret Q st=Q .ret st:=rfl
theorem abp{n:Nat}:c0 P ob (.exit n) Q st=Q (.exit n) st:=rfl
theorem abx{gs:List da}:c0 P ob (.seq (.region gs) c) Q st=h9 P gs st (y6 P ob c Q):=rfl
theorem aby{gs:List da}:c0 P ob (.region gs) Q st=h9 P gs st (Q .normal):=rfl
theorem abi{x:dz}:c0 P ob (.seq (.cond x t e) c) Q st=uq P ob (cu st.t x) x (.seq t c) (.seq e c) Q st:=by simp only[c0,uq];try rfl
theorem abj{x:dz}:c0 P ob (.cond x t e) Q st=uq P ob (cu st.t x) x t e Q st:=by simp only[c0,uq];try rfl
theorem abE{x:dz}:uq P ob (.bool true) x t e Q st=c0 P ob t Q (si st x true):=by simp[uq]
theorem abD{x:dz}:uq P ob (.bool false) x t e Q st=c0 P ob e Q (si st x false):=by simp[uq]
theorem bK{v:Bool}{x:dz}(J:v=true→c0 P ob t Q (si st x true))(U:v=false→c0 P ob e Q (si st x false)):uq P ob (.bool v) x t e Q st:=⟨J,U⟩
def y2(P:cF)(ob:List aH)(id:Nat)(c:C)(Q:Exit→bs→Prop)(e:Exit)(st:bs):Prop:=
 match e with
 | .normal=>c0 P ob c Q st
 | .exit j=>if j=id then c0 P ob c Q st else Q (.exit j) st
 |e=>Q e st
theorem abg{id:Nat}:c0 P ob (.seq (.block id a) c) Q st=c0 P ob a (y2 P ob id c Q) st:=by
 simp only[c0];congr 1;funext e st';cases e with
 |exit j=>rfl
 |_=>rfl
theorem abh{id:Nat}:c0 P ob (.block id a) Q st=c0 P ob a (y2 P ob id .skip Q) st:=by
 simp only[c0];congr 1;funext e st';cases e with
 |exit j=>simp only[y2];by_cases af:j=id<;>simp[af,c0]
 |_=>rfl
theorem Zb{id:Nat}:y2 P ob id c Q .normal st=y6 P ob c Q st:=rfl
theorem Za{id j:Nat}:y2 P ob id c Q (.exit j) st=if j=id then y6 P ob c Q st else Q (.exit j) st:=rfl
theorem Zc{id:Nat}:y2 P ob id c Q .ret st=Q .ret st:=rfl
def bT(ob:List aH)(hd:Nat→bs→Prop)(k:Nat)(Q:Exit→bs→Prop)(e:Exit)(st:bs):Prop:=
 match e with
 | .normal=> ∃bH oY,bH<k∧iU ob st oY∧hd bH oY
 |e=>Q e st
theorem El{hd:Nat→bs→Prop}{k:Nat}:bT ob hd k Q .normal st= ∃bH oY,bH<k∧iU ob st oY∧hd bH oY:=rfl
theorem Zi{hd:Nat→bs→Prop}{k n:Nat}:bT ob hd k Q (.exit n) st=Q (.exit n) st:=rfl
theorem Zj{hd:Nat→bs→Prop}{k:Nat}:bT ob hd k Q .ret st=Q .ret st:=rfl
theorem pA(hd:Nat→bs→Prop)(m:Nat)(wW:bs)(hw:iU ob st wW)(bD:hd m wW)(h:∀k s,hd k s→(∀i,ea (get i s.t))→(∀j cs,look j s.b=some cs→h2 cs=true→en cs)→c0 P ob a (bT ob hd k Q) s):c0 P ob (.loop a) Q st:=by
 simp only[c0];refine⟨hd,m,wW,hw,bD,fun k s J U ar=>?_⟩;have:=h k s J U ar;have bh:(bT ob hd k Q)=(fun e ai=>match e with| .normal=> ∃bH oY,bH<k∧iU ob ai oY∧hd bH oY|e=>Q e ai):=by funext e ai;cases e<;>rfl
 rw[bh]at this;exact this
end
/-Regions cK draw lr order. -/
def Nk(n0:Nat)(st:bs)(i:ev):Prop:=match eK (ps n0 i) st.n (ps n0 i::st.o) st i with|some (c,_)=>c|none=>eA
def Nl(n0:Nat)(st:bs)(i:ev):bs:=match eK (ps n0 i) st.n (ps n0 i::st.o) st i with|some (_,s)=>s|none=>st
def Ip(P:cF)(q:Bool)(nw:List Nat)(n0:Nat)(r:List da)(K:bs→Prop)(st:bs):Prop:=hV P q nw n0 r st K
def p0(P:cF)(q:Bool)(nw:List Nat)(n0:Nat)(v:ah)(s:Nat)(w:Bool)(i:ek)(r:List da)(st:bs)(K:bs→Prop):Prop:=
 match v with
 | .bool b=>(b=w→hV P q nw n0 (⟨none,i⟩::r) {st with t:=put s (.bool w) st.t} K)∧(b= !w→hV P q nw n0 r {st with t:=eX i.dst (.tuple []) (put s (.bool !w) st.t)} K)
 | .tuple []=>hV P q nw n0 r {st with t:=eX i.dst (.tuple []) st.t} K
 |_=>eA
def JA(P:cF)(q:Bool)(nw:List Nat)(n0:Nat)(v:ah)(d:Option Nat)(xs:List ah)(r:List da)(st:bs)(K:bs→Prop):Prop:=
 match v with
 | .func n dv=>ih P q nw n (cW (xs++dv)) st d (Ip P q nw n0 r K)
 |_=>eA
section
variable {P:cF} {ob:List aH} {st:bs} {K:bs→Prop} {r:List da} {Q:Exit→bs→Prop} {c:C} {q:Bool} {nw:List Nat} {n0 N:Nat}
theorem abI:hV P q nw n0 [] st K=K st:=rfl
theorem abJ{i:ev}:hV P q nw n0 (⟨none,.s i⟩::r) st K=(l2 q nw n0 st i∧Nk n0 st i∧hV P q nw n0 r (Nl n0 st i) K):=by
 simp only[hV,kt,Nk,Nl];cases eK (ps n0 i) st.n (ps n0 i::st.o) st i with
 |none=>simp
 |some x=>rfl
theorem abG{d:Option Nat}{f:dz}{xs:List dz}:hV P q nw n0 (⟨none,.call d f xs⟩::r) st K=JA P q nw n0 (cu st.t f) d (xs.map (cu st.t)) r st K:=by simp only[hV,kt,JA];rfl
theorem abF{n:Nat}{dv:List ah}{d:Option Nat}{xs:List ah}:JA P q nw n0 (.func n dv) d xs r st K=ih P q nw n (cW (xs++dv)) st d (Ip P q nw n0 r K):=rfl
theorem abH{s:Nat}{w:Bool}{i:ek}:hV P q nw n0 (⟨some (s,w),i⟩::r) st K=p0 P q nw n0 (get s st.t) s w i r st K:=by simp only[hV,p0];try rfl
theorem abO{s:Nat}{i:ek}:p0 P q nw n0 (.bool true) s true i r st K=hV P q nw n0 (⟨none,i⟩::r) {st with t:=put s (.bool true) st.t} K:=by simp[p0]
theorem abK{s:Nat}{i:ek}:p0 P q nw n0 (.bool false) s false i r st K=hV P q nw n0 (⟨none,i⟩::r) {st with t:=put s (.bool false) st.t} K:=by simp[p0]
theorem abN{s:Nat}{i:ek}:p0 P q nw n0 (.bool true) s false i r st K=hV P q nw n0 r {st with t:=eX i.dst (.tuple []) (put s (.bool true) st.t)} K:=by simp[p0]
theorem abL{s:Nat}{i:ek}:p0 P q nw n0 (.bool false) s true i r st K=hV P q nw n0 r {st with t:=eX i.dst (.tuple []) (put s (.bool false) st.t)} K:=by simp[p0]
theorem abM{s:Nat}{w:Bool}{i:ek}:p0 P q nw n0 (.tuple []) s w i r st K=hV P q nw n0 r {st with t:=eX i.dst (.tuple []) st.t} K:=by simp[p0]
theorem bL{x:Bool}{s:Nat}{w:Bool}{i:ek}(J:x=w→hV P q nw n0 (⟨none,i⟩::r) {st with t:=put s (.bool w) st.t} K)(U:x= !w→hV P q nw n0 r {st with t:=eX i.dst (.tuple []) (put s (.bool !w) st.t)} K):p0 P q nw n0 (.bool x) s w i r st K:=⟨J,U⟩
theorem abk{gs:List da}:c0 P ob (.seq (.drawn q N gs) c) Q st=hV P q [] st.n gs st (tR (st.n+N) st.o (y6 P ob c Q)):=rfl
theorem abl{gs:List da}:c0 P ob (.drawn q N gs) Q st=hV P q [] st.n gs st (tR (st.n+N) st.o (Q .normal)):=rfl
theorem abm{gs:List da}:c0 P ob (.seq (.drawnW nw N gs) c) Q st=((∀j∈nw,.obj j∉st.o)∧hV P false nw st.n gs st (tR (st.n+N) (nw.map aH.obj++st.o) (y6 P ob c Q))):=rfl
theorem abn{gs:List da}:c0 P ob (.drawnW nw N gs) Q st=((∀j∈nw,.obj j∉st.o)∧hV P false nw st.n gs st (tR (st.n+N) (nw.map aH.obj++st.o) (Q .normal))):=rfl
theorem ih.val{n:Nat}{args:List ah}{d:Option Nat}{r:ah}(ad:aJ (fun _=>eA) args)(aI:bt P n args r)(h:K {st with t:=eX d r st.t}):ih P q nw n args st d K:=by
 refine .inr ⟨⟨[],[]⟩,⟨[],[]⟩,r,none,fun k cs ad=>by simp[look]at ad,fun k cs ad=>by simp[look]at ad,u3,u3,⟨fun k h=>.inl h,fun k h=>.inl h,fun k h=>h,fun k h=>h,fun k h=>by cases h⟩,j1 (fun _ h=>h.elim) _ ad,aI,fun _=>⟨rfl,rfl⟩,?_⟩;have:({after st ⟨[],[]⟩ ⟨[],[]⟩ d r with o:=st.o}:bs)={st with t:=eX d r st.t}:=by simp[after,On]
 rw[this];exact h
theorem aE{n:Nat}{args:List ah}{d:Option Nat}{r:ah}(aI:bt P n args r)(h:K {st with t:=eX d r st.t})(ad:aJ (fun _=>eA) args:=by simp):ih P q nw n args st d K:=ih.val ad aI h
end
section
variable {k:IntKind} {n:Int} {b:Bool} {s:List dm} {sz:Nat} {tag:By} {xs:List ah} {key:aH} {off f:Nat} {x:ah}
@[simp] theorem atq:ei (.int k n)=true:=rfl
@[simp] theorem atc:ei (.bool b)=true:=rfl
@[simp] theorem atA:ei (.str s)=true:=rfl
@[simp] theorem atz:ei (.slice sz tag xs)=true:=rfl
@[simp] theorem as8:ei (.agg xs)=true:=rfl
@[simp] theorem atx:ei (.ptr key off)=true:=rfl
@[simp] theorem atm:ei (.eptr x)=true:=rfl
@[simp] theorem atp{t:Nat}:ei (.iface t x)=true:=rfl
@[simp] theorem apv{t:Nat}:cells (.iface t x)=[.iface t x]:=rfl
@[simp] theorem ate{a:Option Addr}{n c:Nat}:ei (.cst (.slice a n c))=true:=rfl
@[simp] theorem atf{s}:ei (.cst (.string s))=true:=rfl
@[simp] theorem atw:ei .nilp=true:=rfl
@[simp] theorem atn:ei (.func f xs)=true:=rfl
@[simp] theorem ato:ei (.gmap key)=true:=rfl
@[simp] theorem aty{n:Nat}:ei (.row sz key n)=true:=rfl
@[simp] theorem apF{n:Nat}:cells (.row sz key n)=[.row sz key n]:=rfl
@[simp] theorem apw:cells (.int k n)=[.int k n]:=rfl
@[simp] theorem api:cells (.bool b)=[.bool b]:=rfl
@[simp] theorem apH:cells (.str s)=[.str s]:=rfl
@[simp] theorem apG:cells (.slice sz tag xs)=[.slice sz tag xs]:=rfl
@[simp] theorem ape:cells (.agg xs)=xs:=rfl
@[simp] theorem apE:cells (.ptr key off)=[.ptr key off]:=rfl
@[simp] theorem aps:cells (.eptr x)=[.eptr x]:=rfl
@[simp] theorem apD:cells .nilp=[.nilp]:=rfl
@[simp] theorem apt:cells (.func f xs)=[.func f xs]:=rfl
@[simp] theorem apu:cells (.gmap key)=[.gmap key]:=rfl
end
section
variable {b:List (aH×List ah)} {e:List (aH×fL)} {agg:Bool} {sz off:Nat} {k:aH} {p:ah} {cs xs be:List ah} {ft:IntKind} {n i:Int} {m j:Nat} {tag:By} {s:List dm} {O8:Bool} {lo hi:Option ah}
@[simp] theorem arJ{dL:Nat}{f:Nat}:mM b e agg sz (.rptr dL k m j f)=yH agg sz dL m j f (look k e):=rfl
@[simp] theorem arI:mM b e agg sz (.ptr k off)=(match look k b with
  |some cs=>if agg then some (h2 cs=true∧off+sz≤cs.length,.agg ((cs.drop off).take sz))else(cs[off]?).map fun p=>(h2 cs=true,p)
  |none=>none):=rfl
@[simp] theorem arH:mM b e agg sz (.eptr p)=if agg then some (isAgg sz p,p)else some (ei p=true∧cells p=[p],p):=rfl
@[simp] theorem ap9:B6 agg sz (.eptr p)=if agg then some (isAgg sz p,p)else some (ei p=true∧cells p=[p],p):=rfl
@[simp] theorem apZ{o:Nat}:p2 off agg sz (.ptr k o)=some (True,.ptr k (o+off)):=rfl
@[simp] theorem ap0{dL f:Nat}:p2 off agg sz (.rptr dL k m j f)=some (True,.rptr dL k m j (f+off)):=rfl
@[simp] theorem apS:p2 off agg sz (.eptr (.agg cs))=if agg then some (off+sz≤cs.length,.eptr (.agg ((cs.drop off).take sz)))else(cs[off]?).map fun p=>(ei p=true∧cells p=[p],.eptr p):=rfl
@[simp] theorem ap2:rB off agg sz (.agg cs)=if agg then some (off+sz≤cs.length,.agg ((cs.drop off).take sz))else(cs[off]?).map fun p=>(True,p):=rfl
@[simp] theorem aqE{dL:Nat}:Af sz (.slice dL tag xs) (.int ft i)=if dL=sz then some (0≤i∧i<xs.length,.eptr (xs.getD i.toNat .junk))else none:=rfl
@[simp] theorem aqD{dL:Nat}:Af sz (.row dL k m) (.int ft i)=if dL=sz then some (0≤i∧i<m,.rptr dL k m i.toNat 0)else none:=rfl
@[simp] theorem arG{dL:Nat}:Ap (.slice dL tag xs)=some (True,.int .i64 xs.length):=rfl
@[simp] theorem arF{dL:Nat}:Ap (.row dL k m)=some (True,.int .i64 m):=rfl
@[simp] theorem arE{a:Option Addr}{n c:Nat}:Ap (.cst (.slice a n c))=some (True,.int .i64 n):=rfl
@[simp] theorem as6{s}:DT (.cst (.string s))=some (True,.int .i64 s.size):=rfl
@[simp] theorem as7:DT (.str s)=some (True,.int .i64 s.length):=rfl
@[simp] theorem apR:zo j (.tuple be)=(be[j]?).map fun p=>(True,p):=rfl
@[simp] theorem ar9:AD (.ptr k off)=some (True,.ptr k off):=rfl
@[simp] theorem ar7:AD (.eptr p)=some (True,.eptr p):=rfl
@[simp] theorem ar8:AD (.func j cs)=some (True,.func j cs):=rfl
@[simp] theorem asa:GW (.bool O8)=some (True,.bool (!O8)):=rfl
@[simp] theorem as5:HS (.str s) (.int ft i)=some (0≤i∧i<s.length,.int .u8 (s.getD i.toNat 0).toNat):=rfl
@[simp] theorem atC:HX (.str s) lo hi=(match q5 0 lo,q5 s.length hi with
  |some l,some h=>some (0≤l∧l≤h∧h≤s.length,.str ((s.take h.toNat).drop l.toNat))
  |_,_=>none):=rfl
@[simp] theorem arK{dL:Nat}:GH sz (.slice dL tag xs) lo hi=(if dL=sz then match q5 0 lo,q5 xs.length hi with
  |some l,some h=>some (0≤l∧l≤h∧h≤xs.length,.slice sz .no ((xs.take h.toNat).drop l.toNat))
  |_,_=>none else none):=rfl
theorem Vt{f:aH→Option (List ah)}{cf:jH}{z q:ah}{ok:Bool}:n2 f cf z ok (.gmap k) q=(match f k with
  |some (.hdm _ _::kvs)=>if uQ cf q=false then none else match wE cf q kvs with
   |some (some v)=>some (True,if ok then .tuple [v,.bool true]else v)
   |some none=>some (True,if ok then .tuple [z,.bool false]else z)
   |none=>none
  |_=>none):=rfl
theorem ain{f:aH→Option (List ah)}:u1 f (.gmap k)=(match f k with
  |some (.hdm _ borns::_)=>some (True,.int .i64 borns.length)
  |_=>none):=rfl
theorem Vq{f:aH→Option (List ah)}:pK f (.ptr k 0)=(match f k with
  |some [.hdi _ seen last,.gmap mk]=>match f mk with
   |some (.hdm clock borns::kvs)=>match seen.getLast? with
    |some n=>(mN n borns kvs).map fun p=>(clock=last,p)
    |none=>none
   |_=>none
  |_=>none):=rfl
@[simp] theorem as2{dL f n' el jr:Nat}:yH agg sz dL m j f (some ⟨n',el,jr,some xs⟩)=(if n'=m∧jr=dL then
   (match xs[j]? with
    |some p=>if agg then some (ei p=true∧f+sz≤(cells p).length,.agg (((cells p).drop f).take sz))else((cells p)[f]?).map fun q=>(ei p=true,q)
    |none=>none)else none):=rfl
end
attribute [simp] abf abx abg abi abB abz abo abC abA abp aby abh abj y6 Zb Za Zc Zi Zj abT abU abQ abP abR
 abZ abV abY abW abX abE abD Nn Np mi hp jW cu get put jT qe nB nC cB q5 BE Gi HY n7 ui G8 GS E9 GR
 look eX ev.dst ek.dst si Eo sG cW dr aF aJ
 abk abl abm abn abI abJ abG abF abH abO abK abN abL abM Nk Nl eK ps l2 xB fY.loadO tR Ip x9 h2 sH abS abv abw abq abr abt abu vK J4 sK zt Zn wO Dy wN rb mP iF GL
theorem aD{P:cF}{n:Nat}{args:List ah}{st:bs}{d:Option Nat}{K:bs→Prop}{r:ah}(aI:bt P n args r)(h:K {st with t:=eX d r st.t})(ad:aJ (fun _=>eA) args:=by simp):c9 P n args st d K:=c9.val ad aI h
theorem aj{a b:Prop}(ae:b)(br:a:=by first|omega|(unfold tb;omega)|(unfold lim;omega)):a∧b:=⟨br,ae⟩
theorem cc{p:Prop}(h:eA:=by first|contradiction|omega):p:=h.elim
theorem bO{p:Prop}(h:p:=by(try simp[*]);(repeat' first|with_reducible refine aj ?_|with_reducible refine aD (by assumption) ?_|with_reducible refine aE (by assumption) ?_|simp[*]);(all_goals first|done|(simp[bu,aY,aZ,aW, *];done))):p:=h
end Go.Pv
namespace Go.Pv
open Go Go.RowKit
structure ej (s:cL):Prop where
 obj:iL s
 kb:∀k cs,look k s.b=some cs→aJ (inObs s) cs
 ke:∀k o,look k s.e=some o→dV (inObs s) o
structure Same (s ai:cL):Prop where
 b:∀k,(look k s.b).isSome=(look k ai.b).isSome
 e:∀k,(look k s.e).isSome=(look k ai.e).isSome
theorem Same.refl(s:cL):Same s s:=⟨fun _=>rfl,fun _=>rfl⟩
theorem Same.inObs{s ai:cL}(h:Same s ai)(k:aH):inObs s k↔inObs ai k:=by unfold Pv.inObs;rw[h.b,h.e]
theorem uY{α:Type}{k:aH}{x:α}:∀{l:List (aH×α)},(k,x)∈l→(look k l).isSome
 |(i,y)::r,h=>by
  simp only[look];split
  ·rfl
  ·rename_i cH;rcases gf.1 h with h|h
   ·cases h;exact absurd rfl cH
   ·exact uY h
theorem Ub{s:cL}{k:aH}(h:k∈cV s):inObs s k:=by
 unfold cV at h;rcases ka.1 h with h|h
 ·obtain⟨⟨bH,x⟩,J,rfl⟩:=iC.1 h;exact .inl (uY J)
 ·obtain⟨⟨bH,x⟩,J,rfl⟩:=iC.1 h;exact .inr (uY J)
theorem j4{s:cL}(h:iL s)(m:Nat):aH.loc m∉cV s:=fun hm=>by
 rcases Ub hm with J|J
 ·rw[h.1 m]at J;cases J
 ·rw[h.2 m]at J;cases J
theorem iO{α β:Type}(s:List (aH×β)):∀(a b:List (aH×α)),cz s (a++b)=cz s a++cz s b
 |[],b=>rfl
 |(k,x)::r,b=>by
  simp only[bX,cz];cases look k s with
  |none=>simp[iO s r b]
  |some _=>exact iO s r b
theorem Oo{α β:Type}(s:List (aH×β)):∀(l:List (aH×α)),(∀k x,(k,x)∈l→(look k s).isSome)→cz s l=[]
 |[],_=>rfl
 |(k,x)::r,h=>by
  have J:=h k x (by simp);simp only[cz];cases aw:look k s with
  |none=>rw[aw]at J;cases J
  |some _=>exact Oo s r fun k x ab=>h k x (by simp[ab])
theorem gZ{α:Type}(s:List (aH×α)):cz s s=[]:=Oo s s fun k x h=>uY h
theorem j9{α:Type}{k:aH}{x:α}:∀{l:List (aH×α)},look k l=none→cB k x l=l++[(k,x)]
 |[],_=>rfl
 |(i,y)::r,h=>by
  simp only[look]at h;split at h
  ·cases h
  ·rename_i cH;simp[cB,cH,j9 h]
theorem cJ{α:Type}(k:aH):∀(a b:List (aH×α)),look k (a++b)=match look k a with|some x=>some x|none=>look k b
 |[],b=>rfl
 |(i,y)::r,b=>by
  simp only[bX,look];split
  ·rfl
  ·exact cJ k r b
theorem c9.ob{P:cF}{n:Nat}{args:List ah}{st:bs}{d:Option Nat}{K:bs→Prop}{s:cL}{Q:ah→cL→Prop}(aI:bV P n args s Q)(ag:ej s)(ae:∀k cs,look k s.b=some cs→look k st.b=some cs)(he:∀k o,look k s.e=some o→look k st.e=some o)
  (ad:aJ (inObs s) args) (h:∀r ai,Q r ai→Same s ai∧K ⟨eX d r st.t,cz s.b st.b++ai.b,cz s.e st.e++ai.e,st.n,st.o++cV ai⟩):c9 P n args st d K:=by
 refine .inl ⟨s,Q,fun k cs ay=>⟨ae k cs ay,.inl (by simp[ay]),ag.kb k cs ay⟩,fun k o ax=>⟨he k o ax,.inr (by simp[ax]),ag.ke k o ax⟩,ag.obj,ad,aI,fun r ai bh=>?_⟩;obtain⟨J,U⟩:=h r ai bh;exact⟨⟨fun m hm=>.inl (by rw[J.b];exact hm),fun m hm=>.inl (by rw[J.e];exact hm)⟩,U⟩
theorem cX.ob{eN:List bB}{s ai:cL}{Q:ah→cL→Prop}{e:Exit}{st:bs}{c:Prop}{cm:List ah}(rP:e= .ret∨e= .normal)(rV:aY st eN=some (c,cm))(ay:c)(ag:ej ai)(fk:Same s ai)(ae:∀k cs,look k ai.b=some cs→look k st.b=some cs)(dG:∀k o,look k ai.e=some o→look k st.e=some o)
  (ad:aF (inObs ai) (dr (aW cm))) (bh:Q (dr (aW cm)) ai):cX eN s Q e st:=by
 refine⟨rP,?_⟩;rw[rV];have Ts:∀{α:Type} (l:List (aH×α)),(∀k x,(k,x)∈l→inObs ai k)→mg ai l:=by
  intro α l;induction l with
  |nil=>intro _;trivial
  |cons x r bZ=>obtain⟨k,x⟩:=x;intro h;exact⟨h k x (by simp),bZ fun k x ab=>h k x (by simp[ab])⟩
 exact⟨ay,ai,Ts _ fun k x ab=>.inl (by rw[←fk.b];exact uY ab),Ts _ fun k x ab=>.inr (by rw[←fk.e];exact uY ab),fun k cs di=>⟨ae k cs di,.inl (by simp[di]),ag.kb k cs di⟩,fun k o ax=>⟨dG k o ax,.inr (by simp[ax]),ag.ke k o ax⟩,ag.obj,ad,bh⟩
theorem bV.mono{P:cF}{f:FuncId}{args:List ah}{s:cL}{Q qz:ah→cL→Prop}(h:bV P f args s Q)(bh:∀r ai,Q r ai→qz r ai):bV P f args s qz:=by
 intro w ν be J U ar;have hm:∀(e:Ending) (w':World),(∃v r ai bo,e= .returned v∧Q r ai∧ba w' bo r v∧Good (fun bl=>fm ν s bl∨w.heap.size≤bl) w' bo ai.b ai.e∧oD bo ai∧iL ai∧pW ⟨w,ν,fm ν s,0,cV s⟩ w' bo)→(∃v r ai bo,e= .returned v∧qz r ai∧ba w' bo r v∧Good (fun bl=>fm ν s bl∨w.heap.size≤bl) w' bo ai.b ai.e∧oD bo ai∧iL ai∧pW ⟨w,ν,fm ν s,0,cV s⟩ w' bo):=by rintro e w' ⟨v,r,ai,bo,bG,a2,a3⟩;exact⟨v,r,ai,bo,bG,bh _ _ a2,a3⟩
 rcases h w ν be J U ar with⟨qP,ay⟩|⟨v,w',ay,aM⟩
 ·exact .inl ⟨qP,ay.mono hm⟩
 ·exact .inr ⟨v,w',ay,hm _ _ aM⟩
theorem Di{s:cL}{k:aH}(h:inObs s k):¬fresh 0 (cV s) k:=fun aI=>aI.2 (tq h)
theorem iU.ob{s:cL}(ag:ej s){st:bs}{dE:List (Nat×ah)}(aL:∀x∈dE,get x.1 st.t=x.2∧aF (inObs s) x.2)(ae:∀k cs,look k s.b=some cs→look k st.b=some cs)(he:∀k o,look k s.e=some o→look k st.e=some o):
  iU (cV s) st ⟨dE,s.b,s.e,0,cV s⟩:=
 ⟨fun x ab=>⟨(aL x ab).1,wy (fun k ad=>Di ad) _ (aL x ab).2⟩,fun k cs ay=>⟨ae k cs ay,Di (.inl (by simp[ay])),j1 (fun k ad=>Di ad) _ (ag.kb k cs ay)⟩,
  fun k o ax=>⟨he k o ax,Di (.inr (by simp[ax])),fun xs ab=>j1 (fun k ad=>Di ad) _ (ag.ke k o ax xs ab)⟩,fun m hm=>hm⟩
def c6(st:bs)(eN:List bB)(R:ah→Prop):Prop:=match aY st eN with
 |some (c,cm)=>c∧R (dr (aW cm))
 |none=>eA
theorem cX.at{eN:List bB}{s:cL}{Q:ah→cL→Prop}{e:Exit}{st:bs}(ai:cL)(rP:e= .ret∨e= .normal)(ag:ej ai)(fk:Same s ai)(ae:∀k cs,look k ai.b=some cs→look k st.b=some cs)(dG:∀k o,look k ai.e=some o→look k st.e=some o)
  (h:c6 st eN fun r=>aF (inObs ai) r∧Q r ai):cX eN s Q e st:=by
 unfold c6 at h;split at h
 ·rename_i c cm aM;exact cX.ob rP aM h.1 ag fk ae dG h.2.1 h.2.2
 ·exact h.elim
theorem ih.ob{P:cF}{nw:List Nat}{n:Nat}{args:List ah}{st:bs}{d:Option Nat}{K:bs→Prop}{s ai:cL}{r:ah}(aI:bV P n args s fun eS dE=>eS=r∧dE=ai)(ag:ej s)(gr:ej ai)(fk:Same s ai)(ae:∀k cs,look k s.b=some cs→look k st.b=some cs)(he:∀k o,look k s.e=some o→look k st.e=some o)
  (ad:aJ (inObs s) args) (h:K ⟨eX d r st.t,cz s.b st.b++ai.b,cz s.e st.e++ai.e,st.n,st.o⟩):ih P false nw n args st d K:=
 .inr ⟨s,ai,r,none,fun k cs ay=>⟨ae k cs ay,.inl (by simp[ay]),ag.kb k cs ay⟩,fun k o ax=>⟨he k o ax,.inr (by simp[ax]),ag.ke k o ax⟩,ag.obj,gr.obj,⟨fun k ad=>.inl (by rw[fk.b];exact ad),fun k ad=>.inl (by rw[fk.e];exact ad),fun k ad=>by rw[←fk.b];exact ad,fun k ad=>by rw[←fk.e];exact ad,fun k ad=>by cases ad⟩,ad,aI,(fun e=>by cases e),h⟩
theorem ej.of{s:cL}(ax:iL s)(ae:∀x∈s.b,aJ (inObs s) x.2)(he:∀x∈s.e,∀xs,x.2.xs=some xs→aJ (inObs s) xs):ej s:=⟨ax,fun k cs ad=>ae (k,cs) (tj ad),fun k o ad xs ab=>he (k,o) (tj ad) xs ab⟩
@[simp] theorem asd(b:List (aH×List ah))(e:List (aH×fL)):cV ⟨b,e⟩=b.map (·.1)++e.map (·.1):=rfl
theorem Bi{α:Type}{k:aH}{p:α}:∀{a r:List (aH×α)},look k a=none→cB k p (a++r)=a++cB k p r
 |[],_,_=>rfl
 |(i,y)::a,r,h=>by
  simp only[look]at h;split at h
  ·cases h
  ·rename_i cH;simp[cB,cH,Bi h]
theorem ahH{α:Type}{s b:List (aH×α)}(h:∀p∈s,look p.1 b=some p.2):∀k x,look k s=some x→look k b=some x:=fun k x ab=>h (k,x) (tj ab)
theorem ee{S:aH→Prop}{bP b:List (aH×List ah)}(h:∀p∈bP,look p.1 b=some p.2∧S p.1∧aJ S p.2):gL S bP b:=fun k x ab=>h (k,x) (tj ab)
theorem ef{S:aH→Prop}{bP b:List (aH×fL)}(h:∀p∈bP,look p.1 b=some p.2∧S p.1∧dV S p.2):o1 S bP b:=fun k x ab=>h (k,x) (tj ab)
theorem aT{α:Type}{s b:List (aH×α)}(h:∀k x,look k s=some x→look k b=some x:=by first|(refine ahH ?_;simp;done)|(intro k x ab;first|exact ab|(simp[ab,gZ];done)|(simp[cJ,gZ,ab];done)|(cases k<;>simp_all[cJ];done))):∀k x,look k s=some x→look k b=some x:=h
theorem bW{ob:List aH}{st st':bs}(J:∀x∈st'.t,get x.1 st.t=x.2∧aF (fun k=> ¬fresh st'.n st'.o k) x.2:=by simp[fresh,aJ,aF,ck,inObs,Pv.look])(U:∀p∈st'.b,look p.1 st.b=some p.2∧(¬fresh st'.n st'.o p.1)∧aJ (fun k=> ¬fresh st'.n st'.o k) p.2:=by simp[fresh,aJ,aF,ck,inObs,Pv.look])(ar:∀p∈st'.e,look p.1 st.e=some p.2∧(¬fresh st'.n st'.o p.1)∧dV (fun k=> ¬fresh st'.n st'.o k) p.2:=by simp[fresh,aJ,aF,dV,inObs,Pv.look])(a8:∀m∈ob,m∈st'.o:=by simp):iU ob st st':=⟨J,ee U,ef ar,a8⟩
theorem bT.next{ob:List aH}{hd:Nat→bs→Prop}{k:Nat}{Q:Exit→bs→Prop}{st:bs}(bH:Nat){ai:bs}(ad:bH<k)(hi:hd bH ai)(hw:iU ob st ai):bT ob hd k Q .normal st:=⟨bH,ai,ad,hw,hi⟩
def ku:List (Int×ah)→List ah
 |[]=>[]
 |(k,v)::r=>.int .i64 k::v::ku r
def jS(l:List (Int×ah)):List ah:= .hdm l.length (List.range l.length)::ku l
def xk(k:Int):List (Int×ah)→Option ah
 |[]=>none
 |(i,v)::r=>if k=i then some v else xk k r
def pg(k:Int)(v:ah):List (Int×ah)→Option (List (Int×ah))
 |[]=>none
 |(i,w)::r=>if k=i then some ((k,v)::r)else match pg k v r with|some eS=>some ((i,w)::eS)|none=>none
def EB(k:Int)(v:ah)(l:List (Int×ah)):List (Int×ah):=match pg k v l with|some a1=>a1|none=>l++[(k,v)]
@[simp] theorem arU:[ah.hdm 0 []]=jS []:=rfl
theorem Sp:∀a b,ku (a++b)=ku a++ku b
 |[],_=>rfl
 |(k,v)::r,b=>by simp[ku,Sp r b]
theorem Vr(k:Int):∀l,wE .i (.int .i64 k) (ku l)=some (xk k l)
 |[]=>rfl
 |(i,v)::r=>by
  simp only[ku,wE,te,xk];by_cases h:k=i
  ·simp[h]
  ·have:(k==i)=false:=by simp[h]
   simp[h,Vr k r,this]
theorem O0{k:Int}{v:ah}:∀{l a1},pg k v l=some a1→a1.length=l.length
 |[],_,h=>by simp[pg]at h
 |(i,w)::r,a1,h=>by
  simp only[pg]at h;split at h
  ·cases h;rfl
  ·split at h
   ·rename_i eS aM;cases h;simp[O0 aM]
   ·cases h
theorem VF(k:Int)(v:ah):∀l,u2 .i (.int .i64 k) v (ku l)=some ((pg k v l).map ku)
 |[]=>rfl
 |(i,w)::r=>by
  simp only[ku,u2,te,pg];by_cases h:k=i
  ·subst h;simp[ku]
  ·simp only[and_self,if_true,h,if_false,dS,VF k v r];have:(k==i)=false:=by simp[h]
   rw[this];cases pg k v r<;>simp[ku]
@[simp] theorem VE(k:Int)(v:ah)(l:List (Int×ah)):oW .i (.int .i64 k) v (jS l)=some (jS (EB k v l)):=by
 simp only[jS,oW,UD,Bool.true_eq_false,reduceCtorEq,if_false,VF,EB];cases h:pg k v l with
 |some a1=>simp[O0 h]
 |none=>simp[Sp,ku,List.range_succ]
@[simp] theorem ah7(f:aH→Option (List ah))(m:aH)(l:List (Int×ah))(z:ah)(ok:Bool)(k:Int)(hm:f m=some (jS l)):n2 f .i z ok (.gmap m) (.int .i64 k)=(match xk k l with
  |some v=>some (True,if ok then .tuple [v,.bool true]else v)
  |none=>some (True,if ok then .tuple [z,.bool false]else z)):=by
 simp only[Vt,hm,jS,UD,Bool.true_eq_false,reduceCtorEq,if_false,Vr];cases xk k l<;>rfl
@[simp] theorem aio(f:aH→Option (List ah))(m:aH)(l:List (Int×ah))(hm:f m=some (jS l)):u1 f (.gmap m)=some (True,.int .i64 l.length):=by simp[ain,hm,jS]
def ck(n:Nat)(seen:List Nat)(m:aH):List ah:=[.hdi n seen n,.gmap m]
@[simp] theorem as1(m:aH)(l:List (Int×ah)):wS m (jS l)=some (ck l.length [] m):=rfl
@[simp] theorem asn(l:List (Int×ah)):h2 (jS l)=false:=rfl
theorem LP(b:Nat):∀(n:Nat) (l:List (Int×ah)),mN b (List.range' n l.length) (ku l)=(if n≤b then(l[b-n]?).map fun x=>.tuple [.int .i64 x.1,x.2]else none)
 |n,[]=>by simp[mN,ku]
 |n,(k,v)::r=>by
  simp only[pT,List.range'_succ,ku,mN];by_cases h:n=b
  ·subst h;simp
  ·rw[if_neg h,LP b (n+1) r];by_cases U:n≤b
   ·rw[if_pos U,if_pos (by omega)];have:b-n=(b-(n+1))+1:=by omega
    rw[this];simp
   ·rw[if_neg U,if_neg (by omega)]
@[simp] theorem Vp(f:aH→Option (List ah))(ft mk:aH)(n:Nat)(seen:List Nat)(b:Nat)(l:List (Int×ah))(hi:f ft=some (ck n (seen++[b]) mk))(hm:f mk=some (jS l))(au:n=l.length):pK f (.ptr ft 0)=(l[b]?).map fun x=>(True,.tuple [.int .i64 x.1,x.2]):=by subst au;simp only[Vq,hi,hm,ck,jS,List.getLast?_append,List.getLast?_singleton,Option.some_or,List.range_eq_range',LP,Nat.zero_le,if_true,Nat.sub_zero,Option.map_map];cases l[b]?<;>simp
theorem RR{st:bs}{d:Nat}{K:bs→Prop}{ft mk:aH}{n:Nat}{seen:List Nat}{l:List (Int×ah)}(hi:look ft st.b=some (ck n seen mk))(hm:look mk st.b=some (jS l))(au:n=l.length)
  (J:(∀b,b<n→b∈seen)→K {st with t:=put d (.tuple [.bool false]) st.t}) (U:∀b k v,l[b]? =some (k,v)→b∉seen→K {st with t:=put d (.tuple [.bool true,.int .i64 k,v]) st.t,b:=cB ft (ck n (seen++[b]) mk) st.b}):
  sN st d (.ptr ft 0) K:=by
 subst au;simp only[sN,hi,ck,hm,jS,L4,and_self,true_and];refine⟨fun h=>J fun b ae=>h b (by simpa using ae),fun b k v xY ae=>?_⟩;rw[List.range_eq_range',LP]at xY;simp only[Nat.zero_le,if_true,Nat.sub_zero,gT,ah.tuple.injEq,qv,and_true]at xY;obtain⟨⟨bH,v'⟩,ak,aC,bk⟩:=xY;simp only at aC bk;subst aC bk;exact U b bH v' ak ae
theorem akH{n:Nat}{seen:List Nat}(aR:seen.Nodup)(bE:∀b∈seen,b<n)(lD:∀b,b<n→b∈seen):seen.Perm (List.range n):=(List.perm_ext_iff_of_nodup aR List.nodup_range).2 fun b=>⟨fun h=>by simpa using bE b h,fun h=>lD b (by simpa using h)⟩
theorem HP{n:Nat}{seen:List Nat}(aR:seen.Nodup)(bE:∀b∈seen,b<n):seen.length≤n:=by have:=Oy aR (l₂:=List.range n) (fun b ae=>by simpa using bE b ae);simpa using this
theorem Nv{n b:Nat}{seen:List Nat}(aR:seen.Nodup)(bE:∀b∈seen,b<n)(ae:b<n)(au:b∉seen):seen.length<n:=by have J:(b::seen).Nodup:=List.nodup_cons.2 ⟨au,aR⟩;have:=HP J (n:=n) (by simp;exact⟨ae,bE⟩);simp at this;omega
theorem W7{α:Type}:∀(l pre:List α),(List.range' pre.length l.length).filterMap (fun b=>(pre++l)[b]?)=l
 |[],_=>rfl
 |x::r,pre=>by have bZ:=W7 r (pre++[x]);simp only[pS,List.length_singleton,List.append_assoc,List.singleton_append]at bZ;simp[List.range'_succ,bZ]
theorem Nu{α:Type}{l:List α}{seen:List Nat}(aR:seen.Nodup)(bE:∀b∈seen,b<l.length)(lD:∀b,b<l.length→b∈seen):(seen.filterMap fun b=>l[b]?).Perm l:=by have J:=(akH aR bE lD).filterMap fun b=>l[b]?;have U:=W7 l [];simp only[List.length_nil,b3,←List.range_eq_range']at U;rwa[U]at J
theorem L8{b:Nat}{seen:List Nat}(aR:seen.Nodup)(au:b∉seen):(seen++[b]).Nodup:=by rw[List.nodup_append];exact⟨aR,by simp,by simp;intro a br e;subst e;exact au br⟩
theorem cR.start{w:World}{ν:bf}{s:cL}{args:List ah}{be:Array Value}(pH:iL s)(aX:Good (fm ν s) w ν s.b s.e)(ab:oD ν s)(aM:cM w ν args be.toList):
  cR ⟨w,ν,fm ν s,be.size,cV s⟩ ⟨jW 0 args,s.b,s.e,0,cV s⟩ {tmps:=be,defers:=[]} w ν:=by
 have oR:=yE aM;have kE:be.size=args.length:=by simpa using oR
 have oM:∀k,fresh 0 (cV s) k→ν.bx k=none∧ν.ow k=none∧∀j b,¬ν.tr k j b:=by
  intro k ad;cases k with
  |loc m=>exact⟨(ab _).1 (pH.1 m),(ab _).2.1 (pH.2 m),(ab _).2.2⟩
  |obj m=>
   simp only[fresh,true_and]at ad;refine⟨?_,?_,(ab _).2.2⟩
   ·refine(ab _).1 ?_;cases h:look (.obj m) s.b with
    |none=>rfl
    |some x=>exact absurd (tq (.inl (by simp[h]))) ad
   ·refine(ab _).2.1 ?_;cases h:look (.obj m) s.e with
    |none=>rfl
    |some x=>exact absurd (tq (.inr (by simp[h]))) ad
 have jx:∀m,(ν.bx (.obj m)≠none∨ν.ow (.obj m)≠none)→ .obj m∈cV s:=by
  intro m hm;refine Classical.byContradiction fun ay=>?_;obtain⟨J,U,_⟩:=oM (.obj m) ⟨trivial,ay⟩;rcases hm with hm|hm
  ·exact hm J
  ·exact hm U
 refine⟨⟨aX.alt,fun k cs ad=>?_,aX.inj,fun g o de=>?_,aX.oinj,aX.obx,aX.one,aX.otr⟩,⟨rfl,rfl,rfl,eY _,fun _ _ _=>rfl,fun b o h=>⟨h,rfl⟩,fun b o h=>.inl h,fun n b h=>h,fun n b h=>jx n (.inl (by rw[h];simp)),fun m n u h=>⟨n,u,h,.inl ⟨rfl,rfl⟩⟩,fun m n u h=>jx m (.inr (by rw[h];simp)),fun k j _ _ b h=>absurd h ((ab k).2.2 j b),fun k j b h=>absurd h ((ab k).2.2 j b),fun k j b h=>absurd h ((ab k).2.2 j b),fun _ _ _=>rfl⟩,rfl,rfl,fun i=>?_,oM⟩
 ·obtain⟨bl,us,el,g1,g2,g3⟩:=aX.box k cs ad;exact⟨bl,us,el,g1,.inl g2,g3⟩
 ·obtain⟨v,us,g1,g2,g3,g4⟩:=aX.own g o de;exact⟨v,us,g1,g2,fun bl fs=>⟨.inl (g3 bl fs).1,(g3 bl fs).2⟩,g4⟩
 ·rw[FB];by_cases hi:i<args.length
  ·rw[if_pos (by omega)];have qR:args[i]? =some args[i]:=cl hi;obtain⟨v,ak,aC⟩:=DJ i aM qR;have BQ:be[i]? =some v:=by simpa using ak
   show ba w ν _ (be.getD i undef);rw[Array.getD_eq_getD_getElem?,BQ];simpa[List.getD,qR]using aC
  ·rw[if_neg (by omega)];simp[ba]
theorem bV.sem{P:cF}{f:FuncId}{args:List ah}{s:cL}{Q:ah→cL→Prop}(pH:iL s)
  (h:∀(w:World) (ν:bf) (be:Array Value),be.size=args.length→cR ⟨w,ν,fm ν s,be.size,cV s⟩ ⟨jW 0 args,s.b,s.e,0,cV s⟩ {tmps:=be,defers:=[]} w ν→
   xb P f be w fun e w'=> ∃v st' bp bo r ai,e= .returned v∧cR ⟨w,ν,fm ν s,be.size,cV s⟩ st' bp w' bo∧ba w' bo r v∧mg ai s.b∧mg ai s.e∧gL (inObs ai) ai.b st'.b∧o1 (inObs ai) ai.e st'.e∧iL ai∧aF (inObs ai) r∧Q r ai):bV P f args s Q:=by
 intro w ν be aX ab aM;have kE:be.size=args.length:=by simpa using yE aM
 have oO:=cR.start pH aX ab aM;have hm:∀(e:Ending) (w':World),(∃v st' bp bo r ai,e= .returned v∧cR ⟨w,ν,fm ν s,be.size,cV s⟩ st' bp w' bo∧ba w' bo r v∧mg ai s.b∧mg ai s.e∧gL (inObs ai) ai.b st'.b∧o1 (inObs ai) ai.e st'.e∧iL ai∧aF (inObs ai) r∧Q r ai)→
   ∃v r ai bo,e= .returned v∧Q r ai∧ba w' bo r v∧Good (fun bl=>fm ν s bl∨w.heap.size≤bl) w' bo ai.b ai.e∧oD bo ai∧iL ai∧pW ⟨w,ν,fm ν s,0,cV s⟩ w' bo:=by
  rintro e w' ⟨v,st',bp,bo,r,ai,rfl,dp,q0,kb,ke,a7,bF,b0,cZ,df⟩;refine⟨v,r,ai,bo.cut (inObs ai),rfl,df,kp (oo.cut _ w' bo) _ _ cZ q0,dp.good.cut a7 bF (fun bl h _=>h),?_,b0,?_⟩
  ·intro k;refine⟨?_,?_,?_⟩;rotate_left 2
   ·rintro j b ⟨ag,ae⟩;obtain⟨t1,t2⟩:=dp.fr.trn k j b ae;rcases ag with ag|ag<;>obtain⟨x,iu⟩:=fE.1 ag
    ·obtain⟨bl,ch,el,ak,_⟩:=dp.good.box k x (a7 k x iu).1;rw[t1]at ak;cases ak
    ·obtain⟨v',ch,ak,_⟩:=dp.good.own k x (bF k x iu).1;rw[t2]at ak;cases ak
   ·intro ad;by_cases ag:inObs ai k
    ·rw[bf.cut_bx ag];rcases ag with ag|ag
     ·rw[ad]at ag;cases ag
     ·obtain⟨x,iu⟩:=fE.1 ag;obtain⟨v',ch,ak,_⟩:=dp.good.own k x (bF k x iu).1;rcases dp.good.one k with J|J
      ·exact J
      ·rw[J]at ak;cases ak
    ·exact(bf.cut_no ag).1
   ·intro ad;by_cases ag:inObs ai k
    ·rw[bf.cut_ow ag];rcases ag with ag|ag
     ·obtain⟨x,iu⟩:=fE.1 ag;obtain⟨bl,ch,el,ak,_⟩:=dp.good.box k x (a7 k x iu).1;rcases dp.good.one k with J|J
      ·rw[J]at ak;cases ak
      ·exact J
     ·rw[ad]at ag;cases ag
    ·exact(bf.cut_no ag).2.1
  ·refine⟨dp.fr.os,dp.fr.tape,dp.fr.output,dp.fr.size,dp.fr.block,dp.fr.keep,dp.fr.fresh,fun n b h=>?_,dp.fr.obn,fun m n u h=>?_,dp.fr.obr,fun k j bH dJ b J U=>dp.fr.trd k j bH dJ b J.2 U.2,fun k j b ae=>dp.fr.trb k j b ae.2,fun k j b ae=>(by rw[bf.cut_bx ae.1,bf.cut_ow ae.1];exact dp.fr.trn k j b ae.2),dp.fr.sh⟩
   ·have ag:inObs ai (.obj n):=by
     cases aw:look (.obj n) s.b with
     |none=>rw[(ab _).1 aw]at h;cases h
     |some x=>exact Ak kb _ (by simp[aw])
    rw[bf.cut_bx ag];exact dp.fr.obj n b h
   ·have ag:inObs ai (.obj m):=by
     cases aw:look (.obj m) s.e with
     |none=>rw[(ab _).2.1 aw]at h;cases h
     |some x=>exact Ak ke _ (by simp[aw])
    rw[bf.cut_ow ag];exact dp.fr.row m n u h
 rcases h w ν be kE oO with⟨qP,ay⟩|⟨v,w',ay,rV⟩
 ·exact .inl ⟨qP,ay.mono hm⟩
 ·exact .inr ⟨v,w',ay,hm _ _ rV⟩
theorem cR.grown{C:fh}{st:bs}{a:Act}{w w':World}{ν:bf}(h:cR C st a w ν)(aX:w.grownBy w' none):cR C st a w' ν:=by
 have kZ:ly w ν w' ν:=⟨fun b o bm=>⟨bm,E6 aX (h.good.alt b o bm)⟩,fun _ _ _ h=>h,fun _ n u _ h=>⟨n,u,h,.inl ⟨rfl,rfl⟩⟩,fun b o bm=>wV (aX.block b (h.good.alt b o bm) (by simp)),fun _ _ _ _ h=>h⟩;refine h.over kZ rfl ⟨fun b o bm=>Nat.lt_of_lt_of_le (h.good.alt b o bm) aX.size,fun k cs ad=>?_,h.good.inj,fun g o de=>?_,h.good.oinj,h.good.obx,h.good.one,h.good.otr⟩
  ⟨aX.os.trans h.fr.os,aX.tape.trans h.fr.tape,aX.output.trans h.fr.output,kc h.fr.size aX.size,fun k ad hm=>?_,fun b o bm=>?_,h.fr.fresh,h.fr.obj,h.fr.obn,h.fr.row,h.fr.obr,h.fr.trd,fun k j b ae=>⟨(h.fr.trb k j b ae).1,Nat.lt_of_lt_of_le (h.fr.trb k j b ae).2 aX.size⟩,h.fr.trn,fun b o bm=>(kZ.sh b o (h.fr.keep b o bm).1).trans (h.fr.sh b o bm)⟩ h.new
 ·obtain⟨bl,us,el,g1,g2,g3,g4,g5⟩:=h.good.box k cs ad;exact⟨bl,us,el,g1,g2,g3,by rw[aX.block bl (Array.getElem?_eq_some_iff.1 g4).1 (by simp)];exact g4,qn kZ g5⟩
 ·obtain⟨v,us,g1,g2,g3,g4⟩:=h.good.own g o de;exact⟨v,us,g1,g2.kept aX (by cases v.ownBlock<;>simp),g3,sj kZ (fun _ _ _ h=>h) g4⟩
 ·rw[aX.block k (Nat.lt_of_lt_of_le ad h.fr.size) (by simp)];exact h.fr.block k ad hm
 ·obtain⟨aP,a6⟩:=h.fr.keep b o bm;exact⟨aP,(kZ.A b o aP).2.trans a6⟩
theorem c9.new{P:cF}{n:Nat}{args:List ah}{st:bs}{d:Option Nat}{K:bs→Prop}{s:cL}{Q:ah→cL→Prop}(aI:bV P n args s Q)(ag:ej s)(ae:∀k cs,look k s.b=some cs→look k st.b=some cs)(he:∀k o,look k s.e=some o→look k st.e=some o)
  (ad:aJ (inObs s) args) (h:∀r ai,Q r ai→(∀m,inObs ai (.obj m)→inObs s (.obj m)∧Same s ai∨ .obj m∉st.o)∧K ⟨eX d r st.t,cz s.b st.b++ai.b,cz s.e st.e++ai.e,st.n,st.o++cV ai⟩):c9 P n args st d K:=by
 refine .inl ⟨s,Q,fun k cs ay=>⟨ae k cs ay,.inl (by simp[ay]),ag.kb k cs ay⟩,fun k o ax=>⟨he k o ax,.inr (by simp[ax]),ag.ke k o ax⟩,ag.obj,ad,aI,fun r ai bh=>?_⟩;obtain⟨J,U⟩:=h r ai bh;refine⟨⟨fun m hm=>?_,fun m hm=>?_⟩,U⟩
 ·rcases J m (.inl hm)with⟨_,ar⟩|ar
  ·exact .inl (by rw[ar.b];exact hm)
  ·exact .inr ar
 ·rcases J m (.inr hm)with⟨_,ar⟩|ar
  ·exact .inl (by rw[ar.e];exact hm)
  ·exact .inr ar
theorem cX.new{eN:List bB}{s:cL}{Q:ah→cL→Prop}{e:Exit}{st:bs}(ai:cL)(rP:e= .ret∨e= .normal)(ag:ej ai)(fk:mg ai s.b∧mg ai s.e)(ae:∀k cs,look k ai.b=some cs→look k st.b=some cs)(dG:∀k o,look k ai.e=some o→look k st.e=some o)
  (h:c6 st eN fun r=>aF (inObs ai) r∧Q r ai):cX eN s Q e st:=by
 unfold c6 at h;split at h
 ·rename_i c cm aM;refine⟨rP,?_⟩;rw[aM];exact⟨h.1,ai,fk.1,fk.2,fun k cs di=>⟨ae k cs di,.inl (by simp[di]),ag.kb k cs di⟩,fun k o ax=>⟨dG k o ax,.inr (by simp[ax]),ag.ke k o ax⟩,ag.obj,h.2.1,h.2.2⟩
 ·exact h.elim
@[simp] theorem apO{P:cF}{ob:List aH}{c d:C}{Q:Exit→bs→Prop}{st:bs}{s:Nat}:c0 P ob (.seq (.pub s c) d) Q st=xf P ob (.seq c d) Q (wO st s):=by simp only[c0];cases wO st s<;>rfl
@[simp] theorem apN{P:cF}{ob:List aH}{c d:C}{Q:Exit→bs→Prop}{st:bs}{s:Nat}:c0 P ob (.seq (.pubB s c) d) Q st=xf P ob (.seq c d) Q (wN st s):=by simp only[c0];cases wN st s<;>rfl
end Go.Pv
namespace Go.Pv
open Go Go.RowKit
def uP(t:List (Nat×ah))(cf:List Nat):List (Nat×ah):=cf.map fun k=>(k,get k t)
@[simp] theorem aqT(t:List (Nat×ah)):uP t []=[]:=rfl
@[simp] theorem aqS(t:List (Nat×ah))(k:Nat)(cf:List Nat):uP t (k::cf)=(k,get k t)::uP t cf:=rfl
def pL(st:bs)(cf:List Nat)(cs:List (Nat×ah)):bs:=⟨uP st.t cf++cs,st.b,st.e,st.n,st.o⟩
theorem ail(t:List (Nat×ah))(b:List (aH×List ah))(e:List (aH×fL))(n:Nat)(o:List aH)(cf:List Nat)(cs:List (Nat×ah)):pL ⟨t,b,e,n,o⟩ cf cs=⟨uP t cf++cs,b,e,n,o⟩:=rfl
def y3{α:Type}(S:Nat→α→bs)(n:Nat)(gV:Nat→α→Prop)(k:Nat)(st:bs):Prop:= ∃i a,i≤n∧k=n-i∧gV i a∧st=S i a
section
variable {P:cF} {ob:List aH} {st:bs} {Q:Exit→bs→Prop} {c:C} {α:Type}
theorem hH(S:Nat→α→bs)(n:Nat)(gV:Nat→α→Prop)(a0:α)(hw:iU ob st (S 0 a0))(bD:gV 0 a0)(vT:∀a,gV n a→(∀i,ea (get i (S n a).t))→c0 P ob c (bT ob (y3 S n gV) 0 Q) (S n a))
  (jQ:∀i a,i<n→gV i a→(∀j,ea (get j (S i a).t))→c0 P ob c (bT ob (y3 S n gV) (n-i) Q) (S i a)):c0 P ob (.loop c) Q st:=by
 refine pA (y3 S n gV) n _ hw ⟨0,a0,by omega,by omega,bD,rfl⟩ ?_;rintro k s ⟨i,a,hi,rfl,af,rfl⟩ ae _;rcases Nat.lt_or_ge i n with h|h
 ·exact jQ i a h af ae
 ·obtain rfl:i=n:=by omega
  rw[Nat.sub_self];exact vT a af ae
theorem bT.rng{S:Nat→α→bs}{n:Nat}{gV:Nat→α→Prop}{i:Nat}(bp:α)(hi:i<n)(af:gV (i+1) bp)(hw:iU ob st (S (i+1) bp)):bT ob (y3 S n gV) (n-i) Q .normal st:=⟨n-(i+1),_,by omega,hw,i+1,bp,by omega,rfl,af,rfl⟩
def Bs{α:Type}(S:α→bs)(μ:α→Nat)(gV:α→Prop)(k:Nat)(st:bs):Prop:= ∃a,k=μ a∧gV a∧st=S a
theorem oC(S:α→bs)(μ:α→Nat)(gV:α→Prop)(a0:α)(hw:iU ob st (S a0))(bD:gV a0)
  (jQ:∀a,gV a→(∀j,ea (get j (S a).t))→c0 P ob c (bT ob (Bs S μ gV) (μ a) Q) (S a)):c0 P ob (.loop c) Q st:=by
 refine pA (Bs S μ gV) (μ a0) _ hw ⟨a0,rfl,bD,rfl⟩ ?_;rintro k s ⟨a,rfl,af,rfl⟩ ae _;exact jQ a af ae
theorem bT.whl{S:α→bs}{μ:α→Nat}{gV:α→Prop}{k:Nat}(bp:α)(hm:μ bp<k)(af:gV bp)(hw:iU ob st (S bp)):bT ob (Bs S μ gV) k Q .normal st:=⟨μ bp,_,hm,hw,bp,rfl,af,rfl⟩
end
theorem gI{p:Prop}(h:p:=by(try simp[*]);(repeat' first|with_reducible refine aj ?_|with_reducible refine aD (by assumption) ?_|with_reducible refine aE (by assumption) ?_|simp[*]);(all_goals first|exact bT.rng () (by assumption) (by first|assumption|trivial) bW|exact bT.rng _ (by assumption) (by assumption) bW)):p:=h
end Go.Pv
namespace Go.Pv
open Go Go.RowKit
def mh(s:cL)(n:Nat)(k:aH):Prop:=inObs s k∨ ∃m,m<n∧k= .loc m
@[simp] theorem VH(s:cL)(n m:Nat)(hm:m<n):mh s n (.loc m):= .inr ⟨m,hm,rfl⟩
theorem AF{s:cL}{n:Nat}{l:List ah}(h:aJ (inObs s) l):aJ (mh s n) l:=j1 (fun _ h=>.inl h) l h
theorem yn{s ai:cL}(fk:Same s ai){n:Nat}{k:aH}(h:mh ai n k):¬fresh n (cV s) k:=by
 rcases h with h|⟨m,hm,rfl⟩
 ·exact fun aI=>aI.2 (tq ((fk.inObs k).2 h))
 ·intro aI;have:=aI.1;simp at this;omega
theorem iU.obL{s ai:cL}(gr:ej ai)(fk:Same s ai){st:bs}{dE:List (Nat×ah)}{L:List (aH×List ah)}{n:Nat}(aL:∀x∈dE,get x.1 st.t=x.2∧aF (mh ai n) x.2)(jL:∀x∈L,look x.1 st.b=some x.2∧mh ai n x.1∧aJ (mh ai n) x.2)
  (ae:∀k cs,look k ai.b=some cs→look k st.b=some cs) (he:∀k o,look k ai.e=some o→look k st.e=some o):iU (cV s) st ⟨dE,L++ai.b,ai.e,n,cV s⟩:=by
 refine⟨fun x ab=>⟨(aL x ab).1,wy (fun k ad=>yn fk ad) _ (aL x ab).2⟩,fun k cs ad=>?_,fun k o ax=>?_,fun m hm=>hm⟩
 ·simp only at ad;rw[cJ]at ad;cases aw:look k L with
  |some x=>rw[aw]at ad;simp only[dM]at ad;subst ad;obtain⟨J,U,ar⟩:=jL _ (tj aw);exact⟨J,yn fk U,j1 (fun k ad=>yn fk ad) _ ar⟩
  |none=>rw[aw]at ad;exact⟨ae k cs ad,yn fk (.inl (.inl (by simp[ad]))),j1 (fun k ad=>yn fk (.inl ad)) _ (gr.kb k cs ad)⟩
 ·exact⟨he k o ax,yn fk (.inl (.inr (by simp at ax;simp[ax]))),fun xs ab=>j1 (fun k ad=>yn fk (.inl ad)) _ (gr.ke k o ax xs ab)⟩
def hl{α:Type}(l:List α)(i j:Nat):List α:=match l[i]?,l[j]? with
 |some x,some y=>(l.set i y).set j x
 |_,_=>l
section
variable {α:Type}
@[simp] theorem ahQ(l:List α)(i j:Nat):(hl l i j).length=l.length:=by unfold hl;split<;>simp
theorem Ar(l:List α)(i j k:Nat)(hi:i<l.length)(af:j<l.length):(hl l i j)[k]? =if k=i then l[j]? else if k=j then l[i]? else l[k]?:=by
 unfold hl;rw[cl hi,cl af];simp only[List.getElem?_set,List.length_set];by_cases J:j=k
 ·subst J;by_cases U:j=i
  ·subst U;simp[hi]
  ·simp[U,af]
 ·by_cases U:i=k
  ·subst U;simp[J,hi]
  ·simp[J,U,k8 J,k8 U]
theorem Ve(l:List α)(i j:Nat):(hl l i j).Perm l:=by
 unfold hl;split
 ·rename_i x y ab aG;obtain⟨hi,rfl⟩:=fV.1 ab;obtain⟨af,rfl⟩:=fV.1 aG;exact List.set_set_perm hi af
 ·exact .refl _
inductive gw (a b:Nat):List α→List α→Prop
 |refl (l:List α):gw a b l l
 |step {l m:List α} {i j:Nat}:gw a b l m→a≤i→i<b→a≤j→j<b→i<m.length→j<m.length→gw a b l (hl m i j)
theorem gw.length{a b:Nat}{l m:List α}(h:gw a b l m):m.length=l.length:=by
 induction h with
 |refl=>rfl
 |step _ _ _ _ _ _ _ bZ=>rw[ahQ,bZ]
theorem gw.perm{a b:Nat}{l m:List α}(h:gw a b l m):m.Perm l:=by
 induction h with
 |refl=>exact .refl _
 |step _ _ _ _ _ _ _ bZ=>exact(Ve _ _ _).trans bZ
theorem gw.out{a b:Nat}{l m:List α}(h:gw a b l m)(k:Nat)(ad:k<a∨b≤k):m[k]? =l[k]?:=by
 induction h with
 |refl=>rfl
 |step _ J U ar a8 b4 dd bZ=>rw[Ar _ _ _ _ b4 dd,if_neg (by omega),if_neg (by omega)];exact bZ
theorem gw.all{a b:Nat}{l m:List α}(h:gw a b l m)(p:α→Prop)(bQ:∀k x,a≤k→k<b→l[k]? =some x→p x):∀k x,a≤k→k<b→m[k]? =some x→p x:=by
 induction h with
 |refl=>exact bQ
 |step _ J U ar a8 b4 dd bZ=>
  intro k x gy lf ab;rw[Ar _ _ _ _ b4 dd]at ab;split at ab
  ·exact bZ _ _ ar a8 ab
  ·split at ab
   ·exact bZ _ _ J U ab
   ·exact bZ _ _ gy lf ab
theorem gw.trans{a b:Nat}{l m r:List α}(h:gw a b l m)(cx:gw a b m r):gw a b l r:=by
 induction cx with
 |refl=>exact h
 |step _ J U ar a8 b4 dd bZ=>exact .step bZ J U ar a8 b4 dd
theorem gw.mono{a b bp bP:Nat}{l m:List α}(h:gw a b l m)(br:bp≤a)(ae:b≤bP):gw bp bP l m:=by
 induction h with
 |refl=>exact .refl _
 |step _ J U ar a8 b4 dd bZ=>exact .step bZ (by omega) (by omega) (by omega) (by omega) b4 dd
def fj(lt:α→α→Bool)(a b:Nat)(l:List α):Prop:= ∀i j x y,a≤i→i<j→j<b→l[i]? =some x→l[j]? =some y→lt y x=false
structure qy (lt:α→α→Bool):Prop where
 asym:∀x y,lt x y=true→lt y x=false
 ntr:∀x y z,lt y x=false→lt z y=false→lt z x=false
theorem fj.pairwise{lt:α→α→Bool}{l:List α}(h:fj lt 0 l.length l):l.Pairwise fun x y=>lt y x=false:=by rw[pU];intro i j hi af l7;exact h i j _ _ (by omega) l7 af (cl hi) (cl af)
def h4(a m b k:Nat):Nat:=if k<a then k else if k<a+(b-m)then k+(m-a)else if k<b then k-(b-m)else k
def sp(a b c k:Nat):Nat:=if a≤k∧k<a+c then b+(k-a)else if b≤k∧k<b+c then a+(k-b)else k
end
theorem FI(i j:Nat)(h:i+j≤1099511627776):IntKind.i64.wrap (Int.fdiv (hr.wrap ((i:Int)+j)) (2 ^ (min 1 hr.bits)))=((i+j)/2:Nat):=by
 have hw:hr.wrap ((i:Int)+j)=i+j:=by simp[sA,og,sy];omega
 have Ko:hr.bits=64:=rfl;rw[hw,Ko,show(2:Int) ^ (min 1 64)=2 from by decide,Int.fdiv_eq_ediv_of_nonneg _ (by omega),o8]
 ·omega
 ·omega
end Go.Pv
namespace Go.Pv
open Go
inductive bI where
 |mk (kind n:Int) (name:List dm) (args:List bI)
def bI.kind:bI→Int| .mk k _ _ _=>k
def bI.num:bI→Int| .mk _ n _ _=>n
def bI.name:bI→List dm| .mk _ _ s _=>s
def bI.args:bI→List bI| .mk _ _ _ a=>a
mutual
def enc:bI→ah
 | .mk k n s a=>.agg [.int .i64 k,.int .i64 n,.str s,.slice 4 .no (pw a)]
def pw:List bI→List ah
 |[]=>[]
 |x::xs=>enc x::pw xs
end
theorem Fi:∀l,pw l=l.map enc
 |[]=>rfl
 |x::xs=>by simp[pw,Fi xs]
theorem vG(t:bI):enc t= .agg [.int .i64 t.kind,.int .i64 t.num,.str t.name,.slice 4 .no (t.args.map enc)]:=by cases t;simp[enc,Fi,bI.kind,bI.num,bI.name,bI.args]
mutual
theorem UW(S:aH→Prop):∀t:bI,aF S (enc t)
 | .mk k n s a=>by simp[enc,aF,aJ,Ls S a]
theorem Ls(S:aH→Prop):∀l:List bI,aJ S (pw l)
 |[]=>by simp[pw,aJ]
 |x::xs=>by simp[pw,aJ,UW S x,Ls S xs]
end
mutual
theorem XS:∀t:bI,dr (enc t)=enc t
 | .mk k n s a=>by simp[enc,dr,cW,NF a]
theorem NF:∀l:List bI,cW (pw l)=pw l
 |[]=>by simp[pw,cW]
 |x::xs=>by simp[pw,cW,XS x,NF xs]
end
@[simp] theorem arl(S:aH→Prop)(t:bI):aF S (enc t)=True:=eq_true (UW S t)
@[simp] theorem aq4(S:aH→Prop)(l:List bI):aJ S (l.map enc)=True:=by rw[←Fi];exact eq_true (Ls S l)
theorem amT(l:List bI):cW (l.map enc)=l.map enc:=by rw[←Fi];exact NF l
attribute [simp] XS amT
@[simp] theorem atl(t:bI):ei (enc t)=true:=by rw[vG];rfl
@[simp] theorem apr(t:bI):cells (enc t)=[.int .i64 t.kind,.int .i64 t.num,.str t.name,.slice 4 .no (t.args.map enc)]:=by rw[vG];rfl
@[simp] theorem ao0(t:bI):ah.agg [.int .i64 t.kind,.int .i64 t.num,.str t.name,.slice 4 .no (t.args.map enc)]=enc t:=(vG t).symm
@[simp] theorem ap6(off:Nat)(e8:Bool)(sz:Nat)(t:bI):rB off e8 sz (enc t)=if e8 then some (off+sz≤4,.agg (([.int .i64 t.kind,.int .i64 t.num,.str t.name,.slice 4 .no (t.args.map enc)].drop off).take sz))else(([.int .i64 t.kind,.int .i64 t.num,.str t.name,.slice 4 .no (t.args.map enc)]:List ah)[off]?).map fun p=>(True,p):=by rw[vG];rfl
@[simp] theorem apW(off:Nat)(e8:Bool)(sz:Nat)(t:bI):p2 off e8 sz (.eptr (enc t))=if e8 then some (off+sz≤4,.eptr (.agg (([.int .i64 t.kind,.int .i64 t.num,.str t.name,.slice 4 .no (t.args.map enc)].drop off).take sz)))else(([.int .i64 t.kind,.int .i64 t.num,.str t.name,.slice 4 .no (t.args.map enc)]:List ah)[off]?).map fun p=>(ei p=true∧cells p=[p],.eptr p):=by rw[vG];rfl
@[simp] theorem aqM(t:bI):Pv.isAgg 4 (enc t):=by rw[vG];exact⟨_,rfl,rfl⟩
inductive T where
 |nil
 |var (n:Int)
 |sym (s:List dm)
 |num (n:Int)
 |pair (a b:T)
 deriving DecidableEq,Inhabited
def T.tm:T→bI
 | .nil=>.mk 0 0 [] []
 | .var n=>.mk 1 n [] []
 | .sym s=>.mk 2 0 s []
 | .num n=>.mk 3 n [] []
 | .pair a b=>.mk 4 0 [] [a.tm,b.tm]
def T.e:T→ah
 | .nil=>.agg [.int .i64 0,.int .i64 0,.str [],.slice 4 .no []]
 | .var n=>.agg [.int .i64 1,.int .i64 n,.str [],.slice 4 .no []]
 | .sym s=>.agg [.int .i64 2,.int .i64 0,.str s,.slice 4 .no []]
 | .num n=>.agg [.int .i64 3,.int .i64 n,.str [],.slice 4 .no []]
 | .pair a b=>.agg [.int .i64 4,.int .i64 0,.str [],.slice 4 .no [a.e,b.e]]
theorem hU:∀t:T,enc t.tm=t.e
 | .nil| .var _| .sym _| .num _=>rfl
 | .pair a b=>by simp[T.tm,enc,pw,T.e,hU a,hU b]
def T.kind:T→Int
 | .nil=>0| .var _=>1| .sym _=>2| .num _=>3| .pair _ _=>4
def T.int:T→Int
 | .var n=>n| .num n=>n|_=>0
def T.name:T→List dm
 | .sym s=>s|_=>[]
def T.args:T→List T
 | .pair a b=>[a,b]|_=>[]
theorem T.e_eq(t:T):t.e= .agg [.int .i64 t.kind,.int .i64 t.int,.str t.name,.slice 4 .no (t.args.map T.e)]:=by cases t<;>rfl
@[simp] theorem aoZ(t:T):ah.agg [.int .i64 t.kind,.int .i64 t.int,.str t.name,.slice 4 .no (t.args.map T.e)]=t.e:=(T.e_eq t).symm
@[simp] theorem ao1:ah.agg [.int .i64 0,.int .i64 0,.str [],.slice 4 .no []]=T.nil.e:=rfl
@[simp] theorem ao5(n:Int):ah.agg [.int .i64 1,.int .i64 n,.str [],.slice 4 .no []]=(T.var n).e:=rfl
@[simp] theorem ao4(s:List dm):ah.agg [.int .i64 2,.int .i64 0,.str s,.slice 4 .no []]=(T.sym s).e:=rfl
@[simp] theorem ao2(n:Int):ah.agg [.int .i64 3,.int .i64 n,.str [],.slice 4 .no []]=(T.num n).e:=rfl
@[simp] theorem ao3(a b:T):ah.agg [.int .i64 4,.int .i64 0,.str [],.slice 4 .no [a.e,b.e]]=(T.pair a b).e:=rfl
@[simp] theorem ap5(off:Nat)(e8:Bool)(sz:Nat)(t:T):rB off e8 sz t.e=if e8 then some (off+sz≤4,.agg (([.int .i64 t.kind,.int .i64 t.int,.str t.name,.slice 4 .no (t.args.map T.e)].drop off).take sz))else(([.int .i64 t.kind,.int .i64 t.int,.str t.name,.slice 4 .no (t.args.map T.e)]:List ah)[off]?).map fun p=>(True,p):=by rw[T.e_eq];rfl
@[simp] theorem apV(off:Nat)(e8:Bool)(sz:Nat)(t:T):p2 off e8 sz (.eptr t.e)=if e8 then some (off+sz≤4,.eptr (.agg (([.int .i64 t.kind,.int .i64 t.int,.str t.name,.slice 4 .no (t.args.map T.e)].drop off).take sz)))else(([.int .i64 t.kind,.int .i64 t.int,.str t.name,.slice 4 .no (t.args.map T.e)]:List ah)[off]?).map fun p=>(ei p=true∧cells p=[p],.eptr p):=by rw[T.e_eq];rfl
@[simp] theorem ahy:(T.nil).kind=0:=rfl
@[simp] theorem ag0:(T.nil).int=0:=rfl
@[simp] theorem air:(T.nil).name=[]:=rfl
@[simp] theorem ZJ:(T.nil).args=[]:=rfl
@[simp] theorem ahD(n:Int):(T.var n).kind=1:=rfl
@[simp] theorem ag4(n:Int):(T.var n).int=n:=rfl
@[simp] theorem aiw(n:Int):(T.var n).name=[]:=rfl
@[simp] theorem ZN(n:Int):(T.var n).args=[]:=rfl
@[simp] theorem ahC(s:List dm):(T.sym s).kind=2:=rfl
@[simp] theorem ag3(s:List dm):(T.sym s).int=0:=rfl
@[simp] theorem aiv(s:List dm):(T.sym s).name=s:=rfl
@[simp] theorem ZM(s:List dm):(T.sym s).args=[]:=rfl
@[simp] theorem ahz(n:Int):(T.num n).kind=3:=rfl
@[simp] theorem ag1(n:Int):(T.num n).int=n:=rfl
@[simp] theorem ais(n:Int):(T.num n).name=[]:=rfl
@[simp] theorem ZK(n:Int):(T.num n).args=[]:=rfl
@[simp] theorem ahA(a b:T):(T.pair a b).kind=4:=rfl
@[simp] theorem ag2(a b:T):(T.pair a b).int=0:=rfl
@[simp] theorem ait(a b:T):(T.pair a b).name=[]:=rfl
@[simp] theorem ZL(a b:T):(T.pair a b).args=[a,b]:=rfl
@[simp] theorem ark(S:aH→Prop)(t:T):aF S t.e=True:=by rw[←hU];simp
@[simp] theorem atM(t:T):dr t.e=t.e:=by rw[←hU];simp
theorem UO(S:aH→Prop):∀l:List T,aJ S (l.map T.e)
 |[]=>by simp[aJ]
 |x::xs=>by simp[aJ,UO S xs]
@[simp] theorem UN(S:aH→Prop)(l:List T):aJ S (l.map T.e)=True:=eq_true (UO S l)
@[simp] theorem amS:∀l:List T,cW (l.map T.e)=l.map T.e
 |[]=>rfl
 |x::xs=>by simp[cW,amS xs]
@[simp] theorem atk(t:T):ei t.e=true:=by rw[T.e_eq];rfl
@[simp] theorem apq(t:T):cells t.e=[.int .i64 t.kind,.int .i64 t.int,.str t.name,.slice 4 .no (t.args.map T.e)]:=by rw[T.e_eq];rfl
@[simp] theorem aqL(t:T):Pv.isAgg 4 t.e:=by rw[T.e_eq];exact⟨_,rfl,rfl⟩
def T.size:T→Nat
 | .pair a b=>1+a.size+b.size
 |_=>1
theorem T.size_pos(t:T):1≤t.size:=by cases t<;>simp[T.size]<;>omega
def low(b:dm):Bool:=decide (97≤b.toNat∧b.toNat≤122)
def mF(b:dm):Bool:=low b||decide (48≤b.toNat∧b.toNat≤57)||b.toNat==45
def iv(s:List dm):Bool:=decide (1≤s.length∧s.length≤12)&&low (s.getD 0 0)&&(s.drop 1).all mF
def T.ok:T→Bool
 | .nil=>true
 | .var n=>decide (0≤n∧n≤100000)
 | .sym s=>iv s
 | .num n=>decide (-1000000000≤n∧n≤1000000000)
 | .pair a b=>a.ok&&b.ok
def ln(k n:Int)(s:List dm):Bool:=if k=0 then n==0&&s==[]else if k=1 then decide (0≤n∧n≤100000)&&s==[]else if k=2 then n==0&&iv s else if k=3 then decide (-1000000000≤n∧n≤1000000000)&&s==[]else false
def fA:bI→Int→Int
 | .mk k n s [a,b],room=>if room<1∨k≠4∨n≠0∨s≠[]then-1 else if fA a (room-1)<0 then-1 else if fA b (room-1-fA a (room-1))<0 then-1 else 1+fA a (room-1)+fA b (room-1-fA a (room-1))
 | .mk k n s args,room=>if room<1∨k=4∨args≠[]∨ln k n s=false then-1 else 1
theorem L5(k n:Int)(s:List dm)(args:List bI)(room:Int):fA (.mk k n s args) room=if room<1 then-1 else if k≠4 then(if args≠[]then-1 else if ln k n s then 1 else-1)else if n≠0∨s≠[]then-1 else match args with
  |[a,b]=>if fA a (room-1)<0 then-1 else if fA b (room-1-fA a (room-1))<0 then-1 else 1+fA a (room-1)+fA b (room-1-fA a (room-1))
  |_=> -1:=by
 match args with
 |[]=>simp only[fA];by_cases J:room<1<;>by_cases U:k=4<;>by_cases ar:ln k n s=true<;>simp[J,U,ar]
 |[a]=>simp[fA]
 |[a,b]=>simp only[fA];by_cases J:room<1<;>by_cases U:k=4<;>simp[J,U]
 |a::b::c::r=>simp[fA]
theorem GV:∀(t:T) (room:Int),fA t.tm room=if t.ok=true∧(t.size:Int)≤room then(t.size:Int)else-1
 | .nil,room=>by simp[T.tm,fA,T.ok,T.size,ln];split<;>rename_i h<;>simp_all<;>omega
 | .var n,room=>by simp[T.tm,fA,T.ok,T.size,ln];split<;>split<;>simp_all<;>omega
 | .sym s,room=>by simp[T.tm,fA,T.ok,T.size,ln];by_cases J:room<1<;>by_cases U:iv s=true<;>simp[J,U]<;>omega
 | .num n,room=>by simp[T.tm,fA,T.ok,T.size,ln];split<;>split<;>simp_all<;>omega
 | .pair a b,room=>by
  have br:=a.size_pos;have ae:=b.size_pos;simp only[T.tm,fA,GV a,GV b,T.ok,T.size,cE];by_cases J:room<1
  ·simp[J];omega
  ·by_cases U:a.ok=true∧(a.size:Int)≤room-1
   ·rw[if_pos U];by_cases ar:b.ok=true∧(b.size:Int)≤room-1-a.size
    ·rw[if_pos ar];simp[J,U.1,ar.1];split<;>omega
    ·rw[if_neg ar];simp[J,U.1];intro lE;have:=ar;simp[lE]at this;omega
   ·rw[if_neg U];simp[J];intro ld;have:=U;simp[ld]at this;omega
theorem Dh:∀(t:bI) (room:Int),fA t room= -1∨1≤fA t room
 | .mk k n s [a,b],room=>by
  simp only[fA];split
  ·exact .inl rfl
  ·split
   ·exact .inl rfl
   ·split
    ·exact .inl rfl
    ·right;omega
 | .mk k n s [],room=>by simp only[fA];split<;>simp
 | .mk k n s [a],room=>by simp[fA]
 | .mk k n s (a::b::c::r),room=>by simp[fA]
theorem L7:∀(t:bI) (room:Int),0<fA t room→∃x:T,x.tm=t
 | .mk k n s [a,b],room,h=>by
  simp only[fA]at h;split at h
  ·omega
  ·rename_i J;simp only[not_or,Int.not_lt,ne_eq,at2]at J;obtain⟨J,rfl,rfl,rfl⟩:=J;split at h
   ·omega
   ·split at h
    ·omega
    ·obtain⟨x,rfl⟩:=L7 a (room-1) (by rcases Dh a (room-1)with h|h<;>omega);obtain⟨y,rfl⟩:=L7 b (room-1-fA x.tm (room-1)) (by rcases Dh b (room-1-fA x.tm (room-1))with h|h<;>omega);exact⟨.pair x y,rfl⟩
 | .mk k n s [],room,h=>by
  simp only[fA]at h;split at h
  ·omega
  ·rename_i J;simp only[not_or,ne_eq,not_true_eq_false,not_false_eq_true,true_and,Bool.not_eq_false]at J;obtain⟨_,_,J⟩:=J;unfold ln at J;split at J
   ·rename_i e;subst e;simp at J;obtain⟨rfl,rfl⟩:=J;exact⟨.nil,rfl⟩
   ·split at J
    ·rename_i e;subst e;simp at J;obtain⟨_,rfl⟩:=J;exact⟨.var n,rfl⟩
    ·split at J
     ·rename_i e;subst e;simp at J;obtain⟨rfl,_⟩:=J;exact⟨.sym s,rfl⟩
     ·split at J
      ·rename_i e;subst e;simp at J;obtain⟨_,rfl⟩:=J;exact⟨.num n,rfl⟩
      ·cases J
 | .mk k n s [a],room,h=>by simp[fA]at h
 | .mk k n s (a::b::c::r),room,h=>by simp[fA]at h
theorem L6:∀(t:bI) (room:Int),fA t room≤room∨fA t room= -1
 | .mk k n s [a,b],room=>by
  simp only[fA];split
  ·exact .inr rfl
  ·split
   ·exact .inr rfl
   ·split
    ·exact .inr rfl
    ·rcases L6 b (room-1-fA a (room-1))with h|h<;>omega
 | .mk k n s [],room=>by simp only[fA];split<;>simp;rename_i h;omega
 | .mk k n s [a],room=>by simp[fA]
 | .mk k n s (a::b::c::r),room=>by simp[fA]
mutual
def bI.sz:bI→Nat
 | .mk _ _ _ a=>1+bI.szL a
def bI.szL:List bI→Nat
 |[]=>0
 |x::xs=>x.sz+bI.szL xs
end
theorem szL_mem:∀{l:List bI} {x:bI},x∈l→x.sz≤bI.szL l
 |y::l,x,h=>by
  rcases gf.1 h with rfl|h
  ·simp[bI.szL]
  ·have:=szL_mem h;simp[bI.szL];omega
theorem NP{t x:bI}(h:x∈t.args):x.sz<t.sz:=by cases t;simp[bI.args]at h;have:=szL_mem h;simp[bI.sz];omega
def T.fit(t:T):Bool:=t.ok&&decide (t.size≤5000)
def bI.fits(t:bI):Bool:=decide (0<fA t 5000)
theorem bI.fits_T(t:T):t.tm.fits=t.fit:=by
 unfold bI.fits T.fit;rw[GV];have:=t.size_pos;by_cases J:t.ok=true<;>by_cases U:t.size≤5000
 ·rw[if_pos ⟨J,by omega⟩];simp[J,U];omega
 ·rw[if_neg (by omega)];simp[U]
 ·rw[if_neg (by simp[J])];simp[J]
 ·rw[if_neg (by simp[J])];simp[J]
theorem bI.fits_ex{t:bI}(h:t.fits=true):∃x:T,x.tm=t∧x.fit=true:=by obtain⟨x,rfl⟩:=L7 t 5000 (by simpa[bI.fits]using h);exact⟨x,rfl,by rw[←bI.fits_T];exact h⟩
structure ao where
 v:Int
 t:T
 deriving DecidableEq,Inhabited
def ao.e(b:ao):ah:= .agg [.int .i64 b.v,.int .i64 b.t.kind,.int .i64 b.t.int,.str b.t.name,.slice 4 .no (b.t.args.map T.e)]
@[simp] theorem ao.eta(b:ao):ao.mk b.v b.t=b:=rfl
@[simp] theorem OP(v:Int)(t:T):ah.agg [.int .i64 v,.int .i64 t.kind,.int .i64 t.int,.str t.name,.slice 4 .no (t.args.map T.e)]=(ao.mk v t).e:=rfl
@[simp] theorem aoU(v:Int):ah.agg [.int .i64 v,.int .i64 0,.int .i64 0,.str [],.slice 4 .no []]=(ao.mk v .nil).e:=rfl
@[simp] theorem aoY(v n:Int):ah.agg [.int .i64 v,.int .i64 1,.int .i64 n,.str [],.slice 4 .no []]=(ao.mk v (.var n)).e:=rfl
@[simp] theorem aoX(v:Int)(s:List dm):ah.agg [.int .i64 v,.int .i64 2,.int .i64 0,.str s,.slice 4 .no []]=(ao.mk v (.sym s)).e:=rfl
@[simp] theorem aoV(v n:Int):ah.agg [.int .i64 v,.int .i64 3,.int .i64 n,.str [],.slice 4 .no []]=(ao.mk v (.num n)).e:=rfl
@[simp] theorem aoW(v:Int)(a b:T):ah.agg [.int .i64 v,.int .i64 4,.int .i64 0,.str [],.slice 4 .no [a.e,b.e]]=(ao.mk v (.pair a b)).e:=rfl
@[simp] theorem arb(S:aH→Prop)(b:ao):aF S b.e=True:=by simp[ao.e,-OP]
@[simp] theorem atF(b:ao):dr b.e=b.e:=by simp[ao.e,-OP]
theorem UK(S:aH→Prop):∀l:List ao,aJ S (l.map ao.e)
 |[]=>by simp[aJ]
 |x::xs=>by simp[aJ,UK S xs]
@[simp] theorem aq0(S:aH→Prop)(l:List ao):aJ S (l.map ao.e)=True:=eq_true (UK S l)
@[simp] theorem XR:∀l:List ao,cW (l.map ao.e)=l.map ao.e
 |[]=>rfl
 |x::xs=>by simp[cW,XR xs]
@[simp] theorem ata(b:ao):ei b.e=true:=rfl
@[simp] theorem apg(b:ao):cells b.e=[.int .i64 b.v,.int .i64 b.t.kind,.int .i64 b.t.int,.str b.t.name,.slice 4 .no (b.t.args.map T.e)]:=rfl
@[simp] theorem aqI(b:ao):Pv.isAgg 5 b.e:=⟨_,rfl,rfl⟩
@[simp] theorem ap3(off:Nat)(e8:Bool)(sz:Nat)(b:ao):rB off e8 sz b.e=if e8 then some (off+sz≤5,.agg (([.int .i64 b.v,.int .i64 b.t.kind,.int .i64 b.t.int,.str b.t.name,.slice 4 .no (b.t.args.map T.e)].drop off).take sz))else(([.int .i64 b.v,.int .i64 b.t.kind,.int .i64 b.t.int,.str b.t.name,.slice 4 .no (b.t.args.map T.e)]:List ah)[off]?).map fun p=>(True,p):=rfl
@[simp] theorem apT(off:Nat)(e8:Bool)(sz:Nat)(b:ao):p2 off e8 sz (.eptr b.e)=if e8 then some (off+sz≤5,.eptr (.agg (([.int .i64 b.v,.int .i64 b.t.kind,.int .i64 b.t.int,.str b.t.name,.slice 4 .no (b.t.args.map T.e)].drop off).take sz)))else(([.int .i64 b.v,.int .i64 b.t.kind,.int .i64 b.t.int,.str b.t.name,.slice 4 .no (b.t.args.map T.e)]:List ah)[off]?).map fun p=>(ei p=true∧cells p=[p],.eptr p):=rfl
def T.occ(v:Int):T→Bool
 | .var n=>n==v
 | .pair a b=>a.occ v||b.occ v
 |_=>false
def eH(a b:Int):Int:=if a<b then-1 else if b<a then 1 else 0
def kL(a b:List dm):Int:=if a=b then 0 else if hC a b then-1 else 1
def eD:T→T→Int
 | .pair a b,.pair c d=>if eD a c=0 then eD b d else eD a c
 |x,y=>if x.kind≠y.kind then eH x.kind y.kind else if x.int≠y.int then eH x.int y.int else kL x.name y.name
structure c3 where
 v:Int
 t:bI
def c3.e(b:c3):ah:= .agg [.int .i64 b.v,.int .i64 b.t.kind,.int .i64 b.t.num,.str b.t.name,.slice 4 .no (b.t.args.map enc)]
def ao.b(b:ao):c3:=⟨b.v,b.t.tm⟩
theorem ao.b_e(b:ao):b.b.e=b.e:=by obtain⟨v,t⟩:=b;cases t<;>simp only[ao.b,c3.e,ao.e,T.tm,bI.kind,bI.num,bI.name,bI.args,hU,ahy,ahD,ahC,ahz,ahA,ag0,ag4,ag3,ag1,ag2,air,aiw,aiv,ais,ait,ZJ,ZN,ZM,ZK,ZL,gS,mU]
@[simp] theorem c3.eta(b:c3):c3.mk b.v b.t=b:=rfl
@[simp] theorem OQ(v:Int)(t:bI):ah.agg [.int .i64 v,.int .i64 t.kind,.int .i64 t.num,.str t.name,.slice 4 .no (t.args.map enc)]=(c3.mk v t).e:=rfl
@[simp] theorem ard(S:aH→Prop)(b:c3):aF S b.e=True:=by simp[c3.e,-OQ]
@[simp] theorem atH(b:c3):dr b.e=b.e:=by simp[c3.e,-OQ]
theorem UM(S:aH→Prop):∀l:List c3,aJ S (l.map c3.e)
 |[]=>by simp[aJ]
 |x::xs=>by simp[aJ,UM S xs]
@[simp] theorem aq2(S:aH→Prop)(l:List c3):aJ S (l.map c3.e)=True:=eq_true (UM S l)
@[simp] theorem amR:∀l:List c3,cW (l.map c3.e)=l.map c3.e
 |[]=>rfl
 |x::xs=>by simp[cW,amR xs]
@[simp] theorem atd(b:c3):ei b.e=true:=rfl
@[simp] theorem apj(b:c3):cells b.e=[.int .i64 b.v,.int .i64 b.t.kind,.int .i64 b.t.num,.str b.t.name,.slice 4 .no (b.t.args.map enc)]:=rfl
@[simp] theorem aqK(b:c3):Pv.isAgg 5 b.e:=⟨_,rfl,rfl⟩
@[simp] theorem ap4(off:Nat)(e8:Bool)(sz:Nat)(b:c3):rB off e8 sz b.e=if e8 then some (off+sz≤5,.agg (([.int .i64 b.v,.int .i64 b.t.kind,.int .i64 b.t.num,.str b.t.name,.slice 4 .no (b.t.args.map enc)].drop off).take sz))else(([.int .i64 b.v,.int .i64 b.t.kind,.int .i64 b.t.num,.str b.t.name,.slice 4 .no (b.t.args.map enc)]:List ah)[off]?).map fun p=>(True,p):=rfl
@[simp] theorem apU(off:Nat)(e8:Bool)(sz:Nat)(b:c3):p2 off e8 sz (.eptr b.e)=if e8 then some (off+sz≤5,.eptr (.agg (([.int .i64 b.v,.int .i64 b.t.kind,.int .i64 b.t.num,.str b.t.name,.slice 4 .no (b.t.args.map enc)].drop off).take sz)))else(([.int .i64 b.v,.int .i64 b.t.kind,.int .i64 b.t.num,.str b.t.name,.slice 4 .no (b.t.args.map enc)]:List ah)[off]?).map fun p=>(ei p=true∧cells p=[p],.eptr p):=rfl
def AI(l:List c3)(i:Nat):Prop:= ∀b,l[i]? =some b→(0≤b.v∧b.v≤100000)∧(∀c,0<i→l[i-1]? =some c→c.v<b.v)∧b.t.fits=true
def y7(l:List c3):Prop:=l.length≤400∧∀i,i<l.length→AI l i
theorem q6:∀a b:T,eD a b=0↔a=b
 | .pair a b,.pair c d=>by
  simp only[eD,T.pair.injEq];split
  ·rename_i h;rw[q6 b d,←q6 a c];simp[h]
  ·rename_i h;simp[h,←q6 a c]
 | .nil,y=>by cases y<;>simp[eD,eH,kL]
 | .var n,y=>by cases y<;>simp[eD,eH,kL]<;>omega
 | .sym s,y=>by cases y<;>simp[eD,eH,kL];rename_i ai;by_cases h:s=ai<;>simp[h];by_cases U:hC s ai=true<;>simp[U]
 | .num n,y=>by cases y<;>simp[eD,eH,kL]<;>omega
 | .pair a b,.nil| .pair a b,.var _| .pair a b,.sym _| .pair a b,.num _=>by simp[eD,eH]
def T.sub(f:Int→Option T):T→T
 | .var n=>match f n with|some x=>x|none=>.var n
 | .pair a b=>.pair (a.sub f) (b.sub f)
 |t=>t
def lp(f:Int→Int):T→Int
 | .var n=>if 5001<f n then 5001 else f n
 | .pair a b=>if 5000<lp f a then lp f a else if 5001<1+lp f a+lp f b then 5001 else 1+lp f a+lp f b
 |_=>1
theorem HT(f:Int→Int)(aI:∀v,-1≤f v):∀t,-1≤lp f t∧lp f t≤5001
 | .var n=>by have:=aI n;simp only[lp];split<;>omega
 | .pair a b=>by have:=HT f aI a;have:=HT f aI b;simp only[lp];split<;>(try split)<;>omega
 | .nil| .sym _| .num _=>by simp[lp]
def ds(l:List ao)(v:Int):Option T:=(l.find? fun b=>b.v==v).map (·.t)
end Go.Pv
namespace Go.Pv
open Go
structure jG {α:Type} (c:α→α→Int):Prop where
 neg:∀a b,c b a= -c a b
 tr:∀a b d,c a b≤0→c b d≤0→c a d≤0
 zero:∀a b,c a b=0↔a=b
section
variable {α:Type} {c:α→α→Int}
def hQ(c:α→α→Int)(a b:α):Bool:=decide (c a b<0)
theorem jG.ltOk(h:jG c):qy (hQ c):=by
 refine⟨fun x y hZ=>?_,fun x y z J U=>?_⟩
 ·simp only[hQ,fK,hR]at hZ⊢;rw[h.neg x y];omega
 ·simp only[hQ,hR]at J U⊢;have ak:=h.neg x y;have aC:=h.neg y z;have bk:=h.neg x z;have:=h.tr x y z (by omega) (by omega);omega
theorem jG.refl(h:jG c)(a:α):c a a=0:=(h.zero a a).2 rfl
theorem jG.ltr(h:jG c){a b d:α}(J:c a b<0)(U:c b d≤0):c a d<0:=by
 have ar:=h.tr a b d (by omega) U;rcases(by omega:c a d<0∨c a d=0)with a8|a8
 ·exact a8
 ·obtain rfl:=(h.zero a d).1 a8;have:=h.neg a b;omega
def o0(c:α→α→Int)(l:List α):List α:=l.mergeSort fun x y=>decide (c x y≤0)
theorem yO(c:α→α→Int)(l:List α):(o0 c l).Perm l:=List.mergeSort_perm l _
theorem NC(h:jG c)(l:List α):(o0 c l).Pairwise fun x y=>c x y≤0:=by have:=List.pairwise_mergeSort (le:=fun x y=>decide (c x y≤0)) (fun a b d J U=>by simp at J U⊢;exact h.tr a b d J U) (fun a b=>by simp;have:=h.neg a b;omega) l;exact this.imp (by simp)
theorem XM(h:jG c){l a1:List α}(bQ:a1.Perm l)(ag:a1.Pairwise fun x y=>hQ c y x=false):a1=o0 c l:=by refine Oz (le:=fun x y=>c x y≤0) (fun x y _ _ J U=>(h.zero x y).1 (by have:=h.neg x y;omega)) (ag.imp fun{x y} hZ=>?_) (NC h l) (bQ.trans (yO c l).symm);simp only[hQ,hR]at hZ;have:=h.neg x y;omega
def cI[DecidableEq α](p:Option α):List α→List α
 |[]=>[]
 |x::r=>if p=some x then cI (some x) r else x::cI (some x) r
def asc[DecidableEq α](c:α→α→Int)(l:List α):List α:=cI none (o0 c l)
def hS(c:α→α→Int)(l:List α):Prop:=l.Pairwise fun x y=>c x y<0
variable [DecidableEq α]
theorem Jn:∀(l:List α) (p:Option α) (x:α),x∈cI p l→x∈l
 |[],_,_,h=>by simp[cI]at h
 |y::r,p,x,h=>by
  simp only[cI]at h;split at h
  ·exact pa _ (Jn r _ x h)
  ·rcases gf.1 h with rfl|h
   ·simp
   ·exact pa _ (Jn r _ x h)
theorem LR:∀(l:List α) (p:Option α) (x:α),x∈l→x∈cI p l∨p=some x
 |y::r,p,x,h=>by
  simp only[cI];rcases gf.1 h with rfl|h
  ·split
   ·rename_i U;exact .inr U
   ·simp
  ·split
   ·rename_i U;rcases LR r (some y) x h with ar|ar
    ·exact .inl ar
    ·cases ar;exact .inr U
   ·rcases LR r (some y) x h with ar|ar
    ·exact .inl (pa _ ar)
    ·cases ar;simp
theorem RE(ay:jG c):∀(l:List α) (p:Option α),l.Pairwise (fun x y=>c x y≤0)→(∀y,p=some y→∀x∈l,c y x≤0)→hS c (cI p l)∧∀y,p=some y→∀x∈cI p l,c y x<0
 |[],p,_,_=>⟨at9,fun y _ x ab=>by simp[cI]at ab⟩
 |z::r,p,h,bQ=>by
  obtain⟨J,U⟩:=mW.1 h;have bZ:=RE ay r (some z) U (fun y aG x ab=>by cases aG;exact J x ab);simp only[cI];split
  ·rename_i ar;subst ar;exact bZ
  ·rename_i ar;refine⟨mW.2 ⟨fun x ab=>bZ.2 z rfl x ab,bZ.1⟩,fun y aG x ab=>?_⟩;subst aG;have r1:c y z<0:=by
    have a8:=bQ y rfl z (by simp);rcases(by omega:c y z<0∨c y z=0)with b4|b4
    ·exact b4
    ·exact absurd (ff some ((ay.zero y z).1 b4)) ar
   rcases gf.1 ab with rfl|ab
   ·exact r1
   ·exact ay.ltr r1 (by have:=bZ.2 z rfl x ab;omega)
theorem IG(ay:jG c)(l:List α):hS c (asc c l):=(RE ay _ none (NC ay l) (fun y h=>by cases h)).1
theorem Vn(l:List α)(x:α):x∈asc c l↔x∈l:=by
 constructor
 ·intro h;exact(yO c l).mem_iff.1 (Jn _ _ _ h)
 ·intro h;rcases LR (o0 c l) none x ((yO c l).mem_iff.2 h)with h|h
  ·exact h
  ·cases h
omit [DecidableEq α]in
theorem hS.ext(ay:jG c){l a1:List α}(h:hS c l)(cx:hS c a1)(hm:∀x,x∈l↔x∈a1):l=a1:=by
 have aR:∀{l:List α},hS c l→l.Nodup:=fun{l} h=>h.imp fun{a b} h e=>by subst e;have:=ay.refl a;omega
 refine Oz (le:=fun x y=>c x y≤0) (fun x y _ _ J U=>(ay.zero x y).1 (by have:=ay.neg x y;omega)) (h.imp fun h=>by omega) (cx.imp fun h=>by omega) ?_;exact(List.perm_ext_iff_of_nodup (aR h) (aR cx)).2 hm
omit [DecidableEq α]in
theorem hS.nodup(ay:jG c){l:List α}(h:hS c l):l.Nodup:=h.imp fun{a b} h e=>by subst e;have:=ay.refl a;omega
end
theorem IM:∀a b:List dm,hC a b=true→hC b a=false
 |_,[],h=>by simp[hC]at h
 |[],_::_,_=>by simp[hC]
 |x::a,y::b,h=>by
  simp only[hC,mT,fK,cE,dS]at h;simp only[hC,Bool.or_eq_false_iff,hR,Bool.and_eq_false_iff];rcases h with h|⟨rfl,h⟩
  ·refine⟨fun U=>?_,.inl ?_⟩
   ·rw[UInt8.lt_iff_toNat_lt]at h U;omega
   ·simp;intro e;subst e;rw[UInt8.lt_iff_toNat_lt]at h;omega
  ·exact⟨fun U=>by rw[UInt8.lt_iff_toNat_lt]at U;omega,.inr (IM a b h)⟩
theorem O7:∀a b:List dm,a≠b→hC a b=false→hC b a=true
 |[],[],h,_=>absurd rfl h
 |x::a,[],_,_=>by simp[hC]
 |[],_::_,_,h=>by simp[hC]at h
 |x::a,y::b,cH,h=>by
  simp only[hC,Bool.or_eq_false_iff,hR,Bool.and_eq_false_iff]at h;simp only[hC,mT,fK,cE,dS];by_cases e:x=y
  ·subst e;right;refine⟨rfl,O7 a b (fun e=>cH (by rw[e])) ?_⟩;rcases h.2 with U|U
   ·simp at U
   ·exact U
  ·left;have J:=h.1;rw[UInt8.lt_iff_toNat_lt]at J⊢;have:x.toNat≠y.toNat:=fun h=>e (UInt8.toNat_inj.1 h);omega
theorem O6:∀a b d:List dm,hC a b=true→hC b d=true→hC a d=true
 |_,[],_,h,_=>by simp[hC]at h
 |_,_::_,[],_,h=>by simp[hC]at h
 |[],_::_,_::_,_,_=>by simp[hC]
 |x::a,y::b,z::d,J,U=>by
  simp only[hC,mT,fK,cE,dS,UInt8.lt_iff_toNat_lt]at J U⊢;rcases J with J|⟨rfl,J⟩<;>rcases U with U|⟨rfl,U⟩
  ·left;omega
  ·left;exact J
  ·left;exact U
  ·exact .inr ⟨rfl,O6 a b d J U⟩
theorem ko:jG eH:=by
 refine⟨fun a b=>?_,fun a b d=>?_,fun a b=>?_⟩
 ·simp only[eH];repeat' split
  all_goals omega
 ·simp only[eH];repeat' split
  all_goals omega
 ·simp only[eH];repeat' split
  all_goals omega
theorem Ds:jG kL:=by
 have au:∀a b,kL b a= -kL a b:=fun a b=>by
  simp only[kL];by_cases e:a=b
  ·subst e;simp
  ·rw[if_neg e,if_neg (k8 e)];cases h:hC a b with
   |true=>simp[IM a b h]
   |false=>simp[O7 a b e h]
 refine⟨au,fun a b d J U=>?_,fun a b=>?_⟩
 ·simp only[kL]at J U⊢;by_cases ak:a=b
  ·subst ak;exact U
  ·by_cases aC:b=d
   ·subst aC;exact J
   ·rw[if_neg ak]at J;rw[if_neg aC]at U;have g1:hC a b=true:=by cases h:hC a b<;>simp[h]at J⊢
    have g2:hC b d=true:=by cases h:hC b d<;>simp[h]at U⊢
    rw[O6 a b d g1 g2];split<;>simp
 ·simp only[kL];by_cases e:a=b
  ·simp[e]
  ·rw[if_neg e];simp[e];split<;>omega
theorem sd{a b:T}(h:a.kind≠b.kind):eD a b=eH a.kind b.kind:=by cases a<;>cases b<;>simp at h<;>simp[eD]
theorem G5:∀a b:T,eD b a= -eD a b
 | .pair a b,.pair c d=>by
  simp only[eD];have J:=G5 a c;have U:=G5 b d;by_cases e:eD a c=0
  ·rw[if_pos e,if_pos (by omega),U]
  ·rw[if_neg e,if_neg (by omega),J]
 | .nil,y=>by
  by_cases ad:T.nil.kind=y.kind
  ·cases y<;>simp at ad;simp[eD,kL]
  ·rw[sd ad,sd (k8 ad),ko.neg]
 | .var n,y=>by
  by_cases ad:(T.var n).kind=y.kind
  ·cases y<;>simp at ad;rename_i m;by_cases e:n=m
   ·subst e;simp[eD,kL]
   ·simp[eD,e,k8 e,ko.neg n m]
  ·rw[sd ad,sd (k8 ad),ko.neg]
 | .sym s,y=>by
  by_cases ad:(T.sym s).kind=y.kind
  ·cases y<;>simp at ad;rename_i m;simp[eD,Ds.neg s m]
  ·rw[sd ad,sd (k8 ad),ko.neg]
 | .num n,y=>by
  by_cases ad:(T.num n).kind=y.kind
  ·cases y<;>simp at ad;rename_i m;by_cases e:n=m
   ·subst e;simp[eD,kL]
   ·simp[eD,e,k8 e,ko.neg n m]
  ·rw[sd ad,sd (k8 ad),ko.neg]
 | .pair a b,.nil| .pair a b,.var _| .pair a b,.sym _| .pair a b,.num _=>by simp[eD,eH]
theorem G4{a b:T}(h:eD a b≤0):a.kind≤b.kind:=by
 by_cases ad:a.kind=b.kind
 ·omega
 ·rw[sd ad]at h;simp only[eH]at h;repeat' split at h
  all_goals omega
theorem Wc(n m:Int):eD (.var n) (.var m)=eH n m:=by
 simp only[eD,T.kind,T.int,T.name,kL];by_cases e:n=m
 ·subst e;simp[eH]
 ·simp[e]
theorem Wb(n m:Int):eD (.num n) (.num m)=eH n m:=by
 simp only[eD,T.kind,T.int,T.name,kL];by_cases e:n=m
 ·subst e;simp[eH]
 ·simp[e]
theorem akB(n m:List dm):eD (.sym n) (.sym m)=kL n m:=by simp[eD]
theorem G6(a b d:T)(br:a.kind≠4)(J:eD a b≤0)(U:eD b d≤0):eD a d≤0:=by
 have aP:=G4 J;have a6:=G4 U;by_cases ad:a.kind=d.kind
 ·cases a<;>cases d<;>simp at ad br;all_goals(cases b<;>simp at aP a6)
  ·simp[eD,kL]
  ·rw[Wc]at J U⊢;exact ko.tr _ _ _ J U
  ·rw[akB]at J U⊢;exact Ds.tr _ _ _ J U
  ·rw[Wb]at J U⊢;exact ko.tr _ _ _ J U
 ·rw[sd ad];simp only[eH];repeat' split
  all_goals omega
theorem akC:∀a b d:T,eD a b≤0→eD b d≤0→eD a d≤0:=by
 intro a;induction a with
 |pair bG a2 Gf Gg=>
  intro b d J U;have aP:=G4 J;have a6:=G4 U;cases b<;>simp at aP;all_goals(cases d<;>simp at a6)
  rename_i b1 b2 d1 d2;simp only[eD]at J U⊢;by_cases ak:eD bG b1=0
  ·obtain rfl:=(q6 bG b1).1 ak;rw[if_pos ak]at J;by_cases aC:eD bG d1=0
   ·rw[if_pos aC]at U⊢;exact Gg b2 d2 J U
   ·rw[if_neg aC]at U⊢;exact U
  ·rw[if_neg ak]at J;by_cases aC:eD b1 d1=0
   ·obtain rfl:=(q6 b1 d1).1 aC;rw[if_neg ak];exact J
   ·rw[if_neg aC]at U;have ar:=Gf b1 d1 J U;by_cases bk:eD bG d1=0
    ·obtain rfl:=(q6 bG d1).1 bk;have:=G5 bG b1;omega
    ·rw[if_neg bk];exact ar
 |nil=>exact fun b d=>G6 _ b d (by simp)
 |var n=>exact fun b d=>G6 _ b d (by simp)
 |sym n=>exact fun b d=>G6 _ b d (by simp)
 |num n=>exact fun b d=>G6 _ b d (by simp)
theorem Mv:jG eD:=⟨G5,akC,q6⟩
end Go.Pv
namespace Go.Pv
open Go
section
variable {α:Type} {c:α→α→Int}
def j3(c:α→α→Int):List α→List α→Int
 |[],[]=>0
 |[],_::_=> -1
 |_::_,[]=>1
 |x::xs,y::ys=>if c x y=0 then j3 c xs ys else c x y
theorem U7(h:jG c):∀a b:List α,j3 c b a= -j3 c a b
 |[],[]=>rfl
 |[],_::_=>rfl
 |_::_,[]=>rfl
 |x::xs,y::ys=>by
  simp only[j3];have J:=h.neg x y;by_cases e:c x y=0
  ·rw[if_pos e,if_pos (by omega),U7 h xs ys]
  ·rw[if_neg e,if_neg (by omega),J]
theorem U9(h:jG c):∀a b:List α,j3 c a b=0↔a=b
 |[],[]=>by simp[j3]
 |[],_::_=>by simp[j3]
 |_::_,[]=>by simp[j3]
 |x::xs,y::ys=>by
  simp only[j3,qv];by_cases e:c x y=0
  ·rw[if_pos e,U9 h xs ys];simp[(h.zero x y).1 e]
  ·rw[if_neg e];exact⟨fun cx=>absurd cx e,fun cx=>absurd ((h.zero x y).2 cx.1) e⟩
theorem U8(h:jG c):∀a b d:List α,j3 c a b≤0→j3 c b d≤0→j3 c a d≤0
 |[],_,[],_,_=>by simp[j3]
 |[],_,_::_,_,_=>by simp[j3]
 |_::_,[],_,J,_=>by simp[j3]at J
 |_::_,_::_,[],_,U=>by simp[j3]at U
 |x::xs,y::ys,z::c4,J,U=>by
  simp only[j3]at J U⊢;by_cases ak:c x y=0
  ·have:=(h.zero x y).1 ak;subst this;rw[if_pos ak]at J;by_cases aC:c x z=0
   ·rw[if_pos aC]at U⊢;exact U8 h xs ys c4 J U
   ·rw[if_neg aC]at U⊢;exact U
  ·rw[if_neg ak]at J;have bE:c x y<0:=by omega
   by_cases aC:c y z=0
   ·have:=(h.zero y z).1 aC;subst this;rw[if_neg ak];omega
   ·rw[if_neg aC]at U;have:=h.ltr bE U;rw[if_neg (by omega)];omega
theorem ahM(h:jG c):jG (j3 c):=⟨U7 h,U8 h,U9 h⟩
end
def yw(x y:ao):Int:=if eH x.v y.v=0 then eD x.t y.t else eH x.v y.v
theorem akz:jG yw:=by
 refine⟨fun x y=>?_,fun x y z J U=>?_,fun x y=>?_⟩
 ·unfold yw;have:=ko.neg x.v y.v;have:=Mv.neg x.t y.t;by_cases e:eH x.v y.v=0
  ·rw[if_pos e,if_pos (by omega)];omega
  ·rw[if_neg e,if_neg (by omega)];omega
 ·unfold yw at J U⊢;by_cases ak:eH x.v y.v=0
  ·rw[if_pos ak]at J;rw[(ko.zero _ _).1 ak];by_cases aC:eH y.v z.v=0
   ·rw[if_pos aC]at U⊢;exact Mv.tr _ _ _ J U
   ·rw[if_neg aC]at U⊢;exact U
  ·rw[if_neg ak]at J;have bE:eH x.v y.v<0:=by omega
   by_cases aC:eH y.v z.v=0
   ·rw[←(ko.zero _ _).1 aC,if_neg ak];exact J
   ·rw[if_neg aC]at U;have:=ko.ltr bE U;rw[if_neg (by omega)];omega
 ·unfold yw;by_cases e:eH x.v y.v=0
  ·rw[if_pos e,Mv.zero];have:=(ko.zero _ _).1 e;cases x;cases y;simp_all
  ·rw[if_neg e];exact⟨fun h=>absurd h e,fun h=>by rw[h]at e;exact absurd (ko.refl _) e⟩
def eG:List ao→List ao→Int:=j3 yw
theorem lS:jG eG:=ahM akz
end Go.Pv
namespace Go.Pv
open Go
def T.ap(aQ:Int→T):T→T
 | .var n=>aQ n
 | .pair a b=>.pair (a.ap aQ) (b.ap aQ)
 |t=>t
theorem BC(f g:Int→T)(t:T):(t.ap f).ap g=t.ap fun v=>(f v).ap g:=by
 induction t with
 |pair a b dW dX=>simp[T.ap,dW,dX]
 |_=>simp[T.ap]
theorem ub{f g:Int→T}{t:T}(h:∀v,t.occ v=true→f v=g v):t.ap f=t.ap g:=by
 induction t with
 |var n=>exact h n (by simp[T.occ])
 |pair a b dW dX=>simp only[T.ap];rw[dW fun v aK=>h v (by simp[T.occ,aK]),dX fun v aK=>h v (by simp[T.occ,aK])]
 |_=>rfl
theorem ZH(t:T):t.ap .var=t:=by induction t<;>simp_all[T.ap]
theorem OV{f:Int→T}{t:T}(h:∀v,t.occ v=true→f v= .var v):t.ap f=t:=(ub h).trans (ZH t)
theorem XU(f:Int→Option T)(t:T):t.sub f=t.ap fun v=>(f v).getD (.var v):=by
 induction t with
 |var n=>simp only[T.sub,T.ap];cases f n<;>rfl
 |pair a b dW dX=>simp[T.sub,T.ap,dW,dX]
 |_=>rfl
theorem ZG(aQ:Int→T)(t:T):t.size≤(t.ap aQ).size:=by
 induction t with
 |var n=>exact T.size_pos _
 |pair a b dW dX=>simp only[T.ap,T.size];omega
 |_=>exact eY _
theorem AH(aQ:Int→T){v:Int}{t:T}(h:t.occ v=true):(aQ v).size≤(t.ap aQ).size∧(t.kind≠1→(aQ v).size<(t.ap aQ).size):=by
 induction t with
 |var n=>simp[T.occ]at h;subst h;simp[T.ap,T.kind]
 |pair a b dW dX=>
  simp only[T.occ,mT]at h;simp only[T.ap,T.size];rcases h with h|h
  ·have:=(dW h).1;exact⟨by omega,fun _=>by omega⟩
  ·have:=(dX h).1;exact⟨by omega,fun _=>by omega⟩
 |_=>simp[T.occ]at h
theorem AG{aQ:Int→T}{v:Int}{t:T}:(t.ap aQ).occ v=true↔∃w,t.occ w=true∧(aQ w).occ v=true:=by
 induction t with
 |var n=>simp[T.ap,T.occ]
 |pair a b dW dX=>
  simp only[T.ap,T.occ,mT,dW,dX];constructor
  ·rintro(⟨w,J,U⟩|⟨w,J,U⟩)
   ·exact⟨w,.inl J,U⟩
   ·exact⟨w,.inr J,U⟩
  ·rintro⟨w,J|J,U⟩
   ·exact .inl ⟨w,J,U⟩
   ·exact .inr ⟨w,J,U⟩
 |_=>simp[T.ap,T.occ]
def b7(s:List ao)(v:Int):T:=(ds s v).getD (.var v)
abbrev iP(s:List ao):Prop:=s.Pairwise fun x y=>x.v<y.v
def gW(s:List ao)(aQ:Int→T):Prop:= ∀b∈s,aQ b.v=b.t.ap aQ
structure fM (s:List ao):Prop where
 asc:iP s
 free:∀b∈s,∀w,b.t.occ w=true→ds s w=none
 ori:∀b∈s,∀w,b.t= .var w→w<b.v
theorem ue(b:ao)(s:List ao)(v:Int):ds (b::s) v=if b.v=v then some b.t else ds s v:=by
 unfold ds;by_cases h:b.v=v
 ·simp[h]
 ·have:(b.v==v)=false:=by simp[h]
  simp[this,h,List.find?_cons]
theorem kg{v:Int}{t:T}:∀{s:List ao},ds s v=some t→(⟨v,t⟩:ao)∈s
 |[],h=>by simp[ds]at h
 |b::s,h=>by
  rw[ue]at h;split at h
  ·rename_i e;cases h;subst e;simp
  ·exact pa _ (kg h)
theorem vv{v:Int}:∀{s:List ao},ds s v=none↔∀b∈s,b.v≠v
 |[]=>by simp[ds]
 |b::s=>by
  rw[ue];by_cases h:b.v=v
  ·simp[h]
  ·simp[h,vv (s:=s)]
theorem ud{b:ao}:∀{s:List ao},iP s→b∈s→ds s b.v=some b.t
 |[],_,h=>by simp at h
 |c::s,br,h=>by
  rw[ue];have nm:=mW.1 br;rcases gf.1 h with rfl|h
  ·simp
  ·have:=nm.1 b h;rw[if_neg (by omega)];exact ud nm.2 h
theorem OX:∀{s ai:List ao},iP s→iP ai→(∀v,ds s v=ds ai v)→s=ai
 |[],[],_,_,_=>rfl
 |[],c::ai,_,_,h=>by have:=h c.v;rw[ue]at this;simp[ds]at this
 |c::s,[],_,_,h=>by have:=h c.v;rw[ue]at this;simp[ds]at this
 |b::s,c::ai,br,ae,h=>by
  have gb:=mW.1 ae;have nm:=mW.1 br;have J:(⟨b.v,b.t⟩:ao)∈c::ai:=kg (by rw[←h b.v,ue];simp);have U:(⟨c.v,c.t⟩:ao)∈b::s:=kg (by rw[h c.v,ue];simp);have S7:b=c:=by
   rcases gf.1 J with e|e
   ·exact e
   ·rcases gf.1 U with aC|aC
    ·exact aC.symm
    ·have a7:=gb.1 _ e;have bF:=nm.1 _ aC;simp only at a7 bF;omega
  subst S7;rw[OX nm.2 gb.2 fun v=>?_];have:=h v;rw[ue,ue]at this;by_cases e:b.v=v
  ·have k6:ds s v=none:=vv.2 fun x ab=>by have:=nm.1 x ab;omega
   have z2:ds ai v=none:=vv.2 fun x ab=>by have:=gb.1 x ab;omega
   rw[k6,z2]
  ·simpa[e]using this
theorem amH{s:List ao}(br:iP s){aQ:Int→T}:gW s aQ↔∀v,aQ v=(b7 s v).ap aQ:=by
 constructor
 ·intro h v;unfold b7;cases e:ds s v with
  |none=>rfl
  |some t=>exact h _ (kg e)
 ·intro h b ae;have:=h b.v;rw[b7,ud br ae]at this;exact this
theorem NA{s:List ao}{aQ:Int→T}(h:gW s aQ)(t:T):t.ap aQ=(t.ap (b7 s)).ap aQ:=by
 rw[BC];refine ub fun v _=>?_;unfold b7;cases e:ds s v with
 |none=>rfl
 |some t=>exact h _ (kg e)
theorem amo{s:List ao}(ag:fM s){t:T}(h:∀w,t.occ w=true→ds s w=none):t.ap (b7 s)=t:=OV fun v aK=>by simp[b7,h v aK]
theorem yN{s:List ao}(ag:fM s):gW s (b7 s):=fun b ae=>by rw[amo ag (ag.free b ae),b7,ud ag.asc ae];rfl
theorem L0{s ai:List ao}(ag:fM s)(gr:fM ai)(h:∀aQ,gW ai aQ→gW s aQ){v:Int}(aK:ds ai v=none):ds s v=none:=by
 cases e:ds s v with
 |none=>rfl
 |some t=>
  have J:=h _ (yN gr) _ (kg e);simp only[b7,aK,hO]at J;cases t with
  |var w=>
   have U:w<v:=ag.ori _ (kg e) w rfl;simp only[T.ap,b7]at J;cases bk:ds ai w with
   |none=>rw[bk]at J;simp at J;omega
   |some u=>rw[bk]at J;simp only[h5]at J;subst J;have:=gr.ori _ (kg bk) v rfl;simp only at this;omega
  |_=>simp[T.ap]at J
theorem aip{s ai:List ao}(gr:fM ai)(h:∀aQ,gW ai aQ→gW s aQ){v:Int}:(b7 s v).size≤(b7 ai v).size:=by
 have J:=h _ (yN gr);unfold b7;cases e:ds s v with
 |none=>exact T.size_pos _
 |some t=>have:=J _ (kg e);show t.size≤(b7 ai v).size;simp only at this;rw[this];exact ZG _ _
theorem amK{s ai:List ao}(ag:fM s)(gr:fM ai)(h:∀aQ,gW s aQ↔gW ai aQ):s=ai:=by
 refine OX ag.asc gr.asc fun v=>?_;have d1:∀w,ds s w=none↔ds ai w=none:=fun w=>⟨L0 gr ag (fun aQ=>(h aQ).1),L0 ag gr fun aQ=>(h aQ).2⟩;cases e:ds s v with
 |none=>exact((d1 v).1 e).symm
 |some t=>
  cases fT:ds ai v with
  |none=>rw[(d1 v).2 fT]at e;cases e
  |some dE=>have J:=(h _).2 (yN gr) _ (kg e);simp only[b7,fT,h5]at J;rw[J];exact ff some (OV fun w hw=>by have:=(d1 w).1 (ag.free _ (kg e) w hw);simp[b7,this]).symm
def hE(s:List ao):Prop:=s.length≤400∧∀b∈s,b.t.size≤5000
theorem ZQ{s:List ao}(h:iP s):(s.map (·.v)).Nodup:=by rw[List.nodup_iff_pairwise_ne,List.pairwise_map];exact h.imp fun h=>by omega
theorem Sk{s ai:List ao}(ag:fM s)(gr:fM ai)(h:∀aQ,gW ai aQ→gW s aQ)(aI:hE ai):hE s:=by
 have aR:∀x∈s.map (·.v),x∈ai.map (·.v):=by
  intro x ab;obtain⟨b,ae,rfl⟩:=iC.1 ab;cases e:ds ai b.v with
  |none=>have:=L0 ag gr h e;rw[ud ag.asc ae]at this;cases this
  |some t=>exact iC.2 ⟨_,kg e,rfl⟩
 have aw:=Oy (ZQ ag.asc) aR;simp only[List.length_map]at aw;refine⟨kc aw aI.1,fun b ae=>?_⟩;have J:=aip (s:=s) gr h (v:=b.v);rw[b7,ud ag.asc ae]at J;obtain⟨c,ay,e⟩:=iC.1 (aR b.v (iC.2 ⟨b,ae,rfl⟩));have U:=aI.2 c ay;rw[b7,←e,ud gr.asc ay]at J;exact kc J U
def jJ(E:List (T×T))(aQ:Int→T):Prop:= ∀e∈E,e.1.ap aQ=e.2.ap aQ
theorem DX(aQ:Int→T):jJ [] aQ:=fun _ h=>by simp at h
theorem q8{e:T×T}{E:List (T×T)}{aQ:Int→T}:jJ (e::E) aQ↔e.1.ap aQ=e.2.ap aQ∧jJ E aQ:=by simp[jJ]
theorem DW{E xc:List (T×T)}{aQ:Int→T}:jJ (E++xc) aQ↔jJ E aQ∧jJ xc aQ:=by simp only[jJ,ka];exact⟨fun h=>⟨fun e he=>h e (.inl he),fun e he=>h e (.inr he)⟩,fun h e he=>he.elim (h.1 e) (h.2 e)⟩
def iT(s:List ao)(E:List (T×T)):Option (List ao)→Prop
 |some ai=>(fM ai∧hE ai)∧∀aQ,gW ai aQ↔gW s aQ∧jJ E aQ
 |none=> ∀ai,fM ai→(∀aQ,gW ai aQ→gW s aQ∧jJ E aQ)→¬hE ai
theorem Zx{s:List ao}{E:List (T×T)}:∀{o o':Option (List ao)},iT s E o→iT s E o'→o=o'
 |none,none,_,_=>rfl
 |some s1,none,h,cx=>absurd h.1.2 (cx s1 h.1.1 fun aQ=>(h.2 aQ).1)
 |none,some s1,cx,h=>absurd h.1.2 (cx s1 h.1.1 fun aQ=>(h.2 aQ).1)
 |some s1,some s2,h,cx=>by rw[amK h.1.1 cx.1.1 fun aQ=>(h.2 aQ).trans (cx.2 aQ).symm]
theorem BA{s s2:List ao}{E OB:List (T×T)}(h:∀aQ,(gW s aQ∧jJ E aQ)↔(gW s2 aQ∧jJ OB aQ)):∀{o:Option (List ao)},iT s E o→iT s2 OB o
 |none,aM=>fun ai J U=>aM ai J fun aQ hA=>(h aQ).2 (U aQ hA)
 |some s1,aM=>⟨aM.1,fun aQ=>(aM.2 aQ).trans (h aQ)⟩
theorem OL{s s1:List ao}{E xc:List (T×T)}(h:iT s E (some s1)):∀{o:Option (List ao)},iT s1 xc o→iT s (E++xc) o
 |none,aM=>fun ai J U=>aM ai J fun aQ hA=>⟨(h.2 aQ).2 ⟨(U aQ hA).1,(DW.1 (U aQ hA).2).1⟩,(DW.1 (U aQ hA).2).2⟩
 |some s2,aM=>⟨aM.1,fun aQ=>by rw[aM.2 aQ,h.2 aQ,DW,and_assoc]⟩
theorem Iz{s:List ao}{E:List (T×T)}(xc:List (T×T))(h:iT s E none):iT s (E++xc) none:=fun ai J U=>h ai J fun aQ hA=>⟨(U aQ hA).1,(DW.1 (U aQ hA).2).1⟩
theorem Ew{s:List ao}{E:List (T×T)}(h:∀aQ,gW s aQ→¬jJ E aQ):iT s E none:=fun ai J U=>absurd (U _ (yN J)).2 (h _ (U _ (yN J)).1)
theorem IA{s:List ao}(ag:fM s)(aI:hE s):iT s [] (some s):=⟨⟨ag,aI⟩,fun aQ=>⟨fun h=>⟨h,DX aQ⟩,fun h=>h.1⟩⟩
def one(v:Int)(x:T)(w:Int):T:=if w=v then x else .var w
def oT(b:ao):List ao→List ao
 |[]=>[b]
 |c::s=>if b.v<c.v then b::c::s else c::oT b s
def mu(s:List ao)(v:Int)(x:T):List ao:=oT ⟨v,x⟩ (s.map fun b=>⟨b.v,b.t.ap (one v x)⟩)
theorem LS{b x:ao}:∀{s:List ao},x∈oT b s↔x=b∨x∈s
 |[]=>by simp[oT]
 |c::s=>by
  simp only[oT];split
  ·simp
  ·simp only[gf,LS (s:=s)];constructor
   ·rintro(h|h|h)
    ·exact .inr (.inl h)
    ·exact .inl h
    ·exact .inr (.inr h)
   ·rintro(h|h|h)
    ·exact .inr (.inl h)
    ·exact .inl h
    ·exact .inr (.inr h)
theorem U6{b:ao}:∀{s:List ao},(oT b s).length=s.length+1
 |[]=>rfl
 |c::s=>by simp only[oT];split<;>simp[U6]
theorem OY{b:ao}:∀{s:List ao},iP s→(∀c∈s,c.v≠b.v)→iP (oT b s)
 |[],_,_=>by simp[oT]
 |c::s,br,au=>by
  have nm:=mW.1 br;simp only[oT];split
  ·rename_i bE;refine mW.2 ⟨fun x ab=>?_,br⟩;rcases gf.1 ab with rfl|ab
   ·exact bE
   ·have:=nm.1 x ab;omega
  ·rename_i uF;refine mW.2 ⟨fun x ab=>?_,OY nm.2 fun c ay=>au c (by simp[ay])⟩;rcases LS.1 ab with rfl|ab
   ·have:=au c (by simp);omega
   ·exact nm.1 x ab
theorem qi{s:List ao}{v:Int}{x:T}{b:ao}:b∈mu s v x↔b=⟨v,x⟩∨ ∃c∈s,b=⟨c.v,c.t.ap (one v x)⟩:=by unfold mu;rw[LS,iC];refine or_congr Iff.rfl ⟨fun⟨c,J,U⟩=>⟨c,J,U.symm⟩,fun⟨c,J,U⟩=>⟨c,J,U.symm⟩⟩
theorem V7{v:Int}{x:T}{aQ:Int→T}(h:aQ v=x.ap aQ)(t:T):(t.ap (one v x)).ap aQ=t.ap aQ:=by
 rw[BC];refine ub fun w _=>?_;unfold one;split
 ·rename_i e;subst e;exact h.symm
 ·rfl
theorem EE{s:List ao}{v w:Int}{x:T}:ds (mu s v x) w=none↔w≠v∧ds s w=none:=by
 rw[vv,vv];constructor
 ·intro h;exact⟨fun e=>h ⟨v,x⟩ (qi.2 (.inl rfl)) e.symm,fun b ae=>h ⟨b.v,b.t.ap (one v x)⟩ (qi.2 (.inr ⟨b,ae,rfl⟩))⟩
 ·rintro⟨J,U⟩ b ae;rcases qi.1 ae with rfl|⟨c,ay,rfl⟩
  ·exact fun e=>J e.symm
  ·exact U c ay
theorem Nx{s:List ao}(ag:fM s){t:T}{w:Int}(h:(t.ap (b7 s)).occ w=true):ds s w=none:=by
 obtain⟨u,_,U⟩:=AG.1 h;unfold b7 at U;cases e:ds s u with
 |none=>rw[e]at U;simp[T.occ]at U;subst U;exact e
 |some t=>rw[e]at U;exact ag.free _ (kg e) w U
theorem amJ{s:List ao}(ag:fM s){v:Int}{t:T}(aK:ds s v=none)(ax:(t.ap (b7 s)).occ v=false)(s6:∀w,t.ap (b7 s)= .var w→w<v):fM (mu s v (t.ap (b7 s))):=by
 have ab:∀w,(t.ap (b7 s)).occ w=true→ds (mu s v (t.ap (b7 s))) w=none:=fun w hw=>EE.2 ⟨fun e=>(by subst e;rw[ax]at hw;cases hw),Nx ag hw⟩;refine⟨OY ?_ ?_,fun b ae w hw=>?_,fun b ae w hw=>?_⟩
 ·rw[iP,List.pairwise_map];exact ag.asc
 ·intro c ay;obtain⟨b,ae,rfl⟩:=iC.1 ay;exact vv.1 aK b ae
 ·rcases qi.1 ae with rfl|⟨c,ay,rfl⟩
  ·exact ab w hw
  ·obtain⟨u,J,U⟩:=AG.1 hw;unfold one at U;split at U
   ·exact ab w U
   ·rename_i cH;simp[T.occ]at U;subst U;exact EE.2 ⟨cH,ag.free c ay _ J⟩
 ·rcases qi.1 ae with rfl|⟨c,ay,rfl⟩
  ·exact s6 w hw
  ·simp only at hw⊢;cases e:c.t with
   |var u=>
    have:=ag.ori c ay u e;rw[e]at hw;simp only[T.ap,one]at hw;split at hw
    ·rename_i aC;subst aC;have:=s6 w hw;omega
    ·cases hw;exact this
   |_=>rw[e]at hw;simp[T.ap]at hw
theorem XH{s:List ao}{v:Int}{t:T}(aQ:Int→T):gW (mu s v (t.ap (b7 s))) aQ↔gW s aQ∧jJ [(.var v,t)] aQ:=by
 have ak:jJ [(.var v,t)] aQ↔aQ v=t.ap aQ:=by simp[jJ,T.ap]
 rw[ak];constructor
 ·intro h;have bD:aQ v=(t.ap (b7 s)).ap aQ:=h _ (qi.2 (.inl rfl));have J:gW s aQ:=fun b ae=>by have:=h _ (qi.2 (.inr ⟨b,ae,rfl⟩));simp only at this;rw[V7 bD]at this;exact this
  exact⟨J,by rw[NA J t];exact bD⟩
 ·rintro⟨J,U⟩ b ae;have bD:aQ v=(t.ap (b7 s)).ap aQ:=by rw[←NA J t];exact U
  rcases qi.1 ae with rfl|⟨c,ay,rfl⟩
  ·exact bD
  ·simp only;rw[V7 bD];exact J c ay
open Classical in
theorem Zu{s:List ao}(ag:fM s){v:Int}{t:T}(aK:ds s v=none)(ax:(t.ap (b7 s)).occ v=false)(s6:∀w,t.ap (b7 s)= .var w→w<v):iT s [(.var v,t)] (if hE (mu s v (t.ap (b7 s)))then some (mu s v (t.ap (b7 s)))else none):=by
 have J:=amJ ag aK ax s6;split
 ·rename_i aI;exact⟨⟨J,aI⟩,XH⟩
 ·rename_i aI;exact fun ai U ar a8=>aI (Sk J U (fun aQ hA=>(XH aQ).2 (ar aQ hA)) a8)
def hq(s:List ao):T→T
 | .var n=>b7 s n
 |t=>t
def nR(s:List ao)(v:Int)(t:T):Option (List ao):=if(t.ap (b7 s)).size≤5000∧(t.ap (b7 s)).occ v=false∧s.length<400∧∀b∈s,(b.t.ap (one v (t.ap (b7 s)))).size≤5000 then some (mu s v (t.ap (b7 s)))else none
def j8(rec:List ao→T→T→Option (Option (List ao)))(s:List ao):T→T→Option (Option (List ao))
 | .var i,.var j=>some (if i<j then nR s j (.var i)else if i=j then some s else nR s i (.var j))
 | .var i,y=>some (nR s i y)
 |x,.var j=>some (nR s j x)
 | .pair bG a2,.pair b1 b2=>match rec s bG b1 with
  |none=>none
  |some none=>some none
  |some (some s1)=>rec s1 a2 b2
 |x,y=>some (if x=y then some s else none)
def kP:Nat→List ao→T→T→Option (Option (List ao))
 |0,_,_,_=>none
 |n+1,s,a,b=>j8 (kP n) s (hq s a) (hq s b)
theorem am9{rec M5:List ao→T→T→Option (Option (List ao))}(h:∀s a b o,rec s a b=some o→M5 s a b=some o){s:List ao}{x y:T}{o:Option (List ao)}(he:j8 rec s x y=some o):j8 M5 s x y=some o:=by
 cases x<;>cases y<;>simp only[j8]at he⊢ <;>try exact he
 rename_i bG a2 b1 b2;cases e:rec s bG b1 with
 |none=>rw[e]at he;cases he
 |some gG=>
  rw[e]at he;rw[h _ _ _ _ e];cases gG with
  |none=>exact he
  |some s1=>exact h _ _ _ _ he
theorem D3:∀{n m:Nat} {s:List ao} {a b:T} {o:Option (List ao)},n≤m→kP n s a b=some o→kP m s a b=some o
 |0,_,_,_,_,_,_,h=>by simp[kP]at h
 |n+1,0,_,_,_,_,hm,_=>by omega
 |n+1,m+1,s,a,b,o,hm,h=>by simp only[kP]at h⊢;exact am9 (fun s a b o h=>D3 (by omega) h) h
theorem JZ{s:List ao}{v:Int}{x:T}:hE (mu s v x)↔(x.size≤5000∧s.length<400∧∀b∈s,(b.t.ap (one v x)).size≤5000):=by
 have aw:(mu s v x).length=s.length+1:=by simp[mu,U6]
 unfold hE;rw[aw];constructor
 ·rintro⟨J,U⟩;exact⟨U _ (qi.2 (.inl rfl)),by omega,fun b ae=>U _ (qi.2 (.inr ⟨b,ae,rfl⟩))⟩
 ·rintro⟨J,U,ar⟩;refine⟨by omega,fun b ae=>?_⟩;rcases qi.1 ae with rfl|⟨c,ay,rfl⟩
  ·exact J
  ·exact ar c ay
theorem Zv{s:List ao}(ag:fM s){v:Int}{t:T}(aK:ds s v=none)(cH:t.ap (b7 s)≠ .var v)(s6:∀w,t.ap (b7 s)= .var w→w<v):iT s [(.var v,t)] (nR s v t):=by
 unfold nR;cases ax:(t.ap (b7 s)).occ v with
 |true=>
  rw[if_neg (by simp)];refine Ew fun aQ J U=>?_;have ar:=(q8.1 U).1;simp only[T.ap]at ar;rw[NA J t]at ar;have ad:(t.ap (b7 s)).kind≠1:=by
   intro ad;cases e:t.ap (b7 s)with
   |var w=>rw[e]at ax;simp[T.occ]at ax;subst ax;exact cH e
   |_=>rw[e]at ad;simp[T.kind]at ad
  have:=(AH aQ ax).2 ad;rw[←ar]at this;omega
 |false=>
  have J:=Zu ag aK ax s6;by_cases aI:hE (mu s v (t.ap (b7 s)))
  ·rw[if_pos aI]at J;rw[if_pos ⟨(JZ.1 aI).1,rfl,(JZ.1 aI).2⟩];exact J
  ·rw[if_neg aI]at J;rw[if_neg fun h=>aI (JZ.2 ⟨h.1,h.2.2⟩)];exact J
theorem YW{s:List ao}(ag:fM s){t:T}{i:Int}(h:hq s t= .var i):ds s i=none:=by
 cases t with
 |var n=>
  simp only[hq,b7]at h;cases e:ds s n with
  |none=>rw[e]at h;simp at h;subst h;exact e
  |some u=>rw[e]at h;simp at h;subst h;exact ag.free _ (kg e) i (by simp[T.occ])
 |_=>simp[hq]at h
theorem Ol{s:List ao}{aQ:Int→T}(h:gW s aQ)(t:T):(hq s t).ap aQ=t.ap aQ:=by
 cases t with
 |var n=>
  simp only[hq,T.ap,b7];cases e:ds s n with
  |none=>rfl
  |some u=>exact(h _ (kg e)).symm
 |_=>rfl
theorem YY{s:List ao}(ag:fM s)(t:T):(hq s t).ap (b7 s)=t.ap (b7 s):=Ol (yN ag) t
def p9(V:List Int)(t:T):Prop:= ∀w,t.occ w=true→w∈V
def x7(V:List Int)(s:List ao):Prop:= ∀b∈s,b.v∈V∧p9 V b.t
def zl(V:List Int)(s:List ao):Nat:=(V.filter fun v=>(ds s v).isNone).length
theorem Si{α:Type}{p q:α→Bool}{v:α}:∀{V:List α},(∀x∈V,q x=true→p x=true)→v∈V→p v=true→q v=false→(V.filter q).length<(V.filter p).length
 |[],_,h,_,_=>by simp at h
 |x::V,h,aK,bQ,bh=>by
  have hle:∀W:List α,(∀x∈W,q x=true→p x=true)→(W.filter q).length≤(W.filter p).length:=by
   intro W;induction W with
   |nil=>intro _;simp
   |cons y W bZ=>intro Ce;have:=bZ fun x ab=>Ce x (by simp[ab]);have aG:=Ce y (by simp);simp only[List.filter_cons];cases e:q y<;>cases aC:p y<;>simp_all<;>omega
  simp only[List.filter_cons];rcases gf.1 aK with rfl|aK
  ·have:=hle V fun x ab=>h x (by simp[ab]);simp[bQ,bh];omega
  ·have:=Si (fun x ab=>h x (pa _ ab)) aK bQ bh;have ab:=h x (by simp);cases e:q x<;>cases aC:p x<;>simp_all<;>omega
theorem aaQ{V:List Int}{s:List ao}{v:Int}{x:T}(aK:v∈V)(au:ds s v=none):zl V (mu s v x)<zl V s:=by
 unfold zl;refine Si (v:=v) (fun w _ h=>?_) aK (by simp[au]) ?_
 ·rw[Option.isNone_iff_eq_none,EE]at h;simp[h.2]
 ·cases e:ds (mu s v x) v with
  |none=>exact absurd rfl (EE.1 e).1
  |some _=>rfl
theorem Uc{V:List Int}{s:List ao}(h:x7 V s){t:T}(aL:p9 V t):p9 V (t.ap (b7 s)):=fun w hw=>by
 obtain⟨u,J,U⟩:=AG.1 hw;unfold b7 at U;cases e:ds s u with
 |none=>rw[e]at U;simp[T.occ]at U;subst U;exact aL _ J
 |some x=>rw[e]at U;exact(h _ (kg e)).2 w U
theorem agY{V:List Int}{s:List ao}(h:x7 V s){v:Int}{x:T}(aK:v∈V)(ab:p9 V x):x7 V (mu s v x):=fun b ae=>by
 rcases qi.1 ae with rfl|⟨c,ay,rfl⟩
 ·exact⟨aK,ab⟩
 ·refine⟨(h c ay).1,fun w hw=>?_⟩;obtain⟨u,J,U⟩:=AG.1 hw;unfold one at U;split at U
  ·exact ab w U
  ·simp[T.occ]at U;subst U;exact(h c ay).2 _ J
theorem Ud{V:List Int}{s:List ao}(h:x7 V s){t:T}(aL:p9 V t):p9 V (hq s t):=by
 cases t with
 |var n=>have:=Uc h aL;simpa[hq,T.ap]using this
 |_=>exact aL
def Bz(V:List Int)(s:List ao)(a b:T)(o:Option (List ao)):Prop:=iT s [(a,b)] o∧∀ai,o=some ai→x7 V ai∧(ai=s∨zl V ai<zl V s)
theorem D4{V:List Int}{s:List ao}(ag:fM s)(kj:x7 V s){v:Int}{t a b:T}(aK:v∈V)(aL:p9 V t)(au:ds s v=none)(cH:t.ap (b7 s)≠ .var v)(s6:∀w,t.ap (b7 s)= .var w→w<v)(ay:∀aQ,gW s aQ→(aQ v=t.ap aQ↔a.ap aQ=b.ap aQ)):Bz V s a b (nR s v t):=by
 refine⟨BA (fun aQ=>?_) (Zv ag au cH s6),fun ai h=>?_⟩
 ·refine and_congr_right fun h=>?_;rw[q8,q8];simp only[T.ap,ay aQ h]
 ·unfold nR at h;split at h
  ·cases h;exact⟨agY kj aK (Uc kj aL),.inr (aaQ aK au)⟩
  ·cases h
theorem A8{s:List ao}{i:Int}(h:ds s i=none):b7 s i= .var i:=by simp[b7,h]
theorem Yf(V:List Int)(k:Nat):∀(m:Nat) (s:List ao) (a b:T),fM s→hE s→x7 V s→p9 V a→p9 V b→zl V s=k→(a.ap (b7 s)).size+(b.ap (b7 s)).size=m→
  ∃n o,kP n s a b=some o∧Bz V s a b o:=by
 induction k using Nat.strongRecOn with
 |ind k Lc=>
 intro m;induction m using Nat.strongRecOn with
 |ind m Ag=>
 intro s a b ag aI kj br ae ad hm;have ab:=Ud kj br;have aG:=Ud kj ae;have NK:=YY ag a;have NL:=YY ag b;have uc:=fun aQ (h:gW s aQ)=>Ol h a;have nP:=fun aQ (h:gW s aQ)=>Ol h b;have qM:=fun i=>YW ag (t:=a) (i:=i);have J3:=fun i=>YW ag (t:=b) (i:=i);have key:∀(rec:List ao→T→T→Option (Option (List ao))) (o:Option (List ao)),j8 rec s (hq s a) (hq s b)=some o→(∀bG a2 b1 b2,hq s a= .pair bG a2→hq s b= .pair b1 b2→Bz V s a b o)→Bz V s a b o:=by
  intro rec o he bQ;cases ex:hq s a with
  |var i=>
   have Fs:=qM i ex;have qD:=fun aQ h=>(uc aQ h).symm.trans (by rw[ex]);cases ia:hq s b with
   |var j=>
    have xA:=J3 j ia;have pj:=fun aQ h=>(nP aQ h).symm.trans (by rw[ia]);rw[ex,ia]at he;simp only[j8]at he;have hi:i∈V:=by rw[ex]at ab;exact ab i (by simp[T.occ])
    have af:j∈V:=by rw[ia]at aG;exact aG j (by simp[T.occ])
    rcases Int.lt_trichotomy i j with h|h|h
    ·rw[if_pos h]at he;cases he;refine D4 ag kj af (by rw[ex]at ab;exact ab) xA (by simp[T.ap,A8 Fs];omega) (fun w hw=>by simp[T.ap,A8 Fs]at hw;omega) fun aQ hA=>?_;rw[qD aQ hA,pj aQ hA];simp only[T.ap];exact⟨Eq.symm,Eq.symm⟩
    ·subst h;rw[if_neg (by omega),if_pos rfl]at he;cases he;refine⟨⟨⟨ag,aI⟩,fun aQ=>⟨fun h=>⟨h,q8.2 ⟨?_,DX aQ⟩⟩,fun h=>h.1⟩⟩,fun ai e=>by cases e;exact⟨kj,.inl rfl⟩⟩;simp only;rw[qD aQ h,pj aQ h]
    ·rw[if_neg (by omega),if_neg (by omega)]at he;cases he;refine D4 ag kj hi (by rw[ia]at aG;exact aG) Fs (by simp[T.ap,A8 xA];omega) (fun w hw=>by simp[T.ap,A8 xA]at hw;omega) fun aQ hA=>?_;rw[qD aQ hA,pj aQ hA];simp only[T.ap]
   |_=>have pj:=fun aQ h=>(nP aQ h).symm.trans (by rw[ia]);rw[ex,ia]at he;simp only[j8]at he;cases he;refine D4 ag kj (by rw[ex]at ab;exact ab i (by simp[T.occ])) (by rw[ia]at aG;exact aG) Fs (by simp[T.ap]) (fun w hw=>by simp[T.ap]at hw) fun aQ hA=>?_;rw[qD aQ hA,pj aQ hA];simp only[T.ap]
  |pair bG a2=>
   cases ia:hq s b with
   |pair b1 b2=>exact bQ bG a2 b1 b2 ex ia
   |var j=>have xA:=J3 j ia;have qD:=fun aQ h=>(uc aQ h).symm.trans (by rw[ex]);have pj:=fun aQ h=>(nP aQ h).symm.trans (by rw[ia]);rw[ex,ia]at he;simp only[j8]at he;cases he;refine D4 ag kj (by rw[ia]at aG;exact aG j (by simp[T.occ])) (by rw[ex]at ab;exact ab) xA (by simp[T.ap]) (fun w hw=>by simp[T.ap]at hw) fun aQ hA=>?_;rw[qD aQ hA,pj aQ hA];simp only[T.ap];exact⟨Eq.symm,Eq.symm⟩
   |_=>have qD:=fun aQ h=>(uc aQ h).symm.trans (by rw[ex]);have pj:=fun aQ h=>(nP aQ h).symm.trans (by rw[ia]);rw[ex,ia]at he;simp only[j8]at he;simp at he;subst he;refine⟨Ew fun aQ J U=>?_,fun ai e=>by cases e⟩;have:=(q8.1 U).1;simp only at this;rw[qD aQ J,pj aQ J]at this;simp[T.ap]at this
  |_=>
   have qD:=fun aQ h=>(uc aQ h).symm.trans (by rw[ex]);cases ia:hq s b with
   |var j=>have xA:=J3 j ia;have pj:=fun aQ h=>(nP aQ h).symm.trans (by rw[ia]);rw[ex,ia]at he;simp only[j8]at he;cases he;refine D4 ag kj (by rw[ia]at aG;exact aG j (by simp[T.occ])) (by rw[ex]at ab;exact ab) xA (by simp[T.ap]) (fun w hw=>by simp[T.ap]at hw) fun aQ hA=>?_;rw[qD aQ hA,pj aQ hA];simp only[T.ap];exact⟨Eq.symm,Eq.symm⟩
   |_=>
    have pj:=fun aQ h=>(nP aQ h).symm.trans (by rw[ia]);rw[ex,ia]at he;simp only[j8,dM]at he;split at he
    ·rename_i e;subst he;refine⟨⟨⟨ag,aI⟩,fun aQ=>⟨fun h=>⟨h,q8.2 ⟨?_,DX aQ⟩⟩,fun h=>h.1⟩⟩,fun ai e=>by cases e;exact⟨kj,.inl rfl⟩⟩;simp only;rw[qD aQ h,pj aQ h];try rw[e]
    ·rename_i e;subst he;refine⟨Ew fun aQ J U=>?_,fun ai e=>by cases e⟩;have:=(q8.1 U).1;simp only at this;rw[qD aQ J,pj aQ J]at this;simp[T.ap]at this e;try exact e this
 by_cases F4:∃bG a2 b1 b2,hq s a= .pair bG a2∧hq s b= .pair b1 b2
 ·obtain⟨bG,a2,b1,b2,ex,ia⟩:=F4;have ep:(bG.ap (b7 s)).size+(b1.ap (b7 s)).size<m∧(a2.ap (b7 s)).size+(b2.ap (b7 s)).size<m:=by rw[ex]at NK;rw[ia]at NL;simp only[T.ap]at NK NL;rw[←hm,←NK,←NL];simp only[T.size];omega
  have ld:p9 V bG:=fun w hw=>by rw[ex]at ab;exact ab w (by simp[T.occ,hw])
  have p3:p9 V a2:=fun w hw=>by rw[ex]at ab;exact ab w (by simp[T.occ,hw])
  have lE:p9 V b1:=fun w hw=>by rw[ia]at aG;exact aG w (by simp[T.occ,hw])
  have pE:p9 V b2:=fun w hw=>by rw[ia]at aG;exact aG w (by simp[T.occ,hw])
  have Te:∀aQ,(gW s aQ∧jJ ([(bG,b1)]++[(a2,b2)]) aQ)↔(gW s aQ∧jJ [(a,b)] aQ):=fun aQ=>and_congr_right fun h=>by simp only[List.singleton_append,q8,DX,and_true];rw[←uc aQ h,←nP aQ h,ex,ia];simp[T.ap]
  obtain⟨ic,gG,ak,cQ⟩:=Ag _ ep.1 s bG b1 ag aI kj ld lE ad rfl;cases gG with
  |none=>refine⟨ic+1,none,?_,BA Te (Iz _ cQ.1),fun ai e=>by cases e⟩;simp only[kP,ex,ia,j8,ak]
  |some s1=>
   obtain⟨v1,v2⟩:=cQ.2 s1 rfl;have CI:∃fW gD,kP fW s1 a2 b2=some gD∧Bz V s1 a2 b2 gD:=by
    rcases v2 with rfl|v2
    ·exact Ag _ ep.2 _ a2 b2 ag aI kj p3 pE ad rfl
    ·exact Lc _ (by omega) _ s1 a2 b2 cQ.1.1.1 cQ.1.1.2 v1 p3 pE rfl rfl
   obtain⟨fW,gD,aC,dy⟩:=CI;refine⟨max ic fW+1,gD,?_,BA Te (OL cQ.1 dy.1),fun ai e=>?_⟩
   ·simp only[kP,ex,ia,j8,D3 (Nat.le_max_left ic fW) ak];exact D3 (Nat.le_max_right ic fW) aC
   ·obtain⟨eP,dC⟩:=dy.2 ai e;refine⟨eP,?_⟩;rcases v2 with rfl|v2
    ·exact dC
    ·rcases dC with rfl|dC
     ·exact .inr v2
     ·exact .inr (by omega)
 ·have TK:∀bG a2 b1 b2,hq s a= .pair bG a2→hq s b= .pair b1 b2→eA:=fun bG a2 b1 b2 J U=>F4 ⟨bG,a2,b1,b2,J,U⟩;have:∃o,j8 (kP 0) s (hq s a) (hq s b)=some o:=by cases ex:hq s a<;>cases ia:hq s b<;>simp only[j8]<;>first|exact⟨_,rfl⟩|exact(TK _ _ _ _ ex ia).elim
  obtain⟨o,ax⟩:=this;exact⟨1,o,ax,key _ o ax fun bG a2 b1 b2 J U=>(TK bG a2 b1 b2 J U).elim⟩
def tg{α:Type}(k:Int):List (Int×α)→Option α
 |[]=>none
 |(i,v)::r=>if k=i then some v else tg k r
def e0{α:Type}(k:Int)(v:α):List (Int×α)→List (Int×α)
 |[]=>[(k,v)]
 |(i,w)::r=>if k=i then(i,v)::r else(i,w)::e0 k v r
def cv{α:Type}(m:List (Int×α)):List Int:=m.map (·.1)
theorem nJ{α:Type}(k:Int)(v:α)(j:Int):∀m:List (Int×α),tg j (e0 k v m)=if j=k then some v else tg j m
 |[]=>by simp only[e0,tg]
 |(i,w)::r=>by
  simp only[e0];by_cases h:k=i
  ·subst h;by_cases U:j=k<;>simp[tg,U]
  ·by_cases U:j=i
   ·subst U;have:¬j=k:=fun e=>h e.symm;simp[tg,h,this]
   ·simp[tg,h,U,nJ k v j r]
theorem H0{α:Type}{k:Int}:∀{m:List (Int×α)},(tg k m).isSome=true↔k∈cv m
 |[]=>by simp[tg,cv]
 |(i,w)::r=>by
  simp only[tg,cv,gS,gf];by_cases h:k=i
  ·simp[h]
  ·simp only[h,if_false,false_or];exact H0
theorem am4{α:Type}{k:Int}{m:List (Int×α)}:tg k m=none↔k∉cv m:=by rw[←H0];cases tg k m<;>simp
theorem C1{α:Type}{k:Int}{v:α}:∀{m:List (Int×α)},k∈cv m→cv (e0 k v m)=cv m
 |[],h=>by simp[cv]at h
 |(i,w)::r,h=>by
  simp only[e0];by_cases e:k=i
  ·simp[e,cv]
  ·rw[if_neg e];have cx:k∈cv r:=by simpa[cv,e]using h
   have:=C1 (v:=v) cx;simp only[cv]at this⊢;simp[this]
theorem UF{α:Type}{k:Int}{v:α}:∀{m:List (Int×α)},k∉cv m→cv (e0 k v m)=cv m++[k]
 |[],h=>by simp[cv,e0]
 |(i,w)::r,h=>by have e:¬k=i:=fun e=>h (by simp[cv,e]);have cx:k∉cv r:=fun ad=>h (by simp[cv]at ad⊢;exact .inr ad);have:=UF (v:=v) cx;simp only[e0,if_neg e];simp only[cv]at this⊢;simp[this]
structure bA where
 up:List (Int×Int)
 shape:List (Int×T)
 shaped:List (Int×Bool)
 color:List (Int×Int)
 size:List (Int×Int)
 full:List (Int×T)
def bA.shd(c:bA)(x:Int):Bool:=(tg x c.shaped).getD false
def bA.shp(c:bA)(x:Int):T:=(tg x c.shape).getD .nil
def bA.col(c:bA)(x:Int):Int:=(tg x c.color).getD 0
def bA.sz(c:bA)(x:Int):Int:=(tg x c.size).getD 0
def jf(m:List (Int×Int))(v:Int):Int:=(tg v m).getD 0
def wU:Nat→List (Int×Int)→Int→Option (Int×List (Int×Int))
 |0,_,_=>none
 |n+1,m,v=>if jf m v=v then some (v,m)else wU n (e0 v (jf m (jf m v)) m) (jf (e0 v (jf m (jf m v)) m) v)
def y8(v:Int)(m:List (Int×Int)):List (Int×Int):=if(tg v m).isSome then m else e0 v v m
def rt(c:bA)(v:Int):Option (Int×bA):=(wU (v.toNat+1) (y8 v c.up) v).map fun p=>(p.1,{c with up:=p.2})
def T.foldO{α:Type}(f:Int→α→Option α):T→α→Option α
 | .var n,a=>f n a
 | .pair x y,a=>(x.foldO f a).bind (y.foldO f)
 |_,a=>some a
def T.mapO{α:Type}(f:Int→α→Option (T×α)):T→α→Option (T×α)
 | .var n,a=>f n a
 | .pair x y,a=>(x.mapO f a).bind fun p=>(y.mapO f p.2).map fun q=>(.pair p.1 q.1,q.2)
 |t,a=>some (t,a)
def T.sizeO{α:Type}(f:Int→α→Option (Int×α)):T→α→Option (Int×α)
 | .var n,a=>(f n a).map fun p=>(if 5001<p.1 then 5001 else p.1,p.2)
 | .pair x y,a=>(x.sizeO f a).bind fun p=>if 5000<p.1 then some p else(y.sizeO f p.2).map fun q=>(if 5001<1+p.1+q.1 then 5001 else 1+p.1+q.1,q.2)
 |_,a=>some (1,a)
def Au(t:T)(c:bA):Option bA:=t.foldO (fun v c=>(rt c v).map (·.2)) c
structure tU where
 c:bA
 seen:List (Int×Bool)
 found:Bool
def wT(rec:T→bA→List (Int×Bool)→Option tU)(x:Int)(v:Int)(a:tU):Option tU:=
 (rt a.c v).bind fun p=>if a.found=true∨p.1=x then some ⟨p.2,a.seen,true⟩
  else if(tg p.1 a.seen).getD false=false∧p.2.shd p.1=true then rec (p.2.shp p.1) p.2 (e0 p.1 true a.seen)
  else some ⟨p.2,a.seen,a.found⟩
def pO:Nat→Int→T→bA→List (Int×Bool)→Option tU
 |0,_,_,_,_=>none
 |n+1,x,t,c,seen=>t.foldO (wT (pO n x) x) ⟨c,seen,false⟩
def bA.know(c:bA)(x:Int)(t:T):bA:={c with shape:=e0 x t c.shape,shaped:=e0 x true c.shaped}
def uU(n:Nat)(x:Int)(t:T)(c:bA):Option (Bool×bA):=(pO n x t (c.know x t) []).map fun a=>(!a.found,a.c)
def bA.join(c:bA)(x y:Int):bA:={c with up:=e0 y x c.up}
def rv(rec:T→T→bA→Option (Bool×bA))(n:Nat)(x y:Int)(c:bA):Option (Bool×bA):=
 if c.shd y=false then
  (if c.shd x=false then some (true,c)else(pO n x (c.shp x) c []).map fun a=>(!a.found,a.c))
 else if c.shd x=false then uU n x (c.shp y) c
 else(pO n x (c.shp y) c []).bind fun a=>if a.found=true then some (false,a.c)else
  (pO n x (a.c.shp x) a.c []).bind fun b=>if b.found=true then some (false,b.c)else rec (b.c.shp x) (c.shp y) b.c
def gB:Nat→T→T→bA→Option (Bool×bA)
 |0,_,_,_=>none
 |n+1,.var i,.var j,c=>(rt c i).bind fun p=>(rt p.2 j).bind fun q=>if p.1=q.1 then some (true,q.2)else if q.1<p.1 then rv (gB n) n q.1 p.1 (q.2.join q.1 p.1)else rv (gB n) n p.1 q.1 (q.2.join p.1 q.1)
 |n+1,.var i,b,c=>(rt c i).bind fun p=>if p.2.shd p.1=false then uU n p.1 b p.2 else gB n (p.2.shp p.1) b p.2
 |n+1,a,.var j,c=>gB n (.var j) a c
 |n+1,.pair bG a2,.pair b1 b2,c=>(gB n bG b1 c).bind fun p=>if p.1=true then gB n a2 b2 p.2 else some (false,p.2)
 |_+1,a,b,c=>some (decide (a=b),c)
structure jI (m:List (Int×Int)) (ρ:Int→Int):Prop where
 up:∀v u,tg v m=some u→(0≤u∧u≤v∧u∈cv m)∧ρ u=ρ v∧(ρ v=v↔u=v)
 no:∀v,v∉cv m→ρ v=v
theorem jI.get{m:List (Int×Int)}{ρ:Int→Int}(h:jI m ρ){v:Int}(aK:v∈cv m):∃u,tg v m=some u∧jf m v=u:=by have:=H0.2 aK;obtain⟨u,hu⟩:=fE.1 this;exact⟨u,hu,by simp[jf,hu]⟩
theorem jI.root{m:List (Int×Int)}{ρ:Int→Int}(h:jI m ρ):∀(n:Nat) (v:Int),v.toNat≤n→(ρ v≤v∧ρ (ρ v)=ρ v∧(v∈cv m→ρ v∈cv m∧0≤ρ v)):=by
 intro n;induction n using Nat.strongRecOn with
 |ind n bZ=>
 intro v au;by_cases aK:v∈cv m
 ·obtain⟨u,J,_⟩:=h.get aK;obtain⟨⟨bG,a2,a3⟩,a4,a5⟩:=h.up v u J;by_cases e:u=v
  ·have:=a5.2 e;subst e;rw[this];exact⟨by omega,this,fun _=>⟨a3,bG⟩⟩
  ·obtain⟨b1,b2,fN⟩:=bZ (u.toNat) (by omega) u (by omega);rw[←a4];exact⟨by omega,b2,fun _=>fN a3⟩
 ·have:=h.no v aK;rw[this];exact⟨by omega,this,fun h=>absurd h aK⟩
theorem jI.le{m:List (Int×Int)}{ρ:Int→Int}(h:jI m ρ)(v:Int):ρ v≤v:=(h.root v.toNat v (eY _)).1
theorem jI.idem{m:List (Int×Int)}{ρ:Int→Int}(h:jI m ρ)(v:Int):ρ (ρ v)=ρ v:=(h.root v.toNat v (eY _)).2.1
theorem jI.mem{m:List (Int×Int)}{ρ:Int→Int}(h:jI m ρ){v:Int}(aK:v∈cv m):ρ v∈cv m∧0≤ρ v:=(h.root v.toNat v (eY _)).2.2 aK
theorem Xy{ρ:Int→Int}:∀(n:Nat) (m:List (Int×Int)) (v:Int),jI m ρ→v∈cv m→v.toNat<n→∃gz,wU n m v=some (ρ v,gz)∧jI gz ρ∧cv gz=cv m
 |0,_,_,_,_,au=>by omega
 |n+1,m,v,h,aK,au=>by
  obtain⟨u,J,U⟩:=h.get aK;obtain⟨⟨bG,a2,a3⟩,a4,a5⟩:=h.up v u J;simp only[wU,U];by_cases e:u=v
  ·rw[if_pos e];have:=a5.2 e;exact⟨m,by rw[this],h,rfl⟩
  ·rw[if_neg e];obtain⟨x,g1,g2⟩:=h.get a3;obtain⟨⟨b1,b2,fN⟩,ov,O2⟩:=h.up u x g1;rw[g2];have ad:=C1 (v:=x) aK;have ma:jI (e0 v x m) ρ:=by
    refine⟨fun w y hw=>?_,fun w hw=>h.no w (by rw[ad]at hw;exact hw)⟩;rw[nJ]at hw;rw[ad];by_cases ew:w=v
    ·subst ew;rw[if_pos rfl]at hw;cases hw;refine⟨⟨b1,by omega,fN⟩,by rw[ov,a4],⟨fun aM=>absurd (a5.1 aM) e,fun ab=>?_⟩⟩;have:u=w:=by omega
     exact absurd this e
    ·rw[if_neg ew]at hw;exact h.up w y hw
   have agE:jf (e0 v x m) v=x:=by simp[jf,nJ]
   rw[agE];obtain⟨gz,bN,cq,dj⟩:=Xy n (e0 v x m) x ma (by rw[ad];exact fN) (by omega);exact⟨gz,by rw[bN,ov,a4],cq,by rw[dj,ad]⟩
structure iS (ρ:Int→Int) (c ct:bA):Prop where
 ru:jI ct.up ρ
 keys:cv ct.up=cv c.up
 eq:ct={c with up:=ct.up}
theorem iS.refl{ρ:Int→Int}{c:bA}(h:jI c.up ρ):iS ρ c c:=⟨h,rfl,rfl⟩
theorem iS.trans{ρ:Int→Int}{a b c:bA}(h:iS ρ a b)(k:iS ρ b c):iS ρ a c:=⟨k.ru,k.keys.trans h.keys,by rw[k.eq,h.eq]⟩
theorem iS.shd{ρ:Int→Int}{c ct:bA}(h:iS ρ c ct)(x:Int):ct.shd x=c.shd x:=by rw[h.eq];rfl
theorem iS.shp{ρ:Int→Int}{c ct:bA}(h:iS ρ c ct)(x:Int):ct.shp x=c.shp x:=by rw[h.eq];rfl
theorem tD{ρ:Int→Int}{c:bA}{v:Int}(h:jI c.up ρ)(aK:v∈cv c.up):∃ct,rt c v=some (ρ v,ct)∧iS ρ c ct:=by
 have br:y8 v c.up=c.up:=by simp[y8,H0.2 aK]
 obtain⟨gz,J,U,ar⟩:=Xy (v.toNat+1) c.up v h aK (by omega);exact⟨{c with up:=gz},by simp[rt,br,J],⟨U,ar,rfl⟩⟩
theorem amc{ρ:Int→Int}{c:bA}{v:Int}(h:jI c.up ρ)(bD:0≤v)(aK:v∉cv c.up):rt c v=some (v,{c with up:=e0 v v c.up})∧jI (e0 v v c.up) ρ∧cv (e0 v v c.up)=cv c.up++[v]:=by
 have au:=am4.2 aK;have ad:=UF (v:=v) aK;refine⟨?_,⟨fun w u hw=>?_,fun w hw=>h.no w fun hm=>hw (by rw[ad];simp[hm])⟩,ad⟩
 ·simp[rt,y8,au,wU,jf,nJ]
 ·rw[nJ]at hw;rw[ad];by_cases e:w=v
  ·subst e;rw[if_pos rfl]at hw;cases hw;exact⟨⟨bD,by omega,by simp⟩,rfl,⟨fun _=>rfl,fun _=>h.no _ aK⟩⟩
  ·rw[if_neg e]at hw;obtain⟨⟨bG,a2,a3⟩,a4⟩:=h.up w u hw;exact⟨⟨bG,a2,by simp[a3]⟩,a4⟩
def bA.ph(c:bA)(x:Int):Option T:=if c.shd x then some (c.shp x)else none
theorem iS.ph{ρ:Int→Int}{c ct:bA}(h:iS ρ c ct):ct.ph=c.ph:=by funext x;simp only[bA.ph,h.shd,h.shp]
def kf(ph:Int→Option T)(ρ:Int→Int)(aQ:Int→T):Prop:=(∀v,aQ v=aQ (ρ v))∧∀x t,ρ x=x→ph x=some t→aQ x=t.ap aQ
def jg(ph:Int→Option T)(ρ:Int→Int)(z u:Int):Prop:=ρ z=z∧∃t w,ph z=some t∧t.occ w=true∧ρ w=u
inductive mX (E:Int→Int→Prop):Int→Int→Prop
 |refl (a:Int):mX E a a
 |step {a b c:Int}:E a b→mX E b c→mX E a c
def ou(V:List Int)(ph:Int→Option T):Prop:= ∀x t,ph x=some t→t.kind≠1∧(∀w,t.occ w=true→w∈V)∧x∈V
def H6(V:List Int)(ph:Int→Option T)(seen:List (Int×Bool)):Nat:=(V.filter fun v=>(ph v).isSome&& !((tg v seen).getD false)).length
def mG(seen:List (Int×Bool))(z:Int):Prop:=(tg z seen).getD false=true
structure Zo (V:List Int) (ph:Int→Option T) (ρ:Int→Int) (x:Int) (occ:Int→Prop) (a bp:tU):Prop where
 sm:iS ρ a.c bp.c
 sub:∀z,mG a.seen z→mG bp.seen z
 yes:bp.found=true→a.found=true∨ ∃w,occ w∧mX (jg ph ρ) (ρ w) x
 kept:a.found=true→bp.found=true
 no:bp.found=false→(∀w,occ w→ρ w≠x∧((ph (ρ w)).isSome=true→mG bp.seen (ρ w)))∧∀r,mG bp.seen r→¬mG a.seen r→∀u,jg ph ρ r u→u≠x∧((ph u).isSome=true→mG bp.seen u)
theorem Ft{α:Type}{p q:α→Bool}:∀{V:List α},(∀x∈V,q x=true→p x=true)→(V.filter q).length≤(V.filter p).length
 |[],_=>by simp
 |y::V,h=>by have:=Ft (p:=p) (q:=q) (V:=V) fun x ab=>h x (by simp[ab]);have aG:=h y (by simp);simp only[List.filter_cons];cases e:q y<;>cases aC:p y<;>simp_all<;>omega
theorem Fu{α:Type}{p q:α→Bool}{v:α}:∀{V:List α},(∀x∈V,q x=true→p x=true)→v∈V→p v=true→q v=false→(V.filter q).length<(V.filter p).length
 |[],_,h,_,_=>by simp at h
 |x::V,h,aK,bQ,bh=>by
  have hle:=Ft (p:=p) (q:=q) (V:=V) fun x ab=>h x (pa _ ab);simp only[List.filter_cons];rcases gf.1 aK with rfl|aK
  ·simp[bQ,bh];omega
  ·have:=Fu (fun x ab=>h x (pa _ ab)) aK bQ bh;have ab:=h x (by simp);cases e:q x<;>cases aC:p x<;>simp_all<;>omega
theorem anb{V:List Int}{ph:Int→Option T}{s ai:List (Int×Bool)}(h:∀z,mG s z→mG ai z):H6 V ph ai≤H6 V ph s:=
 Ft fun x _ ab=>by
  simp only[cE,sx]at ab⊢;refine⟨ab.1,?_⟩;cases e:(tg x s).getD false with
  |false=>rfl
  |true=>have:=h x e;unfold mG at this;rw[ab.2]at this;cases this
theorem Ld{s:List (Int×Bool)}{r z:Int}:mG (e0 r true s) z↔z=r∨mG s z:=by unfold mG;rw[nJ];by_cases h:z=r<;>simp[h]
theorem al2{V:List Int}{ph:Int→Option T}{ρ:Int→Int}{x:Int}(gE:ou V ph)(k:Nat):∀(t:T) (a:tU),jI a.c.up ρ→cv a.c.up=V→a.c.ph=ph→(∀w,t.occ w=true→w∈V)→H6 V ph a.seen≤k→
  ∃N bp,(∀n,N≤n→t.foldO (wT (pO n x) x) a=some bp)∧Zo V ph ρ x (fun w=>t.occ w=true) a bp:=by
 induction k using Nat.strongRecOn with
 |ind k Lc=>
 intro t;induction t with
 |var v=>
  intro a ma ad jz aL CN;obtain⟨bN,J,U⟩:=tD ma (by rw[ad];exact aL v (by simp[T.occ]));have mc:bN.shd (ρ v)=(ph (ρ v)).isSome:=by rw[U.shd,←jz];simp only[bA.ph];split<;>simp_all
  by_cases aI:a.found=true∨ρ v=x
  ·refine⟨0,⟨bN,a.seen,true⟩,fun n _=>by simp[T.foldO,wT,J,aI],U,fun z bq=>bq,fun _=>?_,fun _=>rfl,fun h=>by cases h⟩;rcases aI with aI|aI
   ·exact .inl aI
   ·exact .inr ⟨v,by simp[T.occ],by rw[aI];exact .refl _⟩
  ·by_cases ag:(tg (ρ v) a.seen).getD false=false∧bN.shd (ρ v)=true
   ·have F3:ph (ρ v)=some (bN.shp (ρ v)):=by rw[←jz];simp only[bA.ph,U.shp];rw[if_pos (by rw[←U.shd];exact ag.2)]
    obtain⟨g1,g2,g3⟩:=gE _ _ F3;have bE:H6 V ph (e0 (ρ v) true a.seen)<k:=by
     refine Nat.lt_of_lt_of_le (Fu (v:=ρ v) (fun z _ bq=>?_) g3 ?_ ?_) CN
     ·simp only[cE,sx]at bq⊢;refine⟨bq.1,?_⟩;rw[nJ]at bq;by_cases e:z=ρ v
      ·subst e;exact ag.1
      ·rw[if_neg e]at bq;exact bq.2
     ·simp[F3,ag.1]
     ·simp[nJ]
    obtain⟨N,bp,ak,cQ⟩:=Lc _ bE (bN.shp (ρ v)) ⟨bN,e0 (ρ v) true a.seen,false⟩ U.ru (by rw[U.keys];exact ad) (by rw[U.ph];exact jz) g2 (eY _);refine⟨N+1,bp,fun n au=>?_,U.trans cQ.sm,fun z bq=>cQ.sub z (Ld.2 (.inr bq)),fun aG=>?_,fun h=>absurd (.inl h) aI,fun dt=>?_⟩
    ·obtain⟨n',rfl⟩:∃n',n=n'+1:=⟨n-1,by omega⟩;simp only[T.foldO,wT,J,ju,if_neg aI,if_pos ag,pO];exact ak n' (by omega)
    ·rcases cQ.yes aG with h|⟨w,a7,bF⟩
     ·cases h
     ·exact .inr ⟨v,by simp[T.occ],.step ⟨by rw[jI.idem ma],_,w,F3,a7,rfl⟩ bF⟩
    ·obtain⟨a7,bF⟩:=cQ.no dt;have jx:mG bp.seen (ρ v):=cQ.sub _ (Ld.2 (.inl rfl));refine⟨fun w hw=>?_,fun r aM dp u hu=>?_⟩
     ·simp[T.occ]at hw;subst hw;exact⟨fun e=>aI (.inr e),fun _=>jx⟩
     ·by_cases qK:r=ρ v
      ·subst qK;obtain⟨_,dE,w,k6,z2,rfl⟩:=hu;rw[F3]at k6;cases k6;exact a7 w z2
      ·exact bF r aM (fun h=>(Ld.1 h).elim qK dp) u hu
   ·have Cp:a.found=false:=by cases e:a.found with
     |false=>rfl
     |true=>exact absurd (.inl e) aI
    refine⟨0,⟨bN,a.seen,a.found⟩,fun n _=>by simp only[T.foldO,wT,J,ju,if_neg aI,if_neg ag],U,fun z bq=>bq,fun h=>.inl h,fun h=>h,fun _=>⟨fun w hw=>?_,fun r J U=>absurd J U⟩⟩;simp[T.occ]at hw;subst hw;refine⟨fun e=>aI (.inr e),fun bQ=>?_⟩;unfold mG;cases e:(tg (ρ v) a.seen).getD false with
    |true=>rfl
    |false=>exact absurd ⟨e,by rw[mc];exact bQ⟩ ag
 |pair p q agW agX=>
  intro a ma ad jz aL CN;obtain⟨hP,bG,ak,cQ⟩:=agW a ma ad jz (fun w hw=>aL w (by simp[T.occ,hw])) CN;obtain⟨ji,a2,aC,dy⟩:=agX bG cQ.sm.ru (by rw[cQ.sm.keys];exact ad) (by rw[cQ.sm.ph];exact jz) (fun w hw=>aL w (by simp[T.occ,hw])) (kc (anb cQ.sub) CN);refine⟨max hP ji,a2,fun n au=>by simp only[T.foldO];rw[ak n (by omega)];exact aC n (by omega),cQ.sm.trans dy.sm,fun z bq=>dy.sub z (cQ.sub z bq),fun aG=>?_,fun h=>dy.kept (cQ.kept h),fun dt=>?_⟩
  ·rcases dy.yes aG with h|⟨w,a7,bF⟩
   ·rcases cQ.yes h with h|⟨w,a7,bF⟩
    ·exact .inl h
    ·exact .inr ⟨w,by simp[T.occ,a7],bF⟩
   ·exact .inr ⟨w,by simp[T.occ,a7],bF⟩
  ·have ae2:bG.found=false:=by cases e:bG.found with
    |false=>rfl
    |true=>have:=dy.kept e;rw[dt]at this;cases this
   obtain⟨cN,dx⟩:=cQ.no ae2;obtain⟨s1,s2⟩:=dy.no dt;refine⟨fun w hw=>?_,fun r aM dp u hu=>?_⟩
   ·simp only[T.occ,mT]at hw;rcases hw with hw|hw
    ·exact⟨(cN w hw).1,fun h=>dy.sub _ ((cN w hw).2 h)⟩
    ·exact s1 w hw
   ·by_cases h:mG bG.seen r
    ·exact⟨(dx r h dp u hu).1,fun cP=>dy.sub _ ((dx r h dp u hu).2 cP)⟩
    ·exact s2 r aM h u hu
 |_=>intro a ma ad jz aL CN;exact⟨0,a,fun n _=>rfl,iS.refl ma,fun z bq=>bq,fun h=>.inl h,fun h=>h,fun _=>⟨fun w hw=>by simp[T.occ]at hw,fun r J U=>absurd J U⟩⟩
theorem Ht{ρ:Int→Int}{x:Int}{c:bA}{t:T}(ma:jI c.up ρ)(gE:ou (cv c.up) c.ph)(aL:∀w,t.occ w=true→w∈cv c.up):
  ∃N a,(∀n,N≤n→pO n x t c []=some a)∧iS ρ c a.c∧(a.found=true↔∃w,t.occ w=true∧mX (jg c.ph ρ) (ρ w) x):=by
 obtain⟨N,a,J,U⟩:=al2 (x:=x) gE _ t ⟨c,[],false⟩ ma rfl rfl aL (eY _);refine⟨N+1,a,fun n au=>?_,U.sm,fun h=>?_,fun⟨w,hw,aM⟩=>?_⟩
 ·obtain⟨n',rfl⟩:∃n',n=n'+1:=⟨n-1,by omega⟩;exact J n' (by omega)
 ·rcases U.yes h with h|h
  ·cases h
  ·exact h
 ·cases e:a.found with
  |true=>rfl
  |false=>
   obtain⟨a7,bF⟩:=U.no e;have key:∀z,mX (jg c.ph ρ) z x→z≠x→((c.ph z).isSome=true→mG a.seen z)→eA:=by
    have:∀z y,mX (jg c.ph ρ) z y→y=x→z≠x→((c.ph z).isSome=true→mG a.seen z)→eA:=by
     intro z y aG;induction aG with
     |refl z=>intro h cx;exact absurd h cx
     | @step z b ct he _ bZ=>intro ab cH jx;obtain⟨_,dE,w',k6,_,_⟩:=id he;have ag:=jx (by simp[k6]);obtain⟨g1,g2⟩:=bF z ag (by simp[mG,tg]) b he;exact bZ ab g1 g2
    exact fun z bq=>this z x bq rfl
   exact(key _ aM (a7 w hw).1 (a7 w hw).2).elim
end Go.Pv
namespace Go.Pv
open Go
theorem Zz{E:Int→Int→Prop}{x:Int}{r:Int→Nat}{M:Nat}(h:∀z u,z≠x→E z u→r u<r z)(ec:∀u,E x u→r u<M)(au:∀u,E x u→¬mX E u x):∃eS:Int→Nat,∀z u,E z u→eS u<eS z:=by
 classical
 refine⟨fun z=>if mX E z x then r z+M else r z,fun z u he=>?_⟩;show(if mX E u x then r u+M else r u)<(if mX E z x then r z+M else r z);by_cases bq:z=x
 ·subst bq;have J:=au u he;have U:=ec u he;rw[if_neg J,if_pos (mX.refl z)];omega
 ·have J:=h z u bq he;by_cases hu:mX E u x
  ·rw[if_pos hu,if_pos (mX.step he hu)];omega
  ·rw[if_neg hu];split<;>omega
def nh(ph:Int→Option T)(ρ:Int→Int):Nat→Int→T
 |0,v=>.var (ρ v)
 |n+1,v=>match ph (ρ v)with
  |none=>.var (ρ v)
  |some t=>t.ap (nh ph ρ n)
section
variable {ph:Int→Option T} {ρ:Int→Int} {r:Int→Nat}
theorem ab2(e2:∀v,ρ (ρ v)=ρ v):∀(n:Nat) (v:Int),nh ph ρ n v=nh ph ρ n (ρ v)
 |0,v=>by simp[nh,e2]
 |n+1,v=>by simp[nh,e2]
theorem RV(e2:∀v,ρ (ρ v)=ρ v)(aM:∀z u,jg ph ρ z u→r u<r z):∀(n:Nat) (v:Int),r (ρ v)<n→nh ph ρ n v=nh ph ρ (n+1) v
 |0,_,h=>by omega
 |n+1,v,h=>by
  show(match ph (ρ v)with|none=>T.var (ρ v)|some t=>t.ap (nh ph ρ n))=(match ph (ρ v)with|none=>T.var (ρ v)|some t=>t.ap (nh ph ρ (n+1)));cases e:ph (ρ v)with
  |none=>rfl
  |some t=>refine ub fun w hw=>RV e2 aM n w ?_;have:=aM (ρ v) (ρ w) ⟨e2 v,t,w,e,hw,rfl⟩;omega
theorem RU(e2:∀v,ρ (ρ v)=ρ v)(aM:∀z u,jg ph ρ z u→r u<r z){n:Nat}{v:Int}(h:r (ρ v)<n):∀k,nh ph ρ (n+k) v=nh ph ρ n v
 |0=>rfl
 |k+1=>by rw[←RU e2 aM h k];exact(RV e2 aM (n+k) v (by omega)).symm
def gX(ph:Int→Option T)(ρ:Int→Int)(r:Int→Nat)(v:Int):T:=nh ph ρ (r (ρ v)+1) v
theorem zz(e2:∀v,ρ (ρ v)=ρ v)(v:Int):gX ph ρ r v=gX ph ρ r (ρ v):=by unfold gX;rw[ab2 e2,e2]
theorem B8{v:Int}(h:ph (ρ v)=none):gX ph ρ r v= .var (ρ v):=by simp[gX,nh,h]
theorem zA(e2:∀v,ρ (ρ v)=ρ v)(aM:∀z u,jg ph ρ z u→r u<r z){v:Int}{t:T}(h:ph (ρ v)=some t):gX ph ρ r v=t.ap (gX ph ρ r):=by show nh ph ρ (r (ρ v)+1) v=_;simp only[nh,h];refine ub fun w hw=>?_;have J:=aM (ρ v) (ρ w) ⟨e2 v,t,w,h,hw,rfl⟩;have:=RU e2 aM (n:=r (ρ w)+1) (v:=w) (by omega) (r (ρ v)-(r (ρ w)+1));rw[show r (ρ w)+1+(r (ρ v)-(r (ρ w)+1))=r (ρ v)from by omega]at this;exact this
theorem ae0(e2:∀v,ρ (ρ v)=ρ v)(aM:∀z u,jg ph ρ z u→r u<r z):kf ph ρ (gX ph ρ r):=⟨zz e2,fun x t ab h=>zA e2 aM (by rw[ab];exact h)⟩
theorem HV{V:List Int}(gE:ou V ph){aQ:Int→T}(h:kf ph ρ aQ){z u:Int}(he:jg ph ρ z u):(aQ u).size<(aQ z).size:=by obtain⟨J,t,w,U,ar,rfl⟩:=he;rw[h.2 z t J U,←h.1 w];exact(AH aQ ar).2 (gE z t U).1
theorem HW{V:List Int}(gE:ou V ph){aQ:Int→T}(h:kf ph ρ aQ){z u:Int}(he:mX (jg ph ρ) z u):(aQ u).size≤(aQ z).size:=by
 induction he with
 |refl=>exact eY _
 |step J _ bZ=>have:=HV gE h J;omega
end
theorem Z0(r:Int→Nat)(t:T):∃M,∀w,t.occ w=true→r w<M:=by
 induction t with
 |var n=>exact⟨r n+1,fun w hw=>by simp[T.occ]at hw;subst hw;omega⟩
 |pair a b dW dX=>
  obtain⟨Zk,J⟩:=dW;obtain⟨Zl,U⟩:=dX;refine⟨Zk+Zl,fun w hw=>?_⟩;simp only[T.occ,mT]at hw;rcases hw with hw|hw
  ·have:=J w hw;omega
  ·have:=U w hw;omega
 |_=>exact⟨0,fun w hw=>by simp[T.occ]at hw⟩
theorem DO{ph:Int→Option T}{ρ:Int→Int}(e2:∀v,ρ (ρ v)=ρ v){x:Int}{r:Int→Nat}(h:∀z u,z≠x→jg ph ρ z u→r u<r z)(au:∀u,jg ph ρ x u→¬mX (jg ph ρ) u x):∃aQ,kf ph ρ aQ:=by
 have ec:∃M,∀u,jg ph ρ x u→r u<M:=by
  cases e:ph x with
  |none=>exact⟨0,fun u ⟨_,t,w,J,_⟩=>by rw[e]at J;cases J⟩
  |some t=>obtain⟨M,ec⟩:=Z0 (fun w=>r (ρ w)) t;refine⟨M,fun u ⟨_,dE,w,J,U,ar⟩=>?_⟩;rw[e]at J;cases J;subst ar;exact ec w U
 obtain⟨M,ec⟩:=ec;obtain⟨eS,dp⟩:=Zz h ec au;exact⟨_,ae0 e2 dp⟩
structure lZ (c:bA) (ρ:Int→Int):Prop where
 ru:jI c.up ρ
 sh:ou (cv c.up) c.ph
 sat:∃aQ,kf c.ph ρ aQ
theorem lZ.sm{c ct:bA}{ρ:Int→Int}(h:lZ c ρ)(k:iS ρ c ct):lZ ct ρ:=⟨k.ru,by rw[k.keys,k.ph];exact h.sh,by rw[k.ph];exact h.sat⟩
def iE(c:bA)(ρ:Int→Int):Nat:=((cv c.up).filter fun v=>decide (ρ v=v)).length+((cv c.up).filter fun v=>decide (ρ v=v)&& !(c.ph v).isSome).length
theorem xd{c ct:bA}{ρ:Int→Int}(k:iS ρ c ct):iE ct ρ=iE c ρ:=by unfold iE;rw[k.keys,k.ph]
structure jh (c:bA) (ρ:Int→Int) (p:(Int→T)→Prop) (o:Bool×bA):Prop where
 keys:cv o.2.up=cv c.up
 rest:o.2.color=c.color∧o.2.size=c.size∧o.2.full=c.full
 yes:o.1=true→∃ρ',lZ o.2 ρ'∧(∀aQ,kf o.2.ph ρ' aQ↔kf c.ph ρ aQ∧p aQ)∧((ρ'=ρ∧o.2.ph=c.ph)∨iE o.2 ρ'<iE c ρ)
 no:o.1=false→∀aQ,kf c.ph ρ aQ→¬p aQ
theorem iS.rest{ρ:Int→Int}{c ct:bA}(h:iS ρ c ct):ct.color=c.color∧ct.size=c.size∧ct.full=c.full:=by rw[h.eq];exact⟨rfl,rfl,rfl⟩
theorem jh.sm{c ct:bA}{ρ:Int→Int}{p:(Int→T)→Prop}{o:Bool×bA}(k:iS ρ c ct)(h:jh ct ρ p o):jh c ρ p o:=⟨h.keys.trans k.keys,by rw[h.rest.1,h.rest.2.1,h.rest.2.2];exact k.rest,fun e=>by rw[←xd k,←k.ph];exact h.yes e,by rw[←k.ph];exact h.no⟩
theorem jh.congr{c:bA}{ρ:Int→Int}{p q:(Int→T)→Prop}{o:Bool×bA}(kC:∀aQ,kf c.ph ρ aQ→(p aQ↔q aQ))(h:jh c ρ p o):jh c ρ q o:=⟨h.keys,h.rest,fun e=>by obtain⟨ρ',J,U,ar⟩:=h.yes e;exact⟨ρ',J,fun aQ=>(U aQ).trans (and_congr_right fun ag=>kC aQ ag),ar⟩,fun e aQ ag bh=>h.no e aQ ag ((kC aQ ag).2 bh)⟩
theorem wM(c:bA)(x:Int)(t:T)(z:Int):(c.know x t).ph z=if z=x then some t else c.ph z:=by
 simp only[bA.ph,bA.know,bA.shd,bA.shp,nJ];by_cases h:z=x
 ·simp[h]
 ·simp only[if_neg h];exact ite_congr rfl (fun _=>rfl) fun _=>rfl
theorem UY{c:bA}{ρ:Int→Int}(hi:lZ c ρ){x:Int}(ab:ρ x=x)(ad:x∈cv c.up)(jz:c.ph x=none){t:T}(aL:t.kind≠1)(aK:∀w,t.occ w=true→w∈cv c.up):
  ∃N o,(∀n,N≤n→uU n x t c=some o)∧jh c ρ (fun aQ=>aQ x=t.ap aQ) o:=by
 have gE:ou (cv (c.know x t).up) (c.know x t).ph:=by
  intro z u bq;rw[wM]at bq;split at bq
  ·rename_i e;cases bq;subst e;exact⟨aL,aK,ad⟩
  ·exact hi.sh z u bq
 have lh:∀aQ,kf (c.know x t).ph ρ aQ↔kf c.ph ρ aQ∧aQ x=t.ap aQ:=by
  intro aQ;constructor
  ·rintro⟨J,U⟩;refine⟨⟨J,fun z u bq hu=>U z u bq ?_⟩,U x t ab (by rw[wM];simp)⟩;rw[wM];split
   ·rename_i e;subst e;rw[jz]at hu;cases hu
   ·exact hu
  ·rintro⟨⟨J,U⟩,ar⟩;refine⟨J,fun z u bq hu=>?_⟩;rw[wM]at hu;split at hu
   ·rename_i e;subst e;cases hu;exact ar
   ·exact U z u bq hu
 obtain⟨N,a,J,U,ar⟩:=Ht (x:=x) (c:=c.know x t) (t:=t) hi.ru gE aK;refine⟨N,(!a.found,a.c),fun n au=>by simp[uU,J n au],U.keys,U.rest,fun aI=>?_,fun aI aQ ag he=>?_⟩
 ·simp only[sx]at aI;have agi:∀u,jg (c.know x t).ph ρ x u→¬mX (jg (c.know x t).ph ρ) u x:=by rintro u ⟨_,dE,w,a7,bF,rfl⟩ aM;rw[wM,if_pos rfl]at a7;cases a7;have:=ar.2 ⟨w,bF,aM⟩;rw[aI]at this;cases this
  obtain⟨k7,uN⟩:=hi.sat
  have agx:=DO (ph:=(c.know x t).ph) (ρ:=ρ) hi.ru.idem (x:=x) (r:=fun z=>(k7 z).size) (fun z u bq he=>by refine HV hi.sh uN ?_;obtain⟨ak,dE,w,aC,bk⟩:=he;rw[wM,if_neg bq]at aC;exact⟨ak,dE,w,aC,bk⟩) agi
  refine⟨ρ,⟨U.ru,?_,?_⟩,fun aQ=>?_,.inr ?_⟩
  ·simp only[U.keys,U.ph];exact gE
  ·simp only[U.ph];exact agx
  ·simp only[U.ph];exact lh aQ
  ·simp only[xd U];unfold iE;have ak:cv (c.know x t).up=cv c.up:=rfl;rw[ak];have:=Fu (V:=cv c.up) (v:=x) (p:=fun v=>decide (ρ v=v)&& !(c.ph v).isSome) (q:=fun v=>decide (ρ v=v)&& !((c.know x t).ph v).isSome) (fun z _ bq=>by
    rw[wM]at bq;split at bq
    ·simp at bq
    ·exact bq) ad (by simp[ab,jz]) (by simp[wM])
   omega
 ·simp only[Bool.not_eq_false']at aI;obtain⟨w,a7,bF⟩:=ar.1 aI;have gr:=(lh aQ).2 ⟨ag,he⟩;have:=HW gE gr bF;have a8:=(AH aQ a7).2 aL;rw[←he]at a8;rw[←ag.1 w]at this;omega
def jk(ρ:Int→Int)(x y:Int)(v:Int):Int:=if ρ v=y then x else ρ v
section
variable {c:bA} {ρ:Int→Int} {x y:Int}
theorem qc(ab:ρ x=x)(aG:ρ y=y)(hZ:x≠y){z:Int}:jk ρ x y z=z↔ρ z=z∧z≠y:=by
 unfold jk;split
 ·rename_i e;constructor
  ·intro h;subst h;rw[ab]at e;exact absurd e hZ
  ·rintro⟨J,U⟩;rw[J]at e;exact absurd e U
 ·rename_i e;constructor
  ·intro h;exact⟨h,fun aC=>e (by rw[aC,aG])⟩
  ·exact fun h=>h.1
theorem jI.join(h:jI c.up ρ)(ab:ρ x=x)(aG:ρ y=y)(hZ:x<y)(C3:x∈cv c.up)(uV:y∈cv c.up):jI (c.join x y).up (jk ρ x y):=by
 have ad:cv (c.join x y).up=cv c.up:=C1 uV;refine⟨fun v u aK=>?_,fun v aK=>?_⟩
 ·rw[ad];have me:tg v (e0 y x c.up)=some u:=aK;rw[nJ]at me;by_cases e:v=y
  ·subst e;rw[if_pos rfl]at me;cases me;have bD:=(h.mem C3).2;rw[ab]at bD;refine⟨⟨bD,by omega,C3⟩,?_,⟨fun e=>?_,fun e=>by omega⟩⟩
   ·unfold jk;rw[ab,aG,if_pos rfl,if_neg (by omega)]
   ·have:=((qc ab aG (by omega)).1 e).2;exact absurd rfl this
  ·rw[if_neg e]at me;obtain⟨bG,a2,a3⟩:=h.up v u me;refine⟨bG,by unfold jk;rw[a2],?_⟩;rw[qc ab aG (by omega),a3];exact⟨fun h=>h.1,fun h=>⟨h,e⟩⟩
 ·rw[ad]at aK;have:=h.no v aK;unfold jk;rw[this,if_neg fun e=>aK (by rw[e];exact uV)]
theorem amF{ph:Int→Option T}(ab:ρ x=x)(aG:ρ y=y)(hZ:x≠y)(aQ:Int→T):(kf ph (jk ρ x y) aQ∧∀t,ph y=some t→aQ x=t.ap aQ)↔(kf ph ρ aQ∧aQ x=aQ y):=by
 constructor
 ·rintro⟨⟨J,U⟩,ar⟩;have La:aQ y=aQ x:=by have:=J y;simpa[jk,aG]using this
  refine⟨⟨fun v=>?_,fun z t bq aL=>?_⟩,La.symm⟩
  ·have:=J v;unfold jk at this;split at this
   ·rename_i e;rw[e,this,La]
   ·exact this
  ·by_cases e:z=y
   ·subst e;rw[La];exact ar t aL
   ·exact U z t ((qc ab aG hZ).2 ⟨bq,e⟩) aL
 ·rintro⟨⟨J,U⟩,ar⟩;refine⟨⟨fun v=>?_,fun z t bq aL=>U z t ((qc ab aG hZ).1 bq).1 aL⟩,fun t aL=>by rw[ar];exact U y t aG aL⟩;unfold jk;split
  ·rename_i e;rw[J v,e,ar]
  ·exact J v
theorem al1{V:List Int}{ph:Int→Option T}(gE:ou V ph)(ab:ρ x=x)(aG:ρ y=y)(hZ:x≠y){aQ:Int→T}(h:kf ph ρ aQ){z u:Int}(bq:z≠x)(he:jg ph (jk ρ x y) z u):(if u=x then 0 else(aQ u).size)<(if z=x then 0 else(aQ z).size):=by
 obtain⟨J,t,w,U,ar,rfl⟩:=he;have aM:=(qc ab aG hZ).1 J;rw[if_neg bq];split
 ·exact T.size_pos _
 ·rename_i cH;have:jk ρ x y w=ρ w:=by
   unfold jk at cH⊢;split
   ·rename_i e;rw[if_pos e]at cH;exact absurd rfl cH
   ·rfl
  rw[this];exact HV gE h ⟨aM.1,t,w,U,ar,rfl⟩
theorem Zh(ab:ρ x=x)(aG:ρ y=y)(hZ:x≠y)(uV:y∈cv c.up):iE (c.join x y) (jk ρ x y)<iE c ρ:=by have ad:cv (c.join x y).up=cv c.up:=C1 uV;have bQ:(c.join x y).ph=c.ph:=rfl;unfold iE;rw[ad,bQ];have J:=Fu (V:=cv c.up) (v:=y) (p:=fun v=>decide (ρ v=v)) (q:=fun v=>decide (jk ρ x y v=v)) (fun z _ bq=>by simp only[fK]at bq⊢;exact((qc ab aG hZ).1 bq).1) uV (by simp[aG]) (by simp only[hR];exact fun h=>((qc ab aG hZ).1 h).2 rfl);have U:=Ft (V:=cv c.up) (p:=fun v=>decide (ρ v=v)&& !(c.ph v).isSome) (q:=fun v=>decide (jk ρ x y v=v)&& !(c.ph v).isSome) (fun z _ bq=>by simp only[cE,fK]at bq⊢;exact⟨((qc ab aG hZ).1 bq.1).1,bq.2⟩);omega
end
theorem AR{c:bA}{x:Int}(h:c.shd x=false):c.ph x=none:=by simp[bA.ph,h]
theorem AS{c:bA}{x:Int}(h:¬c.shd x=false):c.ph x=some (c.shp x):=by simp[bA.ph];simpa using h
theorem RN{c:bA}{ρ:Int→Int}(hi:lZ c ρ){x y:Int}(ab:ρ x=x)(aG:ρ y=y)(hZ:x<y)(C3:x∈cv c.up)(uV:y∈cv c.up)
  (rec:∀(bN:bA) (lu:Int→Int),lZ bN lu→cv bN.up=cv c.up→iE bN lu<iE c ρ→∀a b:T,(∀w,a.occ w=true→w∈cv c.up)→(∀w,b.occ w=true→w∈cv c.up)→∃N o,(∀n,N≤n→gB n a b bN=some o)∧jh bN lu (fun aQ=>a.ap aQ=b.ap aQ) o):
  ∃N o,(∀n,N≤n→rv (gB n) n x y (c.join x y)=some o)∧jh c ρ (fun aQ=>aQ x=aQ y) o:=by
 have cH:x≠y:=by omega
 have ad:cv (c.join x y).up=cv c.up:=C1 uV;have bQ:(c.join x y).ph=c.ph:=rfl;have ma:=hi.ru.join ab aG hZ C3 uV;have dh:=Zh (c:=c) ab aG cH uV;have gE:ou (cv (c.join x y).up) (c.join x y).ph:=by rw[ad,bQ];exact hi.sh
 obtain⟨k7,uN⟩:=hi.sat
 have F6:∀z u,z≠x→jg c.ph (jk ρ x y) z u→(fun z=>if z=x then 0 else(k7 z).size) u<(fun z=>if z=x then 0 else(k7 z).size) z:=fun z u bq he=>al1 hi.sh ab aG cH uN bq he;have lh:=fun aQ=>amF (ph:=c.ph) ab aG cH aQ;have TY:∀{ct:bA},iS (jk ρ x y) (c.join x y) ct→(∃aQ,kf c.ph (jk ρ x y) aQ)→c.ph y=none→jh c ρ (fun aQ=>aQ x=aQ y) (true,ct):=by intro ct k ag au;refine⟨k.keys.trans ad,k.rest,fun _=>⟨jk ρ x y,⟨k.ru,by simp only[k.keys,k.ph];exact gE,by simp only[k.ph];exact ag⟩,fun aQ=>?_,.inr (by simp only[xd k];exact dh)⟩,fun e=>by cases e⟩;simp only[k.ph,bQ];rw[←lh aQ];exact⟨fun h=>⟨h,fun t aL=>by rw[au]at aL;cases aL⟩,fun h=>h.1⟩
 by_cases J:(c.join x y).shd y=false
 ·have TM:c.ph y=none:=AR J;by_cases U:(c.join x y).shd x=false
  ·have zU:c.ph x=none:=AR U;refine⟨0,(true,c.join x y),fun n _=>by simp only[rv,if_pos J,if_pos U],TY (iS.refl ma) ?_ TM⟩;exact DO ma.idem (x:=x) F6 fun u ⟨_,t,w,q,_⟩=>by rw[zU]at q;cases q
  ·have nY:c.ph x=some ((c.join x y).shp x):=AS U;obtain⟨N,a,ak,aC,bk⟩:=Ht (x:=x) (c:=c.join x y) (t:=(c.join x y).shp x) ma gE (by rw[ad];exact(hi.sh _ _ nY).2.1);refine⟨N,(!a.found,a.c),fun n au=>by simp only[rv,if_pos J,if_neg U,ak n au,oi],?_⟩;cases aI:a.found with
   |false=>refine TY aC (DO ma.idem (x:=x) F6 fun u ⟨_,t,w,a7,bF,b0⟩ aM=>?_) TM;rw[nY]at a7;cases a7;subst b0;have:=bk.2 ⟨w,bF,aM⟩;rw[aI]at this;cases this
   |true=>refine⟨aC.keys.trans ad,aC.rest,(fun e=>by cases e),fun _ aQ ag he=>?_⟩;obtain⟨w,a7,bF⟩:=bk.1 aI;have gr:=((lh aQ).2 ⟨ag,he⟩).1;have ar:=HW hi.sh gr bF;have a8:=(AH aQ a7).2 (hi.sh _ _ nY).1;rw[←gr.2 x _ ((qc ab aG cH).2 ⟨ab,cH⟩) nY]at a8;rw[←gr.1 w]at ar;omega
 ·have qU:c.ph y=some ((c.join x y).shp y):=AS J;by_cases U:(c.join x y).shd x=false
  ·have zU:c.ph x=none:=AR U;have l6:lZ (c.join x y) (jk ρ x y):=⟨ma,gE,DO ma.idem (x:=x) F6 fun u ⟨_,t,w,q,_⟩=>by rw[bQ,zU]at q;cases q⟩;obtain⟨N,o,ak,aC⟩:=UY l6 (x:=x) ((qc ab aG cH).2 ⟨ab,cH⟩) (by rw[ad];exact C3) zU (t:=(c.join x y).shp y) (hi.sh _ _ qU).1 (by rw[ad];exact(hi.sh _ _ qU).2.1);refine⟨N,o,fun n au=>by simp only[rv,if_neg J,if_pos U,ak n au],aC.keys.trans ad,aC.rest,fun aI=>?_,fun aI aQ ag he=>?_⟩
   ·obtain⟨ρ',g1,g2,g3⟩:=aC.yes aI;refine⟨ρ',g1,fun aQ=>?_,.inr ?_⟩
    ·rw[g2 aQ,←lh aQ];refine and_congr_right fun _=>⟨fun h t aL=>by rw[qU]at aL;cases aL;exact h,fun h=>h _ qU⟩
    ·rcases g3 with⟨rfl,g3⟩|g3
     ·have:iE o.2 (jk ρ x y)=iE (c.join x y) (jk ρ x y):=by unfold iE;rw[aC.keys,g3]
      omega
     ·omega
   ·obtain⟨s1,s2⟩:=(lh aQ).2 ⟨ag,he⟩;exact aC.no aI aQ s1 (s2 _ qU)
  ·have nY:c.ph x=some ((c.join x y).shp x):=AS U;obtain⟨hP,a,ak,aC,bk⟩:=Ht (x:=x) (c:=c.join x y) (t:=(c.join x y).shp y) ma gE (by rw[ad];exact(hi.sh _ _ qU).2.1);cases aI:a.found with
   |true=>refine⟨hP,(false,a.c),fun n au=>by simp only[rv,if_neg J,if_neg U,ak n au,ju,aI,if_true],aC.keys.trans ad,aC.rest,(fun e=>by cases e),fun _ aQ ag he=>?_⟩;obtain⟨w,a7,bF⟩:=bk.1 aI;obtain⟨gr,pG⟩:=(lh aQ).2 ⟨ag,he⟩;have ar:=HW hi.sh gr bF;have a8:=(AH aQ a7).2 (hi.sh _ _ qU).1;rw[←pG _ qU]at a8;rw[←gr.1 w]at ar;omega
   |false=>
    have T1:a.c.shp x=(c.join x y).shp x:=aC.shp x;obtain⟨ji,b,f1,f2,f3⟩:=Ht (x:=x) (c:=a.c) (t:=(c.join x y).shp x) aC.ru (by rw[aC.keys,aC.ph];exact gE) (by rw[aC.keys,ad];exact(hi.sh _ _ nY).2.1);have fa:=aC.trans f2;cases aX:b.found with
    |true=>refine⟨max hP ji,(false,b.c),fun n au=>by simp only[rv,if_neg J,if_neg U,ak n (by omega),ju,aI,T1,f1 n (by omega),aX,if_true,hb,if_false],fa.keys.trans ad,fa.rest,(fun e=>by cases e),fun _ aQ ag he=>?_⟩;obtain⟨w,a7,bF⟩:=f3.1 aX;obtain⟨gr,_⟩:=(lh aQ).2 ⟨ag,he⟩;rw[aC.ph]at bF;have ar:=HW hi.sh gr bF;have a8:=(AH aQ a7).2 (hi.sh _ _ nY).1;rw[←gr.2 x _ ((qc ab aG cH).2 ⟨ab,cH⟩) nY]at a8;rw[←gr.1 w]at ar;omega
    |false=>
     have zM:lZ b.c (jk ρ x y):=by refine⟨fa.ru,by rw[fa.keys,fa.ph];exact gE,?_⟩;rw[fa.ph];refine DO ma.idem (x:=x) F6 fun u ⟨_,t,w,a7,bF,b0⟩ aM=>?_;rw[bQ,nY]at a7;cases a7;subst b0;have:=f3.2 ⟨w,bF,by rw[aC.ph];exact aM⟩;rw[aX]at this;cases this
     obtain⟨y4,o,g1,g2⟩:=rec b.c (jk ρ x y) zM (fa.keys.trans ad) (by rw[xd fa];exact dh) ((c.join x y).shp x) ((c.join x y).shp y) (hi.sh _ _ nY).2.1 (hi.sh _ _ qU).2.1;refine⟨max (max hP ji) y4,o,fun n au=>?_,g2.keys.trans (fa.keys.trans ad),?_,fun cP=>?_,fun cP aQ ag he=>?_⟩
     ·simp only[rv,if_neg J,if_neg U,ak n (by omega),ju,aI,T1,f1 n (by omega),aX,hb,if_false,fa.shp];exact g1 n (by omega)
     ·rw[g2.rest.1,g2.rest.2.1,g2.rest.2.2];exact fa.rest
     ·obtain⟨ρ',a7,bF,b0⟩:=g2.yes cP;refine⟨ρ',a7,fun aQ=>?_,.inr ?_⟩
      ·rw[bF aQ,fa.ph,bQ,←lh aQ];refine and_congr_right fun h=>?_;have:=h.2 x _ ((qc ab aG cH).2 ⟨ab,cH⟩) nY;rw[←this];exact⟨fun h t aL=>by rw[qU]at aL;cases aL;exact h,fun h=>h _ qU⟩
      ·have:iE b.c (jk ρ x y)<iE c ρ:=by rw[xd fa];exact dh
       rcases b0 with⟨rfl,b0⟩|b0
       ·have:iE o.2 (jk ρ x y)=iE b.c (jk ρ x y):=by unfold iE;rw[g2.keys,b0]
        omega
       ·omega
     ·obtain⟨s1,s2⟩:=(lh aQ).2 ⟨ag,he⟩;refine g2.no cP aQ (by rw[fa.ph];exact s1) ?_;have:=s1.2 x _ ((qc ab aG cH).2 ⟨ab,cH⟩) nY;rw[←this];exact s2 _ qU
def um:T→T→Nat
 | .var _,_=>1
 |_,.var _=>2
 |_,_=>0
theorem aa6(K:Nat):∀(m:Nat) (c:bA) (ρ:Int→Int) (a b:T) (k7:Int→T),lZ c ρ→kf c.ph ρ k7→(∀w,a.occ w=true→w∈cv c.up)→(∀w,b.occ w=true→w∈cv c.up)→iE c ρ=K→((a.ap k7).size+(b.ap k7).size)*3+um a b=m→
  ∃N o,(∀n,N≤n→gB n a b c=some o)∧jh c ρ (fun aQ=>a.ap aQ=b.ap aQ) o:=by
 induction K using Nat.strongRecOn with
 |ind K agV=>
 have Ua:∀(bN:bA) (lu:Int→Int),lZ bN lu→iE bN lu<K→∀a b:T,(∀w,a.occ w=true→w∈cv bN.up)→(∀w,b.occ w=true→w∈cv bN.up)→∃N o,(∀n,N≤n→gB n a b bN=some o)∧jh bN lu (fun aQ=>a.ap aQ=b.ap aQ) o:=by
  intro bN lu J U a b br ae;obtain⟨aQ,hA⟩:=J.sat
  exact agV _ U _ bN lu a b aQ J hA br ae rfl rfl
 intro m;induction m using Nat.strongRecOn with
 |ind m Ag=>
 intro c ρ a b k7 hi uN br ae dh hm;have af0:∀{a b:T},(∀n,gB (n+1) a b c=some (decide (a=b),c))→(∀aQ,a.ap aQ=a)→(∀aQ,b.ap aQ=b)→∃N o,(∀n,N≤n→gB n a b c=some o)∧jh c ρ (fun aQ=>a.ap aQ=b.ap aQ) o:=by
  intro a b J U ar;refine⟨1,(decide (a=b),c),fun n au=>?_,rfl,⟨rfl,rfl,rfl⟩,fun h=>?_,fun h aQ _ he=>?_⟩
  ·obtain⟨n',rfl⟩:∃n',n=n'+1:=⟨n-1,by omega⟩;exact J n'
  ·simp only[fK]at h;subst h;exact⟨ρ,hi,fun aQ=>⟨fun h=>⟨h,rfl⟩,fun h=>h.1⟩,.inl ⟨rfl,rfl⟩⟩
  ·simp only[hR]at h;rw[U,ar]at he;exact h he
 have Tc:∀{a b:T},(∀n,gB (n+1) a b c=some (decide (a=b),c))→(∀aQ,a.ap aQ≠b.ap aQ)→a≠b→∃N o,(∀n,N≤n→gB n a b c=some o)∧jh c ρ (fun aQ=>a.ap aQ=b.ap aQ) o:=by intro a b J U ar;refine⟨1,(false,c),fun n au=>?_,rfl,⟨rfl,rfl,rfl⟩,(fun h=>by cases h),fun _ aQ _ he=>U aQ he⟩;obtain⟨n',rfl⟩:∃n',n=n'+1:=⟨n-1,by omega⟩;rw[J n',h6 ar]
 have wh:∀(i:Int) (b:T),b.kind≠1→(∀n,gB (n+1) (.var i) b c=(rt c i).bind fun p=>if p.2.shd p.1=false then uU n p.1 b p.2 else gB n (p.2.shp p.1) b p.2)→i∈cv c.up→(∀w,b.occ w=true→w∈cv c.up)→((k7 i).size+(b.ap k7).size)*3<m→∃N o,(∀n,N≤n→gB n (.var i) b c=some o)∧jh c ρ (fun aQ=>aQ i=b.ap aQ) o:=by
  intro i b oH Tf wx ae bE;obtain⟨bN,ak,aP⟩:=tD hi.ru wx;have l6:=hi.sm aP;by_cases ag:bN.shd (ρ i)=false
  ·obtain⟨N,o,aC,dy⟩:=UY l6 (x:=ρ i) (hi.ru.idem i) (by rw[aP.keys];exact(hi.ru.mem wx).1) (AR ag) oH (by rw[aP.keys];exact ae);refine⟨N+1,o,fun n au=>?_,jh.sm aP (jh.congr (fun aQ h=>?_) dy)⟩
   ·obtain⟨n',rfl⟩:∃n',n=n'+1:=⟨n-1,by omega⟩;rw[Tf,ak];simp only[ju,if_pos ag];exact aC n' (by omega)
   ·rw[←h.1 i]
  ·have nY:bN.ph (ρ i)=some (bN.shp (ρ i)):=AS ag;have lh:∀aQ,kf bN.ph ρ aQ→aQ i=(bN.shp (ρ i)).ap aQ:=fun aQ h=>by rw[h.1 i];exact h.2 _ _ (hi.ru.idem i) nY
   have hz:=(l6.sh _ _ nY).1;have afB:um (bN.shp (ρ i)) b=0:=by cases e:bN.shp (ρ i)<;>cases b<;>simp_all[um,T.kind]
   have T8:kf bN.ph ρ k7:=by rw[aP.ph];exact uN
   obtain⟨N,o,aC,dy⟩:=Ag (((bN.shp (ρ i)).ap k7).size*3+(b.ap k7).size*3) (by rw[←lh k7 T8];omega) bN ρ (bN.shp (ρ i)) b k7 l6 T8 (l6.sh _ _ nY).2.1 (by rw[aP.keys];exact ae) (by rw[xd aP];exact dh) (by rw[afB];omega);refine⟨N+1,o,fun n au=>?_,jh.sm aP (jh.congr (fun aQ h=>?_) dy)⟩
   ·obtain⟨n',rfl⟩:∃n',n=n'+1:=⟨n-1,by omega⟩;rw[Tf,ak];simp only[ju,if_neg ag];exact aC n' (by omega)
   ·rw[lh aQ h]
 have CP:∀(i j:Int),i∈cv c.up→j∈cv c.up→∃N o,(∀n,N≤n→gB n (.var i) (.var j) c=some o)∧jh c ρ (fun aQ=>aQ i=aQ j) o:=by
  intro i j wx Gx;obtain⟨bN,ak,aP⟩:=tD hi.ru wx;obtain⟨cq,aC,a6⟩:=tD aP.ru (by rw[aP.keys];exact Gx:j∈cv bN.up);have td:=aP.trans a6;have hL:=hi.sm td;have vW:ρ i∈cv cq.up:=by rw[td.keys];exact(hi.ru.mem wx).1
  have Tt:ρ j∈cv cq.up:=by rw[td.keys];exact(hi.ru.mem Gx).1
  have v8:∀(bN:bA) (lu:Int→Int),lZ bN lu→cv bN.up=cv cq.up→iE bN lu<iE cq ρ→∀a b:T,(∀w,a.occ w=true→w∈cv cq.up)→(∀w,b.occ w=true→w∈cv cq.up)→∃N o,(∀n,N≤n→gB n a b bN=some o)∧jh bN lu (fun aQ=>a.ap aQ=b.ap aQ) o:=fun dj ρ3 J U ar a b br ae=>Ua dj ρ3 J (by rw[xd td,dh]at ar;exact ar) a b (by rw[U];exact br) (by rw[U];exact ae);rcases Int.lt_trichotomy (ρ i) (ρ j)with h|h|h
  ·obtain⟨N,o,bk,jd⟩:=RN hL (hi.ru.idem i) (hi.ru.idem j) h vW Tt v8;refine⟨N+1,o,fun n au=>?_,jh.sm td (jh.congr (fun aQ h=>?_) jd)⟩
   ·obtain⟨n',rfl⟩:∃n',n=n'+1:=⟨n-1,by omega⟩;simp only[gB,ak,aC,ju];rw[if_neg (by omega),if_neg (by omega)];exact bk n' (by omega)
   ·rw[h.1 i,h.1 j]
  ·refine⟨1,(true,cq),fun n au=>?_,td.keys,td.rest,fun _=>⟨ρ,hL,fun aQ=>?_,.inl ⟨rfl,td.ph⟩⟩,fun e=>by cases e⟩
   ·obtain⟨n',rfl⟩:∃n',n=n'+1:=⟨n-1,by omega⟩;simp only[gB,ak,aC,ju,if_pos h]
   ·simp only[td.ph];exact⟨fun ag=>⟨ag,by rw[ag.1 i,ag.1 j,h]⟩,fun ag=>ag.1⟩
  ·obtain⟨N,o,bk,jd⟩:=RN hL (hi.ru.idem j) (hi.ru.idem i) h Tt vW v8;refine⟨N+1,o,fun n au=>?_,jh.sm td (jh.congr (fun aQ h=>?_) jd)⟩
   ·obtain⟨n',rfl⟩:∃n',n=n'+1:=⟨n-1,by omega⟩;simp only[gB,ak,aC,ju];rw[if_neg (by omega),if_pos h];exact bk n' (by omega)
   ·rw[h.1 i,h.1 j];exact⟨Eq.symm,Eq.symm⟩
 have z8:∀(a:T) (j:Int),a.kind≠1→(∀n,gB (n+1) a (.var j) c=gB n (.var j) a c)→(∀n,gB (n+1) (.var j) a c=(rt c j).bind fun p=>if p.2.shd p.1=false then uU n p.1 a p.2 else gB n (p.2.shp p.1) a p.2)→j∈cv c.up→(∀w,a.occ w=true→w∈cv c.up)→((k7 j).size+(a.ap k7).size)*3<m→∃N o,(∀n,N≤n→gB n a (.var j) c=some o)∧jh c ρ (fun aQ=>a.ap aQ=aQ j) o:=by intro a j J U ar Gx br bE;obtain⟨N,o,ak,cQ⟩:=wh j a J ar Gx br bE;refine⟨N+1,o,fun n au=>?_,jh.congr (fun aQ _=>⟨Eq.symm,Eq.symm⟩) cQ⟩;obtain⟨n',rfl⟩:∃n',n=n'+1:=⟨n-1,by omega⟩;rw[U];exact ak n' (by omega)
 cases a with
 |var i=>
  have wx:i∈cv c.up:=br i (by simp[T.occ]);cases b with
  |var j=>exact CP i j wx (ae j (by simp[T.occ]))
  |_=>exact wh i _ (by simp[T.kind]) (fun n=>rfl) wx ae (by simp only[T.ap,um]at hm⊢;omega)
 |pair bG a2=>
  cases b with
  |var j=>exact z8 _ j (by simp[T.kind]) (fun n=>rfl) (fun n=>rfl) (ae j (by simp[T.occ])) br (by simp only[T.ap,um]at hm⊢;omega)
  |pair b1 b2=>
   have sV:∀p q:T,um p q≤2:=fun p q=>by cases p<;>cases q<;>simp[um]
   have ld:∀w,bG.occ w=true→w∈cv c.up:=fun w hw=>br w (by simp[T.occ,hw]);have p3:∀w,a2.occ w=true→w∈cv c.up:=fun w hw=>br w (by simp[T.occ,hw]);have lE:∀w,b1.occ w=true→w∈cv c.up:=fun w hw=>ae w (by simp[T.occ,hw]);have pE:∀w,b2.occ w=true→w∈cv c.up:=fun w hw=>ae w (by simp[T.occ,hw]);simp only[T.ap,T.size,um]at hm;have f1:=sV bG b1;have f2:=sV a2 b2;obtain⟨hP,gG,ak,cQ⟩:=Ag _ (by rw[←hm];omega) c ρ bG b1 k7 hi uN ld lE dh rfl;obtain⟨aiC,bN⟩:=gG;cases aiC with
   |false=>refine⟨hP+1,(false,bN),fun n au=>?_,cQ.keys,cQ.rest,(fun e=>by cases e),fun _ aQ ag he=>cQ.no rfl aQ ag (by simp only[T.ap,T.pair.injEq]at he;exact he.1)⟩;obtain⟨n',rfl⟩:∃n',n=n'+1:=⟨n-1,by omega⟩;simp only[gB,ak n' (by omega),ju,hb,if_false]
   |true=>
    obtain⟨lu,a7,bF,b0⟩:=cQ.yes rfl;simp only at a7 bF b0;have xS:cv bN.up=cv c.up:=cQ.keys;have CI:∃ji gD,(∀n,ji≤n→gB n a2 b2 bN=some gD)∧jh bN lu (fun aQ=>a2.ap aQ=b2.ap aQ) gD:=by
     rcases b0 with⟨rfl,b0⟩|b0
     ·exact Ag _ (by rw[←hm];omega) bN lu a2 b2 k7 a7 (by rw[b0];exact uN) (by rw[xS];exact p3) (by rw[xS];exact pE) (by unfold iE;rw[xS,b0];exact dh) rfl
     ·exact Ua bN lu a7 (by omega) a2 b2 (by rw[xS];exact p3) (by rw[xS];exact pE)
    obtain⟨ji,gD,aC,dy⟩:=CI;refine⟨max hP ji+1,gD,fun n au=>?_,dy.keys.trans xS,?_,fun aI=>?_,fun aI aQ ag he=>?_⟩
    ·obtain⟨n',rfl⟩:∃n',n=n'+1:=⟨n-1,by omega⟩;simp only[gB,ak n' (by omega),ju,if_true];exact aC n' (by omega)
    ·rw[dy.rest.1,dy.rest.2.1,dy.rest.2.2];exact cQ.rest
    ·obtain⟨ρ2,s1,s2,s3⟩:=dy.yes aI;refine⟨ρ2,s1,fun aQ=>?_,?_⟩
     ·rw[s2 aQ,bF aQ];simp only[T.ap,T.pair.injEq,and_assoc]
     ·rcases b0 with⟨rfl,b0⟩|b0
      ·rcases s3 with⟨rfl,s3⟩|s3
       ·exact .inl ⟨rfl,s3.trans b0⟩
       ·have:iE bN lu=iE c lu:=by unfold iE;rw[xS,b0]
        exact .inr (by omega)
      ·rcases s3 with⟨rfl,s3⟩|s3
       ·have:iE gD.2 ρ2=iE bN ρ2:=by unfold iE;rw[dy.keys,s3]
        exact .inr (by omega)
       ·exact .inr (by omega)
    ·simp only[T.ap,T.pair.injEq]at he;exact dy.no aI aQ ((bF aQ).2 ⟨ag,he.1⟩) he.2
  |_=>exact Tc (fun n=>rfl) (fun aQ=>by simp[T.ap]) (by simp)
 |_=>
  cases b with
  |var j=>exact z8 _ j (by simp[T.kind]) (fun n=>rfl) (fun n=>rfl) (ae j (by simp[T.occ])) br (by simp only[T.ap,um]at hm⊢;omega)
  |_=>first|exact af0 (fun n=>rfl) (fun aQ=>rfl) (fun aQ=>rfl)|exact Tc (fun n=>rfl) (fun aQ=>by simp[T.ap]) (by simp)
end Go.Pv
namespace Go.Pv
open Go
def yX(rec:Int→bA→Option (Bool×bA))(v:Int)(a:bA×Bool):Option (bA×Bool):=if a.2=true then(rt a.1 v).bind fun p=>(rec p.1 p.2).map fun q=>(q.2,q.1)else some a
def yL(v:Int)(c:bA):Option (Int×bA):=(rt c v).map fun p=>(p.2.sz p.1,p.2)
def bA.grey(c:bA)(x:Int):bA:={c with color:=e0 x 1 c.color,size:=e0 x 1 c.size}
def bA.black(c:bA)(x:Int):bA:={c with color:=e0 x 2 c.color}
def qs:Nat→Int→bA→Option (Bool×bA)
 |0,_,_=>none
 |n+1,x,c=>if c.col x=2 then some (true,c)else if c.col x=1 then some (false,c)else
   if(c.grey x).shd x=false then some (true,(c.grey x).black x)else
   (((c.grey x).shp x).foldO (yX (qs n)) (c.grey x,true)).bind fun a=>if a.2=false then some (false,a.1)else
   (((a.1.shp x).sizeO yL a.1).map fun p=>(true,{p.2 with size:=e0 x p.1 p.2.size}.black x))
def Bo(rec:Int→bA→Option (T×bA))(v:Int)(c:bA):Option (T×bA):=(rt c v).bind fun p=>rec p.1 p.2
def qq:Nat→Int→bA→Option (T×bA)
 |0,_,_=>none
 |n+1,x,c=>match tg x c.full with
  |some t=>some (t,c)
  |none=>if c.shd x=false then some (.var x,{c with full:=e0 x (.var x) c.full})else
   ((c.shp x).mapO (Bo (qq n)) c).map fun p=>(p.1,{p.2 with full:=e0 x p.1 p.2.full})
def sl(n:Nat):List Int→bA→List Int→Option (Option (List Int)×bA)
 |[],c,out=>some (some out,c)
 |v::be,c,out=>(rt c v).bind fun p=>(qs n p.1 p.2).bind fun q=>if q.1=false then some (none,q.2)else
   if p.1=v∧q.2.shd p.1=false then sl n be q.2 out else
   if 5000<q.2.sz p.1∨400<out.length+1 then some (none,q.2)else sl n be q.2 (out++[v])
def yM(n:Nat):List Int→bA→Option (List ao×bA)
 |[],c=>some ([],c)
 |v::be,c=>(rt c v).bind fun p=>(qq n p.1 p.2).bind fun q=>(yM n be q.2).map fun r=>(⟨v,q.1⟩::r.1,r.2)
def DV(n:Nat)(be:List Int)(c:bA):Option (Option (List ao)):=(sl n be c []).bind fun a=>match a.1 with
 |none=>some none
 |some out=>(yM n out a.2).map fun r=>some r.1
def pZ(n:Nat):List (T×T)→bA→Option (Bool×bA)
 |[],c=>some (true,c)
 |e::es,c=>(Au e.1 c).bind fun bN=>(Au e.2 bN).bind fun cq=>(gB n e.1 e.2 cq).bind fun p=>if p.1=true then pZ n es p.2 else some (false,p.2)
theorem lZ.rank{c:bA}{ρ:Int→Int}(h:lZ c ρ):∃r:Int→Nat,∀z u,jg c.ph ρ z u→r u<r z:=by
 obtain⟨aQ,hA⟩:=h.sat
 exact⟨fun z=>(aQ z).size,fun z u he=>HV h.sh hA he⟩
structure tS (V:List Int) (ph:Int→Option T) (ρ:Int→Int) (c:bA):Prop where
 ru:jI c.up ρ
 keys:cv c.up=V
 ph:c.ph=ph
theorem tS.sm{V:List Int}{ph:Int→Option T}{ρ:Int→Int}{c ct:bA}(h:tS V ph ρ c)(k:iS ρ c ct):tS V ph ρ ct:=⟨k.ru,k.keys.trans h.keys,k.ph.trans h.ph⟩
def cut(n:Nat):Int:=if 5001<(n:Int)then 5001 else n
section
variable {V:List Int} {ph:Int→Option T} {ρ:Int→Int} {r:Int→Nat}
theorem amv(Ei:Int→T):∀(t:T) (c:bA),tS V ph ρ c→(∀w,t.occ w=true→w∈V∧c.sz (ρ w)=cut (Ei w).size)→∃ct,t.sizeO yL c=some (cut (t.ap Ei).size,ct)∧iS ρ c ct:=by
 intro t;induction t with
 |var v=>
  intro c h aL;obtain⟨aK,bq⟩:=aL v (by simp[T.occ]);obtain⟨bN,J,U⟩:=tD h.ru (by rw[h.keys];exact aK:v∈cv c.up);refine⟨bN,?_,U⟩;have:bN.sz (ρ v)=cut (Ei v).size:=by rw[←bq,U.eq];rfl
  simp only[T.sizeO,yL,J,oi,this,T.ap,dM,jF,and_true];unfold cut;split<;>omega
 |pair a b dW dX=>
  intro c h aL;obtain⟨bN,J,aP⟩:=dW c h fun w hw=>aL w (by simp[T.occ,hw]);obtain⟨cq,U,a6⟩:=dX bN (h.sm aP) fun w hw=>⟨(aL w (by simp[T.occ,hw])).1,by rw[←(aL w (by simp[T.occ,hw])).2,aP.eq];rfl⟩;have ae:=T.size_pos (b.ap Ei);simp only[T.sizeO,J,ju,T.ap,T.size];by_cases ay:5000<cut (a.ap Ei).size
  ·rw[if_pos ay];refine⟨bN,?_,aP⟩;simp only[dM,jF,and_true];unfold cut at ay⊢;split at ay<;>split<;>(try split)<;>omega
  ·rw[if_neg ay,U];refine⟨cq,?_,aP.trans a6⟩;simp only[oi,dM,jF,and_true];unfold cut at ay⊢;split at ay<;>(repeat' split)<;>omega
 |_=>intro c h aL;exact⟨c,by simp[T.sizeO,T.ap,T.size,cut],iS.refl h.ru⟩
structure qB (V:List Int) (ph:Int→Option T) (ρ:Int→Int) (r:Int→Nat) (d:Nat) (c:bA):Prop where
 fin:tS V ph ρ c
 col:∀z,r z<d→c.col z=0∨(c.col z=2∧c.sz z=cut (gX ph ρ r z).size)
structure nb (ph:Int→Option T) (ρ:Int→Int) (r:Int→Nat) (d:Nat) (c ct:bA):Prop where
 full:ct.full=c.full
 hi:∀z,d≤r z→ct.col z=c.col z∧ct.sz z=c.sz z
 lo:∀z,c.col z=2→ct.col z=2∧ct.sz z=c.sz z
theorem nb.refl{c:bA}{d:Nat}:nb ph ρ r d c c:=⟨rfl,fun _ _=>⟨rfl,rfl⟩,fun _ h=>⟨h,rfl⟩⟩
theorem nb.trans{a b c:bA}{d:Nat}(h:nb ph ρ r d a b)(k:nb ph ρ r d b c):nb ph ρ r d a c:=⟨k.full.trans h.full,fun z bq=>⟨(k.hi z bq).1.trans (h.hi z bq).1,(k.hi z bq).2.trans (h.hi z bq).2⟩,fun z bq=>⟨(k.lo z (h.lo z bq).1).1,(k.lo z (h.lo z bq).1).2.trans (h.lo z bq).2⟩⟩
theorem nb.mono{a b:bA}{d ca:Nat}(aR:d≤ca)(h:nb ph ρ r d a b):nb ph ρ r ca a b:=⟨h.full,fun z bq=>h.hi z (by omega),h.lo⟩
theorem nb.sm{c ct:bA}{d:Nat}(k:iS ρ c ct):nb ph ρ r d c ct:=by
 have ak:∀z,ct.col z=c.col z:=fun z=>by rw[k.eq];rfl
 have aC:∀z,ct.sz z=c.sz z:=fun z=>by rw[k.eq];rfl
 exact⟨k.rest.2.2,fun z _=>⟨ak z,aC z⟩,fun z h=>⟨by rw[ak];exact h,aC z⟩⟩
theorem qB.sm{c ct:bA}{d:Nat}(h:qB V ph ρ r d c)(k:iS ρ c ct):qB V ph ρ r d ct:=by
 have ak:∀z,ct.col z=c.col z:=fun z=>by rw[k.eq];rfl
 have aC:∀z,ct.sz z=c.sz z:=fun z=>by rw[k.eq];rfl
 exact⟨h.fin.sm k,fun z bq=>by rw[ak,aC];exact h.col z bq⟩
theorem aoG(gE:ou V ph)(e2:∀v,ρ (ρ v)=ρ v)(aM:∀z u,jg ph ρ z u→r u<r z)(d:Nat):∀(x:Int) (c:bA),r x<d→ρ x=x→x∈V→qB V ph ρ r d c→
  ∃N ct,(∀n,N≤n→qs n x c=some (true,ct))∧qB V ph ρ r d ct∧nb ph ρ r (r x+1) c ct∧ct.col x=2∧ct.sz x=cut (gX ph ρ r x).size:=by
 induction d using Nat.strongRecOn with
 |ind d bZ=>
 intro x c aR ab kj hw;rcases hw.col x aR with bD|⟨U,ar⟩;rotate_left
 ·refine⟨1,c,fun n au=>?_,hw,nb.refl,U,ar⟩;obtain⟨n',rfl⟩:∃n',n=n'+1:=⟨n-1,by omega⟩;simp only[qs,if_pos U]
 have xD:∀z,(c.grey x).col z=if z=x then 1 else c.col z:=fun z=>by simp only[bA.grey,bA.col,nJ];split<;>rfl
 have B9:∀z,(c.grey x).sz z=if z=x then 1 else c.sz z:=fun z=>by simp only[bA.grey,bA.sz,nJ];split<;>rfl
 have zy:tS V ph ρ (c.grey x):=⟨hw.fin.ru,hw.fin.keys,hw.fin.ph⟩;have agN:qB V ph ρ r (r x) (c.grey x):=⟨zy,fun z bq=>by
  have cH:z≠x:=fun e=>by subst e;omega
  rw[xD,B9,if_neg cH,if_neg cH];exact hw.col z (by omega)⟩
 have Cz:¬c.col x=2:=by omega
 have rT:¬c.col x=1:=by omega
 have fs:∀(e:bA) (z:Int),(e.black x).col z=(if z=x then 2 else e.col z):=fun e z=>by simp only[bA.black,bA.col,nJ];split<;>rfl
 by_cases ag:(c.grey x).shd x=false
 ·have jz:ph x=none:=by rw[←zy.ph];exact AR ag
  have aX:gX ph ρ r x= .var x:=by rw[B8 (by rw[ab];exact jz),ab]
  have ep:∀z,((c.grey x).black x).sz z=if z=x then 1 else c.sz z:=B9
  refine⟨1,(c.grey x).black x,fun n au=>?_,⟨⟨zy.ru,zy.keys,zy.ph⟩,fun z bq=>?_⟩,⟨rfl,fun z bq=>?_,fun z bq=>?_⟩,?_,?_⟩
  ·obtain⟨n',rfl⟩:∃n',n=n'+1:=⟨n-1,by omega⟩;simp only[qs,if_neg Cz,if_neg rT,if_pos ag]
  ·rw[fs,ep,xD];by_cases e:z=x
   ·subst e;simp only[if_true,aX];exact .inr ⟨trivial,by simp[T.size,cut]⟩
   ·simp only[if_neg e];exact hw.col z bq
  ·have e:z≠x:=fun e=>by subst e;omega
   rw[fs,ep,xD];simp only[if_neg e];exact⟨trivial,trivial⟩
  ·have e:z≠x:=fun e=>by subst e;omega
   rw[fs,ep,xD];simp only[if_neg e];exact⟨bq,trivial⟩
  ·rw[fs,if_pos rfl]
  ·rw[ep,if_pos rfl,aX];simp[T.size,cut]
 ·have jz:ph x=some ((c.grey x).shp x):=by rw[←zy.ph];exact AS ag
  obtain⟨g1,g2,g3⟩:=gE _ _ jz;have afD:∀(t:T) (e:bA),(∀w,t.occ w=true→((c.grey x).shp x).occ w=true)→qB V ph ρ r (r x) e→∃N fT,(∀n,N≤n→t.foldO (yX (qs n)) (e,true)=some (fT,true))∧qB V ph ρ r (r x) fT∧nb ph ρ r (r x) e fT∧∀w,t.occ w=true→fT.col (ρ w)=2∧fT.sz (ρ w)=cut (gX ph ρ r w).size:=by
   intro t;induction t with
   |var v=>intro e nv he;have aK:=g2 v (nv v (by simp[T.occ]));have wa:r (ρ v)<r x:=aM x (ρ v) ⟨ab,_,v,jz,nv v (by simp[T.occ]),rfl⟩;obtain⟨ak,a7,aP⟩:=tD he.fin.ru (by rw[he.fin.keys];exact aK:v∈cv e.up);obtain⟨N,aC,bF,dC,dy,cq,s2⟩:=bZ (r x) aR (ρ v) ak wa (e2 v) (by rw[←he.fin.keys];exact(he.fin.ru.mem (by rw[he.fin.keys];exact aK)).1) (he.sm aP);refine⟨N,aC,fun n au=>by simp[T.foldO,yX,a7,bF n au],dC,(nb.sm aP).trans (dy.mono (by omega)),fun w hw=>?_⟩;simp[T.occ]at hw;subst hw;exact⟨cq,by rw[s2,←zz e2]⟩
   |pair a b dW dX=>
    intro e nv he;obtain⟨hP,ak,a7,eP,cQ,s1⟩:=dW e (fun w hw=>nv w (by simp[T.occ,hw])) he;obtain⟨ji,aC,bF,dC,dy,s2⟩:=dX ak (fun w hw=>nv w (by simp[T.occ,hw])) eP;refine⟨max hP ji,aC,fun n au=>by simp only[T.foldO];rw[a7 n (by omega)];exact bF n (by omega),dC,cQ.trans dy,fun w hw=>?_⟩;simp only[T.occ,mT]at hw;rcases hw with hw|hw
    ·obtain⟨k6,z2⟩:=s1 w hw;exact⟨(dy.lo _ k6).1,by rw[(dy.lo _ k6).2];exact z2⟩
    ·exact s2 w hw
   |_=>intro e _ he;exact⟨0,e,fun n _=>rfl,he,nb.refl,fun w hw=>by simp[T.occ]at hw⟩
  obtain⟨N,e,a7,eP,cQ,s1⟩:=afD ((c.grey x).shp x) (c.grey x) (fun w h=>h) agN;have agy:e.shp x=(c.grey x).shp x:=by
   have J:e.ph x=some ((c.grey x).shp x):=by rw[eP.fin.ph];exact jz
   unfold bA.ph at J;split at J
   ·exact fq J
   ·cases J
  obtain⟨aC,bF,a6⟩:=amv (V:=V) (ph:=ph) (ρ:=ρ) (gX ph ρ r) ((c.grey x).shp x) e eP.fin (fun w hw=>⟨g2 w hw,(s1 w hw).2⟩);have mE:gX ph ρ r x=((c.grey x).shp x).ap (gX ph ρ r):=zA e2 aM (by rw[ab];exact jz);have F1:=cQ.trans (nb.sm (ph:=ph) (r:=r) (d:=r x) a6);have dC:=eP.sm a6;let bk:bA:={aC with size:=e0 x (cut (gX ph ρ r x).size) aC.size}.black x
  have dj:∀z,bk.col z=if z=x then 2 else aC.col z:=fun z=>fs _ z
  have s3:∀z,bk.sz z=if z=x then cut (gX ph ρ r x).size else aC.sz z:=fun z=>by show(tg z (e0 x _ aC.size)).getD 0=_;rw[nJ];split<;>rfl
  refine⟨N+1,bk,fun n au=>?_,⟨⟨dC.fin.ru,dC.fin.keys,dC.fin.ph⟩,fun z bq=>?_⟩,⟨F1.full,fun z bq=>?_,fun z bq=>?_⟩,by rw[dj,if_pos rfl],by rw[s3,if_pos rfl]⟩
  ·obtain⟨n',rfl⟩:∃n',n=n'+1:=⟨n-1,by omega⟩;simp only[qs,if_neg Cz,if_neg rT,if_neg ag,a7 n' (by omega),ju,Bool.true_eq_false,if_false,agy,bF,oi,mE,bk]
  ·rw[dj,s3];by_cases nT:z=x
   ·subst nT;simp only[if_true];exact .inr ⟨trivial,trivial⟩
   ·simp only[if_neg nT];by_cases bE:r z<r x
    ·exact dC.col z bE
    ·obtain⟨bG,a2⟩:=F1.hi z (by omega);rw[bG,a2,xD,B9,if_neg nT,if_neg nT];exact hw.col z bq
  ·have nT:z≠x:=fun e=>by subst e;omega
   obtain⟨bG,a2⟩:=F1.hi z (by omega);rw[dj,s3,if_neg nT,if_neg nT,bG,a2,xD,B9,if_neg nT,if_neg nT];exact⟨rfl,rfl⟩
  ·have nT:z≠x:=fun e=>by subst e;omega
   obtain⟨bG,a2⟩:=F1.lo z (by rw[xD,if_neg nT];exact bq);rw[dj,s3,if_neg nT,if_neg nT,bG,a2,B9,if_neg nT];exact⟨rfl,rfl⟩
structure rn (V:List Int) (ph:Int→Option T) (ρ:Int→Int) (r:Int→Nat) (c:bA):Prop where
 fin:tS V ph ρ c
 full:∀x t,tg x c.full=some t→t=gX ph ρ r x
theorem rn.sm{c ct:bA}(h:rn V ph ρ r c)(k:iS ρ c ct):rn V ph ρ r ct:=⟨h.fin.sm k,by rw[k.rest.2.2];exact h.full⟩
theorem aoE(gE:ou V ph)(e2:∀v,ρ (ρ v)=ρ v)(aM:∀z u,jg ph ρ z u→r u<r z)(d:Nat):∀(x:Int) (c:bA),r x<d→ρ x=x→x∈V→rn V ph ρ r c→
  ∃N ct,(∀n,N≤n→qq n x c=some (gX ph ρ r x,ct))∧rn V ph ρ r ct:=by
 induction d with
 |zero=>intro x c h;omega
 |succ d bZ=>
 intro x c aR ab kj aK;cases aI:tg x c.full with
 |some t=>refine⟨1,c,fun n au=>?_,aK⟩;obtain⟨n',rfl⟩:∃n',n=n'+1:=⟨n-1,by omega⟩;simp only[qq,aI,aK.full x t aI]
 |none=>
  have TS:∀(e:bA),rn V ph ρ r e→rn V ph ρ r {e with full:=e0 x (gX ph ρ r x) e.full}:=fun e he=>⟨⟨he.fin.ru,he.fin.keys,he.fin.ph⟩,fun z t bq=>by
   have r2:tg z (e0 x (gX ph ρ r x) e.full)=some t:=bq;rw[nJ]at r2;split at r2
   ·rename_i e;subst e;cases r2;rfl
   ·exact he.full z t r2⟩
  by_cases ag:c.shd x=false
  ·have jz:ph x=none:=by rw[←aK.fin.ph];exact AR ag
   have aX:gX ph ρ r x= .var x:=by rw[B8 (by rw[ab];exact jz),ab]
   refine⟨1,_,fun n au=>?_,TS c aK⟩;obtain⟨n',rfl⟩:∃n',n=n'+1:=⟨n-1,by omega⟩;simp only[qq,aI,if_pos ag,aX]
  ·have jz:ph x=some (c.shp x):=by rw[←aK.fin.ph];exact AS ag
   obtain⟨g1,g2,g3⟩:=gE _ _ jz;have af4:∀(t:T) (e:bA),(∀w,t.occ w=true→(c.shp x).occ w=true)→rn V ph ρ r e→∃N fT,(∀n,N≤n→t.mapO (Bo (qq n)) e=some (t.ap (gX ph ρ r),fT))∧rn V ph ρ r fT:=by
    intro t;induction t with
    |var v=>intro e nv he;have wg:=g2 v (nv v (by simp[T.occ]));have wa:r (ρ v)<r x:=aM x (ρ v) ⟨ab,_,v,jz,nv v (by simp[T.occ]),rfl⟩;obtain⟨ak,a7,aP⟩:=tD he.fin.ru (by rw[he.fin.keys];exact wg:v∈cv e.up);obtain⟨N,aC,bF,dC⟩:=bZ (ρ v) ak (by omega) (e2 v) (by rw[←he.fin.keys];exact(he.fin.ru.mem (by rw[he.fin.keys];exact wg)).1) (he.sm aP);exact⟨N,aC,fun n au=>by simp only[T.mapO,Bo,a7,ju,bF n au,T.ap];rw[←zz e2],dC⟩
    |pair a b dW dX=>intro e nv he;obtain⟨hP,ak,a7,eP⟩:=dW e (fun w hw=>nv w (by simp[T.occ,hw])) he;obtain⟨ji,aC,bF,dC⟩:=dX ak (fun w hw=>nv w (by simp[T.occ,hw])) eP;exact⟨max hP ji,aC,fun n au=>by simp only[T.mapO,a7 n (by omega),ju,bF n (by omega),oi,T.ap],dC⟩
    |_=>intro e _ he;exact⟨0,e,fun n _=>rfl,he⟩
   obtain⟨N,e,a7,eP⟩:=af4 (c.shp x) c (fun w h=>h) aK;have mE:gX ph ρ r x=(c.shp x).ap (gX ph ρ r):=zA e2 aM (by rw[ab];exact jz);refine⟨N+1,_,fun n au=>?_,TS e eP⟩;obtain⟨n',rfl⟩:∃n',n=n'+1:=⟨n-1,by omega⟩;simp only[qq,aI,if_neg ag,a7 n' (by omega),oi,mE]
def nS(ph:Int→Option T)(ρ:Int→Int)(v:Int):Bool:= !(decide (ρ v=v)&&(ph v).isNone)
theorem amy(gE:ou V ph)(e2:∀v,ρ (ρ v)=ρ v)(aM:∀z u,jg ph ρ z u→r u<r z)(jN:∀v∈V,ρ v∈V):∀(be:List Int) (c:bA) (out:List Int),(∀v∈be,v∈V)→(∀d,qB V ph ρ r d c)→out.length≤400→(∀v∈out,(gX ph ρ r v).size≤5000)→
  ∃N ct o,(∀n,N≤n→sl n be c out=some (o,ct))∧tS V ph ρ ct∧ct.full=c.full∧(∀l,o=some l→l=out++be.filter (nS ph ρ)∧l.length≤400∧∀v∈l,(gX ph ρ r v).size≤5000)∧(o=none→¬((out++be.filter (nS ph ρ)).length≤400∧∀v∈out++be.filter (nS ph ρ),(gX ph ρ r v).size≤5000)):=by
 intro be;induction be with
 |nil=>intro c out _ hw J U;exact⟨0,c,some out,fun n _=>rfl,(hw 0).fin,rfl,fun l e=>by cases e;simp;exact⟨J,U⟩,fun e=>by cases e⟩
 |cons v be bZ=>
  intro c out aK hw J U;have wg:=aK v (by simp);obtain⟨bN,a7,aP⟩:=tD (hw 0).fin.ru (by rw[(hw 0).fin.keys];exact wg:v∈cv c.up);have Ga:∀d,qB V ph ρ r d bN:=fun d=>(hw d).sm aP;obtain⟨hP,cq,bF,dC,dy,aC,s2⟩:=aoG gE e2 aM (r (ρ v)+1) (ρ v) bN (by omega) (e2 v) (jN v wg) (Ga _);have oS:∀d,qB V ph ρ r d cq:=fun d=>⟨dC.fin,fun z bq=>by
   by_cases bE:r z<r (ρ v)+1
   ·exact dC.col z bE
   ·obtain⟨bG,a2⟩:=dy.hi z (by omega);rw[bG,a2];exact(Ga d).col z bq⟩
  have KA:cq.full=c.full:=dy.full.trans aP.rest.2.2;have TZ:(cq.shd (ρ v)=false)=((ph (ρ v)).isNone=true):=by rw[←dC.fin.ph];unfold bA.ph;cases cq.shd (ρ v)<;>simp
  have jQ:∀n,hP≤n→sl n (v::be) c out=(if ρ v=v∧cq.shd (ρ v)=false then sl n be cq out else if 5000<cq.sz (ρ v)∨400<out.length+1 then some (none,cq)else sl n be cq (out++[v])):=fun n au=>by simp only[sl,a7,ju,bF n au,Bool.true_eq_false,if_false]
  have Tp:gX ph ρ r (ρ v)=gX ph ρ r v:=(zz e2 v).symm;by_cases ay:ρ v=v∧cq.shd (ρ v)=false
  ·have ae:nS ph ρ v=false:=by have ar:=ay.2;rw[TZ]at ar;rw[ay.1]at ar;simp[nS,ay.1,ar]
   obtain⟨ji,dj,o,b0,f3,qp,Ik,jn⟩:=bZ cq out (fun w hw=>aK w (by simp[hw])) oS J U;refine⟨max hP ji,dj,o,fun n au=>by rw[jQ n (by omega),if_pos ay];exact b0 n (by omega),f3,qp.trans KA,?_,?_⟩
   ·simp only[List.filter_cons,ae,hb,if_false];exact Ik
   ·simp only[List.filter_cons,ae,hb,if_false];exact jn
  ·have ae:nS ph ρ v=true:=by
    cases e:nS ph ρ v with
    |true=>rfl
    |false=>simp only[nS,Bool.not_eq_false',cE,fK]at e;exact absurd ⟨e.1,by rw[TZ,e.1];exact e.2⟩ ay
   by_cases aw:5000<cq.sz (ρ v)∨400<out.length+1
   ·refine⟨hP,cq,none,fun n au=>by rw[jQ n au,if_neg ay,if_pos aw],dC.fin,KA,(fun l e=>by cases e),fun _=>?_⟩;simp only[List.filter_cons,ae,if_true];rintro⟨bG,a2⟩;rcases aw with aw|aw
    ·rw[s2,Tp]at aw;have:=a2 v (by simp);unfold cut at aw;split at aw<;>omega
    ·simp at bG;omega
   ·have bq:(gX ph ρ r v).size≤5000:=by have:¬5000<cq.sz (ρ v):=fun h=>aw (.inl h);rw[s2,Tp]at this;unfold cut at this;split at this<;>omega
    obtain⟨ji,dj,o,b0,f3,qp,Ik,jn⟩:=bZ cq (out++[v]) (fun w hw=>aK w (by simp[hw])) oS (by simp;omega) (fun w hw=>by
     rcases ka.1 hw with hw|hw
     ·exact U w hw
     ·simp at hw;subst hw;exact bq)
    refine⟨max hP ji,dj,o,fun n au=>by rw[jQ n (by omega),if_neg ay,if_neg aw];exact b0 n (by omega),f3,qp.trans KA,?_,?_⟩
    ·simp only[List.filter_cons,ae,if_true];simpa using Ik
    ·simp only[List.filter_cons,ae,if_true];simpa using jn
theorem amz(gE:ou V ph)(e2:∀v,ρ (ρ v)=ρ v)(aM:∀z u,jg ph ρ z u→r u<r z)(jN:∀v∈V,ρ v∈V):∀(be:List Int) (c:bA),(∀v∈be,v∈V)→rn V ph ρ r c→∃N ct,∀n,N≤n→yM n be c=some (be.map fun v=>⟨v,gX ph ρ r v⟩,ct):=by
 intro be;induction be with
 |nil=>intro c _ _;exact⟨0,c,fun n _=>rfl⟩
 |cons v be bZ=>intro c aK hw;have wg:=aK v (by simp);obtain⟨bN,a7,aP⟩:=tD hw.fin.ru (by rw[hw.fin.keys];exact wg:v∈cv c.up);obtain⟨hP,cq,bF,dC⟩:=aoE gE e2 aM (r (ρ v)+1) (ρ v) bN (by omega) (e2 v) (jN v wg) (hw.sm aP);obtain⟨ji,dj,b0⟩:=bZ cq (fun w hw=>aK w (by simp[hw])) dC;refine⟨max hP ji,dj,fun n au=>?_⟩;simp only[yM,a7,ju,bF n (by omega),b0 n (by omega),oi,gS];rw[←zz e2]
end
end Go.Pv
namespace Go.Pv
open Go
def bA.new:bA:=⟨[],[],[],[],[],[]⟩
def ra(l:List Int):List Int:=l.mergeSort fun x y=>decide (x≤y)
def Bb(n:Nat)(E:List (T×T)):Option (Option (List ao)):=(pZ n E bA.new).bind fun p=>if p.1=false then some none else DV n (ra (cv p.2.up)) p.2
theorem DY(l:List Int):(ra l).Perm l:=List.mergeSort_perm l _
theorem amO{l:List Int}(h:l.Nodup):(ra l).Pairwise (· < ·):=by have J:(ra l).Pairwise fun x y=>decide (x≤y)=true:=List.pairwise_mergeSort (fun a b c=>by simp;omega) (fun a b=>by simp;omega) l;have U:(ra l).Pairwise (· ≠ ·):=List.nodup_iff_pairwise_ne.1 ((DY l).nodup_iff.2 h);exact(J.and U).imp fun h=>by simp at h;omega
structure Zm (c:bA) (ρ:Int→Int) (ct:bA) (VL:Int→Prop):Prop where
 inv:lZ ct ρ
 ph:ct.ph=c.ph
 nd:(cv ct.up).Nodup
 sub:∀v∈cv c.up,v∈cv ct.up
 occ:∀v,VL v→v∈cv ct.up
 rest:ct.color=c.color∧ct.size=c.size∧ct.full=c.full
 new:∀v∈cv ct.up,v∈cv c.up∨VL v
theorem Vm{ρ:Int→Int}(t:T):∀(c:bA),lZ c ρ→(cv c.up).Nodup→(∀v,t.occ v=true→0≤v)→∃ct,Au t c=some ct∧Zm c ρ ct fun v=>t.occ v=true:=by
 unfold Au;induction t with
 |var v=>
  intro c hi au bD;by_cases aK:v∈cv c.up
  ·obtain⟨bN,a7,aP⟩:=tD hi.ru aK;refine⟨bN,by simp[T.foldO,a7],hi.sm aP,aP.ph,by rw[aP.keys];exact au,fun w hw=>by rw[aP.keys];exact hw,fun w hw=>?_,aP.rest,fun w hw=>.inl (by rw[aP.keys]at hw;exact hw)⟩;simp[T.occ]at hw;subst hw;rw[aP.keys];exact aK
  ·obtain⟨a7,bF,b0⟩:=amc hi.ru (bD v (by simp[T.occ])) aK;refine⟨{c with up:=e0 v v c.up},by simp only[T.foldO,a7,oi],⟨bF,?_,hi.sat⟩,rfl,?_,fun w hw=>by rw[b0];simp[hw],fun w hw=>?_,⟨rfl,rfl,rfl⟩,fun w hw=>?_⟩
   ·intro x u ab;obtain⟨bG,a2,a3⟩:=hi.sh x u ab;refine⟨bG,fun w hw=>?_,?_⟩
    ·show w∈cv (e0 v v c.up);rw[b0];simp[a2 w hw]
    ·show x∈cv (e0 v v c.up);rw[b0];simp[a3]
   ·rw[b0];rw[List.nodup_append];exact⟨au,by simp,fun a br b ae e=>by simp at ae;subst ae;subst e;exact aK br⟩
   ·simp[T.occ]at hw;subst hw;rw[b0];simp
   ·rw[b0]at hw;simp at hw;rcases hw with hw|rfl;exact .inl hw;exact .inr (by simp[T.occ])
 |pair a b dW dX=>
  intro c hi au bD;obtain⟨bN,a7,m1⟩:=dW c hi au fun v aK=>bD v (by simp[T.occ,aK]);obtain⟨cq,bF,m2⟩:=dX bN m1.inv m1.nd fun v aK=>bD v (by simp[T.occ,aK]);refine⟨cq,by simp only[T.foldO,a7,ju,bF],m2.inv,m2.ph.trans m1.ph,m2.nd,fun v aK=>m2.sub v (m1.sub v aK),fun v aK=>?_,?_,fun v aK=>?_⟩
  ·simp only[T.occ,mT]at aK;rcases aK with aK|aK
   ·exact m2.sub v (m1.occ v aK)
   ·exact m2.occ v aK
  ·rw[m2.rest.1,m2.rest.2.1,m2.rest.2.2];exact m1.rest
  ·rcases m2.new v aK with h|h
   ·rcases m1.new v h with h|h
    ·exact .inl h
    ·exact .inr (by simp[T.occ,h])
   ·exact .inr (by simp[T.occ,h])
 |_=>intro c hi au bD;exact⟨c,rfl,hi,rfl,au,fun v aK=>aK,fun v aK=>by simp[T.occ]at aK,⟨rfl,rfl,rfl⟩,fun v aK=>.inl aK⟩
def L9(E:List (T×T)):Prop:= ∀e∈E,∀v,(e.1.occ v=true∨e.2.occ v=true)→0≤v
theorem BT:∀(E:List (T×T)) (c:bA) (ρ:Int→Int),lZ c ρ→(cv c.up).Nodup→L9 E→∃N o,(∀n,N≤n→pZ n E c=some o)∧((o.2.color=c.color∧o.2.size=c.size∧o.2.full=c.full)∧∀v∈cv o.2.up,v∈cv c.up∨ ∃e∈E,e.1.occ v=true∨e.2.occ v=true)∧(o.1=true→∃ρ',lZ o.2 ρ'∧(cv o.2.up).Nodup∧∀aQ,kf o.2.ph ρ' aQ↔kf c.ph ρ aQ∧jJ E aQ)∧(o.1=false→∀aQ,kf c.ph ρ aQ→¬jJ E aQ):=by
 intro E;induction E with
 |nil=>intro c ρ hi au _;exact⟨0,(true,c),fun n _=>rfl,⟨⟨rfl,rfl,rfl⟩,fun v aK=>.inl aK⟩,fun _=>⟨ρ,hi,au,fun aQ=>⟨fun h=>⟨h,DX aQ⟩,fun h=>h.1⟩⟩,fun e=>by cases e⟩
 |cons e E bZ=>
  intro c ρ hi au bD;obtain⟨bN,a7,m1⟩:=Vm e.1 c hi au fun v aK=>bD e (by simp) v (.inl aK);obtain⟨cq,bF,m2⟩:=Vm e.2 bN m1.inv m1.nd fun v aK=>bD e (by simp) v (.inr aK);obtain⟨k7,uN⟩:=m2.inv.sat
  obtain⟨hP,gG,b0,jd⟩:=aa6 _ _ cq ρ e.1 e.2 k7 m2.inv uN (fun w hw=>m2.sub w (m1.occ w hw)) (fun w hw=>m2.occ w hw) rfl rfl;have jz:cq.ph=c.ph:=m2.ph.trans m1.ph;have mD:gG.2.color=c.color∧gG.2.size=c.size∧gG.2.full=c.full:=by rw[jd.rest.1,jd.rest.2.1,jd.rest.2.2,m2.rest.1,m2.rest.2.1,m2.rest.2.2];exact m1.rest
  have FV:∀v∈cv gG.2.up,v∈cv c.up∨e.1.occ v=true∨e.2.occ v=true:=fun v aK=>by
   rw[jd.keys]at aK;rcases m2.new v aK with h|h
   ·rcases m1.new v h with h|h
    ·exact .inl h
    ·exact .inr (.inl h)
   ·exact .inr (.inr h)
  obtain⟨f,dj⟩:=gG;cases f with
  |false=>refine⟨hP,(false,dj),fun n au=>?_,⟨mD,fun v aK=>(FV v aK).imp id fun h=>⟨e,by simp,h⟩⟩,(fun e=>by cases e),fun _ aQ ag he=>jd.no rfl aQ (by rw[jz];exact ag) (q8.1 he).1⟩;simp only[pZ,a7,bF,ju,b0 n au,hb,if_false]
  |true=>
   obtain⟨lu,bG,a2,_⟩:=jd.yes rfl;simp only at bG a2;obtain⟨ji,gD,b1,b2,fN,ov⟩:=bZ dj lu bG (by have:=jd.keys;simp only at this;rw[this];exact m2.nd) fun fT he=>bD fT (by simp[he]);refine⟨max hP ji,gD,fun n au=>?_,?_,fun aI=>?_,fun aI aQ ag he=>?_⟩
   ·simp only[pZ,a7,bF,ju,b0 n (by omega),if_true];exact b1 n (by omega)
   ·refine⟨by rw[b2.1.1,b2.1.2.1,b2.1.2.2];exact mD,fun v aK=>?_⟩;rcases b2.2 v aK with h|⟨fT,J,U⟩
    ·exact(FV v h).imp id fun h=>⟨e,by simp,h⟩
    ·exact .inr ⟨fT,by simp[J],U⟩
   ·obtain⟨ρ2,d1,d2,d3⟩:=fN aI;exact⟨ρ2,d1,d2,fun aQ=>by rw[d3 aQ,a2 aQ,jz,q8,and_assoc]⟩
   ·exact ov aI aQ ((a2 aQ).2 ⟨by rw[jz];exact ag,(q8.1 he).1⟩) (q8.1 he).2
theorem EF{ph:Int→Option T}{ρ:Int→Int}{v:Int}:nS ph ρ v=false↔ρ v=v∧ph v=none:=by simp[nS]
theorem SV{ph:Int→Option T}{ρ:Int→Int}{r:Int→Nat}(e2:∀v,ρ (ρ v)=ρ v):∀(n:Nat) (v w:Int),(nh ph ρ n v).occ w=true→(∀z u,jg ph ρ z u→r u<r z)→r (ρ v)<n→ρ w=w∧ph w=none
 |0,v,w,_,_,h=>by omega
 |n+1,v,w,h,aM,au=>by
  simp only[nh]at h;cases e:ph (ρ v)with
  |none=>rw[e]at h;simp[T.occ]at h;subst h;exact⟨e2 v,e⟩
  |some t=>rw[e]at h;obtain⟨u,J,U⟩:=AG.1 h;have:=aM (ρ v) (ρ u) ⟨e2 v,t,u,e,J,rfl⟩;exact SV e2 n u w U aM (by omega)
section
variable {V:List Int} {ph:Int→Option T} {ρ:Int→Int} {r:Int→Nat}
def tE(ph:Int→Option T)(ρ:Int→Int)(r:Int→Nat)(V:List Int):List ao:=((ra V).filter (nS ph ρ)).map fun v=>⟨v,gX ph ρ r v⟩
theorem Nz(au:V.Nodup):iP (tE ph ρ r V):=by unfold tE;rw[iP,List.pairwise_map];exact((amO au).filter _)
theorem XF(au:V.Nodup)(gE:ou V ph)(dt:∀v,v∉V→ρ v=v)(v:Int):ds (tE ph ρ r V) v=if nS ph ρ v then some (gX ph ρ r v)else none:=by
 by_cases ae:nS ph ρ v=true
 ·rw[if_pos ae];have aK:v∈V:=by
   refine Classical.byContradiction fun h=>?_;have J:=dt v h;have U:ph v=none:=by cases e:ph v with
    |none=>rfl
    |some t=>exact absurd (gE v t e).2.2 h
   rw[EF.2 ⟨J,U⟩]at ae;cases ae
  have:(⟨v,gX ph ρ r v⟩:ao)∈tE ph ρ r V:=iC.2 ⟨v,mV.2 ⟨(DY V).mem_iff.2 aK,ae⟩,rfl⟩;exact ud (Nz au) this
 ·rw[if_neg ae];refine vv.2 fun b gb e=>?_;obtain⟨u,J,rfl⟩:=iC.1 gb;simp only at e;subst e;exact ae (mV.1 J).2
theorem amB(au:V.Nodup)(gE:ou V ph)(dt:∀v,v∉V→ρ v=v)(e2:∀v,ρ (ρ v)=ρ v)(hle:∀v,ρ v≤v)(aM:∀z u,jg ph ρ z u→r u<r z):fM (tE ph ρ r V):=by
 refine⟨Nz au,fun b ae w hw=>?_,fun b ae w hw=>?_⟩
 ·obtain⟨u,J,rfl⟩:=iC.1 ae;rw[XF au gE dt];have:=SV e2 _ u w hw aM (by omega);rw[EF.2 this];rfl
 ·obtain⟨u,J,rfl⟩:=iC.1 ae;have pE:=(mV.1 J).2;simp only at hw⊢;cases e:ph (ρ u)with
  |none=>
   rw[B8 e]at hw;cases hw;have U:=hle u;have ar:ρ u≠u:=fun h=>by rw[EF.2 ⟨h,by rw[h]at e;exact e⟩]at pE;cases pE
   omega
  |some t=>rw[zA e2 aM e]at hw;have:=(gE _ _ e).1;cases t<;>simp[T.ap,T.kind]at hw this
theorem aeZ(e2:∀v,ρ (ρ v)=ρ v)(aM:∀z u,jg ph ρ z u→r u<r z)(aQ:Int→T):kf ph ρ aQ↔∀v,aQ v=(gX ph ρ r v).ap aQ:=by
 constructor
 ·intro h;have:∀(n:Nat) (v:Int),r (ρ v)<n→aQ v=(gX ph ρ r v).ap aQ:=by
   intro n;induction n with
   |zero=>intro v h;omega
   |succ n bZ=>
    intro v aK;cases e:ph (ρ v)with
    |none=>rw[B8 e];exact h.1 v
    |some t=>rw[zA e2 aM e,BC,h.1 v,h.2 _ t (e2 v) e];refine ub fun w hw=>bZ w ?_;have:=aM (ρ v) (ρ w) ⟨e2 v,t,w,e,hw,rfl⟩;omega
  exact fun v=>this _ v (Nat.lt_succ_self _)
 ·intro h;refine⟨fun v=>by rw[h v,h (ρ v),←zz e2],fun x t ab aL=>?_⟩;rw[h x,zA e2 aM (by rw[ab];exact aL),BC];exact ub fun w _=>(h w).symm
theorem amA(au:V.Nodup)(gE:ou V ph)(dt:∀v,v∉V→ρ v=v)(e2:∀v,ρ (ρ v)=ρ v)(aM:∀z u,jg ph ρ z u→r u<r z)(aQ:Int→T):gW (tE ph ρ r V) aQ↔kf ph ρ aQ:=by
 rw[aeZ e2 aM,amH (Nz au)];refine forall_congr' fun v=>?_;rw[b7,XF au gE dt];cases e:nS ph ρ v with
 |true=>simp
 |false=>obtain⟨J,U⟩:=EF.1 e;rw[B8 (by rw[J];exact U),J];simp
end
theorem amI(E:List (T×T))(bD:L9 E):∃n o,Bb n E=some o∧iT [] E o∧∀c,pZ n E bA.new=some (true,c)→(cv c.up).Nodup∧(∀v∈cv c.up,∃e∈E,e.1.occ v=true∨e.2.occ v=true)∧c.size=[]:=by
 have hi:lZ bA.new id:=⟨⟨fun v u h=>by simp[bA.new,tg]at h,fun v _=>rfl⟩,fun x t h=>by simp[bA.new,bA.ph,bA.shd,tg]at h,⟨.var,fun v=>rfl,fun x t _ h=>by simp[bA.new,bA.ph,bA.shd,tg]at h⟩⟩;have l3:∀aQ,kf bA.new.ph id aQ:=fun aQ=>⟨fun v=>rfl,fun x t _ h=>by simp[bA.new,bA.ph,bA.shd,tg]at h⟩;obtain⟨hP,gG,a7,cQ,dy,jd⟩:=BT E bA.new id hi (by simp[bA.new,cv]) bD;obtain⟨cQ,tw⟩:=cQ;obtain⟨f,c⟩:=gG;cases f with
 |false=>refine⟨hP,none,by simp[Bb,a7 hP (eY _)],Ew fun aQ _ he=>jd rfl aQ (l3 aQ) he,fun c h=>?_⟩;rw[a7 hP (eY _)]at h;cases h
 |true=>
  obtain⟨ρ,bG,a2,a3⟩:=dy rfl;simp only at bG a2 a3 cQ tw;have Tk:∀n,hP≤n→∀ct,pZ n E bA.new=some (true,ct)→(cv ct.up).Nodup∧(∀v∈cv ct.up,∃e∈E,e.1.occ v=true∨e.2.occ v=true)∧ct.size=[]:=fun n au ct h=>by rw[a7 n au]at h;cases h;exact⟨a2,fun v aK=>(tw v aK).resolve_left (by simp[bA.new,cv]),cQ.2.1⟩
  obtain⟨r,aM⟩:=bG.rank;have e2:=bG.ru.idem;have jN:∀v∈cv c.up,ρ v∈cv c.up:=fun v aK=>(bG.ru.mem aK).1;have c7:tS (cv c.up) c.ph ρ c:=⟨bG.ru,rfl,rfl⟩;have hw:∀d,qB (cv c.up) c.ph ρ r d c:=fun d=>⟨c7,fun z _=>.inl (by simp[bA.col,cQ.1,bA.new,tg])⟩;obtain⟨ji,cq,o,b1,b2,fN,ov,O2⟩:=amy bG.sh e2 aM jN (ra (cv c.up)) c [] (fun v aK=>(DY _).mem_iff.1 aK) hw (by simp) (fun v aK=>by simp at aK);have dk:=amB (r:=r) a2 bG.sh bG.ru.no e2 bG.ru.le aM;have lh:∀aQ,gW (tE c.ph ρ r (cv c.up)) aQ↔gW [] aQ∧jJ E aQ:=fun aQ=>by rw[amA a2 bG.sh bG.ru.no e2 aM,a3 aQ];exact⟨fun h=>⟨fun b ae=>by simp at ae,h.2⟩,fun h=>⟨l3 aQ,h.2⟩⟩
  have Tm:hE (tE c.ph ρ r (cv c.up))↔(([]++(ra (cv c.up)).filter (nS c.ph ρ)).length≤400∧∀v∈[]++(ra (cv c.up)).filter (nS c.ph ρ),(gX c.ph ρ r v).size≤5000):=by unfold hE tE;simp only[List.length_map,b3,iC,forall_exists_index,and_imp,forall_apply_eq_imp_iff₂]
  cases o with
  |none=>refine⟨max hP ji,none,by simp[Bb,a7 (max hP ji) (by omega),DV,b1 (max hP ji) (by omega)],?_,Tk _ (by omega)⟩;exact fun ai J U ar=>O2 rfl (Tm.1 (Sk dk J (fun aQ hA=>(lh aQ).2 (U aQ hA)) ar))
  |some l=>
   obtain⟨ak,aC,bk⟩:=ov l rfl;have agK:rn (cv c.up) c.ph ρ r cq:=⟨b2,fun x t h=>by rw[fN,cQ.2.2]at h;simp[bA.new,tg]at h⟩;simp only[b3]at ak;obtain⟨y4,dj,d1⟩:=amz bG.sh e2 aM jN l cq (fun v aK=>by rw[ak]at aK;exact(DY _).mem_iff.1 (mV.1 aK).1) agK;refine⟨max (max hP ji) y4,some (tE c.ph ρ r (cv c.up)),?_,⟨⟨dk,Tm.2 ?_⟩,lh⟩,Tk _ (by omega)⟩
   ·simp only[Bb,a7 (max (max hP ji) y4) (by omega),ju,Bool.true_eq_false,if_false,DV,b1 (max (max hP ji) y4) (by omega),d1 (max (max hP ji) y4) (by omega),oi];rw[ak];rfl
   ·rw[b3,←ak];exact⟨aC,bk⟩
def hG(s:List ao):List (T×T):=s.map fun b=>(.var b.v,b.t)
theorem amG{s:List ao}{aQ:Int→T}:jJ (hG s) aQ↔gW s aQ:=by simp[jJ,hG,gW,T.ap]
theorem Zw{s:List ao}{E:List (T×T)}{o:Option (List ao)}:iT [] (hG s++E) o↔iT s E o:=by
 have h:∀aQ,(gW [] aQ∧jJ (hG s++E) aQ)↔(gW s aQ∧jJ E aQ):=fun aQ=>by rw[DW,amG];exact⟨fun h=>h.2,fun h=>⟨fun b ae=>by simp at ae,h⟩⟩
 exact⟨BA h,BA fun aQ=>(h aQ).symm⟩
end Go.Pv
namespace Go.Pv
open Go
open Classical in
noncomputable def mgu(s:List ao)(E:List (T×T)):Option (List ao):=if h:∃o,iT s E o then h.choose else none
theorem r9{s:List ao}{E:List (T×T)}{o:Option (List ao)}(h:iT s E o):mgu s E=o:=by have ab:∃o,iT s E o:=⟨o,h⟩;unfold mgu;rw[dif_pos ab];exact Zx ab.choose_spec h
def qm(s:List ao):Prop:= ∀b∈s,(0≤b.v∧b.v≤100000)∧b.t.ok=true
theorem OW{aQ:Int→T}{t:T}(aL:t.ok=true)(h:∀v,t.occ v=true→(aQ v).ok=true):(t.ap aQ).ok=true:=by
 induction t with
 |var n=>exact h n (by simp[T.occ])
 |pair a b dW dX=>simp only[T.ok,cE]at aL;simp only[T.ap,T.ok,cE];exact⟨dW aL.1 fun v aK=>h v (by simp[T.occ,aK]),dX aL.2 fun v aK=>h v (by simp[T.occ,aK])⟩
 |_=>exact aL
theorem w7{t:T}(aL:t.ok=true){v:Int}(h:t.occ v=true):0≤v∧v≤100000:=by
 induction t with
 |var n=>simp[T.occ]at h;subst h;simpa[T.ok]using aL
 |pair a b dW dX=>
  simp only[T.ok,cE]at aL;simp only[T.occ,mT]at h;rcases h with h|h
  ·exact dW aL.1 h
  ·exact dX aL.2 h
 |_=>simp[T.occ]at h
theorem DQ{s:List ao}(ag:qm s){t:T}(aL:t.ok=true):(t.ap (b7 s)).ok=true:=OW aL fun v aK=>by
 unfold b7;cases e:ds s v with
 |none=>have:=w7 aL aK;simpa[T.ok]using this
 |some x=>exact(ag _ (kg e)).2
theorem BF{s:List ao}(ag:qm s){v:Int}{t:T}(aK:0≤v∧v≤100000)(aL:t.ok=true){ai:List ao}(h:nR s v t=some ai):qm ai:=by
 unfold nR at h;split at h
 ·cases h;intro b ae;rcases qi.1 ae with rfl|⟨c,ay,rfl⟩
  ·exact⟨aK,DQ ag aL⟩
  ·refine⟨(ag c ay).1,OW (ag c ay).2 fun w hw=>?_⟩;unfold one;split
   ·exact DQ ag aL
   ·have:=w7 (ag c ay).2 hw;simpa[T.ok]using this
 ·cases h
theorem YX{s:List ao}(ag:qm s){t:T}(aL:t.ok=true):(hq s t).ok=true:=by
 cases t with
 |var n=>have:=DQ ag aL;simpa[hq,T.ap]using this
 |_=>exact aL
theorem NX:∀(n:Nat) (s:List ao) (a b:T) (ai:List ao),qm s→a.ok=true→b.ok=true→kP n s a b=some (some ai)→qm ai
 |0,_,_,_,_,_,_,_,h=>by simp[kP]at h
 |n+1,s,a,b,ai,ag,br,ae,h=>by
  have ab:=YX ag br;have aG:=YX ag ae;simp only[kP]at h;generalize hq s a=x at h ab;generalize hq s b=y at h aG;have wh:∀{i:Int},(T.var i).ok=true→0≤i∧i≤100000:=fun h=>w7 h (by simp[T.occ]);cases x with
  |var i=>
   cases y with
   |var j=>
    simp only[j8,dM]at h;split at h
    ·exact BF ag (wh aG) ab h
    ·split at h
     ·cases h;exact ag
     ·exact BF ag (wh ab) aG h
   |_=>simp only[j8,dM]at h;exact BF ag (wh ab) aG h
  |pair bG a2=>
   cases y with
   |var j=>simp only[j8,dM]at h;exact BF ag (wh aG) ab h
   |pair b1 b2=>
    simp only[T.ok,cE]at ab aG;simp only[j8]at h;split at h
    ·cases h
    ·cases h
    ·rename_i s1 ak;exact NX n s1 a2 b2 ai (NX n s bG b1 s1 ag ab.1 aG.1 ak) ab.2 aG.2 h
   |_=>simp[j8]at h
  |_=>
   cases y with
   |var j=>simp only[j8,dM]at h;exact BF ag (wh aG) ab h
   |_=>
    simp only[j8,dM]at h;split at h
    ·cases h;exact ag
    ·cases h
def nL:T→List Int
 | .var n=>[n]
 | .pair a b=>nL a++nL b
 |_=>[]
theorem yl{t:T}{v:Int}(h:t.occ v=true):v∈nL t:=by
 induction t with
 |var n=>simp[T.occ]at h;subst h;simp[nL]
 |pair a b dW dX=>simp only[T.occ,mT]at h;simp only[nL,ka];exact h.imp dW dX
 |_=>simp[T.occ]at h
theorem H5{s:List ao}(ag:fM s)(aI:hE s)(a b:T):∃n o,kP n s a b=some o∧iT s [(a,b)] o:=by obtain⟨n,o,J,U⟩:=Yf (s.flatMap (fun b=>b.v::nL b.t)++nL a++nL b) _ _ s a b ag aI (fun c ay=>⟨by simp only[ka,List.mem_flatMap];exact .inl (.inl ⟨c,ay,by simp⟩),fun w hw=>by simp only[ka,List.mem_flatMap];exact .inl (.inl ⟨c,ay,by simp[yl hw]⟩)⟩) (fun w hw=>by simp[yl hw]) (fun w hw=>by simp[yl hw]) rfl rfl;exact⟨n,o,J,U.1⟩
theorem OM{s:List ao}{e:T×T}{E:List (T×T)}{s1:List ao}(h:iT s [e] (some s1)){o:Option (List ao)}(U:iT s1 E o):iT s (e::E) o:=OL (E:=[e]) h U
theorem GQ{s:List ao}(ag:fM s)(aI:hE s)(E:List (T×T)):iT s E (mgu s E):=by
 induction E generalizing s with
 |nil=>rw[r9 (IA ag aI)];exact IA ag aI
 |cons e E bZ=>
  obtain⟨n,o,_,U⟩:=H5 ag aI e.1 e.2;cases o with
  |none=>have ar:iT s (e::E) none:=Iz E U;rw[r9 ar];exact ar
  |some s1=>have ar:=OM U (bZ U.1.1 U.1.2);rw[r9 ar];exact ar
theorem GP{s:List ao}(ag:fM s)(aI:hE s):mgu s []=some s:=r9 (IA ag aI)
theorem LY{s:List ao}(ag:fM s)(aI:hE s)(e:T×T)(E:List (T×T)):mgu s (e::E)=match mgu s [e]with|some s1=>mgu s1 E|none=>none:=by
 have J:=GQ ag aI [e];cases h:mgu s [e]with
 |none=>rw[h]at J;have ar:iT s (e::E) none:=Iz E J;exact r9 ar
 |some s1=>rw[h]at J;exact r9 (OM J (GQ J.1.1 J.1.2 E))
theorem Aw{s:List ao}(ag:fM s)(aI:hE s){E:List (T×T)}{ai:List ao}(h:mgu s E=some ai):fM ai∧hE ai:=by have J:=GQ ag aI E;rw[h]at J;exact J.1
theorem aib{s:List ao}(ag:fM s)(aI:hE s)(ax:qm s){E:List (T×T)}(dG:∀e∈E,e.1.ok=true∧e.2.ok=true){ai:List ao}(h:mgu s E=some ai):qm ai:=by
 induction E generalizing s with
 |nil=>rw[GP ag aI]at h;cases h;exact ax
 |cons e E bZ=>
  rw[LY ag aI]at h;split at h
  ·rename_i s1 J;obtain⟨n,o,U,ar⟩:=H5 ag aI e.1 e.2;have a8:=r9 ar;rw[J]at a8;subst a8;exact bZ ar.1.1 ar.1.2 (NX n s e.1 e.2 s1 ax (dG e (by simp)).1 (dG e (by simp)).2 U) (fun fT he=>dG fT (by simp[he])) h
  ·cases h
theorem UE{l:List Int}(au:l.Nodup)(h:∀v∈l,0≤v∧v≤100000):l.length≤100001:=by
 have J:(l.map Int.toNat).Nodup:=by rw[List.nodup_iff_pairwise_ne,List.pairwise_map];exact aoS (fun{a b} br ae cH e=>cH (by have:=h a br;have:=h b ae;omega)) au
 have:=Oy J (l₂:=List.range 100001) (fun x ab=>by obtain⟨v,aK,rfl⟩:=iC.1 ab;have:=h v aK;simp;omega)
 simpa using this
end Go.Pv
