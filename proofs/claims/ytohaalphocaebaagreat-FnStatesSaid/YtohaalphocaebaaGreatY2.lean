/- Classes of variables, as the program keeps them: what its functions compute, and what it means. -/
import Derived.Deep.LoopGhost
import Derived.Test.YtohaalphocaebaaGreatProg
import Derived.Test.YtohaalphocaebaaGreatY1
set_option linter.all false
set_option maxHeartbeats 4000000
open Array renaming getElem?_toList→s6
open BitVec renaming ofInt→lz
open Bool renaming and_eq_true→cx,false_eq_true→gr,not_eq_true'→rT,or_eq_true→lQ
open Decidable renaming not_not→apN
open Go renaming Program→cy,TypeId→gx
open Go.IntKind renaming bits→mW,i64→mi,signed→qG,u64→gU,wrap→rU
open Go.IntWalk renaming i64_in→lR
open Go.Op renaming bytesLess→gZ
open Go.Proofs.Tryz renaming prog→az
open Go.Region renaming wanted→ot
open Go.Result renaming andThen_ok→fB
open Go.Sem renaming run_bind→ft,run_pure→fZ
open Go.Value renaming cells→ou
open List renaming all_eq_true→jD,cons_append→bO,drop_eq_getElem_cons→kN,getElem?_eq_getElem→cv,getElem?_eq_none→pW,getElem?_eq_some_iff→fG,length_append→pa,length_cons→nB,map_cons→gI,map_nil→mj,mem_append→ja,mem_cons→ga,mem_cons_of_mem→mX,mem_filter→k3,mem_map→hH,mem_of_getElem?→gb,nil_append→bS,pairwise_cons→ml,pairwise_iff_getElem→pb
open List.Nodup renaming length_le_of_subset→GX
open List.cons renaming injEq→xX
open Nat renaming le_refl→e1,le_trans→ji,strongRecOn→qI
open Ne renaming symm→kO
open Option renaming bind_some→h4,getD_none→jj,getD_some→jk,isSome_iff_exists→fm,isSome_none→jl,map_eq_some_iff→gd,map_some→nC
open Option.some renaming inj→fP,injEq→dt
open Prod.mk renaming injEq→jm
open _root_ renaming False→ej,UInt8→cV,beq_iff_eq→dH,congrArg→eO,decide_eq_false_iff_not→j4,decide_eq_true_eq→fI
namespace Go.Pv
open Go Go.RowKit
def afA(A:c9)(s ah:cF)(rm:Option aH):Prop:=(∀k,(look k ah.b).isSome→(look k s.b).isSome∨rm=some k)∧(∀k,(look k ah.e).isSome→(look k s.e).isSome∨rm=some k)∧(∀k,(look k s.b).isSome→(look k ah.b).isSome)∧(∀k,(look k s.e).isSome→(look k ah.e).isSome)∧
 (∀k,rm=some k→(∃j,k= .obj j)∧A.F k∧A.b k=none∧A.e k=none∧((look k ah.b).isSome∨(look k ah.e).isSome))
def W4(P:cy)(n:Nat)(args:List ai)(A:c9)(d:Option Nat)(x:ks):Prop:=
 ∃s ah r rm,(∀k cs,look k s.b=some cs→A.b k=some cs∧aO (inObs s) cs)∧(∀k o,look k s.e=some o→A.e k=some o∧eb (inObs s) o)∧ic s∧ic ah∧afA A s ah rm∧aO (inObs s) args∧
  bB P n args s (fun eD dE=>eD=r∧dE=ah)∧x=⟨d,r,ah.b,ah.e,rm⟩
def W5(P:cy)(n0 n:Nat)(args:List ai)(A:c9)(d:Option Nat)(x:ks):Prop:=
 ∃cB r,d=some cB∧(A.F (.loc (n0+cB))∧A.b (.loc (n0+cB))=none∧A.e (.loc (n0+cB))=none)∧aO (fun _=>ej) args∧
  G0 P n (n0+cB) args ⟨[],[]⟩ (fun eD dE=>eD=r∧dE=⟨[],[]⟩)∧x=⟨d,r,[],[],some (.loc (n0+cB))⟩
def w6:ai→Bool
 | .ptr (.loc _) _=>true
 | .eptr _=>true
 |_=>false
def fL.isB:fL→Bool
 | .loadB _ _ _=>true
 | .mgetB _ _ _ _ _=>true
 |_=>false
def fL.ptrOf(t:Nat→ai):fL→ai
 | .load _ _ x=>dv t x
 | .loadB _ _ x=>dv t x
 |_=>.junk
def ec(P:cy)(q:Bool)(n0:Nat):dV→c9→ks→Prop
 | .s (.v d i),A,x=> ∃c p,o9 A.t A.b A.e i=some (c,p)∧c∧(i.isLoad=true→i.isB=true∨q=true∨w6 (i.ptrOf A.t)=true)∧x=⟨some d,p,[],[],none⟩
 | .s (.box d none v),A,x=>(A.F (.loc (n0+d))∧A.b (.loc (n0+d))=none∧A.e (.loc (n0+d))=none)∧eE (dv A.t v)=true∧x=⟨some d,.ptr (.loc (n0+d)) 0,[(.loc (n0+d),cells (dv A.t v))],[],some (.loc (n0+d))⟩
 | .s (.alloc d none z),A,x=>(A.F (.loc (n0+d))∧A.b (.loc (n0+d))=none∧A.e (.loc (n0+d))=none)∧x=⟨some d,.ptr (.loc (n0+d)) 0,[(.loc (n0+d),cells z)],[],some (.loc (n0+d))⟩
 | .s (.store sz u v),A,x=> ∃k off cs,dv A.t u= .ptr k off∧A.b k=some cs∧(hE cs=true∧eE (dv A.t v)=true∧(cells (dv A.t v)).length=sz∧off+sz≤cs.length)∧x=⟨none,.junk,[(k,nu cs off (cells (dv A.t v)))],[],none⟩
 | .s (.bsl d sz el xs),A,x=>(A.F (.loc (n0+d))∧A.b (.loc (n0+d))=none∧A.e (.loc (n0+d))=none)∧r2 sz (xs.map (dv A.t))∧x=⟨some d,.slice sz (.own (.loc (n0+d))) (xs.map (dv A.t)),[],[(.loc (n0+d),⟨xs.length,el,sz,none⟩)],some (.loc (n0+d))⟩
 | .s (.app d sz el u v),A,x=> ∃tag xs kG ys,dv A.t u= .slice sz tag xs∧dv A.t v= .slice sz kG ys∧
   ((∃k o,tag= .own k∧A.e k=some o∧(o.xs=none∧o.n=xs.length∧o.el=el∧o.sz=sz∧xs.length+ys.length≤lim)∧x=⟨some d,.slice sz (.own k) (xs++ys),[],[(k,⟨xs.length+ys.length,el,sz,none⟩)],none⟩)∨
    (tag= .nil∧ys.length≤lim∧(A.F (.loc (n0+d))∧A.b (.loc (n0+d))=none∧A.e (.loc (n0+d))=none)∧x=⟨some d,.slice sz (.own (.loc (n0+d))) ys,[],[(.loc (n0+d),⟨ys.length,el,sz,none⟩)],some (.loc (n0+d))⟩))
 | .s (.appm d _ sz el u v),A,x=> ∃k n xs kG ys,dv A.t u= .row sz k n∧dv A.t v= .slice sz kG ys∧A.e k=some ⟨n,el,sz,some xs⟩∧xs.length+ys.length≤lim∧x=⟨some d,.row sz k (xs.length+ys.length),[],[(k,⟨xs.length+ys.length,el,sz,some (xs++ys)⟩)],none⟩
 | .s (.storeE sz u v),A,x=> ∃k n i f el dy xs q,dv A.t u= .rptr dy k n i f∧A.e k=some ⟨n,el,dy,some xs⟩∧xs[i]? =some q∧(eE q=true∧eE (dv A.t v)=true∧(cells (dv A.t v)).length=sz∧f+sz≤(cells q).length∧0<sz)∧x=⟨none,.junk,[],[(k,⟨n,el,dy,some (xs.set i (o5 q f (cells (dv A.t v))))⟩)],none⟩
 | .s (.mkmap d (some m)),A,x=>(A.F (.obj m)∧A.b (.obj m)=none∧A.e (.obj m)=none)∧x=⟨some d,.gmap (.obj m),[(.obj m,[.hdm 0 []])],[],some (.obj m)⟩
 | .s (.mput ck u k v),A,x=> ∃m cs cs',dv A.t u= .gmap m∧A.b m=some cs∧oc ck (dv A.t k) (dv A.t v) cs=some cs'∧x=⟨none,.junk,[(m,cs')],[],none⟩
 | .call d f xs,A,x=> ∃n dg,dv A.t f= .func n dg∧((W4 P n (df (xs.map (dv A.t)++dg)) A d x∧(q=true→x.bw=[]∧x.ew=[]))∨W5 P n0 n (df (xs.map (dv A.t)++dg)) A d x)
 |_,_,_=>ej
inductive Au where
 |v|l|n|s|w|a|c|m|r|k
 deriving DecidableEq
def dV.mode:dV→Au
 | .s (.v _ (.loadB _ _ _))=>.m
 | .s (.v _ (.mgetB _ _ _ _ _))=>.m
 | .s (.v _ i)=>if i.isLoad then .l else .v
 | .s (.storeE _ _ _)=>.r
 | .s (.box _ _ _)=>.n
 | .s (.alloc _ _ _)=>.n
 | .s (.store _ _ _)=>.w
 | .s (.bsl _ _ _ _)=>.s
 | .s (.app _ _ _ _ _)=>.a
 | .s (.bslm _ _ _ _ _)=>.w
 | .s (.mks _ _ _ _ _ _)=>.w
 | .s (.appm _ _ _ _ _ _)=>.r
 | .s (.mkmap _ _)=>.k
 | .s (.mput _ _ _ _)=>.w
 | .s (.range _ _ _)=>.w
 | .call _ _ _=>.c
 | .next _ _=>.w
structure Ha (q:Bool) (n0:Nat) (m:Au) (dst:Option Nat) (A:c9) (x:ks):Prop where
 d:x.d=dst
 b:∀k,(look k x.bw).isSome→(m= .n∧∃d,dst=some d∧k= .loc (n0+d)∧A.b k=none∧A.e k=none)∨m= .w∨(m= .c∧(∃j,k= .obj j)∧q=false)∨(m= .k∧(∃j,k= .obj j)∧A.b k=none∧A.e k=none)
 e:∀k,(look k x.ew).isSome→(m= .s∧∃d,dst=some d∧k= .loc (n0+d)∧A.b k=none∧A.e k=none)∨(m= .a∧(A.e k≠none∨ ∃d,dst=some d∧k= .loc (n0+d)∧A.b k=none∧A.e k=none))∨(m= .c∧(∃j,k= .obj j)∧q=false)∨(m= .r∧∃o,A.e k=some o∧o.xs≠none)
 r:∀k,x.rm=some k→(∃d,dst=some d∧k= .loc (n0+d))∨((m= .c∨m= .k)∧(∃j,k= .obj j)∧((look k x.bw).isSome∨(look k x.ew).isSome))
 ex:m= .a→∀k o,(look k x.ew).isSome→A.e k=some o→o.xs=none
 xn:m= .a∨m= .s→∀k o,look k x.ew=some o→o.xs=none
theorem sE{α:Type}{k bD:aH}{x:α}(h:(look k [(bD,x)]).isSome):k=bD:=by
 simp only[look]at h;split at h
 ·rename_i e;exact e.symm
 ·cases h
theorem Kd{k bD:aH}{n el sz:Nat}{o:fv}(h:look k [(bD,(⟨n,el,sz,none⟩:fv))]=some o):o.xs=none:=by
 simp only[look]at h;split at h
 ·cases h;rfl
 ·cases h
theorem VY{P:cy}{q:Bool}{n0:Nat}{i:dV}{A:c9}{x:ks}(h:ec P q n0 i A x):Ha q n0 i.mode i.dst A x:=by
 cases i with
 |s i=>
  cases i with
  |v d i=>simp only[ec]at h;obtain⟨c,p,_,_,_,rfl⟩:=h;exact⟨rfl,fun k ab=>by simp[look]at ab,fun k ab=>by simp[look]at ab,fun k ab=>by simp at ab,fun _ k o ab=>by simp[look]at ab,fun _ k o ab=>by simp[look]at ab⟩
  |box d key v=>
   cases key with
   |some m=>simp only[ec]at h
   |none=>simp only[ec]at h;obtain⟨⟨_,U,ao⟩,_,rfl⟩:=h;exact⟨rfl,fun k ab=>by obtain rfl:=sE ab;exact .inl ⟨rfl,d,rfl,rfl,U,ao⟩,fun k ab=>by simp[look]at ab,fun k ab=>by simp at ab;exact .inl ⟨d,rfl,ab.symm⟩,fun _ k o ab=>by simp[look]at ab,fun _ k o ab=>by simp[look]at ab⟩
  |alloc d key z=>
   cases key with
   |some m=>simp only[ec]at h
   |none=>simp only[ec]at h;obtain⟨⟨_,U,ao⟩,rfl⟩:=h;exact⟨rfl,fun k ab=>by obtain rfl:=sE ab;exact .inl ⟨rfl,d,rfl,rfl,U,ao⟩,fun k ab=>by simp[look]at ab,fun k ab=>by simp at ab;exact .inl ⟨d,rfl,ab.symm⟩,fun _ k o ab=>by simp[look]at ab,fun _ k o ab=>by simp[look]at ab⟩
  |store sz u v=>simp only[ec]at h;obtain⟨k,off,cs,_,_,_,rfl⟩:=h;exact⟨rfl,fun k ab=>.inr (.inl rfl),fun k ab=>by simp[look]at ab,fun k ab=>by simp at ab,fun _ k o ab=>by simp[look]at ab,fun _ k o ab=>by simp[look]at ab⟩
  |bsl d sz el xs=>simp only[ec]at h;obtain⟨⟨_,U,ao⟩,_,rfl⟩:=h;exact⟨rfl,fun k ab=>by simp[look]at ab,fun k ab=>by obtain rfl:=sE ab;exact .inl ⟨rfl,d,rfl,rfl,U,ao⟩,fun k ab=>by simp at ab;exact .inl ⟨d,rfl,ab.symm⟩,fun e=>by simp[dV.mode]at e,fun _ k o ab=>Kd ab⟩
  |app d sz el u v=>
   simp only[ec]at h;obtain⟨tag,xs,kG,ys,_,_,h⟩:=h;rcases h with⟨k,o,_,J,⟨gL,_⟩,rfl⟩|⟨_,_,⟨_,U,ao⟩,rfl⟩
   ·exact⟨rfl,fun k ab=>by simp[look]at ab,fun k ab=>by obtain rfl:=sE ab;exact .inr (.inl ⟨rfl,.inl (by rw[J];simp)⟩),fun k ab=>by simp at ab,fun _ bD o' ab au=>by obtain rfl:=sE ab;rw[J]at au;cases au;exact gL,fun _ k o ab=>Kd ab⟩
   ·exact⟨rfl,fun k ab=>by simp[look]at ab,fun k ab=>by obtain rfl:=sE ab;exact .inr (.inl ⟨rfl,.inr ⟨d,rfl,rfl,U,ao⟩⟩),fun k ab=>by simp at ab;exact .inl ⟨d,rfl,ab.symm⟩,fun _ bD o' ab au=>(by obtain rfl:=sE ab;rw[ao]at au;cases au),fun _ k o ab=>Kd ab⟩
  |bslm d key sz el xs=>simp only[ec]at h
  |mks d key sz el z x=>simp only[ec]at h
  |appm d key sz el u v=>simp only[ec]at h;obtain⟨k,n,xs,kG,ys,_,_,J,_,rfl⟩:=h;exact⟨rfl,fun k ab=>by simp[look]at ab,fun k ab=>by obtain rfl:=sE ab;exact .inr (.inr (.inr ⟨rfl,_,J,by simp⟩)),fun k ab=>by simp at ab,fun e=>by simp[dV.mode]at e,fun e=>by simp[dV.mode]at e⟩
  |storeE sz u v=>simp only[ec]at h;obtain⟨k,n,i,f,el,dy,xs,q,_,J,_,_,rfl⟩:=h;exact⟨rfl,fun k ab=>by simp[look]at ab,fun k ab=>by obtain rfl:=sE ab;exact .inr (.inr (.inr ⟨rfl,_,J,by simp⟩)),fun k ab=>by simp at ab,fun e=>by simp[dV.mode]at e,fun e=>by simp[dV.mode]at e⟩
  |mkmap d key=>
   cases key with
   |none=>simp only[ec]at h
   |some m=>simp only[ec]at h;obtain⟨⟨_,U,ao⟩,rfl⟩:=h;exact⟨rfl,fun k ab=>by obtain rfl:=sE ab;exact .inr (.inr (.inr ⟨rfl,⟨m,rfl⟩,U,ao⟩)),fun k ab=>by simp[look]at ab,fun k ab=>by simp at ab;subst ab;exact .inr ⟨.inr rfl,⟨m,rfl⟩,.inl (by simp[look])⟩,fun e=>by simp[dV.mode]at e,fun e=>by simp[dV.mode]at e⟩
  |mput ck x k v=>simp only[ec]at h;obtain⟨m,cs,cs',_,_,_,rfl⟩:=h;exact⟨rfl,fun k ab=>.inr (.inl rfl),fun k ab=>by simp[look]at ab,fun k ab=>by simp at ab,fun e=>by simp[dV.mode]at e,fun e=>by simp[dV.mode]at e⟩
  |range d key x=>simp only[ec]at h
 |next d x=>simp only[ec]at h
 |call d f xs=>
  simp only[ec]at h;obtain⟨n,dg,_,h⟩:=h;rcases h with⟨⟨s,ah,r,rm,_,_,_,au,RM,_,_,rfl⟩,bn⟩|⟨cB,r,rfl,_,_,_,rfl⟩;rotate_left
  ·exact⟨rfl,fun k ab=>by simp[look]at ab,fun k ab=>by simp[look]at ab,fun k ab=>by simp at ab;exact .inl ⟨cB,rfl,ab.symm⟩,fun _ k o ab=>by simp[look]at ab,fun _ k o ab=>by simp[look]at ab⟩
  refine⟨rfl,fun k ab=>.inr (.inr (.inl ⟨rfl,?_,?_⟩)),fun k ab=>.inr (.inr (.inl ⟨rfl,?_,?_⟩)),fun k ab=>.inr ⟨.inl rfl,(RM.2.2.2.2 k ab).1,(RM.2.2.2.2 k ab).2.2.2.2⟩,fun e=>by simp[dV.mode]at e,fun e=>by simp[dV.mode]at e⟩
  ·cases k with
   |loc m=>rw[au.1 m]at ab;cases ab
   |obj m=>exact⟨m,rfl⟩
  ·cases q with
   |false=>rfl
   |true=>rw[(bn rfl).1]at ab;simp[look]at ab
  ·cases k with
   |loc m=>rw[au.2 m]at ab;cases ab
   |obj m=>exact⟨m,rfl⟩
  ·cases q with
   |false=>rfl
   |true=>rw[(bn rfl).2]at ab;simp[look]at ab
theorem MO{P:cy}{q:Bool}{n0:Nat}{i:dV}{A fU:c9}{x:ks}(h:ec P q n0 i A x)(aN:p2 i.looks A.t fU.t)
  (aq:i.mode= .l→∀k,(q=true∨ ∃m,k= .loc m)→A.b k≠none→fU.b k=A.b k) (RB:i.mode= .m→∀k,A.b k≠none→fU.b k=A.b k)
  (oP:i.mode= .l→q=true→∀k o,A.e k=some o→o.xs≠none→fU.e k=some o)
  (ar:∀d,i.dst=some d→(i.mode= .n∨i.mode= .s∨i.mode= .a∨i.mode= .c)→(A.F (.loc (n0+d))∧A.b (.loc (n0+d))=none∧A.e (.loc (n0+d))=none)→(fU.F (.loc (n0+d))∧fU.b (.loc (n0+d))=none∧fU.e (.loc (n0+d))=none))
  (br:i.mode= .a→∀k o,A.e k=some o→fU.e k=some o) (hw:i.mode= .w→∀k,fU.b k=A.b k) (adV:i.mode= .k→∀m,(A.F (.obj m)∧A.b (.obj m)=none∧A.e (.obj m)=none)→(fU.F (.obj m)∧fU.b (.obj m)=none∧fU.e (.obj m)=none)) (BE:i.mode= .r→∀k o,A.e k=some o→o.xs≠none→fU.e k=some o)
  (av:i.mode= .c→∀m,fU.b (.obj m)=A.b (.obj m)∧fU.e (.obj m)=A.e (.obj m)∧(A.F (.obj m)→fU.F (.obj m))):ec P q n0 i fU x:=by
 cases i with
 |s i=>
  cases i with
  |v d i=>
   simp only[ec]at h⊢;obtain⟨c,p,J,U,ao,aZ⟩:=h;by_cases iP:∃agg sz y,i= .loadB agg sz y
   ·obtain⟨agg,sz,y,rfl⟩:=iP;simp only[dV.looks,dY.looks,fL.looks]at aN;have tE:=gi aN;refine⟨c,p,?_,U,fun _=>.inl rfl,aZ⟩;rw[←J];simp only[o9,←tE];have hm:=RB (by simp[dV.mode]);simp only[o9]at J;cases bF:dv A.t y<;>simp only[rs];rename_i key off;rw[bF]at J;simp only[rs]at J;cases ae:A.b key with
    |none=>simp[ae]at J
    |some cs=>have:fU.b key=A.b key:=hm key (by rw[ae];simp);rw[this,ae]
   by_cases Ei:∃ck zero ok y z,i= .mgetB ck zero ok y z
   ·obtain⟨ck,zero,ok,y,z,rfl⟩:=Ei;simp only[dV.looks,dY.looks,fL.looks]at aN;obtain⟨t1,t2⟩:=j5 aN;refine⟨c,p,?_,U,fun _=>.inl rfl,aZ⟩;simp only[o9]at J⊢;rw[←gi t1,←gi t2];exact Tw (RB (by simp[dV.mode])) J
   replace ao:i.isLoad=true→q=true∨w6 (i.ptrOf A.t)=true:=fun nl=>(ao nl).resolve_left (fun ae=>by cases i<;>simp[fL.isB]at ae;exact iP ⟨_,_,_,rfl⟩;exact Ei ⟨_,_,_,_,_,rfl⟩);have ada:i.isLoad=true→(dV.s (.v d i)).mode= .l:=by intro nl;cases i<;>simp only[fL.isLoad]at nl<;>first|(cases nl;done)|(simp[dV.mode,fL.isLoad];done)|exact absurd ⟨_,_,_,rfl⟩ iP|exact absurd ⟨_,_,_,_,_,rfl⟩ Ei
   by_cases nl:i.isLoad=true
   ·have bn:∀(bF:w6 (i.ptrOf A.t)=false),∀k,A.b k≠none→fU.b k=A.b k:=fun bF k ab=>aq (ada nl) k (.inl ((ao nl).resolve_right (by rw[bF];simp))) ab;cases i<;>simp only[fL.isLoad]at nl<;>try(cases nl;done)
    case mget ck zero ok y z=>simp only[dV.looks,dY.looks,fL.looks]at aN;obtain⟨t1,t2⟩:=j5 aN;refine⟨c,p,?_,U,fun _=>.inr (ao rfl),aZ⟩;simp only[o9]at J⊢;rw[←gi t1,←gi t2];exact Tw (bn rfl) J
    case ment y=>simp only[dV.looks,dY.looks,fL.looks]at aN;refine⟨c,p,?_,U,fun _=>.inr (ao rfl),aZ⟩;simp only[o9]at J⊢;rw[←gi aN];exact ae8 (bn rfl) J
    case mlen y=>simp only[dV.looks,dY.looks,fL.looks]at aN;refine⟨c,p,?_,U,fun _=>.inr (ao rfl),aZ⟩;simp only[o9]at J⊢;rw[←gi aN];exact afo (bn rfl) J
    case loadB agg sz y=>exact absurd ⟨_,_,_,rfl⟩ iP
    case mgetB=>exact absurd ⟨_,_,_,_,_,rfl⟩ Ei
    rename_i agg sz y;simp only[dV.looks,dY.looks,fL.looks]at aN;have tE:=gi aN;refine⟨c,p,?_,U,fun _=>.inr (by have:=ao rfl;simpa only[fL.ptrOf,←tE]using this),aZ⟩;rw[←J];simp only[o9,←tE];have hm:=aq (by simp[dV.mode,fL.isLoad]);simp only[o9]at J;have sd:=ao rfl;simp only[fL.ptrOf]at sd;cases bF:dv A.t y<;>simp only[rs]
    ·rename_i key off;rw[bF]at J sd;simp only[rs]at J;cases ae:A.b key with
     |none=>simp[ae]at J
     |some cs=>have:fU.b key=A.b key:=hm key (by rcases sd with h|h;exact .inl h;cases key;exact .inr ⟨_,rfl⟩;simp[w6]at h) (by rw[ae];simp);rw[this,ae]
    ·rename_i dy key n i f;rw[bF]at J sd;simp only[rs]at J;have adv:q=true:=sd.resolve_right (by simp[w6]);unfold xD at J;split at J
     ·rename_i n' el iY xs he;rw[he,oP (by simp[dV.mode,fL.isLoad]) adv key _ he (by simp)]
     ·cases J
   ·have nl:i.isLoad=false:=by simpa using nl
    refine⟨c,p,?_,U,(fun e=>by rw[nl]at e;cases e),aZ⟩;rw[←J];exact(ajC (by simpa only[dV.looks,dY.looks]using aN) nl).symm
  |box d key v=>
   cases key with
   |some m=>simp only[ec]at h
   |none=>simp only[ec,dV.looks,dY.looks]at h aN⊢;obtain⟨J,U,ao⟩:=h;rw[←gi aN];exact⟨ar d rfl (.inl rfl) J,U,ao⟩
  |alloc d key z=>
   cases key with
   |some m=>simp only[ec]at h
   |none=>simp only[ec]at h⊢;exact⟨ar d rfl (.inl rfl) h.1,h.2⟩
  |store sz u v=>simp only[ec,dV.looks,dY.looks]at h aN⊢;obtain⟨J,U⟩:=j5 aN;rw[←gi J,←gi U];obtain⟨k,off,cs,g1,g2,g3,g4⟩:=h;exact⟨k,off,cs,g1,by rw[hw rfl];exact g2,g3,g4⟩
  |bsl d sz el xs=>simp only[ec,dV.looks,dY.looks]at h aN⊢;rw[←Fq aN];exact⟨ar d rfl (.inr (.inl rfl)) h.1,h.2⟩
  |app d sz el u v=>
   simp only[ec,dV.looks,dY.looks]at h aN⊢;obtain⟨J,U⟩:=j5 aN;rw[←gi J,←gi U];obtain⟨tag,xs,kG,ys,g1,g2,h⟩:=h;refine⟨tag,xs,kG,ys,g1,g2,?_⟩;rcases h with⟨k,o,ak,aA,bs⟩|⟨ak,aA,bs,dq⟩
   ·exact .inl ⟨k,o,ak,br rfl k o aA,bs⟩
   ·exact .inr ⟨ak,aA,ar d rfl (.inr (.inr (.inl rfl))) bs,dq⟩
  |bslm d key sz el xs=>simp only[ec]at h
  |mks d key sz el z x=>simp only[ec]at h
  |appm d key sz el u v=>simp only[ec,dV.looks,dY.looks]at h aN⊢;obtain⟨J,U⟩:=j5 aN;rw[←gi J,←gi U];obtain⟨k,n,xs,kG,ys,g1,g2,g3,g4,g5⟩:=h;exact⟨k,n,xs,kG,ys,g1,g2,BE rfl k _ g3 (by simp),g4,g5⟩
  |storeE sz u v=>simp only[ec,dV.looks,dY.looks]at h aN⊢;obtain⟨J,U⟩:=j5 aN;rw[←gi J,←gi U];obtain⟨k,n,i,f,el,dy,xs,q,g1,g2,g3⟩:=h;exact⟨k,n,i,f,el,dy,xs,q,g1,BE rfl k _ g2 (by simp),g3⟩
  |mkmap d key=>
   cases key with
   |none=>simp only[ec]at h
   |some m=>simp only[ec]at h⊢;exact⟨adV rfl m h.1,h.2⟩
  |mput ck u k v=>simp only[ec,dV.looks,dY.looks]at h aN⊢;obtain⟨t1,t3⟩:=j5 aN;obtain⟨t1,t2⟩:=j5 t1;obtain⟨m,cs,cs',g1,g2,g3,g4⟩:=h;rw[←gi t1,←gi t2,←gi t3];exact⟨m,cs,cs',g1,by rw[hw rfl];exact g2,g3,g4⟩
  |range d key x=>simp only[ec]at h
 |next d x=>simp only[ec]at h
 |call d f xs=>
  simp only[ec,dV.looks]at h aN⊢;obtain⟨J,U⟩:=j5 aN;rw[←gi J,←Fq U];obtain⟨n,dg,g1,h⟩:=h;rcases h with⟨⟨s,ah,r,rm,bL,cn,dp,jU,kv,nJ⟩,g3⟩|⟨cB,r,rfl,bL,cn⟩;rotate_left
  ·exact⟨n,dg,g1,.inr ⟨cB,r,rfl,ar cB rfl (.inr (.inr (.inr rfl))) bL,cn⟩⟩
  refine⟨n,dg,g1,.inl ⟨⟨s,ah,r,rm,fun k cs ab=>?_,fun k o ab=>?_,dp,jU,⟨kv.1,kv.2.1,kv.2.2.1,kv.2.2.2.1,fun k ab=>?_⟩,nJ⟩,g3⟩⟩
  ·cases k with
   |loc m=>rw[dp.1 m]at ab;cases ab
   |obj m=>rw[(av rfl m).1];exact bL _ _ ab
  ·cases k with
   |loc m=>rw[dp.2 m]at ab;cases ab
   |obj m=>rw[(av rfl m).2.1];exact cn _ _ ab
  ·obtain⟨⟨j,rfl⟩,d2,d3,d4,d5⟩:=kv.2.2.2.2 k ab;exact⟨⟨j,rfl⟩,(av rfl j).2.2 d2,by rw[(av rfl j).1];exact d3,by rw[(av rfl j).2.1];exact d4,d5⟩
def k0(d:Option Nat):ks:=⟨d,.tuple [],[],[],none⟩
def kt(P:cy)(q:Bool)(n0:Nat)(g:c3)(A:c9)(x:ks):Prop:=
 match g.g with
 |none=>ec P q n0 g.i A x
 |some (s,w)=>match A.t s with
  | .bool b=>(b=w∧ec P q n0 g.i A x)∨(b= !w∧x=k0 g.i.dst)
  | .tuple []=>x=k0 g.i.dst
  |_=>ej
def eY:Au→Au→Bool
 | .v,_=>true
 |_,.v=>true
 | .l,.l| .l,.n| .l,.s| .l,.a| .l,.c=>true
 | .n,.n| .n,.s| .n,.a| .n,.c=>true
 | .s,.l| .s,.n| .s,.s| .s,.c=>true
 | .a,.l| .a,.n| .a,.s=>true
 | .c,.l| .c,.n| .c,.s=>true
 | .l,.m| .m,.l| .m,.m| .m,.n| .m,.s| .m,.a| .s,.m| .a,.m=>true
 | .l,.k| .m,.k| .n,.k| .s,.k=>true
 | .m,.r| .r,.m| .r,.n| .r,.s| .n,.r| .s,.r| .r,.w| .w,.r=>true
 |_,_=>false
def yw(g h:c3):Bool:=(match g.i.dst with|some d=> !(h.looks.contains d)&&h.i.dst !=some d|none=>true)&&(match h.i.dst with|some d=> !(g.looks.contains d)|none=>true)&&eY g.i.mode h.i.mode
theorem VZ(q:Bool)(n0:Nat)(m:Au)(d:Option Nat)(A:c9):Ha q n0 m d A (k0 d):=⟨rfl,fun k ab=>by simp[k0,look]at ab,fun k ab=>by simp[k0,look]at ab,fun k ab=>by simp[k0]at ab,fun _ k o ab=>by simp[k0,look]at ab,fun _ k o ab=>by simp[k0,look]at ab⟩
theorem Mg{P:cy}{q:Bool}{n0:Nat}{g:c3}{A:c9}{x:ks}(h:kt P q n0 g A x):Ha q n0 g.i.mode g.i.dst A x:=by
 unfold kt at h;split at h
 ·exact VY h
 ·split at h
  ·rcases h with⟨_,h⟩|⟨_,rfl⟩
   ·exact VY h
   ·exact VZ _ _ _ _ _
  ·subst h;exact VZ _ _ _ _ _
  ·exact h.elim
theorem r8{A:c9}{x:ks}{k:aH}(h:look k x.bw=none):(A.do x).b k=A.b k:=by simp[c9.do,ia,h]
theorem r9{A:c9}{x:ks}{k:aH}(h:look k x.ew=none):(A.do x).e k=A.e k:=by simp[c9.do,ia,h]
theorem HV{A:c9}{x:ks}{k:aH}(h:(A.do x).b k=none):A.b k=none:=by
 simp only[c9.do,ia]at h;split at h
 ·cases h
 ·exact h
theorem HW{A:c9}{x:ks}{k:aH}(h:(A.do x).e k=none):A.e k=none:=by
 simp only[c9.do,ia]at h;split at h
 ·cases h
 ·exact h
theorem lu{α:Type}{o:Option α}(h:¬o.isSome):o=none:=by cases o<;>simp at h⊢
theorem MQ{P:cy}{q:Bool}{n0:Nat}{g:c3}{A fU:c9}{x:ks}(h:kt P q n0 g A x)(aN:p2 g.looks A.t fU.t)(hm:ec P q n0 g.i A x→ec P q n0 g.i fU x):kt P q n0 g fU x:=by
 unfold kt at h⊢;cases aS:g.g with
 |none=>simp only[aS]at h⊢;exact hm h
 |some xM=>
  obtain⟨s,w⟩:=xM;have:A.t s=fU.t s:=aN s (by simp[c3.looks,aS]);simp only[aS,this]at h⊢;split at h
  ·rcases h with⟨J,U⟩|h
   ·exact .inl ⟨J,hm U⟩
   ·exact .inr h
  ·exact h
  ·exact h
theorem swap{P:cy}{q:Bool}{n0:Nat}{g h:c3}(Rr:yw g h=true){A:c9}{x y:ks}(ad:kt P q n0 g A x)(aG:kt P q n0 h (A.do x) y):
  kt P q n0 h A y∧kt P q n0 g (A.do y) x∧x.apart y:=by
 simp only[yw,cx]at Rr;obtain⟨⟨e9,eI⟩,hm⟩:=Rr;have xN:=Mg ad;have cC:∀d cj,g.i.dst=some d→h.i.dst=some cj→d≠cj:=by intro d cj ak aA e;simp only[ak,cx,bne_iff_ne]at e9;exact e9.2 (by rw[aA,e])
 have Ek:p2 h.looks (A.do x).t A.t:=by intro i hi;simp only[c9.do];rw[if_neg];intro e;rw[xN.d]at e;simp only[e,cx,rT,List.contains_eq_mem,j4]at e9;exact e9.1 hi
 have qk:∀k,(look k x.bw).isSome→_:=xN.b;have hle:∀k,(look k x.ew).isSome→_:=xN.e;have SK:kt P q n0 h A y:=by
  refine MQ aG Ek fun hd=>MO hd (fun i hi=>Ek i (by simp[c3.looks,hi])) (fun e k ab ae=>?_) (fun e k ae=>?_) (fun e bn k o au gL=>?_) (fun d aK EC ld=>?_) (fun e k o au=>?_) (fun e k=>?_) (fun e m ld=>⟨ld.1.1,HV ld.2.1,HW ld.2.2⟩) (fun e k o au gL=>?_) (fun e m=>?_)
  ·rw[r8 (lu fun af=>?_)];rcases qk k af with⟨ak,_⟩|ak|⟨ak,⟨j,aA⟩,bs⟩|⟨ak,_⟩;rotate_left 3
   ·rw[e,ak]at hm;simp[eY]at hm
   ·rw[e,ak]at hm;simp[eY]at hm
   ·rw[e,ak]at hm;simp[eY]at hm
   ·rcases ab with ab|⟨m,ab⟩
    ·rw[ab]at bs;cases bs
    ·rw[ab]at aA;cases aA
  ·rw[r8 (lu fun af=>?_)];rcases qk k af with⟨ak,_⟩|ak|⟨ak,_⟩|⟨ak,_⟩<;>(rw[e,ak]at hm;simp[eY]at hm)
  ·rw[e]at hm;cases hk:look k x.ew with
   |none=>rw[r9 hk]at au;exact au
   |some o'=>
    exfalso;have Jl:(A.do x).e k=some o':=by simp[c9.do,ia,hk]
    rw[Jl]at au;cases au;rcases hle k (by simp[hk])with⟨ak,_⟩|⟨ak,_⟩|⟨ak,_,bs⟩|⟨ak,_⟩
    ·exact gL (xN.xn (.inr ak) k _ hk)
    ·exact gL (xN.xn (.inl ak) k _ hk)
    ·rw[bn]at bs;cases bs
    ·rw[ak]at hm;simp[eY]at hm
  ·exact⟨ld.1.1,HV ld.2.1,HW ld.2.2⟩
  ·rw[r9 (lu fun af=>?_)]at au
   ·exact au
   ·rw[e]at hm;rcases hle k af with⟨ak,_⟩|⟨ak,_⟩|⟨ak,_⟩|⟨ak,_⟩<;>(rw[ak]at hm;simp[eY]at hm)
  ·rw[r8 (lu fun af=>?_)];rw[e]at hm;rcases qk k af with⟨ak,_⟩|ak|⟨ak,_⟩|⟨ak,_⟩<;>(rw[ak]at hm;simp[eY]at hm)
  ·rw[e]at hm;cases hk:look k x.ew with
   |none=>rw[r9 hk]at au;exact au
   |some o'=>
    exfalso;have Jl:(A.do x).e k=some o':=by simp[c9.do,ia,hk]
    rw[Jl]at au;cases au;rcases hle k (by simp[hk])with⟨ak,_⟩|⟨ak,_⟩|⟨ak,_⟩|⟨ak,_⟩
    ·exact gL (xN.xn (.inr ak) k _ hk)
    ·rw[ak]at hm;simp[eY]at hm
    ·rw[ak]at hm;simp[eY]at hm
    ·rw[ak]at hm;simp[eY]at hm
  ·rw[e]at hm;refine⟨?_,?_,fun fW=>fW.1⟩
   ·rw[r8 (lu fun af=>?_)];rcases qk _ af with⟨ak,d,_,aA,_⟩|ak|⟨ak,_⟩|⟨ak,_⟩;rotate_left 3
    ·rw[ak]at hm;simp[eY]at hm
    ·cases aA
    ·rw[ak]at hm;simp[eY]at hm
    ·rw[ak]at hm;simp[eY]at hm
   ·rw[r9 (lu fun af=>?_)];rcases hle _ af with⟨ak,d,_,aA,_⟩|⟨ak,_⟩|⟨ak,_⟩|⟨ak,_⟩
    ·cases aA
    ·rw[ak]at hm;simp[eY]at hm
    ·rw[ak]at hm;simp[eY]at hm
    ·rw[ak]at hm;simp[eY]at hm
 have ty:=Mg SK;have Q1:p2 g.looks A.t (A.do y).t:=by intro i hi;simp only[c9.do];rw[if_neg];intro e;rw[ty.d]at e;simp only[e,rT,List.contains_eq_mem,j4]at eI;exact eI hi
 refine⟨SK,?_,?_⟩
 ·refine MQ ad Q1 fun hd=>MO hd (fun i hi=>Q1 i (by simp[c3.looks,hi])) (fun e k ab ae=>?_) (fun e k ae=>?_) (fun e bn k o au gL=>?_) (fun d aK EC ld=>?_) (fun e k o au=>?_) (fun e k=>?_) (fun e m ld=>?_) (fun e k o au gL=>?_) (fun e m=>?_)
  ·refine r8 (lu fun af=>?_);rcases ty.b k af with⟨ak,d,_,_,aA,_⟩|ak|⟨ak,⟨j,aA⟩,bs⟩|⟨_,_,aA,_⟩;rotate_left 3
   ·exact ae aA
   ·exact ae aA
   ·rw[e,ak]at hm;simp[eY]at hm
   ·rcases ab with ab|⟨m,ab⟩
    ·rw[ab]at bs;cases bs
    ·rw[ab]at aA;cases aA
  ·refine r8 (lu fun af=>?_);rcases ty.b k af with⟨ak,d,_,_,aA,_⟩|ak|⟨ak,_⟩|⟨_,_,aA,_⟩;rotate_left 3
   ·exact ae aA
   ·exact ae aA
   ·rw[e,ak]at hm;simp[eY]at hm
   ·rw[e,ak]at hm;simp[eY]at hm
  ·rw[r9 (lu fun af=>?_)]
   ·exact au
   ·rcases ty.e k af with⟨ak,d,_,_,_,aA⟩|⟨ak,aA⟩|⟨ak,_,bs⟩|⟨ak,_⟩
    ·rw[aA]at au;cases au
    ·exact gL (ty.ex ak k o af au)
    ·rw[bn]at bs;cases bs
    ·rw[e,ak]at hm;simp[eY]at hm
  ·refine⟨⟨ld.1,fun qb=>?_⟩,?_,?_⟩
   ·rcases ty.r _ qb with⟨cj,ak,aA⟩|⟨_,⟨j,aA⟩,_⟩
    ·simp only[aH.loc.injEq]at aA;exact cC d cj aK ak (by omega)
    ·cases aA
   ·rw[r8 (lu fun af=>?_)]
    ·exact ld.2.1
    ·rcases ty.b _ af with⟨ak,cj,aA,bs,_⟩|ak|⟨ak,⟨j,aA⟩,_⟩|⟨ak,⟨j,aA⟩,_⟩;rotate_left 3
     ·cases aA
     ·simp only[aH.loc.injEq]at bs;exact cC d cj aK aA (by omega)
     ·rcases EC with aA|aA|aA|aA<;>(rw[ak,aA]at hm;simp[eY]at hm)
     ·cases aA
   ·rw[r9 (lu fun af=>?_)]
    ·exact ld.2.2
    ·rcases ty.e _ af with⟨ak,cj,aA,bs,_⟩|⟨ak,aA⟩|⟨ak,⟨j,aA⟩,_⟩|⟨ak,o,aA,_⟩
     ·simp only[aH.loc.injEq]at bs;exact cC d cj aK aA (by omega)
     ·rcases aA with aA|⟨cj,aA,bs,_⟩
      ·exact aA ld.2.2
      ·simp only[aH.loc.injEq]at bs;exact cC d cj aK aA (by omega)
     ·cases aA
     ·rw[ld.2.2]at aA;cases aA
  ·rw[r9 (lu fun af=>?_)]
   ·exact au
   ·rw[e]at hm;rcases ty.e k af with⟨ak,d,_,_,_,aA⟩|⟨ak,_⟩|⟨ak,_⟩|⟨ak,_⟩
    ·rw[aA]at au;cases au
    ·rw[ak]at hm;simp[eY]at hm
    ·rw[ak]at hm;simp[eY]at hm
    ·rw[ak]at hm;simp[eY]at hm
  ·refine r8 (lu fun af=>?_);rw[e]at hm;rcases ty.b k af with⟨ak,_⟩|ak|⟨ak,_⟩|⟨ak,_⟩<;>(rw[ak]at hm;simp[eY]at hm)
  ·rw[e]at hm;refine⟨⟨ld.1,fun qb=>?_⟩,?_,?_⟩
   ·rcases ty.r _ qb with⟨cj,ak,aA⟩|⟨ak|ak,_⟩
    ·cases aA
    ·rw[ak]at hm;simp[eY]at hm
    ·rw[ak]at hm;simp[eY]at hm
   ·rw[r8 (lu fun af=>?_)]
    ·exact ld.2.1
    ·rcases ty.b _ af with⟨ak,_⟩|ak|⟨ak,_⟩|⟨ak,_⟩<;>(rw[ak]at hm;simp[eY]at hm)
   ·rw[r9 (lu fun af=>?_)]
    ·exact ld.2.2
    ·rcases ty.e _ af with⟨ak,_⟩|⟨ak,_⟩|⟨ak,_⟩|⟨ak,o,aA,_⟩
     ·rw[ak]at hm;simp[eY]at hm
     ·rw[ak]at hm;simp[eY]at hm
     ·rw[ak]at hm;simp[eY]at hm
     ·rw[ld.2.2]at aA;cases aA
  ·rw[r9 (lu fun af=>?_)]
   ·exact au
   ·rw[e]at hm;rcases ty.e k af with⟨ak,d,_,_,_,aA⟩|⟨ak,_⟩|⟨ak,_⟩|⟨ak,_⟩
    ·rw[aA]at au;cases au
    ·rw[ak]at hm;simp[eY]at hm
    ·rw[ak]at hm;simp[eY]at hm
    ·rw[ak]at hm;simp[eY]at hm
  ·rw[e]at hm;refine⟨?_,?_,fun fW=>⟨fW,fun qb=>?_⟩⟩;rotate_left 2
   ·rcases ty.r _ qb with⟨cj,_,aA⟩|⟨aA|aA,_⟩
    ·cases aA
    ·rw[aA]at hm;simp[eY]at hm
    ·rw[aA]at hm;simp[eY]at hm
   ·refine r8 (lu fun af=>?_);rcases ty.b _ af with⟨ak,d,_,aA,_⟩|ak|⟨ak,_⟩|⟨ak,_⟩;rotate_left 3
    ·rw[ak]at hm;simp[eY]at hm
    ·cases aA
    ·rw[ak]at hm;simp[eY]at hm
    ·rw[ak]at hm;simp[eY]at hm
   ·refine r9 (lu fun af=>?_);rcases ty.e _ af with⟨ak,d,_,aA,_⟩|⟨ak,_⟩|⟨ak,_⟩|⟨ak,_⟩
    ·cases aA
    ·rw[ak]at hm;simp[eY]at hm
    ·rw[ak]at hm;simp[eY]at hm
    ·rw[ak]at hm;simp[eY]at hm
 ·refine⟨fun i hi e=>?_,fun k ab=>lu fun af=>?_,fun k ab=>lu fun af=>?_⟩
  ·rw[xN.d]at hi;rw[ty.d]at e;exact cC i i hi e rfl
  ·rcases qk k ab with⟨bp,d,a2,a3,_⟩|bp|⟨bp,⟨j,a2⟩,_⟩|⟨bp,_⟩<;>rcases ty.b k af with⟨b8,cj,b3,fR,_⟩|b8|⟨b8,⟨dx,b3⟩,_⟩|⟨b8,⟨dx,b3⟩,_⟩;all_goals first|(rw[bp,b8]at hm;simp[eY]at hm;done)|skip
   ·rw[a3]at fR;simp only[aH.loc.injEq]at fR;exact cC d cj a2 b3 (by omega)
   ·rw[a3]at b3;cases b3
   ·rw[a3]at b3;cases b3
   ·rw[a2]at fR;cases fR
  ·rcases hle k ab with⟨bp,d,a2,a3,_,a4⟩|⟨bp,a2⟩|⟨bp,⟨j,a2⟩,_⟩|⟨bp,gv,a2,_⟩<;>rcases ty.e k af with⟨b8,cj,b3,fR,_,tk⟩|⟨b8,b3⟩|⟨b8,⟨dx,b3⟩,_⟩|⟨b8,gq,b3,_⟩
   ·rw[a3]at fR;simp only[aH.loc.injEq]at fR;exact cC d cj a2 b3 (by omega)
   ·rw[bp,b8]at hm;simp[eY]at hm
   ·rw[a3]at b3;cases b3
   ·rw[a4]at b3;cases b3
   ·rcases a2 with a2|⟨d,a2,a3,_⟩
    ·exact a2 tk
    ·rw[a3]at fR;simp only[aH.loc.injEq]at fR;exact cC d cj a2 b3 (by omega)
   ·rw[bp,b8]at hm;simp[eY]at hm
   ·rw[bp,b8]at hm;simp[eY]at hm
   ·rw[bp,b8]at hm;simp[eY]at hm
   ·rw[a2]at fR;cases fR
   ·rw[bp,b8]at hm;simp[eY]at hm
   ·rw[bp,b8]at hm;simp[eY]at hm
   ·rw[bp,b8]at hm;simp[eY]at hm
   ·rw[tk]at a2;cases a2
   ·rw[bp,b8]at hm;simp[eY]at hm
   ·rw[bp,b8]at hm;simp[eY]at hm
   ·rw[bp,b8]at hm;simp[eY]at hm
def wh(C:e2)(A:c9)(a:Act)(w:World):Prop:= ∃st ν,k4 st A∧(∀k,A.F k→fresh st.n st.o k)∧cO C st a w ν
theorem Ka{st:bj}{A:c9}(h:k4 st A)(d:Nat)(p:ai):k4 {st with t:=put d p st.t} (A.do ⟨some d,p,[],[],none⟩):=by
 refine⟨fun i=>?_,fun k=>?_,fun k=>?_⟩
 ·simp only[c9.do,oM,dt,h.t]
 ·simpa[c9.do,ia,look]using h.b k
 ·simpa[c9.do,ia,look]using h.e k
theorem Tf{st:bj}{A:c9}(h:k4 st A)(d:Nat)(p:ai)(o':List aH)(rm:Option aH):k4 {st with t:=put d p st.t,o:=o'} (A.do ⟨some d,p,[],[],rm⟩):=by have:=Ka h d p;exact⟨this.t,this.b,this.e⟩
theorem WS{α:Type}{β:Type}:∀l:List (aH×α),bR ([]:List (aH×β)) l=l
 |[]=>rfl
 |(k,x)::r=>by simp[bR,look,WS r]
theorem zk{st:bj}{A:c9}(h:k4 st A)(d:Nat)(p:ai)(κ:aH)(cs:List ai)(n':Nat)(o':List aH)(rm:Option aH):k4 ⟨put d p st.t,ct κ cs st.b,st.e,n',o'⟩ (A.do ⟨some d,p,[(κ,cs)],[],rm⟩):=by
 refine⟨fun i=>?_,fun k=>?_,fun k=>?_⟩
 ·simp only[c9.do,oM,dt,h.t]
 ·simp only[c9.do,ia,look,iC,h.b];by_cases e:κ=k<;>simp[e]
 ·simpa[c9.do,ia,look]using h.e k
theorem Fl{st:bj}{A:c9}(h:k4 st A)(κ:aH)(cs:List ai)(p:ai):k4 {st with b:=ct κ cs st.b} (A.do ⟨none,p,[(κ,cs)],[],none⟩):=by
 refine⟨fun i=>?_,fun k=>?_,fun k=>?_⟩
 ·simpa[c9.do]using h.t i
 ·simp only[c9.do,ia,look,iC,h.b];by_cases e:κ=k<;>simp[e]
 ·simpa[c9.do,ia,look]using h.e k
theorem vs{st:bj}{A:c9}(h:k4 st A)(d:Nat)(p:ai)(κ:aH)(o:fv)(n':Nat)(o':List aH)(rm:Option aH):k4 ⟨put d p st.t,st.b,ct κ o st.e,n',o'⟩ (A.do ⟨some d,p,[],[(κ,o)],rm⟩):=by
 refine⟨fun i=>?_,fun k=>?_,fun k=>?_⟩
 ·simp only[c9.do,oM,dt,h.t]
 ·simpa[c9.do,ia,look]using h.b k
 ·simp only[c9.do,ia,look,iC,h.e];by_cases e:κ=k<;>simp[e]
theorem Te{st:bj}{A:c9}(h:k4 st A)(κ:aH)(o:fv)(p:ai):k4 {st with e:=ct κ o st.e} (A.do ⟨none,p,[],[(κ,o)],none⟩):=by
 refine⟨fun i=>?_,fun k=>?_,fun k=>?_⟩
 ·simpa[c9.do]using h.t i
 ·simpa[c9.do,ia,look]using h.b k
 ·simp only[c9.do,ia,look,iC];by_cases e:κ=k<;>simp[e,h.e]
theorem Kp{α:Type}{k:aH}:∀{l:List (aH×α)},k∈l.map (·.1)→(look k l).isSome
 |[],h=>by simp at h
 |(i,x)::r,h=>by
  simp only[look];split
  ·rfl
  ·rename_i e;simp only[gI,ga]at h;rcases h with h|h
   ·exact absurd h.symm e
   ·exact Kp h
theorem uW{n:Nat}{o:List aH}{κ:aH}:∀j,fresh n (κ::o) j→fresh n o j∧j≠κ:=by intro j ag;simp only[fresh,ga,not_or]at ag⊢;exact⟨⟨ag.1,ag.2.2⟩,ag.2.1⟩
theorem aa9{n:Nat}{o:List aH}{κ j:aH}(h:fresh n o j)(ag:some κ≠some j):fresh n (κ::o) j:=by simp only[fresh,ga,not_or]at h⊢;exact⟨h.1,fun e=>ag (by rw[e]),h.2⟩
theorem MP{P:cy}{bo:List (Nat×du)}(aN:fA P bo=true){C:e2}{q:Bool}{n0:Nat}{i:dV}{o:Oper}(au:uo C.N bo i o=true){A:c9}{x:ks}(ad:ec P q n0 i A x){a:Act}{w:World}(aI:wh C A a w)
  {K:Act→World→Prop} {Q:Exit→Act→World→Prop} (c1:∀bh w',wh C (A.do x) bh w'→K bh w'):o.wp P a w K Q:=by
 obtain⟨st,ν,aq,fW,aI⟩:=aI;have qf:∀(t:List (Nat×ai)) (b:List (aH×List ai)) (e:List (aH×fv)) (d:Option Nat) (p:ai) (bw:List (aH×List ai)) (ew:List (aH×fv)),∀k,(A.do ⟨d,p,bw,ew,none⟩).F k→fresh st.n st.o k:=fun t b e d p bw ew k ab=>fW k ab.1;have mx:∀(d:Option Nat) (p:ai) (bw:List (aH×List ai)) (ew:List (aH×fv)) (κ:aH),∀k,(A.do ⟨d,p,bw,ew,some κ⟩).F k→fresh st.n (κ::st.o) k:=fun d p bw ew κ k ab=>aa9 (fW k ab.1) ab.2;cases i with
 |s i=>
  have hA:CI C.N bo i o=true:=by simpa only[uo]using au
  cases i with
  |v d i=>simp only[ec]at ad;obtain⟨c,p,J,U,_,rfl⟩:=ad;rw[←V6 aq]at J;refine jA (κ:= .loc 0) (n':=0) (o₁:=[]) aN aI hA (fun h=>by simp[dY.makes]at h) (fun h=>by simp[dY.makes]at h) (st':={st with t:=put d p st.t}) (by simp only[er,J]) U fun bh w' bg cA=>c1 _ _ ⟨_,bg,Ka aq d p,fun k ab=>fW k ab.1,cA⟩
  |box d key v=>
   cases key with
   |some m=>simp only[ec]at ad
   |none=>simp only[ec]at ad;obtain⟨⟨J,_⟩,U,rfl⟩:=ad;rw[←iu aq]at U;refine jA (κ:= .loc (n0+d)) (n':=st.n) (o₁:= .loc (n0+d)::st.o) aN aI hA (fun _=>fW _ J) (fun _=>uW) (st':=⟨put d (.ptr (.loc (n0+d)) 0) st.t,ct (.loc (n0+d)) (cells (cg st.t v)) st.b,st.e,st.n,.loc (n0+d)::st.o⟩) (by simp only[er]) U fun bh w' bg cA=>c1 _ _ ⟨_,bg,?_,mx _ _ _ _ _,cA⟩;rw[iu aq];exact zk aq d _ _ _ _ _ _
  |alloc d key z=>
   cases key with
   |some m=>simp only[ec]at ad
   |none=>simp only[ec]at ad;obtain⟨⟨J,_⟩,rfl⟩:=ad;refine jA (κ:= .loc (n0+d)) (n':=st.n) (o₁:= .loc (n0+d)::st.o) aN aI hA (fun _=>fW _ J) (fun _=>uW) (st':=⟨put d (.ptr (.loc (n0+d)) 0) st.t,ct (.loc (n0+d)) (cells z) st.b,st.e,st.n,.loc (n0+d)::st.o⟩) (by simp only[er]) trivial fun bh w' bg cA=>c1 _ _ ⟨_,bg,zk aq d _ _ _ _ _ _,mx _ _ _ _ _,cA⟩
  |store sz u v=>simp only[ec]at ad;obtain⟨k,off,cs,J,U,ao,rfl⟩:=ad;rw[←iu aq]at J ao;rw[←aq.b]at U;refine jA (κ:= .loc 0) (n':=0) (o₁:=[]) aN aI hA (fun h=>by simp[dY.makes]at h) (fun h=>by simp[dY.makes]at h) (st':={st with b:=ct k (nu cs off (cells (cg st.t v))) st.b}) (by simp only[er,J,U]) ao fun bh w' bg cA=>c1 _ _ ⟨{st with b:=ct k (nu cs off (cells (cg st.t v))) st.b},bg,by rw[iu aq];exact Fl aq k _ _,fun k ab=>fW k ab.1,cA⟩
  |bsl d sz el xs=>simp only[ec]at ad;obtain⟨⟨J,_⟩,U,rfl⟩:=ad;rw[←tv aq]at U;refine jA (κ:= .loc (n0+d)) (n':=st.n) (o₁:= .loc (n0+d)::st.o) aN aI hA (fun _=>fW _ J) (fun _=>uW) (st':=⟨put d (.slice sz (.own (.loc (n0+d))) (xs.map (cg st.t))) st.t,st.b,ct (.loc (n0+d)) ⟨xs.length,el,sz,none⟩ st.e,st.n,.loc (n0+d)::st.o⟩) (by simp only[er]) U fun bh w' bg cA=>c1 _ _ ⟨_,bg,?_,mx _ _ _ _ _,cA⟩;rw[tv aq];exact vs aq d _ _ _ _ _ _
  |app d sz el u v=>
   simp only[ec]at ad;obtain⟨tag,xs,kG,ys,J,U,ad⟩:=ad;rw[←iu aq]at J U;rcases ad with⟨k,ow,rfl,ao,aZ,rfl⟩|⟨rfl,ao,⟨aZ,_⟩,rfl⟩
   ·rw[←aq.e]at ao;refine jA (κ:= .loc 0) (n':=0) (o₁:=[]) aN aI hA (fun h=>by simp[dY.makes,J]at h) (fun h=>by simp[dY.makes,J]at h) (st':=⟨put d (.slice sz (.own k) (xs++ys)) st.t,st.b,ct k ⟨xs.length+ys.length,el,sz,none⟩ st.e,st.n,st.o⟩) (by simp only[er,J,U,ao,and_self,if_true]) aZ.2 fun bh w' bg cA=>c1 _ _ ⟨_,bg,vs aq d _ _ _ _ _ _,fun k ab=>fW k ab.1,cA⟩
   ·refine jA (κ:= .loc (n0+d)) (n':=st.n) (o₁:= .loc (n0+d)::st.o) aN aI hA (fun _=>fW _ aZ) (fun _=>uW) (st':=⟨put d (.slice sz (.own (.loc (n0+d))) ys) st.t,st.b,ct (.loc (n0+d)) ⟨ys.length,el,sz,none⟩ st.e,st.n,.loc (n0+d)::st.o⟩) (by simp only[er,J,U,and_self,if_true]) ao fun bh w' bg cA=>c1 _ _ ⟨_,bg,vs aq d _ _ _ _ _ _,mx _ _ _ _ _,cA⟩
  |bslm d key sz el xs=>simp only[ec]at ad
  |mks d key sz el z x=>simp only[ec]at ad
  |appm d key sz el u v=>simp only[ec]at ad;obtain⟨k,n,xs,kG,ys,J,U,ao,aZ,rfl⟩:=ad;rw[←iu aq]at J U;rw[←aq.e]at ao;refine jA (κ:= .loc 0) (n':=0) (o₁:=[]) aN aI hA (fun h=>by simp[dY.makes,J]at h) (fun h=>by simp[dY.makes,J]at h) (st':=⟨put d (.row sz k (xs.length+ys.length)) st.t,st.b,ct k ⟨xs.length+ys.length,el,sz,some (xs++ys)⟩ st.e,st.n,st.o⟩) (by simp only[er,r3,J,U,ao,and_self,if_true]) aZ fun bh w' bg cA=>c1 _ _ ⟨_,bg,vs aq d _ _ _ _ _ _,fun k ab=>fW k ab.1,cA⟩
  |storeE sz u v=>simp only[ec]at ad;obtain⟨k,n,i,f,el,dy,xs,q,J,U,ao,aZ,rfl⟩:=ad;rw[←iu aq]at J aZ;rw[←aq.e]at U;refine jA (κ:= .loc 0) (n':=0) (o₁:=[]) aN aI hA (fun h=>by simp[dY.makes]at h) (fun h=>by simp[dY.makes]at h) (st':={st with e:=ct k ⟨n,el,dy,some (xs.set i (o5 q f (cells (cg st.t v))))⟩ st.e}) (by simp only[er,qC,J,U,ao,and_self,if_true]) aZ fun bh w' bg cA=>c1 _ _ ⟨{st with e:=ct k ⟨n,el,dy,some (xs.set i (o5 q f (cells (cg st.t v))))⟩ st.e},bg,by rw[iu aq];exact Te aq k _ _,fun k ab=>fW k ab.1,cA⟩
  |mkmap d key=>
   cases key with
   |none=>simp only[ec]at ad
   |some m=>simp only[ec]at ad;obtain⟨⟨J,_⟩,rfl⟩:=ad;exact jA (κ:= .obj m) (n':=st.n) (o₁:= .obj m::st.o) aN aI hA (fun _=>fW _ J) (fun _=>uW) (st':=⟨put d (.gmap (.obj m)) st.t,ct (.obj m) [.hdm 0 []] st.b,st.e,st.n,.obj m::st.o⟩) (by simp only[er]) trivial fun bh w' bg cA=>c1 _ _ ⟨_,bg,zk aq d _ _ _ _ _ _,mx _ _ _ _ _,cA⟩
  |mput ck u k v=>simp only[ec]at ad;obtain⟨m,cs,cs',J,U,ao,rfl⟩:=ad;rw[←iu aq]at J;rw[←iu aq,←iu aq]at ao;rw[←aq.b]at U;exact jA (κ:= .loc 0) (n':=0) (o₁:=[]) aN aI hA (fun h=>by simp[dY.makes]at h) (fun h=>by simp[dY.makes]at h) (st':={st with b:=ct m cs' st.b}) (by simp only[er,J,U,ao]) trivial fun bh w' bg cA=>c1 _ _ ⟨{st with b:=ct m cs' st.b},bg,Fl aq m _ _,fun k ab=>fW k ab.1,cA⟩
  |range d key x=>simp only[ec]at ad
 |next d x=>simp only[ec]at ad
 |call d f xs=>
  simp only[ec]at ad;obtain⟨n,dg,J,ad⟩:=ad;rw[←iu aq]at J;rcases ad with⟨⟨s,ah,r,rm,bL,cn,dp,jU,kv,nJ,AJ,rfl⟩,_⟩|⟨cB,r,rfl,bL,cn,dp,rfl⟩;rotate_left
  ·rw[←tv aq]at cn dp;simp only[uo]at au;split at au
   ·rename_i qV args z8 mE;simp only[cx,dH]at au;obtain⟨⟨⟨ak,aA⟩,bs⟩,dq⟩:=au;have lF:=dX aI bs;rw[J]at lF;refine Pj aI mE ak aA lF (CD aI dq) (K:=fun st'=>st'={st with t:=put cB r st.t,o:= .loc (n0+cB)::st.o}) ⟨⟨[],[]⟩,_,some (n0+cB),st.n,fun _=>.loc (n0+cB)::st.o,fun k cs ab=>by simp[look]at ab,fun k cs ab=>by simp[look]at ab,⟨fun _=>rfl,fun _=>rfl⟩,jI (fun _ h=>h.elim) _ cn,dp,fun m hm=>?_,fun k eD ah bn ab=>?_,?_⟩ ?_
    ·cases hm;exact fW _ bL.1
    ·obtain⟨_,rfl⟩:=bn;have:=uW k ab;exact⟨by simpa[cR]using this.1,fun m hm=>by cases hm;exact this.2⟩
    ·rintro eD og ⟨rfl,rfl⟩;refine⟨⟨fun m hm=>by simp[look]at hm,fun m hm=>by simp[look]at hm⟩,?_⟩;simp[after,WS,eK]
    ·rintro st' bh w' bg rfl cA;exact c1 _ _ ⟨_,bg,Tf aq cB r _ _,mx _ _ _ _ _,cA⟩
   ·cases au
  rw[←tv aq]at nJ AJ;simp only[uo]at au;split at au
  ·rename_i qV args z8 mE;simp only[cx,dH]at au;obtain⟨⟨⟨ak,aA⟩,bs⟩,dq⟩:=au;have lF:=dX aI bs;rw[J]at lF;obtain⟨aR,be,bN,dB,c7⟩:=kv;refine Ph aI mE ak aA lF (CD aI dq) (K:=fun st'=>st'=after st s ah d r) (.inl ⟨s,_,fun k cs ab=>⟨by rw[aq.b];exact(bL k cs ab).1,.inl (by simp[ab]),(bL k cs ab).2⟩,fun k o' ab=>⟨by rw[aq.e];exact(cn k o' ab).1,.inr (by simp[ab]),(cn k o' ab).2⟩,dp,nJ,AJ,?_⟩) ?_
   ·rintro eD og ⟨rfl,rfl⟩;refine⟨⟨fun m hm=>?_,fun m hm=>?_⟩,rfl⟩
    ·rcases aR _ hm with h|h
     ·exact .inl h
     ·exact .inr (fW _ (c7 _ h).2.1).2
    ·rcases be _ hm with h|h
     ·exact .inl h
     ·exact .inr (fW _ (c7 _ h).2.1).2
   ·rintro st' bh w' bg rfl cA;refine c1 _ _ ⟨_,bg,⟨fun i=>?_,fun k=>?_,fun k=>?_⟩,fun k ab=>?_,cA⟩
    ·simp only[after,c9.do];cases d with
     |none=>simpa[eK]using aq.t i
     |some d=>simp only[eK,oM,dt,aq.t]
    ·simp only[after,c9.do,ia,xf,ub];by_cases af:(look k s.b).isSome
     ·have:=bN k af;obtain⟨y,aG⟩:=fm.1 this;simp[af,aG]
     ·cases ar:look k ah.b with
      |none=>simp only[af,aq.b];cases A.b k<;>simp
      |some y=>
       rcases aR k (by simp[ar])with h|h
       ·exact absurd h af
       ·have:=c7 k h;simp[af,aq.b,this]
    ·simp only[after,c9.do,ia,xf,ub];by_cases af:(look k s.e).isSome
     ·have:=dB k af;obtain⟨y,aG⟩:=fm.1 this;simp[af,aG]
     ·cases ar:look k ah.e with
      |none=>simp only[af,aq.e];cases A.e k<;>simp
      |some y=>
       rcases be k (by simp[ar])with h|h
       ·exact absurd h af
       ·have:=c7 k h;simp[af,aq.e,this]
    ·have I3:=fW k ab.1;have nX:=aI.lookNone I3;simp only[after];refine⟨I3.1,fun ju=>?_⟩;rcases ja.1 ju with ju|ju
     ·exact I3.2 ju
     ·rcases ja.1 ju with ju|ju
      ·rcases aR k (Kp ju)with h|h
       ·obtain⟨y,aG⟩:=fm.1 h;have:=(bL k y aG).1;rw[←aq.b,nX.1]at this;cases this
       ·exact ab.2 h
      ·rcases be k (Kp ju)with h|h
       ·obtain⟨y,aG⟩:=fm.1 h;have:=(cn k y aG).1;rw[←aq.e,nX.2]at this;cases this
       ·exact ab.2 h
  ·cases au
theorem W7{P:cy}{bo:List (Nat×du)}(aN:fA P bo=true){C:e2}{q:Bool}{n0:Nat}{ops:Array Oper}{g:c3}{o:Oper}{j:Nat}(ag:ops[j]? =some o)(au:A3 C.N bo ops.toList g o=true){A:c9}{x:ks}(ad:kt P q n0 g A x){a:Act}{w:World}(aI:wh C A a w)
  {K:Act→World→Prop} {Q:Exit→Act→World→Prop} (c1:∀bh w',wh C (A.do x) bh w'→K bh w'):wpOp P ops Q j K a w:=by
 unfold wpOp;rw[ag];simp only;simp only[A3,cx]at au;obtain⟨qi,nU⟩:=au;unfold kt at ad;cases Bn:g.g with
 |none=>
  cases eJ:o.guard with
  |some x=>simp[eJ,Bn]at qi
  |none=>
   have hw:ot o (yielded ops a.tmps)=true:=by simp[ot,eJ]
   rw[if_pos hw];simp only[Bn]at ad;exact .inl (MP aN nU ad aI c1)
 |some xM=>
  obtain⟨s,want⟩:=xM;cases eJ:o.guard with
  |none=>simp[eJ,Bn]at qi
  |some akv=>
   obtain⟨amR,b0⟩:=akv;simp only[eJ,Bn,cx,dH,fI]at qi;obtain⟨⟨⟨⟨rfl,U⟩,ao⟩,aZ⟩,b1⟩:=qi;obtain⟨st,ν,aq,fW,dc⟩:=id aI;obtain⟨kr,oq⟩:=WX dc U ao;simp only[Bn]at ad;have R5:∀(h:x=k0 g.i.dst),K (a.put o.dst undef) w:=by
    rintro rfl;rw[aZ];refine c1 _ _ ⟨_,ν,?_,fun k ab=>?_,dc.put b1 (p:= .tuple []) (by simp[a6,cJ,undef])⟩
    ·refine⟨fun i=>?_,fun k=>?_,fun k=>?_⟩
     ·simp only[c9.do,k0];cases g.i.dst with
      |none=>simpa[eK]using aq.t i
      |some d=>simp only[eK,oM,dt,aq.t]
     ·simpa[c9.do,ia,look,k0]using aq.b k
     ·simpa[c9.do,ia,look,k0]using aq.e k
    ·exact fW k ab.1
   split at ad
   ·rename_i b ae;have aG:=kr b (by rw[aq.t];exact ae);rcases ad with⟨rfl,ad⟩|⟨rfl,ad⟩
    ·have hw:ot o (yielded ops a.tmps)=true:=by simp[ot,eJ,aG]
     rw[if_pos hw];exact .inl (MP aN nU ad aI c1)
    ·have hw:¬(ot o (yielded ops a.tmps)=true):=by simp[ot,eJ,aG]
     rw[if_neg hw];exact R5 ad
   ·rename_i ae;have aG:=oq (by rw[aq.t];exact ae);have hw:¬(ot o (yielded ops a.tmps)=true):=by simp[ot,eJ,aG]
    rw[if_neg hw];exact R5 ad
   ·exact ad.elim
def uP(P:cy)(q:Bool)(n0:Nat)(K:c9→Prop):List (Nat×c3)→c9→Prop
 |[],A=>K A
 |(_,g)::r,A=> ∃x,kt P q n0 g A x∧uP P q n0 K r (A.do x)
theorem Np{P:cy}{q:Bool}{n0:Nat}{K:c9→Prop}{i:Nat}{g:c3}:∀(nD oB:List (Nat×c3)) (A:c9),(∀x∈nD,yw x.2 g=true)→uP P q n0 K (nD++(i,g)::oB) A→∃x,kt P q n0 g A x∧uP P q n0 K (nD++oB) (A.do x)
 |[],oB,A,_,h=>h
 |(j,QM)::nD,oB,A,av,h=>by simp only[bO,uP]at h;obtain⟨y,aG,h⟩:=h;obtain⟨x,ad,h⟩:=Np nD oB (A.do y) (fun z bf=>av z (mX _ bf)) h;obtain⟨s1,s2,s3⟩:=swap (av _ (List.mem_cons_self ..)) aG ad;refine⟨x,s1,y,s2,?_⟩;rw[←c9.do_comm A s3];exact h
def rem(hl:Array Bool):Nat→List c3→List (Nat×c3)
 |_,[]=>[]
 |k,g::r=>if hl.getD k false then rem hl (k+1) r else(k,g)::rem hl (k+1) r
theorem Vk{l aX:Array Bool}:∀(gs:List c3) (k:Nat),(∀j,k≤j→l.getD j false=aX.getD j false)→rem l k gs=rem aX k gs
 |[],_,_=>rfl
 |g::r,k,h=>by simp only[rem,h k (e1 _),Vk r (k+1) fun j ag=>h j (by omega)]
theorem Ed{l:Array Bool}{i j:Nat}(h:i<l.size):(l.setIfInBounds i true).getD j false=if i=j then true else l.getD j false:=by
 simp only[Array.getD_eq_getD_getElem?];by_cases e:i=j
 ·subst e;simp[h]
 ·simp[e]
theorem LB{l:Array Bool}{i:Nat}(hi:i<l.size)(ar:l.getD i false=false):∀(gs:List c3) (k:Nat),k≤i→i<k+gs.length→∃nD oB g,gs[i-k]? =some g∧rem l k gs=nD++(i,g)::oB∧rem (l.setIfInBounds i true) k gs=nD++oB∧
  ∀x∈nD,gs[x.1-k]? =some x.2∧k≤x.1∧x.1<i∧l.getD x.1 false=false
 |[],k,J,U=>by simp at U;omega
 |g::r,k,J,U=>by
  by_cases e:k=i
  ·subst e;refine⟨[],rem l (k+1) r,g,by simp,by simp[rem,ar],?_,fun x ad=>by simp at ad⟩;simp only[rem,Ed hi,if_true,bS];exact Vk r (k+1) fun j ag=>by rw[Ed hi,if_neg (by omega)]
  ·obtain⟨nD,oB,eX,ak,aA,bs,dq⟩:=LB hi ar r (k+1) (by omega) (by simp at U;omega);have u4:i-k=(i-(k+1))+1:=by omega
   have hp:(l.setIfInBounds i true).getD k false=l.getD k false:=by rw[Ed hi,if_neg (by omega)]
   by_cases ab:l.getD k false=true
   ·refine⟨nD,oB,eX,by rw[u4];simpa using ak,by simp only[rem,ab,if_true,aA],by simp only[rem,hp,ab,if_true,bs],fun x ad=>?_⟩;obtain⟨f1,f2,f3,f4⟩:=dq x ad;refine⟨?_,by omega,f3,f4⟩;have:x.1-k=(x.1-(k+1))+1:=by omega
    rw[this];simpa using f1
   ·have ab:l.getD k false=false:=by simpa using ab
    refine⟨(k,g)::nD,oB,eX,by rw[u4];simpa using ak,by simp[rem,ab,aA],by simp[rem,hp,ab,bs],fun x ad=>?_⟩;rcases ga.1 ad with rfl|ad
    ·exact⟨by simp,e1 _,by simp;omega,ab⟩
    ·obtain⟨f1,f2,f3,f4⟩:=dq x ad;refine⟨?_,by omega,f3,f4⟩;have:x.1-k=(x.1-(k+1))+1:=by omega
     rw[this];simpa using f1
def uc(acc:List Nat):List Edge→Nat
 |[]=>0
 |e::r=>if Region.binds .any e then(2 ^ e.on)|||(acc.getD e.on 0)|||uc acc r else uc acc r
def ry(acc:List Nat):List Oper→List Nat
 |[]=>acc
 |o::os=>ry (acc++[uc acc o.after.toList]) os
def CF(m:Nat)(h:c3):Nat→List c3→Bool
 |_,[]=>true
 |i,g::r=>(m.testBit i||yw g h)&&CF m h (i+1) r
def Cp:List c3→List c3→List Nat→Bool
 |_,[],_=>true
 |pre,h::r,m::ms=>CF m h 0 pre&&Cp (pre++[h]) r ms
 |_,_,[]=>false
def AQ:Nat→List Oper→Bool
 |_,[]=>true
 |k,o::os=>o.after.toList.all (fun e=> !Region.binds .any e||decide (e.on<k))&&AQ (k+1) os
def AE(gs:List c3)(ops:List Oper):Bool:=AQ 0 ops&&Cp [] gs (ry [] ops)
theorem Ki{acc:List Nat}{j:Nat}:∀{es:List Edge},(uc acc es).testBit j=true→∃e∈es,Region.binds .any e=true∧(j=e.on∨(acc.getD e.on 0).testBit j=true)
 |[],h=>by simp[uc]at h
 |e::r,h=>by
  simp only[uc]at h;split at h
  ·rename_i ae;simp only[Nat.testBit_or,lQ]at h;rcases h with(h|h)|h
   ·refine⟨e,by simp,ae,.inl ?_⟩;rw[Nat.testBit_two_pow]at h;have cA:e.on=j:=by simpa using h
    exact cA.symm
   ·exact⟨e,by simp,ae,.inr h⟩
   ·obtain⟨fD,J,U⟩:=Ki h;exact⟨fD,by simp[J],U⟩
  ·obtain⟨fD,J,U⟩:=Ki h;exact⟨fD,by simp[J],U⟩
theorem Kj:∀(os:List Oper) (acc:List Nat) (k:Nat),k<acc.length→(ry acc os)[k]? =acc[k]?
 |[],acc,k,_=>rfl
 |o::os,acc,k,h=>by simp only[ry];rw[Kj os _ k (by simp;omega),List.getElem?_append_left h]
theorem Tn:∀(os:List Oper) (acc:List Nat) (k:Nat) (o:Oper),os[k]? =some o→∃ti,(ry acc os)[acc.length+k]? =some (uc ti o.after.toList)∧ti.length=acc.length+k∧∀i,i<ti.length→ti[i]? =(ry acc os)[i]?
 |[],acc,k,o,h=>by simp at h
 |o'::os,acc,0,o,h=>by
  simp only[List.getElem?_cons_zero,dt]at h;subst h;refine⟨acc,?_,by simp,fun i hi=>?_⟩
  ·simp only[ry,Nat.add_zero];rw[Kj os _ _ (by simp)];simp
  ·simp only[ry];rw[Kj os _ i (by simp;omega),List.getElem?_append_left hi]
 |o'::os,acc,k+1,o,h=>by simp only[List.getElem?_cons_succ]at h;obtain⟨ti,J,U,ao⟩:=Tn os (acc++[uc acc o'.after.toList]) k o h;refine⟨ti,?_,by rw[U];simp;omega,fun i hi=>by rw[ao i hi];rfl⟩;simp only[ry];rw[show acc.length+(k+1)=(acc++[uc acc o'.after.toList]).length+k from by simp;omega];exact J
def MM(ops:Array Oper)(hl:Array Bool):Prop:= ∀k o,ops[k]? =some o→hl.getD k false=true→∀e∈o.after.toList,Region.binds .any e=true→hl.getD e.on false=true
theorem ae3{ops:Array Oper}{hl:Array Bool}(aK:MM ops hl):∀(k:Nat) (o:Oper),ops[k]? =some o→(∀e∈o.after.toList,Region.binds .any e=true→hl.getD e.on false=true)→∀j,((ry [] ops.toList).getD k 0).testBit j=true→hl.getD j false=true:=by
 intro k;induction k using qI with
 |_ k bW=>
  intro o au aq j ag;obtain⟨ti,J,U,ao⟩:=Tn ops.toList [] k o (by simpa using au);simp only[List.length_nil,Nat.zero_add]at J U;rw[List.getD_eq_getElem?_getD,J]at ag;obtain⟨e,he,ae,cP⟩:=Ki ag;rcases cP with rfl|cP
  ·exact aq e he ae
  ·by_cases bq:e.on<ti.length
   ·have hm:ti.getD e.on 0=(ry [] ops.toList).getD e.on 0:=by rw[List.getD_eq_getElem?_getD,ao _ bq,List.getD_eq_getElem?_getD]
    have ab:k<ops.size:=(Array.getElem?_eq_some_iff.1 au).1;have hA:ops[e.on]? =some ops[e.on]:=Array.getElem?_eq_getElem (by omega);rw[hm]at cP;exact bW e.on (by omega) _ hA (fun fD u1 gz=>aK e.on _ hA (aq e he ae) fD u1 gz) j cP
   ·rw[List.getD_eq_getElem?_getD,pW (by omega)]at cP;simp at cP
theorem VC{m:Nat}{h:c3}:∀{gs:List c3} {i0:Nat},CF m h i0 gs=true→∀i g,gs[i]? =some g→m.testBit (i0+i)=true∨yw g h=true
 |[],i0,_,i,g,aS=>by simp at aS
 |eX::r,i0,aI,0,g,aS=>by simp only[CF,cx,lQ]at aI;simp only[List.getElem?_cons_zero,dt]at aS;subst aS;simpa using aI.1
 |eX::r,i0,aI,i+1,g,aS=>by simp only[CF,cx]at aI;have:=VC aI.2 i g (by simpa using aS);rwa[show i0+1+i=i0+(i+1)from by omega]at this
theorem Uh:∀{gs pre:List c3} {ms:List Nat},Cp pre gs ms=true→∀j h,gs[j]? =some h→∀i g,i<pre.length+j→(pre++gs)[i]? =some g→(ms.getD j 0).testBit i=true∨yw g h=true
 |[],pre,ms,_,j,h,ag,_,_,_,_=>by simp at ag
 |cA::r,pre,[],bF,j,h,ag,_,_,_,_=>by simp[Cp]at bF
 |cA::r,pre,m::ms,bF,j,h,ag,i,g,hi,aS=>by
  simp only[Cp,cx]at bF;cases j with
  |zero=>simp only[List.getElem?_cons_zero,dt]at ag;subst ag;rw[List.getElem?_append_left (by omega)]at aS;simpa using VC bF.1 i g aS
  |succ j=>have:=Uh bF.2 j h (by simpa using ag) i g (by simp;omega) (by simpa using aS);simpa using this
theorem PI:∀{os:List Oper} {k:Nat},AQ k os=true→∀i o,os[i]? =some o→∀e∈o.after.toList,Region.binds .any e=true→e.on<k+i
 |[],k,_,i,o,au,_,_,_=>by simp at au
 |o'::os,k,h,0,o,au,e,he,ae=>by simp only[AQ,cx,jD]at h;simp only[List.getElem?_cons_zero,dt]at au;subst au;have:=h.1 e he;simpa[ae]using this
 |o'::os,k,h,i+1,o,au,e,he,ae=>by simp only[AQ,cx]at h;have:=PI h.2 i o (by simpa using au) e he ae;omega
theorem QO{N:Nat}{bo:List (Nat×du)}{ops:List Oper}:∀{gs:List c3} {os:List Oper},j9 N bo ops gs os=true→∀(i:Nat) (g:c3),gs[i]? =some g→∃o,os[i]? =some o∧A3 N bo ops g o=true
 |[],[],_,i,g,h=>by simp at h
 |[],_::_,h,_,_,_=>by simp[j9]at h
 |_::_,[],h,_,_,_=>by simp[j9]at h
 |eX::gs,o::os,h,0,g,aS=>by simp only[j9,cx]at h;simp only[List.getElem?_cons_zero,dt]at aS;subst aS;exact⟨o,by simp,h.1⟩
 |eX::gs,o::os,h,i+1,g,aS=>by simp only[j9,cx]at h;obtain⟨o',J,U⟩:=QO h.2 i g (by simpa using aS);exact⟨o',by simpa using J,U⟩
theorem IL{N:Nat}{bo:List (Nat×du)}{ops:List Oper}:∀{gs:List c3} {os:List Oper},j9 N bo ops gs os=true→gs.length=os.length
 |[],[],_=>rfl
 |[],_::_,h=>by simp[j9]at h
 |_::_,[],h=>by simp[j9]at h
 |g::gs,o::os,h=>by simp only[j9,cx]at h;simp[IL h.2]
theorem Vl{l:Array Bool}:∀(gs:List c3) (k:Nat),rem l k gs=[]∨ ∃i g,i<gs.length∧gs[i]? =some g∧l.getD (k+i) false=false∧∀j,j<i→l.getD (k+j) false=true
 |[],_=>.inl rfl
 |g::r,k=>by
  by_cases h:l.getD k false=true
  ·rcases Vl (l:=l) r (k+1)with J|⟨i,eX,J,U,ao,aZ⟩
   ·left;simp only[rem,h,if_true,J]
   ·refine .inr ⟨i+1,eX,by simp;omega,by simpa using U,by rw[show k+(i+1)=k+1+i from by omega];exact ao,fun j ag=>?_⟩;cases j with
    |zero=>simpa using h
    |succ j=>rw[show k+(j+1)=k+1+j from by omega];exact aZ j (by omega)
  ·exact .inr ⟨0,g,by simp,by simp,by simpa using h,fun j ag=>by omega⟩
theorem Xz{P:cy}{bo:List (Nat×du)}(aN:fA P bo=true){C:e2}{q:Bool}{n0:Nat}{ops:Array Oper}{gs:List c3}(kc:j9 C.N bo ops.toList gs ops.toList=true)(Em:AE gs ops.toList=true){K:c9→Prop}{Q:Exit→Act→World→Prop}
  (hM:∀A a w,K A→wh C A a w→Q .normal a w):∀(fuel:Nat) (hl:Array Bool) (A:c9) (a:Act) (w:World),hl.size=ops.size→MM ops hl→(rem hl 0 gs).length≤fuel→uP P q n0 K (rem hl 0 gs) A→wh C A a w→wpAny P .any ops Q fuel hl a w:=by
 simp only[AE,cx]at Em;obtain⟨IW,ads⟩:=Em;have hlen:gs.length=ops.size:=by simpa using IL kc
 have Rj:∀(hl:Array Bool) (A:c9) (a:Act) (w:World),hl.size=ops.size→uP P q n0 K (rem hl 0 gs) A→wh C A a w→Region.ready .any ops hl=[]→Q .normal a w:=by
  intro hl A a w ed sg aI EP;rcases Vl (l:=hl) gs 0 with h|⟨i,g,J,U,ao,aZ⟩
  ·rw[h]at sg;exact hM A a w sg aI
  ·exfalso;have hi:i<ops.size:=by omega
   have ju:i∈Region.ready .any ops hl:=by
    unfold Region.ready;simp only[k3,List.mem_range,cx,rT];refine⟨hi,?_,?_⟩
    ·rw[Nat.zero_add]at ao;simp only[Array.getD_eq_getD_getElem?]at ao⊢;rw[Array.getElem?_eq_getElem (by omega)]at ao⊢;simpa using ao
    ·rw[Array.getElem?_eq_getElem hi];simp only[nC,jk];rw[←Array.all_toList,jD];intro e he;by_cases ae:Region.binds .any e=true
     ·have bq:=PI IW i ops[i] (by simp[hi]) e he ae;have:=aZ e.on (by omega);rw[Nat.zero_add]at this;simp[this]
     ·simp[ae]
   rw[EP]at ju;simp at ju
 intro fuel;induction fuel with
 |zero=>
  intro hl A a w ed aK aQ sg aI;have adk:rem hl 0 gs=[]:=List.eq_nil_of_length_eq_zero (by omega);have EP:Region.ready .any ops hl=[]:=by
   rw[List.eq_nil_iff_forall_not_mem];intro i hi;unfold Region.ready at hi;simp only[k3,List.mem_range,cx,rT]at hi;obtain⟨J,U,_⟩:=hi;have ar:hl.getD i false=false:=by simp only[Array.getD_eq_getD_getElem?]at U⊢;rw[Array.getElem?_eq_getElem (by omega)]at U⊢;simpa using U
   obtain⟨nD,oB,g,_,aA,_⟩:=LB (by omega) ar gs 0 (by omega) (by omega);rw[adk]at aA;simp at aA
  exact⟨EP,Rj hl A a w ed sg aI EP⟩
 |succ fuel bW=>
  intro hl A a w ed aK aQ sg aI;refine⟨Rj hl A a w ed sg aI,fun i hi=>?_⟩;unfold Region.ready at hi;simp only[k3,List.mem_range,cx,rT]at hi;obtain⟨J,U,ao⟩:=hi;have ar:hl.getD i false=false:=by simp only[Array.getD_eq_getD_getElem?]at U⊢;rw[Array.getElem?_eq_getElem (by omega)]at U⊢;simpa using U
  have au:ops[i]? =some ops[i]:=Array.getElem?_eq_getElem J;have Rm:∀e∈ops[i].after.toList,Region.binds .any e=true→hl.getD e.on false=true:=by rw[au]at ao;simp only[nC,jk]at ao;rw[←Array.all_toList,jD]at ao;intro e he ae;simpa[ae]using ao e he
  obtain⟨nD,oB,g,ak,aA,bs,dq⟩:=LB (by omega) ar gs 0 (by omega) (by omega);simp only[Nat.sub_zero]at ak dq;rw[aA]at sg;obtain⟨x,ad,acv⟩:=Np nD oB A (fun y aG=>by
   obtain⟨f1,f2,f3,f4⟩:=dq y aG;rcases Uh ads i g ak y.1 y.2 (by simpa using f3) (by simpa using f1)with h|h
   ·have:=ae3 aK i ops[i] au Rm y.1 h;rw[f4]at this;cases this
   ·exact h) sg
  obtain⟨o',g1,g2⟩:=QO kc i g ak;have:o'=ops[i]:=by rw[s6,au]at g1;exact(fP g1).symm
  subst this;refine W7 aN au g2 ad aI fun bh w' dc=>?_;refine bW (hl.setIfInBounds i true) (A.do x) bh w' (by simpa using ed) ?_ ?_ (by rw[bs];exact acv) dc
  ·intro k o ab aq e he ae;rw[Ed (by omega)]at aq⊢;split
   ·rfl
   ·by_cases u4:i=k
    ·subst u4;rw[au]at ab;cases ab;exact Rm e he ae
    ·rw[if_neg u4]at aq;exact aK k o ab aq e he ae
  ·rw[bs];rw[aA]at aQ;simp at aQ⊢;omega
def wG(n0 d:Nat)(st:bj):Prop:= .loc (n0+d)∉st.o∧look (.loc (n0+d)) st.b=none∧look (.loc (n0+d)) st.e=none
def fL.loadO(q:Bool)(t:List (Nat×ai)):fL→Prop
 | .load _ _ x=>q=true∨w6 (cg t x)=true
 | .loadB _ _ _=>True
 | .mgetB _ _ _ _ _=>True
 | .mget _ _ _ _ _=>q=true
 | .ment _=>q=true
 | .mlen _=>q=true
 |_=>True
def lD(q:Bool)(nw:List Nat)(n0:Nat)(st:bj):dY→Prop
 | .v _ i=>i.loadO q st.t
 | .box d none _=>wG n0 d st
 | .alloc d none _=>wG n0 d st
 | .box _ (some _) _=>ej
 | .alloc _ (some _) _=>ej
 | .store _ x _=>match cg st.t x with| .ptr _ _=>True|_=>ej
 | .bslm _ _ _ _ _=>ej
 | .mks _ _ _ _ _ _=>ej
 | .appm _ _ _ _ x _=>match cg st.t x with| .row _ _ _=>True|_=>ej
 | .storeE _ _ _=>True
 | .mkmap _ none=>ej
 | .mkmap _ (some m)=>m∈nw∧look (.obj m) st.b=none∧look (.obj m) st.e=none
 | .mput _ _ _ _=>True
 | .range _ _ _=>ej
 | .bsl d _ _ _=>wG n0 d st
 | .app d _ _ x _=>match cg st.t x with
  | .slice _ .nil _=>wG n0 d st
  | .slice _ (.own k) _=>(look k st.e).bind (·.xs)=none
  |_=>True
def oH(n0:Nat):dY→aH
 | .mkmap _ (some m)=>.obj m
 | .v d _| .box d _ _| .alloc d _ _| .bsl d _ _ _| .app d _ _ _ _| .bslm d _ _ _ _| .appm d _ _ _ _ _| .mkmap d _| .range d _ _| .mks d _ _ _ _ _=>.loc (n0+d)
 | .store _ _ _| .mput _ _ _ _| .storeE _ _ _=>.loc n0
def aeB(nw:List Nat)(st:bj)(s ah:cF)(rm:Option aH):Prop:=(∀k,(look k ah.b).isSome→(look k s.b).isSome∨rm=some k)∧(∀k,(look k ah.e).isSome→(look k s.e).isSome∨rm=some k)∧(∀k,(look k s.b).isSome→(look k ah.b).isSome)∧(∀k,(look k s.e).isSome→(look k ah.e).isSome)∧
 (∀k,rm=some k→(∃j,j∈nw∧k= .obj j)∧look k st.b=none∧look k st.e=none∧((look k ah.b).isSome∨(look k ah.e).isSome))
def fu(P:cy)(q:Bool)(nw:List Nat)(n:Nat)(args:List ai)(st:bj)(d:Option Nat)(K:bj→Prop):Prop:=
 (∃cB r,d=some cB∧wG st.n cB st∧aO (fun _=>ej) args∧G0 P n (st.n+cB) args ⟨[],[]⟩ (fun eD dE=>eD=r∧dE=⟨[],[]⟩)∧K {st with t:=put cB r st.t,o:= .loc (st.n+cB)::st.o})∨
 ∃s ah r rm,hQ (inObs s) s.b st.b∧mR (inObs s) s.e st.e∧ic s∧ic ah∧aeB nw st s ah rm∧aO (inObs s) args∧bB P n args s (fun eD dE=>eD=r∧dE=ah)∧(q=true→ah.b=[]∧ah.e=[])∧K {after st s ah d r with o:=st.o}
def j7(P:cy)(q:Bool)(nw:List Nat)(n0:Nat)(st:bj)(K:bj→Prop):dV→Prop
 | .s i=>match er (oH n0 i) st.n (oH n0 i::st.o) st i with
  |some (c,st')=>lD q nw n0 st i∧c∧K st'
  |none=>ej
 | .call d f xs=>match cg st.t f with
  | .func n dg=>fu P q nw n (df (xs.map (cg st.t)++dg)) st d K
  |_=>ej
 | .next _ _=>ej
def hx(P:cy)(q:Bool)(nw:List Nat)(n0:Nat):List c3→bj→(bj→Prop)→Prop
 |[],st,K=>K st
 |⟨none,i⟩::r,st,K=>j7 P q nw n0 st (fun st'=>hx P q nw n0 r st' K) i
 |⟨some (s,want),i⟩::r,st,K=>match get s st.t with
  | .bool b=>(b=want→j7 P q nw n0 {st with t:=put s (.bool want) st.t} (fun st'=>hx P q nw n0 r st' K) i)∧(b= !want→hx P q nw n0 r {st with t:=eK i.dst (.tuple []) (put s (.bool !want) st.t)} K)
  | .tuple []=>hx P q nw n0 r {st with t:=eK i.dst (.tuple []) st.t} K
  |_=>ej
structure rX (nw:List Nat) (n0 N:Nat) (o1:List aH) (st:bj) (A:c9):Prop where
 like:k4 st A
 n:st.n=n0
 F:∀k,fresh n0 st.o k→(∀j∈nw,k≠ .obj j)→A.F k
 o:∀k∈st.o,k∈o1∨(∃d,d<N∧k= .loc (n0+d))∨ ∃j∈nw,k= .obj j
def Av(nw:List Nat)(A:c9):Prop:= ∀j∈nw,A.b (.obj j)=none→A.e (.obj j)=none→A.F (.obj j)
theorem Av.do{P:cy}{q:Bool}{n0:Nat}{nw:List Nat}{A:c9}(h:Av nw A){g:c3}{x:ks}(ad:kt P q n0 g A x):Av nw (A.do x):=by
 intro j ag ae he;refine⟨h j ag (HV ae) (HW he),fun qb=>?_⟩;rcases(Mg ad).r _ qb with⟨d,_,e⟩|⟨_,_,af⟩
 ·cases e
 ·rcases af with af|af
  ·obtain⟨y,aG⟩:=fm.1 af;simp[c9.do,ia,aG]at ae
  ·obtain⟨y,aG⟩:=fm.1 af;simp[c9.do,ia,aG]at he
theorem PT{P:cy}{q:Bool}{nw:List Nat}{n0 N:Nat}{o1:List aH}{i:dV}(aK:∀d,i.dst=some d→d<N){st:bj}{A:c9}(h:rX nw n0 N o1 st A)(kS:Av nw A){K:bj→Prop}(he:j7 P q nw n0 st K i):∃x st',ec P q n0 i A x∧K st'∧rX nw n0 N o1 st' (A.do x):=by
 have aq:=h.like;have qh:∀d,wG n0 d st→(A.F (.loc (n0+d))∧A.b (.loc (n0+d))=none∧A.e (.loc (n0+d))=none):=fun d aQ=>⟨h.F _ ⟨by simp,aQ.1⟩ (fun _ _ e=>by cases e),by rw[←aq.b];exact aQ.2.1,by rw[←aq.e];exact aQ.2.2⟩;have mx:∀(d:Option Nat) (p:ai) (bw:List (aH×List ai)) (ew:List (aH×fv)) (κ:aH),∀k,fresh n0 (κ::st.o) k→(∀j∈nw,k≠ .obj j)→(A.do ⟨d,p,bw,ew,some κ⟩).F k:=fun d p bw ew κ k ab ag=>⟨h.F k (uW k ab).1 ag,fun e=>(uW k ab).2 (fP e).symm⟩;have qf:∀(d:Option Nat) (p:ai) (bw:List (aH×List ai)) (ew:List (aH×fv)),∀k,fresh n0 st.o k→(∀j∈nw,k≠ .obj j)→(A.do ⟨d,p,bw,ew,none⟩).F k:=fun d p bw ew k ab ag=>⟨h.F k ab ag,by simp⟩;have lf:∀d,d<N→∀k∈aH.loc (n0+d)::st.o,k∈o1∨(∃d,d<N∧k= .loc (n0+d))∨ ∃j∈nw,k= .obj j:=fun d aK k ab=>by
  rcases ga.1 ab with rfl|ab
  ·exact .inr (.inl ⟨d,aK,rfl⟩)
  ·exact h.o k ab
 cases i with
 |s i=>
  cases i with
  |v d i=>
   simp only[j7,er]at he;cases aJ:gS st i with
   |none=>simp[aJ]at he
   |some HS=>
    obtain⟨c,p⟩:=HS;simp only[aJ]at he;obtain⟨J,U,ao⟩:=he;refine⟨⟨some d,p,[],[],none⟩,_,⟨c,p,by rw[←V6 aq];exact aJ,U,fun nl=>?_,rfl⟩,ao,Ka aq d p,h.n,qf _ _ _ _,h.o⟩;cases i<;>simp only[fL.isLoad]at nl<;>try(cases nl;done)
    case mget=>exact .inr (.inl J)
    case ment=>exact .inr (.inl J)
    case mlen=>exact .inr (.inl J)
    case loadB=>exact .inl rfl
    case mgetB=>exact .inl rfl
    simp only[lD,fL.loadO,iu aq]at J;exact .inr (by simpa only[fL.ptrOf]using J)
  |box d key v=>
   cases key with
   |some m=>simp only[j7,er,lD,false_and]at he
   |none=>simp only[j7,er,lD,oH]at he;obtain⟨J,U,ao⟩:=he;rw[iu aq]at U;refine⟨_,_,⟨qh d J,U,rfl⟩,ao,?_,h.n,mx _ _ _ _ _,lf d (aK d rfl)⟩;rw[iu aq];exact zk aq d _ _ _ _ _ _
  |alloc d key z=>
   cases key with
   |some m=>simp only[j7,er,lD,false_and]at he
   |none=>simp only[j7,er,lD,oH]at he;obtain⟨J,U,ao⟩:=he;exact⟨_,_,⟨qh d J,rfl⟩,ao,zk aq d _ _ _ _ _ _,h.n,mx _ _ _ _ _,lf d (aK d rfl)⟩
  |store sz u v=>
   simp only[j7,er]at he;cases hu:cg st.t u with
   |ptr k off=>
    cases ae:look k st.b with
    |none=>simp[hu,ae]at he
    |some cs=>simp only[hu,ae]at he;obtain⟨J,U,ao⟩:=he;rw[iu aq]at U hu;refine⟨⟨none,.junk,[(k,nu cs off (cells (dv A.t v)))],[],none⟩,_,⟨k,off,cs,hu,by rw[←aq.b];exact ae,U,rfl⟩,ao,?_,h.n,qf _ _ _ _,h.o⟩;rw[iu aq];exact Fl aq k _ _
   |_=>
    exfalso;simp only[hu]at he;split at he
    ·have:=he.1;simp[lD,hu]at this
    ·exact he
  |bsl d sz el xs=>simp only[j7,er,lD,oH]at he;obtain⟨J,U,ao⟩:=he;rw[tv aq]at U;refine⟨_,_,⟨qh d J,U,rfl⟩,ao,?_,h.n,mx _ _ _ _ _,lf d (aK d rfl)⟩;rw[tv aq];exact vs aq d _ _ _ _ _ _
  |app d sz el u v=>
   simp only[j7,er]at he;cases hu:cg st.t u with
   |slice dy tag xs=>
    cases aJ:cg st.t v with
    |slice iY kG ys=>
     simp only[hu,aJ]at he;by_cases e6:dy=sz∧iY=sz
     ·obtain⟨rfl,rfl⟩:=e6;rw[iu aq]at hu aJ;cases tag with
      |no=>simp at he
      |tr k j=>simp at he
      |lo k=>simp at he
      |nil=>simp only[and_self,if_true,lD,iu aq,hu,oH]at he;obtain⟨J,U,ao⟩:=he;exact⟨_,_,⟨.nil,xs,kG,ys,hu,aJ,.inr ⟨rfl,U,qh d J,rfl⟩⟩,ao,vs aq d _ _ _ _ _ _,h.n,mx _ _ _ _ _,lf d (aK d rfl)⟩
      |own k=>
       cases ab:look k st.e with
       |none=>simp[ab]at he
       |some o=>simp only[and_self,if_true,ab]at he;obtain⟨J,U,ao⟩:=he;exact⟨_,_,⟨.own k,xs,kG,ys,hu,aJ,.inl ⟨k,o,rfl,by rw[←aq.e];exact ab,⟨by simpa[lD,iu aq,hu,ab]using J,U⟩,rfl⟩⟩,ao,vs aq d _ _ _ _ _ _,h.n,qf _ _ _ _,h.o⟩
     ·simp[e6]at he
    |_=>simp[hu,aJ]at he
   |_=>simp[hu]at he
  |bslm d key sz el xs=>simp only[j7,er,lD,false_and]at he
  |mks d key sz el z x=>simp only[j7,er,lD,false_and]at he;split at he<;>simp at he
  |appm d key sz el u v=>
   simp only[j7,er]at he;cases hu:cg st.t u with
   |row dy k n=>
    cases aJ:cg st.t v with
    |slice iY kG ys=>
     simp only[hu,aJ,r3]at he;by_cases e6:dy=sz∧iY=sz
     ·obtain⟨rfl,rfl⟩:=e6;rw[iu aq]at hu aJ;simp only[and_self,if_true]at he;cases ab:look k st.e with
      |none=>simp[ab]at he
      |some o=>
       obtain⟨n',fM,vU,KW⟩:=o;cases KW with
       |none=>simp[ab]at he
       |some xs=>
        simp only[ab]at he;by_cases sf:n'=n∧fM=el∧vU=iY
        ·obtain⟨rfl,rfl,rfl⟩:=sf;simp only[and_self,if_true]at he;obtain⟨J,U,ao⟩:=he;exact⟨_,_,⟨k,n',xs,kG,ys,hu,aJ,by rw[←aq.e];exact ab,U,rfl⟩,ao,vs aq d _ _ _ _ _ _,h.n,qf _ _ _ _,h.o⟩
        ·simp[sf]at he
     ·simp[e6]at he
    |_=>simp[hu,aJ,r3]at he
   |slice dy tag xs=>
    exfalso;simp only[hu]at he;split at he
    ·have:=he.1;simp[lD,hu]at this
    ·exact he
   |_=>simp[hu,r3]at he
  |storeE sz u v=>
   simp only[j7,er]at he;cases hu:cg st.t u with
   |rptr dy k n i f=>
    cases ab:look k st.e with
    |none=>simp[hu,qC,ab]at he
    |some o=>
     obtain⟨n',el,vU,KW⟩:=o;cases KW with
     |none=>simp[hu,qC,ab]at he
     |some xs=>
      simp only[hu,qC,ab]at he;by_cases sf:n'=n∧vU=dy
      ·obtain⟨rfl,rfl⟩:=sf;simp only[and_self,if_true]at he;cases bn:xs[i]? with
       |none=>simp[bn]at he
       |some q=>simp only[bn]at he;obtain⟨J,U,ao⟩:=he;rw[iu aq]at U hu;refine⟨⟨none,.junk,[],[(k,⟨n',el,vU,some (xs.set i (o5 q f (cells (dv A.t v))))⟩)],none⟩,_,⟨k,n',i,f,el,vU,xs,q,hu,by rw[←aq.e];exact ab,bn,U,rfl⟩,ao,?_,h.n,qf _ _ _ _,h.o⟩;rw[iu aq];exact Te aq k _ _
      ·simp[sf]at he
   |_=>simp[hu,qC]at he
  |mkmap d key=>
   cases key with
   |none=>simp only[j7,er,lD,false_and]at he
   |some m=>
    simp only[j7,er,lD,oH]at he;obtain⟨⟨bV,J,U⟩,_,ao⟩:=he;rw[aq.b]at J;rw[aq.e]at U;refine⟨_,_,⟨⟨kS m bV J U,J,U⟩,rfl⟩,ao,zk aq d _ _ _ _ _ _,h.n,mx _ _ _ _ _,fun k ab=>?_⟩;rcases ga.1 ab with rfl|ab
    ·exact .inr (.inr ⟨m,bV,rfl⟩)
    ·exact h.o k ab
  |mput ck u k v=>
   simp only[j7,er,lD]at he;cases hu:cg st.t u with
   |gmap m=>
    cases ae:look m st.b with
    |none=>simp[hu,ae]at he
    |some cs=>
     cases hm:oc ck (cg st.t k) (cg st.t v) cs with
     |none=>simp[hu,ae,hm]at he
     |some cs'=>simp only[hu,ae,hm]at he;rw[iu aq]at hu;rw[iu aq,iu aq]at hm;exact⟨⟨none,.junk,[(m,cs')],[],none⟩,_,⟨m,cs,cs',hu,by rw[←aq.b];exact ae,hm,rfl⟩,he.2.2,Fl aq m _ _,h.n,qf _ _ _ _,h.o⟩
   |_=>simp[hu]at he
  |range d key x=>simp only[j7,lD,false_and]at he;split at he<;>exact he.elim
 |next d x=>simp only[j7]at he
 |call d f xs=>
  simp only[j7]at he;cases aQ:cg st.t f with
  |func n dg=>
   simp only[aQ]at he;rw[iu aq]at aQ;rcases he with⟨cB,r,rfl,bL,cn,dp,jU⟩|⟨s,ah,r,rm,bL,cn,dp,jU,kv,nJ,AJ,XW,XX⟩
   ·rw[tv aq]at cn dp;have ar:=h.n;subst ar;refine⟨⟨some cB,r,[],[],some (.loc (st.n+cB))⟩,_,⟨n,dg,aQ,.inr ⟨cB,r,rfl,qh cB bL,cn,dp,rfl⟩⟩,jU,Tf aq cB r _ _,rfl,mx _ _ _ _ _,lf cB (aK cB rfl)⟩
   rw[tv aq]at nJ AJ;obtain⟨aR,be,bN,dB,c7⟩:=kv;refine⟨⟨d,r,ah.b,ah.e,rm⟩,_,⟨n,dg,aQ,.inl ⟨⟨s,ah,r,rm,fun k cs ab=>⟨by rw[←aq.b];exact(bL k cs ab).1,(bL k cs ab).2.2⟩,fun k o ab=>⟨by rw[←aq.e];exact(cn k o ab).1,(cn k o ab).2.2⟩,dp,jU,⟨aR,be,bN,dB,fun k ab=>?_⟩,nJ,AJ,rfl⟩,XW⟩⟩,XX,⟨fun i=>?_,fun k=>?_,fun k=>?_⟩,h.n,fun k ab ag=>⟨h.F k ab ag,fun qb=>?_⟩,h.o⟩
   ·obtain⟨⟨j,ag,rfl⟩,aA,bs,dq⟩:=c7 k ab;rw[aq.b]at aA;rw[aq.e]at bs;exact⟨⟨j,rfl⟩,kS j ag aA bs,aA,bs,dq⟩
   ·simp only[after,c9.do];cases d with
    |none=>simpa[eK]using aq.t i
    |some d=>simp only[eK,oM,dt,aq.t]
   ·simp only[after,c9.do,ia,xf,ub];by_cases af:(look k s.b).isSome
    ·have:=bN k af;obtain⟨y,aG⟩:=fm.1 this;simp[af,aG]
    ·cases ar:look k ah.b with
     |none=>simp only[af,aq.b];cases A.b k<;>simp
     |some y=>
      rcases aR k (by simp[ar])with h|h
      ·exact absurd h af
      ·have:=c7 k h;simp[af,this]
   ·simp only[after,c9.do,ia,xf,ub];by_cases af:(look k s.e).isSome
    ·have:=dB k af;obtain⟨y,aG⟩:=fm.1 this;simp[af,aG]
    ·cases ar:look k ah.e with
     |none=>simp only[af,aq.e];cases A.e k<;>simp
     |some y=>
      rcases be k (by simp[ar])with h|h
      ·exact absurd h af
      ·have:=c7 k h;simp[af,this]
   ·obtain⟨⟨j,jG,rfl⟩,_⟩:=c7 k qb;exact ag j jG rfl
  |_=>simp[aQ]at he
def yl(N:Nat):List c3→Bool
 |[]=>true
 |g::r=>jc N g.i.dst&&yl N r
def xW:Nat→List c3→List (Nat×c3)
 |_,[]=>[]
 |k,g::r=>(k,g)::xW (k+1) r
theorem M1{nw:List Nat}{n0 N:Nat}{o1:List aH}{st:bj}{A:c9}(h:rX nw n0 N o1 st A){s:Nat}{p:ai}(af:get s st.t=p):rX nw n0 N o1 {st with t:=put s p st.t} A:=by
 refine⟨⟨fun i=>?_,h.like.b,h.like.e⟩,h.n,h.F,h.o⟩;simp only[oM];split
 ·rename_i e;subst e;rw[←af];exact h.like.t _
 ·exact h.like.t i
theorem M2{nw:List Nat}{n0 N:Nat}{o1:List aH}{st:bj}{A:c9}(h:rX nw n0 N o1 st A)(d:Option Nat):rX nw n0 N o1 {st with t:=eK d (.tuple []) st.t} (A.do (k0 d)):=by
 refine⟨⟨fun i=>?_,fun k=>?_,fun k=>?_⟩,h.n,fun k ab ag=>⟨h.F k ab ag,by simp[k0]⟩,h.o⟩
 ·simp only[c9.do,k0];cases d with
  |none=>simpa[eK]using h.like.t i
  |some d=>simp only[eK,oM,dt,h.like.t]
 ·simpa[c9.do,ia,look,k0]using h.like.b k
 ·simpa[c9.do,ia,look,k0]using h.like.e k
theorem AT{P:cy}{q:Bool}{nw:List Nat}{n0 N:Nat}{o1:List aH}{K:bj→Prop}:∀(gs:List c3) (k:Nat),yl N gs=true→∀(st:bj) (A:c9),rX nw n0 N o1 st A→Av nw A→hx P q nw n0 gs st K→uP P q n0 (fun fU=> ∃st',K st'∧rX nw n0 N o1 st' fU) (xW k gs) A
 |[],k,_,st,A,h,_,he=>⟨st,he,h⟩
 |⟨mw,i⟩::r,k,aK,st,A,h,kS,he=>by
  simp only[yl,cx]at aK;have si:∀d,i.dst=some d→d<N:=fun d e=>by have:=aK.1;rw[e]at this;simpa[jc]using this
  simp only[xW,uP];cases mw with
  |none=>simp only[hx]at he;obtain⟨x,st',J,U,ao⟩:=PT si h kS he;have aS:kt P q n0 ⟨none,i⟩ A x:=J;exact⟨x,aS,AT r (k+1) aK.2 st' _ ao (kS.do aS) U⟩
  |some xM=>
   obtain⟨s,want⟩:=xM;simp only[hx]at he;split at he
   ·rename_i b ae;by_cases e:b=want
    ·subst e;obtain⟨x,st',J,U,ao⟩:=PT si (M1 h ae) kS (he.1 rfl);have aS:kt P q n0 ⟨some (s,b),i⟩ A x:=by unfold kt;simp only[←h.like.t,ae];exact .inl ⟨trivial,J⟩
     exact⟨x,aS,AT r (k+1) aK.2 st' _ ao (kS.do aS) U⟩
    ·have gz:b= !want:=by cases b<;>cases want<;>simp at e⊢
     subst gz;have aS:kt P q n0 ⟨some (s,want),i⟩ A (k0 i.dst):=by unfold kt;simp only[←h.like.t,ae];exact .inr ⟨trivial,trivial⟩
     exact⟨k0 i.dst,aS,AT r (k+1) aK.2 _ _ (M2 (M1 h ae) i.dst) (kS.do aS) (he.2 rfl)⟩
   ·rename_i ae;have aS:kt P q n0 ⟨some (s,want),i⟩ A (k0 i.dst):=by unfold kt;simp only[←h.like.t,ae]
    exact⟨k0 i.dst,aS,AT r (k+1) aK.2 _ _ (M2 h i.dst) (kS.do aS) he⟩
   ·exact he.elim
theorem LA:∀(gs:List c3) (l:Array Bool) (k:Nat),(∀j,l.getD j false=false)→rem l k gs=xW k gs
 |[],_,_,_=>rfl
 |g::r,l,k,h=>by simp only[rem,h k,xW,LA r l (k+1) h];simp
def s9(n:Nat)(o:List aH)(K:bj→Prop)(st:bj):Prop:=K {st with n:=n,o:=o}
theorem Good.like{pr:Nat→Prop}{w:World}{ν:bc}{b b0:List (aH×List ai)}{e fD:List (aH×fv)}(h:Good pr w ν b e)(ae:∀k,look k b0=look k b)(he:∀k,look k fD=look k e):Good pr w ν b0 fD:=
 ⟨h.alt,fun k cs ab=>h.box k cs (by rw[←ae];exact ab),fun k bD bl J U=>h.inj k bD bl (by rw[←ae];exact J) (by rw[←ae];exact U),fun g o aS=>h.own g o (by rw[←he];exact aS),
  fun g eX n n' v v' bl J U=>h.oinj g eX n n' v v' bl (by rw[←he];exact J) (by rw[←he];exact U),fun g k n v bl J U=>h.obx g k n v bl (by rw[←he];exact J) (by rw[←ae];exact U),h.one,
  fun bl aN=>h.otr bl (aN.imp (fun⟨k,bp,a2⟩=>⟨k,by rw[←ae];exact bp,a2⟩) (fun⟨g,n,v,bp,a2⟩=>⟨g,n,v,by rw[←he];exact bp,a2⟩))⟩
theorem PV{P:cy}(hm:P.follows .mixedOrders=true){bo:List (Nat×du)}(aN:fA P bo=true){C:e2}{q:Bool}{nw:List Nat}{id:Nat}{ops:Array Oper}{gs:List c3}(kc:j9 C.N bo ops.toList gs ops.toList=true)(Em:AE gs ops.toList=true)(iw:yl C.N gs=true)
  {K:bj→Prop} {Q:Exit→Act→World→Prop} (hM:∀st' bh w' bg,K st'→cO C st' bh w' bg→Q .normal bh w') {st:bj} {a:Act} {w:World} {ν:bc} (ado:∀j∈nw,.obj j∉st.o) (he:hx P q nw st.n gs st (s9 (st.n+C.N) (nw.map aH.obj++st.o) K)) (aI:cO C st a w ν):(Code.region id ops true).wp P Q a w:=by
 refine wp_region_any hm ?_;have dc:cO C st a {w with drawn:=w.drawn+1} ν:=aI.drawn _;let A:c9:=⟨fun i=>get i st.t,fun k=>look k st.b,fun k=>look k st.e,fresh st.n st.o⟩
 have pt:rX nw st.n C.N st.o st A:=⟨⟨fun _=>rfl,fun _=>rfl,fun _=>rfl⟩,rfl,fun k ab _=>ab,fun k ab=>.inl ab⟩;have sg:=AT gs 0 iw st A pt (fun j ag _ _=>⟨trivial,ado j ag⟩) he;have nX:∀j,(Array.replicate ops.size false).getD j false=false:=fun j=>by simp[Array.getD_eq_getD_getElem?,Array.getElem?_replicate];split<;>rfl
 refine Xz aN kc Em (q:=q) (n0:=st.n) (K:=fun fU=> ∃st',s9 (st.n+C.N) (nw.map aH.obj++st.o) K st'∧rX nw st.n C.N st.o st' fU) ?_ ops.size _ A a _ (by simp) ?_ ?_ (by rw[LA gs _ 0 nX];exact sg) ⟨st,ν,pt.like,fun k ab=>ab,dc⟩
 ·rintro fU bh w' ⟨st',ab,br⟩ ⟨apt,bg,nW,A9,l5⟩;refine hM _ bh w' bg ab ⟨l5.good.like (fun k=>by rw[nW.b,←br.like.b]) (fun k=>by rw[nW.e,←br.like.e]),l5.fr,l5.defers,l5.size,fun i=>?_,fun k yO=>?_⟩
  ·have:=l5.slot i;rw[nW.t,←br.like.t]at this;exact this
  ·refine l5.new k (A9 k (br.F k ?_ fun j ag e=>yO.2 (by subst e;exact List.mem_append_left _ (List.mem_map_of_mem ag))));simp only at yO;refine⟨(Ix (Nat.le_add_right st.n C.N) (fun _ h=>h) yO).1,fun ju=>?_⟩;rcases br.o k ju with h|⟨d,aK,rfl⟩|⟨j,ag,rfl⟩;rotate_left 2
   ·exact yO.2 (List.mem_append_left _ (List.mem_map_of_mem ag))
   ·exact yO.2 (List.mem_append_right _ h)
   ·have:=yO.1;simp at this;omega
 ·intro k o ab aq;rw[nX]at aq;cases aq
 ·rw[LA gs _ 0 nX];have:∀(gs:List c3) k,(xW k gs).length=gs.length:=by
   intro gs;induction gs with
   |nil=>intro k;rfl
   |cons g r bW=>intro k;simp[xW,bW]
  rw[this];have:=IL kc;simp at this;omega
def hV:List ai→Prop
 |[]=>True
 |p::cp=>(match p with| .slice _ _ xs=>xs.length≤lim| .str s=>s.length≤lim|_=>True)∧hV cp
def ho:ai→Prop
 | .slice _ _ xs=>xs.length≤lim
 | .str s=>s.length≤lim
 | .agg cs=>hV cs
 |_=>True
def h9:List ai→Prop
 |[]=>True
 |p::r=>ho p∧h9 r
theorem LF{w:World}{ν:bc}:∀{cs:List ai} {us:List Value},dd w ν cs us→hV cs
 |[],_,_=>trivial
 |c::cs,us,h=>by
  simp only[dd]at h;obtain⟨u,b9,_,J,U⟩:=h;refine⟨?_,LF U⟩;cases c<;>simp only<;>have ao:=J.1<;>simp only[a6]at ao
  ·exact ao.2
  ·obtain⟨⟨a,cap,_,_,aZ,_⟩,_⟩:=ao;exact aZ.2
theorem Vo{w:World}{ν:bc}{cs:List ai}{us:List Value}(h:iX w ν cs us):hE cs=true→hV cs:=fun bF=>by rw[uj bF]at h;exact LF h
theorem Vz{w:World}{ν:bc}{p:ai}{v:Value}(h:a6 w ν p v):ho p:=by
 cases p<;>simp only[ho]<;>simp only[a6]at h
 ·exact h.2
 ·obtain⟨⟨a,cap,_,_,aZ,_⟩,_⟩:=h;exact aZ.2
 ·obtain⟨us,_,U⟩:=h;exact LF U
theorem LH{w:World}{ν:bc}:∀{cs:List ai} {us:List Value},cJ w ν cs us→h9 cs
 |[],_,_=>trivial
 |c::cs,us,h=>by simp only[cJ]at h;obtain⟨u,b9,_,J,U⟩:=h;exact⟨Vz J,LH U⟩
inductive C where
 |skip
 |region (gs:List c3)
 |drawn (q:Bool) (N:Nat) (gs:List c3)
 |drawnW (nw:List Nat) (N:Nat) (gs:List c3)
 |seq (a b:C)
 |cond (x:dn) (t e:C)
 |block (id:Nat) (c:C)
 |loop (c:C)
 |exit (id:Nat)
 |ret
 |pub (s:Nat) (c:C)
 |pubB (s:Nat) (c:C)
 |fg (oW:Bool) (s:Nat) (c:C)
 |fz (agg:Bool) (s:Nat) (c:C)
 |no
def Ct(st:bj):ai→Option (ai×List (aH×fv))
 | .row sz k n=>match look k st.e with
  |some ⟨n',el,dy,some xs⟩=>if n'=n∧dy=sz then some (.slice sz (.own k) xs,ct k ⟨n,el,sz,none⟩ st.e)else none
  |_=>none
 |_=>none
def vI(st:bj)(s:Nat):Option bj:=
 match Ct st (get s st.t)with
 |some (p,e)=>some {st with t:=put s p st.t,e:=e}
 |none=>none
def vH(st:bj)(s:Nat):Option bj:=
 match get (s%1000) st.t with
 | .ptr k off=>match look k st.b with
  |some cs=>match cs[off+s/1000]? with
   |some p=>match Ct st p with
    |some (zG,e)=>if hE cs then some {st with b:=ct k (cs.set (off+s/1000) zG) st.b,e:=e}else none
    |none=>none
   |none=>none
  |none=>none
 |_=>none
theorem Lz{C:e2}{st:bj}{a:Act}{w:World}{ν:bc}(h:cO C st a w ν){s:Nat}{p:ai}(af:a6 w ν p (a.tmps.getD s undef)):cO C {st with t:=put s p st.t} a w ν:=by
 refine⟨h.good,h.fr,h.defers,h.size,fun i=>?_,h.new⟩;have:=h.slot i;simp only[oM];split
 ·rename_i e;subst e;exact af
 ·exact this
theorem Un{C:e2}{st:bj}{a:Act}{w:World}{ν:bc}(h:cO C st a w ν){p zG:ai}{e:List (aH×fv)}{v:Value}(bF:a6 w ν p v)(he:Ct st p=some (zG,e)):
  ∃bg,cO C {st with e:=e} a w bg∧a6 w bg zG v∧k5 w ν w bg:=by
 unfold Ct at he;split at he
 ·rename_i sz k n;split at he
  ·rename_i n' el dy xs ab;split at he
   ·rename_i av;obtain⟨rfl,rfl⟩:=av;cases he;simp only[a6]at bF;obtain⟨_,aq,n0,u,J,U,ao⟩:=bF;obtain⟨v0,fl,a1,bt,b2,c2⟩:=h.good.own k _ ab;rw[J]at a1;simp only[dt,jm]at a1;obtain⟨rfl,rfl⟩:=a1;have aJ:v=u:=ao rfl;subst aJ;obtain⟨c8,_,_⟩:=c2 xs rfl;simp only at c8;obtain⟨g1,g2⟩:=h.publish ab rfl J (by rw[c8];exact aq);refine⟨_,g1,g2,⟨fun b o bd=>⟨.inl bd,rfl⟩,fun j b _ ag=>ag,fun g n u _ ix=>⟨n,u,?_,.inl ⟨rfl,rfl⟩⟩,fun _ _ _=>rfl,fun _ _ _ _ h=>h⟩⟩;simp only[bc.withRowOf];split
    ·rename_i e;subst e;rw[J]at ix;exact ix
    ·exact ix
   ·cases he
  ·cases he
 ·cases he
def yr(oW:Bool):ai→ai
 | .slice sz tag xs=>.slice sz (if oW then tag else .no) (df xs)
 |p=>dO p
theorem aaZ{w:World}{ν:bc}{oW:Bool}{p:ai}{v:Value}(h:a6 w ν p v):a6 w ν (yr oW p) v:=by
 have J:=kF p v h;cases p with
 |slice sz tag xs=>
  simp only[yr];cases oW with
  |false=>simpa only[gr,if_false,dO]using J
  |true=>
   simp only[if_true];simp only[a6,dO]at h J⊢;refine⟨J.1,fun e=>h.2.1 e,fun g e=>?_,fun k j e=>?_,fun k e=>?_⟩
   ·obtain⟨n,u,ak,aA,bs⟩:=h.2.2.1 g e;exact⟨n,u,ak,by rw[rN];exact aA,by rw[rN];exact bs⟩
   ·exact Qt _ _ (h.2.2.2.1 k j e)
   ·exact Qt _ _ (h.2.2.2.2 k e)
 |_=>exact J
theorem ahF{C:e2}{st st':bj}{a:Act}{w:World}{ν:bc}(h:cO C st a w ν){s:Nat}(he:vI st s=some st'):∃bg,cO C st' a w bg:=by
 unfold vI at he;split at he
 ·rename_i p e bF;cases he;obtain⟨bg,J,U,_⟩:=Un h (h.slot s) bF;exact⟨_,Lz J U⟩
 ·cases he
theorem Vv{w:World}{ν:bc}:∀{cs:List ai} {us:List Value} {i:Nat} {p q:ai} {v:Value},dd w ν cs us→cs[i]? =some p→us[i]? =some v→a6 w ν q v→dd w ν (cs.set i q) us
 |[],_,_,_,_,_,_,h,_,_=>by simp at h
 |c::cs,us,0,p,q,v,h,_,aJ,bn=>by simp only[dd]at h;obtain⟨u,b9,rfl,J,U⟩:=h;simp only[List.getElem?_cons_zero,dt]at aJ;subst aJ;simp only[List.set_cons_zero,dd];exact⟨_,_,rfl,⟨bn,J.2⟩,U⟩
 |c::cs,us,i+1,p,q,v,h,bF,aJ,bn=>by simp only[dd]at h;obtain⟨u,b9,rfl,J,U⟩:=h;simp only[List.set_cons_succ,dd];exact⟨_,_,rfl,J,Vv U (by simpa using bF) (by simpa using aJ) bn⟩
theorem ahE{C:e2}{st st':bj}{a:Act}{w:World}{ν:bc}(h:cO C st a w ν){s:Nat}(he:vH st s=some st'):∃bg,cO C st' a w bg:=by
 unfold vH at he;split at he
 ·rename_i k afE ab;generalize afE+s/1000=off at he;split at he
  ·rename_i cs da;split at he
   ·rename_i p bF;split at he
    ·rename_i zG e EL;split at he
     ·rename_i ss;cases he;obtain⟨bl,us,el,g1,g2,g3,g4,g5⟩:=h.good.box k cs da;rw[uj ss]at g5;have bq:off<us.toList.length:=by rw[o4 g5];exact(fG.1 bF).1
      obtain⟨v,aJ⟩:∃v,us.toList[off]? =some v:=⟨_,cv bq⟩;have yX:a6 w ν p v:=by have:=zU off g5;rw[kN (fG.1 bF).1,kN bq]at this;simp only[dd]at this;obtain⟨u,b9,ak,aA,_⟩:=this;rw[(fG.1 bF).2]at aA;rw[(fG.1 aJ).2]at ak;cases ak;exact aA.1
      obtain⟨bg,J,U,ao⟩:=Un h yX EL;have rj:dd w bg (cs.set off zG) us.toList:=Vv (Vu ao g5) bF aJ U;have RT:=zW rj;refine⟨bg,⟨J.good.alt,fun j eH ag=>?_,fun j dx b ag jG=>J.good.inj j dx b ?_ ?_,J.good.own,J.good.oinj,fun g j n v b aS ag=>J.good.obx g j n v b aS ?_,J.good.one,fun bl ae=>J.good.otr bl (ae.imp (fun⟨bD,bp,a2⟩=>⟨bD,by rw[iC]at bp;split at bp;(rename_i e;subst e;simp[da]);exact bp,a2⟩) id)⟩,J.fr,J.defers,J.size,J.slot,J.new⟩
      ·simp only at ag;rw[iC]at ag;split at ag
       ·rename_i e;subst e;cases ag;obtain⟨h8,b9,fM,f1,f2,f3,f4,f5⟩:=J.good.box k cs da;have:h8=bl:=by have:=ao.bx k bl trivial g1;rw[this]at f1;cases f1;rfl
        subst this;rw[ui ss]at g4 f4;rw[g4]at f4;injection f4 with f4;injection f4 with f4 f6 f7;refine⟨h8,us,el,f1,f2,f3,by rw[ui RT];exact g4,by rw[uj RT];exact rj⟩
       ·exact J.good.box j eH ag
      ·simp only at ag;rw[iC]at ag;split at ag
       ·rename_i e;subst e;simp[da]
       ·exact ag
      ·simp only at jG;rw[iC]at jG;split at jG
       ·rename_i e;subst e;simp[da]
       ·exact jG
      ·simp only at ag;rw[iC]at ag;split at ag
       ·rename_i e;subst e;simp[da]
       ·exact ag
     ·cases he
    ·cases he
   ·cases he
  ·cases he
 ·cases he
def r7{α:Type}(k:aH)(l:List (aH×α)):List (aH×α):=match l with
 |[]=>[]
 |(i,x)::r=>if i=k then r7 k r else(i,x)::r7 k r
theorem Kb{α:Type}(k j:aH):∀l:List (aH×α),look j (r7 k l)=if j=k then none else look j l
 |[]=>by simp[r7,look]
 |(i,x)::r=>by
  simp only[r7];by_cases h:i=k
  ·subst h;rw[if_pos rfl,Kb i j r];by_cases U:j=i
   ·simp[U]
   ·have:¬i=j:=fun e=>U e.symm;simp[look,U,this]
  ·rw[if_neg h];simp only[look];by_cases U:i=j
   ·subst U;simp[h]
   ·simp only[U,if_false];exact Kb k j r
def IA(agg:Bool):List ai→Option ai
 |[p]=>if agg then some (.agg [p])else some p
 |cs=>if agg then some (.agg cs)else none
def uX(st:bj)(agg:Bool)(s:Nat):Option bj:=
 match get s st.t with
 | .ptr k 0=>match look k st.b with
  |some cs=>if hE cs then match IA agg cs with
    |some x=>some {st with t:=put s (.eptr x) st.t,b:=r7 k st.b}
    |none=>none
   else none
  |none=>none
 |_=>none
theorem ahm{u:Value}(h:u.oneCell'=true):u.cells.toList=[u]:=by cases u<;>first|rfl|(simp[Value.oneCell']at h)
theorem S6{w:World}{A:Nat→Nat→Prop}{b:Nat}{us:Array Value}{el:gx}(ae:w.heap[b]? =some (.cells us el))(bd:∀o,o<us.size→A b o):∀(a7:List Value) (off:Nat),us.toList.drop off=a7→lr w A b off a7
 |[],_,_=>trivial
 |v::a7,off,h=>by
  have bq:off<us.toList.length:=by
   rcases Nat.lt_or_ge off us.toList.length with J|J
   ·exact J
   ·rw[List.drop_eq_nil_of_le J]at h;cases h
  have U:=kN bq;rw[h]at U;injection U with U ao;refine⟨⟨bd off (by simpa using bq),?_⟩,S6 ae bd a7 (off+1) ao.symm⟩;have u9:off<us.size:=by simpa using bq
  simp only[World.cell?,ae,jl,gr,if_false];rw[U];simp[u9]
theorem abd{C:e2}{st st':bj}{a:Act}{w:World}{ν:bc}(h:cO C st a w ν){agg:Bool}{s:Nat}(he:uX st agg s=some st'):∃bg,cO C st' a w bg:=by
 unfold uX at he;split at he
 ·rename_i k ab;split at he
  ·rename_i cs da;split at he
   ·rename_i ss;split at he
    ·rename_i x ad;cases he;obtain⟨bl,us,el,g1,g2,g3,g4,g5⟩:=h.good.box k cs da;rw[uj ss]at g5;rw[ui ss]at g4;have bq:bl<w.heap.size:=by
      rcases Nat.lt_or_ge bl w.heap.size with J|J
      ·exact J
      ·rw[Array.getElem?_eq_none J]at g4;cases g4
     let bg:bc:={ν with A:=fun b o=>ν.A b o∨(b=bl∧o<us.size)}
     have au:k5 w ν w bg:=⟨fun b o bd=>⟨.inl bd,rfl⟩,fun j b _ ag=>ag,fun g n u _ ix=>⟨n,u,ix,.inl ⟨rfl,rfl⟩⟩,fun _ _ _=>rfl,fun _ _ _ _ h=>h⟩;have hk:∀j eH,look j (r7 k st.b)=some eH→j≠k∧look j st.b=some eH:=fun j eH ag=>by
      rw[Kb]at ag;split at ag
      ·cases ag
      ·rename_i e;exact⟨e,ag⟩
     have EB:∀j,(look j (r7 k st.b)).isSome→(look j st.b).isSome:=fun j ag=>by obtain⟨eH,iw⟩:=fm.1 ag;simp[(hk j eH iw).2]
     have pw:∀(g:aH) (n:Nat) (v:Value),(look g st.e).isSome→ν.ow g=some (n,v)→v.ownBlock=some bl→ej:=fun g n v J U ao=>h.good.obx g k n v bl J (by simp[da]) U ao g1;have mG:a6 w bg (.eptr x) (a.tmps.getD s undef):=by
      have af:=h.slot s;rw[ab]at af;simp only[a6]at af⊢;obtain⟨b0,a1,bt⟩:=af;rw[g1]at a1;cases a1;have aq:lr w bg.A bl 0 us.toList:=S6 g4 (fun o au=>.inr ⟨rfl,au⟩) _ 0 rfl;have g6:dd w bg cs us.toList:=Vu au g5;unfold IA at ad;split at ad
      ·rename_i p;simp only[dd]at g6;obtain⟨u,b9,ak,aA,bs⟩:=g6;subst bs;split at ad
       ·cases ad;exact⟨bl,0,.agg us,bt,by simp only[a6];exact⟨us,rfl,by rw[ak];simp only[dd];exact⟨u,[],rfl,aA,rfl⟩⟩,by simpa[ou]using aq⟩
       ·cases ad;refine⟨bl,0,u,bt,aA.1,?_⟩;rw[ahm aA.2,←ak];exact aq
      ·split at ad
       ·cases ad;exact⟨bl,0,.agg us,bt,by simp only[a6];exact⟨us,rfl,g6⟩,by simpa[ou]using aq⟩
       ·cases ad
     refine⟨bg,Lz (ν:=bg) (st:={st with b:=r7 k st.b}) ⟨⟨fun b o bd=>?_,fun j eH ag=>?_,fun j dx b J U=>h.good.inj j dx b (EB j J) (EB dx U),fun g o aS=>?_,h.good.oinj,fun g j n v b J U=>h.good.obx g j n v b J (EB j U),h.good.one,fun b aN=>h.good.otr b (aN.imp (fun⟨j,bp,a2⟩=>⟨j,EB j bp,a2⟩) id)⟩,⟨h.fr.os,h.fr.tape,h.fr.output,h.fr.size,h.fr.block,fun b o bd=>⟨.inl (h.fr.keep b o bd).1,(h.fr.keep b o bd).2⟩,fun b o bd=>?_,h.fr.obj,h.fr.obn,h.fr.row,h.fr.obr,h.fr.trd,h.fr.trb,h.fr.trn,h.fr.sh⟩,h.defers,h.size,fun i=>xC au (h.slot i),h.new⟩ mG⟩
     ·rcases bd with bd|⟨rfl,_⟩
      ·exact h.good.alt b o bd
      ·exact bq
     ·obtain⟨cC,jG⟩:=hk j eH ag;obtain⟨h8,b9,fM,f1,f2,f3,f4,f5⟩:=h.good.box j eH jG;refine⟨h8,b9,fM,f1,f2,fun o bd=>?_,f4,pR au f5⟩;rcases bd with bd|⟨rfl,_⟩
      ·exact f3 o bd
      ·exact cC (h.good.inj j k _ (by simp[jG]) (by simp[da]) f1 g1)
     ·obtain⟨v0,fl,ak,aA,bs,dq⟩:=h.good.own g o aS;have uY:∀b,v0.ownBlock=some b→∀j,bg.A b j→ν.A b j:=fun b ae j bd=>by
       rcases bd with bd|⟨rfl,_⟩
       ·exact bd
       ·exact(pw g _ v0 (by simp[aS]) ak ae).elim
      exact⟨v0,fl,ak,aA,fun b ae=>⟨(bs b ae).1,fun j bd=>(bs b ae).2 j (uY b ae j bd)⟩,rI au uY dq⟩
     ·rcases bd with bd|⟨rfl,_⟩
      ·exact h.fr.fresh b o bd
      ·exact .inr g2
    ·cases he
   ·cases he
  ·cases he
 ·cases he
def rH(st:bj)(x:dn)(b:Bool):bj:=match x with
 | .t i=>{st with t:=put i (.bool b) st.t}
 | .c _=>st
def cT(P:cy)(ob:List aH):C→(Exit→bj→Prop)→bj→Prop
 | .skip,Q,st=>Q .normal st
 | .region gs,Q,st=>hK P gs st (Q .normal)
 | .drawn q N gs,Q,st=>hx P q [] st.n gs st (s9 (st.n+N) st.o (Q .normal))
 | .drawnW nw N gs,Q,st=>(∀j∈nw,.obj j∉st.o)∧hx P false nw st.n gs st (s9 (st.n+N) (nw.map aH.obj++st.o) (Q .normal))
 | .seq a b,Q,st=>cT P ob a (fun e st'=>match e with| .normal=>cT P ob b Q st'|e=>Q e st') st
 | .cond x t e,Q,st=>match cg st.t x with
  | .bool b=>(b=true→cT P ob t Q (rH st x true))∧(b=false→cT P ob e Q (rH st x false))
  |_=>ej
 | .block id c,Q,st=>cT P ob c (fun e st'=>match e with| .exit j=>if j=id then Q .normal st' else Q (.exit j) st'|e=>Q e st') st
 | .loop c,Q,st=> ∃(gJ:Nat→bj→Prop) (m:Nat) (vS:bj),im ob st vS∧gJ m vS∧
   ∀k s,gJ k s→(∀i,ho (get i s.t))→(∀j cs,look j s.b=some cs→hE cs=true→hV cs)→cT P ob c (fun e ah=>match e with| .normal=> ∃bD og,bD<k∧im ob ah og∧gJ bD og|e=>Q e ah) s
 | .exit id,Q,st=>Q (.exit id) st
 | .ret,Q,st=>Q .ret st
 | .pub s c,Q,st=>match vI st s with
  |some st'=>cT P ob c Q st'
  |none=>ej
 | .pubB s c,Q,st=>match vH st s with
  |some st'=>cT P ob c Q st'
  |none=>ej
 | .fg oW s c,Q,st=>cT P ob c Q {st with t:=put s (yr oW (get s st.t)) st.t}
 | .fz eW s c,Q,st=>match uX st eW s with
  |some st'=>cT P ob c Q st'
  |none=>ej
 | .no,_,_=>ej
def hc(N:Nat)(bo:List (Nat×du)):C→Code→Bool
 | .skip,.skip=>true
 | .region gs,.region _ ops false=>j9 N bo ops.toList gs ops.toList
 | .drawn _ N' gs,.region _ ops true=>N'==N&&j9 N bo ops.toList gs ops.toList&&AE gs ops.toList&&yl N gs
 | .drawnW _ N' gs,.region _ ops true=>N'==N&&j9 N bo ops.toList gs ops.toList&&AE gs ops.toList&&yl N gs
 | .seq a b,.seq x y=>hc N bo a x&&hc N bo b y
 | .cond x t e,.cond o dE fD=>dW x o&&hc N bo t dE&&hc N bo e fD
 | .block id c,.block BL cd=>id==BL&&hc N bo c cd
 | .loop c,.loop cd=>hc N bo c cd
 | .exit id,.exit BL=>id==BL
 | .ret,.ret=>true
 | .pub _ c,cd=>hc N bo c cd
 | .pubB _ c,cd=>hc N bo c cd
 | .fg _ _ c,cd=>hc N bo c cd
 | .fz _ _ c,cd=>hc N bo c cd
 | .no,_=>true
 |_,_=>false
theorem QP{N:Nat}{bo:List (Nat×du)}{ops:List Oper}:∀{gs:List c3} {os:List Oper},j9 N bo ops gs os=true→gs.length=os.length
 |[],[],_=>rfl
 |[],_::_,h=>by simp[j9]at h
 |_::_,[],h=>by simp[j9]at h
 |g::gs,o::os,h=>by simp only[j9,cx]at h;simp[QP h.2]
def W6(P:cy)(C:e2)(c:Code)(Q:Exit→bj→Prop)(st:bj):Prop:= ∀a w ν,cO C st a w ν→c.wp P (fun e bh w'=> ∃st' bg,Q e st'∧cO C st' bh w' bg) a w
theorem qc{P:cy}(hm:P.follows .mixedOrders=true){bo:List (Nat×du)}(aN:fA P bo=true){X:e2}:∀(c:C) (code:Code) (Q:Exit→bj→Prop) (st:bj),hc X.N bo c code=true→cT P X.ob c Q st→W6 P X code Q st
 | .skip,code,Q,st,au,he=>by
  cases code<;>simp only[hc]at au<;>try cases au
  intro a w ν aI;exact wp_skip ⟨st,ν,he,aI⟩
 | .region gs,code,Q,st,au,he=>by
  cases code<;>try(simp[hc]at au;done)
  rename_i id ops draw;cases draw<;>simp only[hc]at au
  ·intro a w ν aI;refine wp_region ?_;have aq:gs.length=ops.size:=by simpa using QP au
   rw[List.range_eq_range',←aq];exact PW aN (K:=Q .normal) (fun st' bh w' bg J U=>⟨st',bg,J,U⟩) gs ops.toList 0 (by simp) au st a w ν he aI
  ·cases au
 | .drawn q N gs,code,Q,st,au,he=>by
  cases code<;>try(simp[hc]at au;done)
  rename_i id ops draw;cases draw<;>simp only[hc]at au
  ·cases au
  ·simp only[cx,dH]at au;obtain⟨⟨⟨rfl,J⟩,U⟩,ao⟩:=au;intro a w ν aI;exact PV hm aN J U ao (nw:=[]) (K:=Q .normal) (fun st' bh w' bg J U=>⟨st',bg,J,U⟩) (by simp) he aI
 | .drawnW nw N gs,code,Q,st,au,he=>by
  cases code<;>try(simp[hc]at au;done)
  rename_i id ops draw;cases draw<;>simp only[hc]at au
  ·cases au
  ·simp only[cx,dH]at au;obtain⟨⟨⟨rfl,J⟩,U⟩,ao⟩:=au;intro a w ν aI;exact PV hm aN J U ao (nw:=nw) (K:=Q .normal) (fun st' bh w' bg J U=>⟨st',bg,J,U⟩) he.1 he.2 aI
 | .seq x y,code,Q,st,au,he=>by
  cases code<;>try(simp[hc]at au;done)
  rename_i oF k8;simp only[hc,cx]at au;intro a w ν aI;refine wp_seq ?_;have J:=qc hm aN x oF _ st au.1 he a w ν aI;refine wp_mono J fun e bh w' cP=>?_;obtain⟨st',bg,bn,dc⟩:=cP;cases e with
  |normal=>exact qc hm aN y k8 Q st' au.2 bn bh w' bg dc
  |_=>exact⟨st',bg,bn,dc⟩
 | .cond x t e,code,Q,st,au,he=>by
  cases code<;>try(simp[hc]at au;done)
  rename_i o X5 ce;simp only[hc,cx]at au;intro a w ν aI;simp only[cT]at he;have ad:=dX aI au.1.1;split at he
  ·rename_i b ae;rw[ae]at ad;simp only[a6]at ad;have BE:cO X (rH st x b) a w ν:=by
    unfold rH;split
    ·exact Ly aI (by simpa[cg]using ae)
    ·exact aI
   refine wp_cond ad ?_;cases b
   ·exact qc hm aN e ce Q _ au.2 (he.2 rfl) a w ν BE
   ·exact qc hm aN t X5 Q _ au.1.2 (he.1 rfl) a w ν BE
  ·exact he.elim
 | .block id c,code,Q,st,au,he=>by
  cases code<;>try(simp[hc]at au;done)
  rename_i BL cd;simp only[hc,cx,dH]at au;obtain⟨rfl,au⟩:=au;intro a w ν aI;refine wp_block ?_;refine wp_mono (qc hm aN c cd _ st au he a w ν aI) fun e bh w' cP=>?_;obtain⟨st',bg,bn,dc⟩:=cP;cases e with
  |exit j=>
   simp only[Exit.inBlock]at bn⊢;by_cases ag:j=id
   ·rw[if_pos ag]at bn⊢;exact⟨st',bg,bn,dc⟩
   ·rw[if_neg ag]at bn⊢;exact⟨st',bg,bn,dc⟩
  |_=>exact⟨st',bg,bn,dc⟩
 | .loop c,code,Q,st,au,he=>by
  cases code<;>try(simp[hc]at au;done)
  rename_i cd;simp only[hc]at au;intro a w ν aI;simp only[cT]at he;obtain⟨gJ,m,vS,hw,hi,jw⟩:=he;refine wp_loop_ghost (fun k a w=> ∃s ν,gJ k s∧cO X s a w ν) m ⟨vS,_,hi,aI.weaker hw⟩ ?_;intro k a w ach;obtain⟨s,ν,af,yY⟩:=ach;have J:=jw k s af (fun i=>Vz (yY.slot i)) (fun j cs ag=>by obtain⟨bl,us,el,_,_,_,_,g5⟩:=yY.good.box j cs ag;exact Vo g5);refine wp_mono (qc hm aN c cd _ s au J a w ν yY) fun e bh w' cP=>?_;obtain⟨st',bg,bn,dc⟩:=cP;cases e with
  |normal=>obtain⟨bD,og,ak,aA,bs⟩:=bn;exact⟨bD,ak,og,_,bs,dc.weaker aA⟩
  |_=>exact⟨st',bg,bn,dc⟩
 | .exit id,code,Q,st,au,he=>by
  cases code<;>try(simp[hc]at au;done)
  rename_i BL;simp only[hc,dH]at au;subst au;intro a w ν aI;exact wp_exit ⟨st,ν,he,aI⟩
 | .ret,code,Q,st,au,he=>by
  cases code<;>try(simp[hc]at au;done)
  intro a w ν aI;exact wp_ret ⟨st,ν,he,aI⟩
 | .pub s c,code,Q,st,au,he=>by
  simp only[hc]at au;simp only[cT]at he;split at he
  ·rename_i st' af;intro a w ν aI;obtain⟨bg,J⟩:=ahF aI af;exact qc hm aN c code Q st' au he a w bg J
  ·exact he.elim
 | .pubB s c,code,Q,st,au,he=>by
  simp only[hc]at au;simp only[cT]at he;split at he
  ·rename_i st' af;intro a w ν aI;obtain⟨bg,J⟩:=ahE aI af;exact qc hm aN c code Q st' au he a w bg J
  ·exact he.elim
 | .fg oW s c,code,Q,st,au,he=>by simp only[hc]at au;simp only[cT]at he;intro a w ν aI;exact qc hm aN c code Q _ au he a w ν (Lz aI (aaZ (aI.slot s)))
 | .fz eW s c,code,Q,st,au,he=>by
  simp only[hc]at au;simp only[cT]at he;intro a w ν aI;split at he
  ·rename_i st' dh;obtain⟨bg,J⟩:=abd aI dh;exact qc hm aN c code Q st' au he a w bg J
  ·exact he.elim
 | .no,code,Q,st,au,he=>by simp only[cT]at he
inductive bu where
 |tmp (i:Nat)
 |cell (i:Nat) (agg:Bool) (sz:Nat)
def aY(st:bj):bu→Option (Prop×ai)
 | .tmp i=>some (True,get i st.t)
 | .cell i agg sz=>me st.b st.e agg sz (get i st.t)
def aV(st:bj):List bu→Option (Prop×List ai)
 |[]=>some (True,[])
 |r::ez=>match aY st r,aV st ez with
  |some (c,p),some (cd,cp)=>some (c∧cd,p::cp)
  |_,_=>none
def qy(bo:List (Nat×du)):List bu→List ResultVar→Bool
 |[],[]=>true
 | .tmp i::ez,.tmp j::os=>i==j&&qy bo ez os
 | .cell i agg sz::ez,.cell j t::os=>i==j&&(match dQ bo t with|some f=>f.size==sz&&f.kind.isAgg==agg|none=>false)&&qy bo ez os
 |_,_=>false
def aT:List ai→ai
 |[p]=>p
 |cp=>.tuple cp
def Gp(tmps:Array Value):ResultVar→Sem Value
 | .tmp t=>pure (tmps.getD t undef)
 | .cell x t=>do loadVar t (←asAddr (tmps.getD x undef))
theorem VA(fn:Func)(tmps:Array Value):results fn tmps=(do let a7←fn.results.mapM (Gp tmps);pure (if h:a7.size=1 then a7[0]else .tuple a7)):=by unfold results;congr 2
theorem Gh{P:cy}{bo:List (Nat×du)}(aN:fA P bo=true){X:e2}{st:bj}{a:Act}{w:World}{ν:bc}(aI:cO X st a w ν):
  ∀(ez:List bu) (os:List ResultVar) (c:Prop) (cp:List ai),qy bo ez os=true→aV st ez=some (c,cp)→c→
  ∃a7,(os.mapM (Gp a.tmps)).run P w= .ok a7 w∧cJ w ν cp a7
 |[],[],c,cp,_,he,_=>by simp only[aV]at he;cases he;exact⟨[],by simp,by simp[cJ]⟩
 |[],_::_,_,_,au,_,_=>by simp[qy]at au
 | .tmp _::_,[],_,_,au,_,_=>by simp[qy]at au
 | .cell _ _ _::_,[],_,_,au,_,_=>by simp[qy]at au
 |r::ez,o::os,c,cp,au,he,av=>by
  simp only[aV]at he;split at he
  ·rename_i bL p cn Um J U;cases he;cases r with
   |tmp i=>
    cases o with
    |cell _ _=>simp[qy]at au
    |tmp j=>simp only[qy,cx,dH]at au;obtain⟨rfl,au⟩:=au;simp only[aY]at J;cases J;obtain⟨a7,g1,g2⟩:=Gh aN aI ez os cn Um au U av.2;refine⟨a.tmps.getD i undef::a7,?_,by simp only[cJ];exact⟨_,_,rfl,aI.slot i,g2⟩⟩;simp only[List.mapM_cons,ft,Gp,fZ,fB,g1]
   |cell i agg sz=>
    cases o with
    |tmp _=>simp[qy]at au
    |cell j t=>
     simp only[qy,cx,dH]at au;obtain⟨⟨rfl,ao⟩,au⟩:=au;split at ao
     ·rename_i f aQ;simp only[cx,dH]at ao;obtain⟨rfl,rfl⟩:=ao;simp only[aY]at J;obtain⟨a7,g1,g2⟩:=Gh aN aI ez os cn Um au U av.2;obtain⟨v,f1,f2⟩:=Fm aN aI.good aQ (aI.slot i) J av.1;have BB:∃r1,a.tmps.getD i undef= .pointer (some r1):=by
       have af:=aI.slot i;unfold me at J;split at J
       ·rename_i dy k n vj qV ab;rw[ab]at af;simp only[a6]at af;obtain⟨⟨b,o,e⟩,_⟩:=af;exact⟨_,e⟩
       ·rename_i k off ab;rw[ab]at af;simp only[a6]at af;obtain⟨b,_,e⟩:=af;exact⟨_,e⟩
       ·rename_i q ab;rw[ab]at af;simp only[a6]at af;obtain⟨b,off,u,e,_⟩:=af;exact⟨_,e⟩
       ·cases J
      obtain⟨r1,Be⟩:=BB;rw[Be]at f1;simp only[Instr.loadAt,Instr.sureAddr,ft,fZ,fB]at f1;refine⟨v::a7,?_,by simp only[cJ];exact⟨_,_,rfl,f2,g2⟩⟩;have acn:(asAddr (.pointer (some r1)):Sem Addr).run P w= .ok r1 w:=rfl;simp only[List.mapM_cons,ft,Gp,fZ,fB,g1,Be,acn,f1]
     ·cases ao
  ·cases he
theorem xA{w:World}{ν:bc}:∀{cp:List ai} {a7:List Value},cJ w ν cp a7→a7.length=cp.length
 |[],a7,h=>by simp only[cJ]at h;subst h;rfl
 |p::cp,a7,h=>by simp only[cJ]at h;obtain⟨u,b9,rfl,_,U⟩:=h;simp[xA U]
def jB:Nat→List ai→List (Nat×ai)
 |_,[]=>[]
 |i,p::cp=>(i,p)::jB (i+1) cp
theorem Ee:∀(cp:List ai) (i j:Nat),get j (jB i cp)=if i≤j∧j<i+cp.length then cp.getD (j-i) .junk else .junk
 |[],i,j=>by simp[jB,get]
 |p::cp,i,j=>by
  simp only[jB,get];by_cases h:i=j
  ·subst h;simp
  ·rw[if_neg h,Ee cp (i+1) j];by_cases U:i≤j∧j<i+(p::cp).length
   ·rw[if_pos U,if_pos (by simp at U⊢;omega)];have:j-i=(j-(i+1))+1:=by omega
    rw[this];simp
   ·rw[if_neg U,if_neg (by simp at U⊢;omega)]
def kD{α:Type}(ah:cF):List (aH×α)→Prop
 |[]=>True
 |(k,_)::r=>inObs ah k∧kD ah r
theorem ze{α:Type}{ah:cF}:∀{l:List (aH×α)},kD ah l→∀k,(look k l).isSome→inObs ah k
 |[],_,k,h=>by simp[look]at h
 |(i,x)::r,ab,k,h=>by
  simp only[kD]at ab;simp only[look]at h;split at h
  ·rename_i e;subst e;exact ab.1
  ·exact ze ab.2 k h
def cG(ez:List bu)(s:cF)(Q:ai→cF→Prop)(e:Exit)(st:bj):Prop:=
 (e= .ret∨e= .normal)∧match aV st ez with
  |some (c,cp)=>c∧∃ah,kD ah s.b∧kD ah s.e∧hQ (inObs ah) ah.b st.b∧mR (inObs ah) ah.e st.e∧ic ah∧aF (inObs ah) (dO (aT cp))∧Q (dO (aT cp)) ah
  |none=>ej
theorem bB.of{P:cy}(hm:P.follows .mixedOrders=true){bo:List (Nat×du)}(aN:fA P bo=true){f:FuncId}{fn:Func}(aQ:P.funcs[f]? =some fn){code:Code}(ae:fn.body=some code)(yS:(fn.name== "runtime.NumGoroutine")=false){c:C}(av:hc fn.ntmps bo c code=true){ez:List bu}(yY:qy bo ez fn.results.toList=true)
  {args:List ai} (aq:args.length≤fn.ntmps) {s:cF} (oS:ic s) {Q:ai→cF→Prop} (he:h9 args→(∀j cs,look j s.b=some cs→hE cs=true→hV cs)→cT P (cR s) c (cG ez s Q) ⟨jB 0 args,s.b,s.e,0,cR s⟩):bB P f args s Q:=by
 intro w ν a7 aS ad aI;refine .inl ⟨⟨fn,aQ,by simp[ae],yS⟩,?_⟩;have n4:=xA aI;have kj:a7.size=args.length:=by simpa using n4
 let X:e2:=⟨w,ν,e8 ν s,fn.ntmps,cR s⟩
 have nX:∀k,fresh 0 (cR s) k→ν.bx k=none∧ν.ow k=none∧∀j b,¬ν.tr k j b:=by
  intro k ab;cases k with
  |loc m=>exact⟨(ad _).1 (oS.1 m),(ad _).2.1 (oS.2 m),(ad _).2.2⟩
  |obj m=>
   simp only[fresh,true_and]at ab;refine⟨?_,?_,(ad _).2.2⟩
   ·refine(ad _).1 ?_;cases h:look (.obj m) s.b with
    |none=>rfl
    |some x=>exact absurd (sK (.inl (by simp[h]))) ab
   ·refine(ad _).2.1 ?_;cases h:look (.obj m) s.e with
    |none=>rfl
    |some x=>exact absurd (sK (.inr (by simp[h]))) ab
 have iQ:∀m,(ν.bx (.obj m)≠none∨ν.ow (.obj m)≠none)→ .obj m∈cR s:=by
  intro m hm;refine Classical.byContradiction fun av=>?_;obtain⟨J,U,_⟩:=nX (.obj m) ⟨trivial,av⟩;rcases hm with hm|hm
  ·exact hm J
  ·exact hm U
 have nZ:cO X ⟨jB 0 args,s.b,s.e,0,cR s⟩ {tmps:=a7++Array.replicate (fn.ntmps-a7.size) undef,defers:=[]} w ν:=by
  refine⟨⟨aS.alt,fun k cs ab=>?_,aS.inj,fun g o eJ=>?_,aS.oinj,aS.obx,aS.one,aS.otr⟩,⟨rfl,rfl,rfl,e1 _,fun _ _ _=>rfl,fun b o h=>⟨h,rfl⟩,fun b o h=>.inl h,fun n b h=>h,fun n b h=>iQ n (.inl (by rw[h];simp)),fun m n u h=>⟨n,u,h,.inl ⟨rfl,rfl⟩⟩,fun m n u h=>iQ m (.inr (by rw[h];simp)),fun k j _ _ b h=>absurd h ((ad k).2.2 j b),fun k j b h=>absurd h ((ad k).2.2 j b),fun k j b h=>absurd h ((ad k).2.2 j b),fun _ _ _=>rfl⟩,rfl,?_,fun i=>?_,nX⟩
  ·obtain⟨bl,us,el,g1,g2,g3⟩:=aS.box k cs ab;exact⟨bl,us,el,g1,.inl g2,g3⟩
  ·obtain⟨v,us,g1,g2,g3,g4⟩:=aS.own g o eJ;exact⟨v,us,g1,g2,fun bl fp=>⟨.inl (g3 bl fp).1,(g3 bl fp).2⟩,g4⟩
  ·show(a7++Array.replicate (fn.ntmps-a7.size) undef).size=fn.ntmps;simp;omega
  ·rw[Ee];by_cases hi:i<args.length
   ·rw[if_pos (by omega)];have qj:args[i]? =some args[i]:=cv hi;obtain⟨v,ak,aA⟩:=CE i aI qj;have aJ:(a7++Array.replicate (fn.ntmps-a7.size) undef).getD i undef=v:=by
     have AP:a7[i]? =some v:=by simpa using ak
     rw[Array.getD_eq_getD_getElem?,Array.getElem?_append_left (by omega),AP];rfl
    show a6 w ν _ ((a7++Array.replicate (fn.ntmps-a7.size) undef).getD i undef);rw[aJ];simpa[List.getD,qj]using aA
   ·rw[if_neg (by omega)];simp[a6]
 have tE:=he (LH aI) (fun j cs ag=>by obtain⟨bl,us,el,_,_,_,_,g5⟩:=aS.box j cs ag;exact Vo g5);have JF:=qc hm aN (X:=X) c code (cG ez s Q) _ av tE _ w ν nZ;refine calls_of_wp aQ ae (wp_mono JF fun e bh w' cP=>?_);obtain⟨st',bg,⟨q8,bn⟩,dc⟩:=cP;cases rh:aV st' ez with
 |none=>simp[rh]at bn
 |some x=>
  obtain⟨cd,cp⟩:=x;simp only[rh]at bn;obtain⟨hW,ah,kb,ke,a1,bt,b2,c2,c8⟩:=bn;obtain⟨mQ,g1,g2⟩:=Gh aN dc ez fn.results.toList cd cp yY rh hW;have Jr:=xA g2;have dK:bh.defers=[]∧∃v,(results fn bh.tmps).run P w'= .ok v w'∧(fun(e:Ending) w'=> ∃v r ah bg,e= .returned v∧Q r ah∧a6 w' bg r v∧Good (fun bl=>e8 ν s bl∨w.heap.size≤bl) w' bg ah.b ah.e∧nO bg ah∧ic ah∧pd ⟨w,ν,e8 ν s,0,cR s⟩ w' bg) (.returned v) w':=by
   refine⟨dc.defers,?_⟩;have hX:(results fn bh.tmps).run P w'= .ok (if h:mQ.toArray.size=1 then mQ.toArray[0]else .tuple mQ.toArray) w':=by rw[VA];simp only[ft,Array.mapM_eq_mapM_toList,Sem.run_map,g1,fB,fZ]
   refine⟨_,hX,_,dO (aT cp),ah,bg.cut (inObs ah),rfl,c8,?_,dc.good.cut a1 bt (fun bl h _=>h),?_,b2,?_⟩
   ·have lh:a6 w' bg (aT cp) (if h:mQ.toArray.size=1 then mQ.toArray[0]else .tuple mQ.toArray):=by
     match cp,mQ,g2,Jr with
     |[p],[v],g2,_=>simp only[cJ]at g2;obtain⟨u,b9,ak,aA,_⟩:=g2;cases ak;simpa[aT]using aA
     |[],[],g2,_=>simp[aT,a6,cJ]
     |p::dm::cp,v::v2::mQ,g2,_=>rw[dif_neg (by simp)];simp only[aT,a6];exact⟨_,rfl,by simpa using g2⟩
     |[_],[],_,h=>simp at h
     |[],_::_,_,h=>simp at h
     |[_],_::_::_,_,h=>simp at h
     |_::_::_,[],_,h=>simp at h
     |_::_::_,[_],_,h=>simp at h
    exact j2 (nE.cut _ w' bg) _ _ c2 (kF _ _ lh)
   ·intro k;refine⟨?_,?_,?_⟩;rotate_left 2
    ·rintro j b ⟨af,ae⟩;obtain⟨t1,t2⟩:=dc.fr.trn k j b ae;rcases af with af|af<;>obtain⟨x,hY⟩:=fm.1 af
     ·obtain⟨bl,b9,el,ak,_⟩:=dc.good.box k x (a1 k x hY).1;rw[t1]at ak;cases ak
     ·obtain⟨v',b9,ak,_⟩:=dc.good.own k x (bt k x hY).1;rw[t2]at ak;cases ak
    ·intro ab;by_cases af:inObs ah k
     ·rw[bc.cut_bx af];rcases af with af|af
      ·rw[ab]at af;cases af
      ·obtain⟨x,hY⟩:=fm.1 af;obtain⟨v',b9,ak,_⟩:=dc.good.own k x (bt k x hY).1;rcases dc.good.one k with J|J
       ·exact J
       ·rw[J]at ak;cases ak
     ·exact(bc.cut_no af).1
    ·intro ab;by_cases af:inObs ah k
     ·rw[bc.cut_ow af];rcases af with af|af
      ·obtain⟨x,hY⟩:=fm.1 af;obtain⟨bl,b9,el,ak,_⟩:=dc.good.box k x (a1 k x hY).1;rcases dc.good.one k with J|J
       ·rw[J]at ak;cases ak
       ·exact J
      ·rw[ab]at af;cases af
     ·exact(bc.cut_no af).2.1
   ·refine⟨dc.fr.os,dc.fr.tape,dc.fr.output,dc.fr.size,dc.fr.block,dc.fr.keep,dc.fr.fresh,fun n b h=>?_,fun n b h=>iQ n (.inl (by rw[h];simp)),fun m n u h=>?_,fun m n u h=>iQ m (.inr (by rw[h];simp)),fun k j bD dx b J U=>dc.fr.trd k j bD dx b J.2 U.2,fun k j b ae=>dc.fr.trb k j b ae.2,fun k j b ae=>(by rw[bc.cut_bx ae.1,bc.cut_ow ae.1];exact dc.fr.trn k j b ae.2),dc.fr.sh⟩
    ·have af:inObs ah (.obj n):=by
      cases aq:look (.obj n) s.b with
      |none=>rw[(ad _).1 aq]at h;cases h
      |some x=>exact ze kb _ (by simp[aq])
     rw[bc.cut_bx af];exact dc.fr.obj n b h
    ·have af:inObs ah (.obj m):=by
      cases aq:look (.obj m) s.e with
      |none=>rw[(ad _).2.1 aq]at h;cases h
      |some x=>exact ze ke _ (by simp[aq])
     rw[bc.cut_ow af];exact dc.fr.row m n u h
  rcases q8 with rfl|rfl<;>exact dK
def cc(bo:List (Nat×du))(c:C)(ez:List bu)(afz:Nat)(fn:Func):Bool:=
 match fn.body with
 |some code=>hc fn.ntmps bo c code&&qy bo ez fn.results.toList&& !(fn.name== "runtime.NumGoroutine")&&decide (afz≤fn.ntmps)
 |none=>false
theorem bB.mk{P:cy}(hm:P.follows .mixedOrders=true){bo:List (Nat×du)}(aN:fA P bo=true){f:FuncId}{fn:Func}(aQ:P.funcs[f]? =some fn){c:C}{ez:List bu}{n:Nat}(eu:cc bo c ez n fn=true)
  {args:List ai} (aq:args.length≤n) {s:cF} (oS:ic s) {Q:ai→cF→Prop} (he:h9 args→(∀j cs,look j s.b=some cs→hE cs=true→hV cs)→cT P (cR s) c (cG ez s Q) ⟨jB 0 args,s.b,s.e,0,cR s⟩):bB P f args s Q:=by
 unfold cc at eu;split at eu
 ·rename_i code ae;simp only[cx,rT,fI]at eu;obtain⟨⟨⟨J,U⟩,ao⟩,aZ⟩:=eu;exact bB.of hm aN aQ ae ao J U (ji aq aZ) oS he
 ·cases eu
theorem uf:ic ⟨[],[]⟩:=⟨fun _=>rfl,fun _=>rfl⟩
def bz(ez:List bu)(r:ai)(e:Exit)(st:bj):Prop:=
 (e= .ret∨e= .normal)∧match aV st ez with
  |some (c,cp)=>c∧dO (aT cp)=r
  |none=>ej
theorem b7.mk{P:cy}(hm:P.follows .mixedOrders=true){bo:List (Nat×du)}(aN:fA P bo=true){f:FuncId}{fn:Func}(aQ:P.funcs[f]? =some fn){c:C}{ez:List bu}{n:Nat}(eu:cc bo c ez n fn=true)
  {args:List ai} (aq:args.length≤n) {r:ai} (aI:aF (fun _=>ej) r) (he:h9 args→cT P [] c (bz ez r) ⟨jB 0 args,[],[],0,[]⟩):b7 P f args r:=by
 refine bB.mk hm aN aQ eu aq uf fun J _=>?_;have:=he J;have hM:bz ez r=cG ez ⟨[],[]⟩ (fun eD ah=>eD=r∧ah=⟨[],[]⟩):=by
  funext e st;unfold bz cG;apply propext;refine and_congr_right fun _=>?_;cases aV st ez with
  |none=>exact Iff.rfl
  |some x=>
   obtain⟨c,cp⟩:=x;refine and_congr_right fun _=>?_;constructor
   ·intro h;refine⟨⟨[],[]⟩,trivial,trivial,fun k cs ab=>by simp[look]at ab,fun k cs ab=>by simp[look]at ab,uf,?_,h,rfl⟩;rw[h];exact vp (fun k ab=>ab.elim) r aI
   ·rintro⟨ah,_,_,_,_,_,_,h,_⟩;exact h
 rw[hM]at this;exact this
theorem MD{α:Type}{β:Type}:∀l:List (aH×α),bR ([]:List (aH×β)) l=l
 |[]=>rfl
 |(k,x)::r=>by simp[bR,look,MD r]
theorem cD.val{P:cy}{n:Nat}{args:List ai}{st:bj}{d:Option Nat}{K:bj→Prop}{r:ai}(ab:aO (fun _=>ej) args)(aQ:b7 P n args r)(h:K {st with t:=eK d r st.t}):cD P n args st d K:=by
 refine .inl ⟨⟨[],[]⟩,_,fun k cs ab=>by simp[look]at ab,fun k cs ab=>by simp[look]at ab,uf,jI (fun _ h=>h.elim) _ ab,aQ,?_⟩;rintro eD ah ⟨rfl,rfl⟩;refine⟨⟨fun m h=>by simp[look]at h,fun m h=>by simp[look]at h⟩,?_⟩;have:after st ⟨[],[]⟩ ⟨[],[]⟩ d eD={st with t:=eK d eD st.t}:=by simp[after,MD,cR]
 rw[this];exact h
@[reducible,simp] def et(n:Int):dn:= .c (.int .i64 n)
@[reducible,simp] def I(a b:Nat):c3:=⟨none,.s (.v a (.mov (.t b)))⟩
@[reducible,simp] def bX(a:Nat)(i:fL):c3:=⟨none,.s (.v a i)⟩
@[reducible,simp] def c4(i:dY):c3:=⟨none,.s i⟩
@[reducible,simp] def cX(a f:Nat)(l:List dn):c3:=⟨none,.call (some a) (.c (.func f [])) l⟩
@[reducible,simp] def bU(j:Nat)(w:Bool)(a b:Nat):c3:=⟨some (j,w),.s (.v a (.mov (.t b)))⟩
@[reducible,simp] def wa(j:Nat)(w:Bool)(a:Nat)(i:fL):c3:=⟨some (j,w),.s (.v a i)⟩
@[reducible,simp] def ys(j:Nat)(w:Bool)(i:dY):c3:=⟨some (j,w),.s i⟩
@[reducible,simp] def cN(d s a b:Nat):c3:=bX d (.iaddr s (.t a) (.t b))
@[reducible,simp] def aB(d s a:Nat):c3:=bX d (.load false s (.t a))
@[reducible,simp] def ba(d s a:Nat):c3:=bX d (.load true s (.t a))
@[reducible,simp] def aP(d o s a:Nat):c3:=bX d (.faddr o false s (.t a))
@[reducible,simp] def iW(d o s a:Nat):c3:=bX d (.faddr o true s (.t a))
@[reducible,simp] def bA(d:Nat)(o:BinOp)(a b:Nat):c3:=bX d (.bin o false (.t a) (.t b))
@[reducible,simp] def aW(d:Nat)(o:BinOp)(a:Nat)(n:Int):c3:=bX d (.bin o false (.t a) (et n))
@[reducible,simp] def cS(d a:Nat):c3:=bX d (.len (.t a))
@[reducible,simp] def cI(d a:Nat):c3:=bX d (.notB (.t a))
@[reducible,simp] def cq(d i a:Nat):c3:=bX d (.ext i (.t a))
@[reducible,simp] def dj(d a b:Nat):c3:=bX d (.pick (.t a) (.c (.bool true)) (.t b))
@[reducible,simp] def dr(d a b:Nat):c3:=bX d (.pick (.t a) (.t b) (.c (.bool false)))
@[reducible,simp] def bH(d:Nat)(b:Bool):c3:=bX d (.mov (.c (.bool b)))
@[reducible,simp] def cr(d:Nat)(n:Int):c3:=bX d (.mov (et n))
@[reducible,simp] def bG(s a b:Nat):c3:=c4 (.store s (.t a) (.t b))
@[reducible,simp] def aw(j:Nat)(w:Bool)(x:c3):c3:=⟨some (j,w),x.i⟩
@[reducible,simp] def aa(l:List c3)(c:C):C:= .seq (.region l) c
@[reducible,simp] def a8(n:Nat)(a b:C):C:= .cond (.t n) a b
@[reducible,simp] def gw(d a:Nat)(l:List dn):c3:=⟨none,.call (some d) (.t a) l⟩
@[reducible,simp] def cL(d f a:Nat):c3:=cX d f [.t a]
@[reducible,simp] def cw(d f a b:Nat):c3:=cX d f [.t a,.t b]
@[reducible,simp] def dz:List ai:=[.int .i64 0,.int .i64 0,.str [],.slice 4 .nil []]
@[reducible,simp] def kE:List ai:=[.int .i64 0,.int .i64 0,.int .i64 0,.str [],.slice 4 .nil []]
@[reducible,simp] def e7:List ai:=[.int .i64 0,.slice 5 .nil [],.slice 1 .nil [],.slice 2 .nil [],.slice 2 .nil []]
@[reducible,simp] def cW(a b:Nat):c3:=c4 (.box a none (.t b))
@[reducible,simp] def cU(a:Nat)(l:List ai):c3:=c4 (.alloc a none (.agg l))
@[reducible,simp] def eC(a n:Nat):c3:=bX a (.mov (.c (.slice n .nil [])))
@[reducible,simp] def gC(a b c d e:Nat):c3:=c4 (.app a b c (.t d) (.t e))
@[reducible,simp] def dR(a b c:Nat)(l:List dn):c3:=c4 (.bsl a b c l)
@[reducible,simp] def eB(a b:Nat):c3:=bX a (.nck (.t b))
@[reducible,simp] def jC(d s a:Nat)(n:Int):c3:=bX d (.iaddr s (.t a) (et n))
@[reducible,simp] def gB(d:Nat)(l:List ai)(m:List (Nat×Nat×dn)):c3:=bX d (.build l m)
@[reducible,simp] def fY(a b c:Nat)(x:C):C:= .block 0 (.loop (aa [bA a .lss b c] (.seq (a8 a .skip (.exit 0)) x)))
end Go.Pv
namespace Go.Proofs.YtohaalphocaebaaGreat
open Go Go.Pv
def HC:C:=(aa [bH 2 false] (.seq (aa [I 5 0,cS 6 5,cr 7 0] (fY 8 7 6 (.seq (.block 1 (aa [cN 9 4 5 7,ba 10 4 9,cU 4 dz,bG 4 4 10] (aa [ba 11 4 4,cL 12 117 11,cI 13 12] (a8 13 (aa [bH 2 false] .ret) .skip)))) (.region [aW 14 .add 7 1,I 7 14])))) (aa [bH 2 true] .ret)))
@[simp] def ah2:List bu:=[.tmp 2]
def yd:C:=(aa [cW 1 0,cU 2 dz] (aa [aP 6 0 1 1,aB 7 1 6,aP 8 1 1 1,aB 9 1 8,aP 10 2 1 1,aB 11 1 10,gB 12 dz [(0,1,(.t 7)),(1,1,(.t 9)),(2,1,(.t 11))],cU 3 dz,bG 4 3 12] (.seq (aa [aP 13 3 1 1,aB 14 1 13,cS 15 14,cr 16 0] (fY 17 16 15 (.seq (.block 1 (aa [cN 18 4 14 16,ba 19 4 18,cU 5 dz,bG 4 5 19] (.drawn true 29 [aP 20 3 1 3,aB 21 1 20,ba 22 4 5,cL 23 74 22,dR 24 4 32 [.t 23],gC 25 4 32 21 24,aP 26 3 1 3,bG 1 26 25]))) (.region [aW 27 .add 16 1,I 16 27])))) (aa [ba 28 4 3,bG 4 2 28] .ret))))
@[simp] def aif:List bu:=[.cell 2 true 4]
def HM:C:=(aa [cU 2 dz] (aa [I 3 0,gB 4 dz [(0,1,(et 1)),(1,1,(.t 3))],bG 4 2 4] .ret))
@[simp] def Va:List bu:=[.cell 2 true 4]
def N9:C:=(aa [c4 (.box 2 (some 201) (.t 0)),cW 3 1,cU 4 dz,bH 5 false] (aa [ba 6 4 3,bX 7 (.mkf 182 [.t 2]),cw 8 181 6 7,cq 9 0 8,cq 10 1 8,bG 4 4 9,I 5 10] .ret))
@[simp] def UM:List bu:=[.cell 4 true 4,.tmp 5]
def NM:C:=(aa [bH 2 false] (.seq (aa [I 5 0,cS 6 5,aW 7 .gtr 6 400] (a8 7 (aa [bH 2 false] .ret) .skip)) (.seq (aa [I 8 0,cS 9 8,cr 10 0] (fY 11 10 9 (.seq (.block 1 (aa [I 12 10,cN 13 5 8 10,ba 14 5 13,cU 4 kE,I 3 12,bG 5 4 14] (.seq (.drawn true 45 [aP 15 0 1 4,aB 16 1 15,aW 17 .lss 16 0,I 18 17,aw 18 false (aP 19 0 1 4),aw 18 false (aB 20 1 19),aw 18 false (aW 21 .gtr 20 100000),dj 22 18 21,I 23 22,bU 23 false 24 3,aw 23 false (aW 25 .gtr 24 0),bU 23 false 26 25,bU 26 true 27 0,bU 26 true 28 3,aw 26 true (aW 29 .sub 28 1),aw 26 true (cN 30 5 27 29),aw 26 true (aP 31 0 1 30),aw 26 true (aB 32 1 31),aw 26 true (aP 33 0 1 4),aw 26 true (aB 34 1 33),aw 26 true (bA 35 .geq 32 34),aw 23 false (dr 36 26 35),dj 37 23 36,I 38 37,aw 38 false (iW 39 1 4 4),aw 38 false (ba 40 4 39),aw 38 false (cL 41 117 40),aw 38 false (cI 42 41),dj 43 38 42]) (a8 43 (aa [bH 2 false] .ret) .skip)))) (.region [aW 44 .add 10 1,I 10 44])))) (aa [bH 2 true] .ret))))
@[simp] def FP:List bu:=[.tmp 2]
def NZ:C:=(aa [cW 2 0,cW 3 1,bH 4 false] (aa [ba 5 4 2,ba 6 4 3,cw 7 170 5 6,aW 8 .eql 7 0,I 4 8] .ret))
@[simp] def UF:List bu:=[.tmp 4]
def OX:C:=(aa [cW 2 0,cW 3 1,cU 4 dz] (aa [ba 5 4 2,ba 6 4 3,dR 7 4 32 [.t 5,.t 6],gB 8 dz [(0,1,(et 4)),(3,1,(.t 7))],bG 4 4 8] .ret))
@[simp] def U6:List bu:=[.cell 4 true 4]
def NK:C:=(aa [cW 1 0,bH 2 false] (aa [ba 3 4 1,cX 4 194 [.t 3,(et 5000)],aW 5 .gtr 4 0,I 2 5] .ret))
@[simp] def Uv:List bu:=[.tmp 2]
def NA:C:=(aa [bH 2 false] (.seq (aa [I 4 0,bX 5 (.slen (.t 4)),aW 6 .lss 5 1,I 7 6,bU 7 false 8 0,aw 7 false (bX 9 (.slen (.t 8))),aw 7 false (aW 10 .gtr 9 12),dj 11 7 10,I 12 11,bU 12 false 13 0,aw 12 false (bX 14 (.sidx (.t 13) (et 0))),aw 12 false (bX 15 (.bin .lss false (.t 14) (.c (.int .u8 97)))),dj 16 12 15,I 17 16,bU 17 false 18 0,aw 17 false (bX 19 (.sidx (.t 18) (et 0))),aw 17 false (bX 20 (.bin .gtr false (.t 19) (.c (.int .u8 122)))),dj 21 17 20] (a8 21 (aa [bH 2 false] .ret) .skip)) (.seq (aa [cr 3 1] (.block 0 (.loop (.seq (aa [I 22 3,I 23 0,bX 24 (.slen (.t 23)),bA 25 .lss 22 24] (a8 25 .skip (.exit 0))) (.seq (.block 1 (aa [I 28 0,I 29 3,bX 30 (.sidx (.t 28) (.t 29)),bX 31 (.bin .geq false (.t 30) (.c (.int .u8 97))),I 32 31,bU 32 true 33 0,bU 32 true 34 3,aw 32 true (bX 35 (.sidx (.t 33) (.t 34))),aw 32 true (bX 36 (.bin .leq false (.t 35) (.c (.int .u8 122)))),dr 37 32 36,I 38 37,bU 38 false 39 0,bU 38 false 40 3,aw 38 false (bX 41 (.sidx (.t 39) (.t 40))),aw 38 false (bX 42 (.bin .geq false (.t 41) (.c (.int .u8 48)))),bU 38 false 43 42,bU 43 true 44 0,bU 43 true 45 3,aw 43 true (bX 46 (.sidx (.t 44) (.t 45))),aw 43 true (bX 47 (.bin .leq false (.t 46) (.c (.int .u8 57)))),aw 38 false (dr 48 43 47),dj 49 38 48,I 50 49,bU 50 false 51 0,bU 50 false 52 3,aw 50 false (bX 53 (.sidx (.t 51) (.t 52))),aw 50 false (bX 54 (.bin .eql false (.t 53) (.c (.int .u8 45)))),dj 55 50 54,cI 56 55] (a8 56 (aa [bH 2 false] .ret) .skip))) (.region [I 26 3,aW 27 .add 26 1,I 3 27])))))) (aa [bH 2 true] .ret))))
@[simp] def FO:List bu:=[.tmp 2]
def wx:C:=(aa [cW 2 0] (.seq (aa [aP 4 0 1 2,aB 5 1 4,aW 6 .eql 5 1] (a8 6 (.region [I 7 1,aP 8 1 1 2,aB 9 1 8,gw 10 7 [.t 9]]) .skip)) (aa [aP 11 0 1 2,aB 12 1 11,aW 13 .eql 12 4] (a8 13 (aa [aP 14 3 1 2,aB 15 1 14,jC 16 4 15 0,ba 17 4 16,I 18 1,cw 19 129 17 18] (.region [aP 20 3 1 2,aB 21 1 20,jC 22 4 21 1,ba 23 4 22,I 24 1,cw 25 129 23 24])) .skip))))
@[simp] def xv:List bu:=[]
def N1:C:=(aa [c4 (.box 2 (some 101) (.t 0)),c4 (.box 3 (some 102) (.t 1)),cr 4 0] (aa [aB 6 1 2,cS 7 6,bX 8 (.mkf 212 [.t 2,.t 3]),cw 9 211 7 8,I 5 9] (.seq (.seq (.drawn true 24 [I 10 5,aB 11 1 2,cS 12 11,bA 13 .lss 10 12,I 14 13,aw 14 true (aB 15 1 2),bU 14 true 16 5,aw 14 true (cN 17 5 15 16),aw 14 true (aP 18 0 1 17),aw 14 true (aB 19 1 18),aw 14 true (aB 20 1 3),aw 14 true (bA 21 .eql 19 20),dr 22 14 21]) (a8 22 (aa [I 23 5,I 4 23] .ret) .skip)) (aa [cr 4 (-1)] .ret))))
@[simp] def UH:List bu:=[.tmp 4]
def wy:C:=(aa [cW 2 0,cU 4 dz] (.seq (aa [aP 7 0 1 2,aB 8 1 7] (.block 0 (aa [aW 10 .eql 8 1,I 9 10] (a8 9 (.seq (aa [I 12 1,aP 13 1 1 2,aB 14 1 13,gw 15 12 [.t 14],I 11 15,cq 16 0 11,cq 17 1 11,cU 5 dz,bG 4 5 16,I 6 17] (aa [I 18 6] (a8 18 (aa [ba 19 4 5,cL 20 200 19,bG 4 4 20] .ret) .skip))) (aa [ba 21 4 2,bG 4 4 21] .ret)) (aa [aW 23 .eql 8 4,I 22 23] (a8 22 (.seq (.drawn false 38 [aP 24 3 1 2,aB 25 1 24,jC 26 4 25 0,ba 27 4 26,I 28 1,cw 29 153 27 28,aP 30 3 1 2,aB 31 1 30,jC 32 4 31 1,ba 33 4 32,I 34 1,cw 35 153 33 34,cw 36 225 29 35,bG 4 4 36]) .ret) .skip)))))) (aa [ba 37 4 2,bG 4 4 37] .ret)))
@[simp] def xw:List bu:=[.cell 4 true 4]
def DH:C:=(aa [cW 2 0,cW 3 1,cr 4 0] (.seq (aa [aP 6 0 1 2,aB 7 1 6,aP 8 0 1 3,aB 9 1 8,bA 10 .neq 7 9] (a8 10 (aa [aP 11 0 1 2,aB 12 1 11,aP 13 0 1 3,aB 14 1 13,cw 15 232 12 14,I 4 15] .ret) .skip)) (.seq (aa [aP 16 1 1 2,aB 17 1 16,aP 18 1 1 3,aB 19 1 18,bA 20 .neq 17 19] (a8 20 (aa [aP 21 1 1 2,aB 22 1 21,aP 23 1 1 3,aB 24 1 23,cw 25 232 22 24,I 4 25] .ret) .skip)) (.seq (aa [aP 26 2 1 2,aB 27 1 26,aP 28 2 1 3,aB 29 1 28,bA 30 .neq 27 29] (a8 30 (.seq (aa [aP 31 2 1 2,aB 32 1 31,aP 33 2 1 3,aB 34 1 33,bA 35 .lss 32 34] (a8 35 (aa [cr 4 (-1)] .ret) .skip)) (aa [cr 4 1] .ret)) .skip)) (.seq (aa [aP 36 0 1 2,aB 37 1 36,aW 38 .neq 37 4] (a8 38 (aa [cr 4 0] .ret) .skip)) (.seq (.seq (.drawn true 60 [aP 39 3 1 2,aB 40 1 39,jC 41 4 40 0,ba 42 4 41,aP 43 3 1 3,aB 44 1 43,jC 45 4 44 0,ba 46 4 45,cw 47 170 42 46,I 5 47]) (aa [I 48 5,aW 49 .neq 48 0] (a8 49 (aa [I 50 5,I 4 50] .ret) .skip))) (.seq (.drawn true 60 [aP 51 3 1 2,aB 52 1 51,jC 53 4 52 1,ba 54 4 53,aP 55 3 1 3,aB 56 1 55,jC 57 4 56 1,ba 58 4 57,cw 59 170 54 58,I 4 59]) .ret)))))))
@[simp] def FW:List bu:=[.tmp 4]
def Ob:C:=(aa [cW 2 0,c4 (.box 3 (some 202) (.t 1)),cU 4 dz,bH 5 false] (aa [ba 7 4 2,bX 8 (.mkf 240 [.t 3]),cw 9 239 7 8,I 6 9] (.seq (aa [I 10 6,aW 11 .gtr 10 5000] (a8 11 (aa [gB 12 dz [],bG 4 4 12,bH 5 false] .ret) .skip)) (aa [ba 13 4 2,aB 14 1 3,cw 15 153 13 14,bG 4 4 15,bH 5 true] .ret))))
@[simp] def Lc:List bu:=[.cell 4 true 4,.tmp 5]
def Oa:C:=(aa [cU 3 dz,bH 4 false] (.seq (aa [aB 6 1 1,I 7 0,cw 8 134 6 7,I 5 8] (aa [I 9 5,aW 10 .geq 9 0] (a8 10 (aa [aB 11 1 1,I 12 5,cN 13 5 11 12,iW 14 1 4 13,ba 15 4 14,bG 4 3 15,bH 4 true] .ret) .skip))) (aa [gB 16 dz [],bG 4 3 16,bH 4 false] .ret)))
@[simp] def Lb:List bu:=[.cell 3 true 4,.tmp 4]
def Oe:C:=(aa [eC 2 1] (aa [c4 (.bslm 5 (some 306) 1 3 []),I 3 5] (.seq (aa [I 6 0,c4 (.range 7 none (.t 6))] (.block 0 (.loop (aa [⟨none,.next 8 (.t 7)⟩,cq 9 0 8] (.seq (a8 9 .skip (.exit 0)) (.block 1 (aa [bX 10 (.ment (.t 7)),cq 11 0 10,I 4 11] (.region [I 12 3,I 13 4,dR 14 1 3 [.t 13],c4 (.appm 15 none 1 3 (.t 12) (.t 14)),I 3 15])))))))) (aa [I 16 3,cL 17 242 16] (.seq (.pub 3 (.region [I 18 3,I 2 18])) .ret)))))
@[simp] def UO:List bu:=[.tmp 2]
def N5:C:=(aa [cW 2 0,cr 4 0] (.seq (aa [I 7 1,aW 8 .lss 7 1] (a8 8 (aa [cr 4 (-1)] .ret) .skip)) (.seq (aa [aP 9 0 1 2,aB 10 1 9,aW 11 .neq 10 4] (a8 11 (.seq (aa [aP 12 3 1 2,aB 13 1 12,cS 14 13,aW 15 .neq 14 0] (a8 15 (aa [cr 4 (-1)] .ret) .skip)) (.seq (aa [aP 16 0 1 2,aB 17 1 16] (.block 0 (aa [aW 19 .eql 17 0,I 18 19] (a8 18 (aa [aP 20 1 1 2,aB 21 1 20,aW 22 .neq 21 0,I 23 22,aw 23 false (aP 24 2 1 2),aw 23 false (aB 25 1 24),wa 23 false 26 (.bin .neq false (.t 25) (.c (.str []))),dj 27 23 26] (a8 27 (aa [cr 4 (-1)] .ret) .skip)) (aa [aW 29 .eql 17 1,I 28 29] (a8 28 (aa [aP 30 1 1 2,aB 31 1 30,aW 32 .lss 31 0,I 33 32,aw 33 false (aP 34 1 1 2),aw 33 false (aB 35 1 34),aw 33 false (aW 36 .gtr 35 100000),dj 37 33 36,I 38 37,aw 38 false (aP 39 2 1 2),aw 38 false (aB 40 1 39),wa 38 false 41 (.bin .neq false (.t 40) (.c (.str []))),dj 42 38 41] (a8 42 (aa [cr 4 (-1)] .ret) .skip)) (aa [aW 44 .eql 17 2,I 43 44] (a8 43 (aa [aP 45 1 1 2,aB 46 1 45,aW 47 .neq 46 0,I 48 47,aw 48 false (aP 49 2 1 2),aw 48 false (aB 50 1 49),aw 48 false (cL 51 128 50),aw 48 false (cI 52 51),dj 53 48 52] (a8 53 (aa [cr 4 (-1)] .ret) .skip)) (aa [aW 55 .eql 17 3,I 54 55] (a8 54 (aa [aP 56 1 1 2,aB 57 1 56,aW 58 .lss 57 (-1000000000),I 59 58,aw 59 false (aP 60 1 1 2),aw 59 false (aB 61 1 60),aw 59 false (aW 62 .gtr 61 1000000000),dj 63 59 62,I 64 63,aw 64 false (aP 65 2 1 2),aw 64 false (aB 66 1 65),wa 64 false 67 (.bin .neq false (.t 66) (.c (.str []))),dj 68 64 67] (a8 68 (aa [cr 4 (-1)] .ret) .skip)) (aa [cr 4 (-1)] .ret))))))))))) (aa [cr 4 1] .ret))) .skip)) (.seq (aa [aP 69 1 1 2,aB 70 1 69,aW 71 .neq 70 0,I 72 71,aw 72 false (aP 73 2 1 2),aw 72 false (aB 74 1 73),wa 72 false 75 (.bin .neq false (.t 74) (.c (.str []))),dj 76 72 75,I 77 76,aw 77 false (aP 78 3 1 2),aw 77 false (aB 79 1 78),aw 77 false (cS 80 79),aw 77 false (aW 81 .neq 80 2),dj 82 77 81] (a8 82 (aa [cr 4 (-1)] .ret) .skip)) (aa [aP 83 3 1 2,aB 84 1 83,jC 85 4 84 0,ba 86 4 85,I 87 1,aW 88 .sub 87 1,cw 89 194 86 88,I 5 89] (.seq (aa [I 90 5,aW 91 .lss 90 0] (a8 91 (aa [cr 4 (-1)] .ret) .skip)) (aa [aP 92 3 1 2,aB 93 1 92,jC 94 4 93 1,ba 95 4 94,I 96 1,aW 97 .sub 96 1,I 98 5,bA 99 .sub 97 98,cw 100 194 95 99,I 6 100] (.seq (aa [I 101 6,aW 102 .lss 101 0] (a8 102 (aa [cr 4 (-1)] .ret) .skip)) (aa [I 103 5,bX 104 (.bin .add false (et 1) (.t 103)),I 105 6,bA 106 .add 104 105,I 4 106] .ret)))))))))
@[simp] def FV:List bu:=[.tmp 4]
def HA:C:=(aa [cW 1 0,cU 2 dz] (.seq (aa [aP 3 0 1 1,aB 4 1 3,aW 5 .neq 4 4] (a8 5 (aa [aP 6 0 1 1,aB 7 1 6,aP 8 1 1 1,aB 9 1 8,aP 10 2 1 1,aB 11 1 10,gB 12 dz [(0,1,(.t 7)),(1,1,(.t 9)),(2,1,(.t 11))],bG 4 2 12] .ret) .skip)) (.seq (.drawn true 25 [aP 13 3 1 1,aB 14 1 13,jC 15 4 14 0,ba 16 4 15,cL 17 200 16,aP 18 3 1 1,aB 19 1 18,jC 20 4 19 1,ba 21 4 20,cL 22 200 21,dR 23 4 32 [.t 17,.t 22],gB 24 dz [(0,1,(et 4)),(3,1,(.t 23))],bG 4 2 24]) .ret)))
@[simp] def ahZ:List bu:=[.cell 2 true 4]
def Oj:C:=(aa [cr 4 0] (aa [I 8 0,cr 5 0,I 6 8] (.seq (.block 0 (.loop (.seq (aa [I 9 5,I 10 6,bA 11 .lss 9 10] (a8 11 .skip (.exit 0))) (.block 1 (aa [I 12 5,I 13 6,bA 14 .add 12 13,bX 15 (.conv .u64 (.t 14)),bX 16 (.bin .shr false (.t 15) (.c (.int .u64 1))),bX 17 (.conv .i64 (.t 16)),I 7 17] (aa [I 18 1,I 19 7,gw 20 18 [.t 19],cI 21 20] (a8 21 (.region [I 22 7,aW 23 .add 22 1,I 5 23]) (.region [I 24 7,I 6 24])))))))) (aa [I 25 5,I 4 25] .ret))))
@[simp] def UQ:List bu:=[.tmp 4]
def N2:C:=(aa [bH 4 false] (.seq (.drawn true 12 [aB 5 1 1,I 6 0,cN 7 5 5 6,aP 8 0 1 7,aB 9 1 8,aB 10 1 2,bA 11 .geq 9 10,I 4 11]) .ret))
@[simp] def UI:List bu:=[.tmp 4]
def N8:C:=(aa [cW 2 0,cW 3 1,cU 4 dz] (aa [ba 5 4 2,ba 6 4 3,dR 7 4 32 [.t 5,.t 6],gB 8 dz [(0,1,(et 4)),(3,1,(.t 7))],bG 4 4 8] .ret))
@[simp] def UL:List bu:=[.cell 4 true 4]
def N7:C:=(aa [cr 4 0] (.seq (aa [I 5 0,I 6 1,bA 7 .lss 5 6] (a8 7 (aa [cr 4 (-1)] .ret) .skip)) (.seq (aa [I 8 0,I 9 1,bA 10 .gtr 8 9] (a8 10 (aa [cr 4 1] .ret) .skip)) (aa [cr 4 0] .ret))))
@[simp] def UK:List bu:=[.tmp 4]
def uO:C:=(aa [cW 2 0,cr 4 0] (.seq (aa [aP 6 0 1 2,aB 7 1 6] (.block 0 (aa [aW 9 .eql 7 1,I 8 9] (a8 8 (aa [I 10 1,aP 11 1 1 2,aB 12 1 11,gw 13 10 [.t 12],bX 14 (.min2 (.t 13) (et 5001)),I 4 14] .ret) (aa [aW 16 .eql 7 4,I 15 16] (a8 15 (aa [aP 17 3 1 2,aB 18 1 17,jC 19 4 18 0,ba 20 4 19,I 21 1,cw 22 239 20 21,I 5 22] (.seq (aa [I 23 5,aW 24 .gtr 23 5000] (a8 24 (aa [I 25 5,I 4 25] .ret) .skip)) (aa [I 26 5,bX 27 (.bin .add false (et 1) (.t 26)),aP 28 3 1 2,aB 29 1 28,jC 30 4 29 1,ba 31 4 30,I 32 1,cw 33 239 31 32,bA 34 .add 27 33,bX 35 (.min2 (.t 34) (et 5001)),I 4 35] .ret))) .skip)))))) (aa [cr 4 1] .ret)))
@[simp] def uq:List bu:=[.tmp 4]
def Oc:C:=(aa [cr 3 0] (.seq (aa [aB 7 1 1,I 8 0,gw 9 7 [.t 8],I 6 9,cq 10 0 6,cq 11 1 6,cU 4 dz,bG 4 4 10,I 5 11] (aa [I 12 5] (a8 12 (aa [ba 13 4 4,cX 14 194 [.t 13,(et 5000)],I 3 14] .ret) .skip))) (aa [cr 3 1] .ret)))
@[simp] def UN:List bu:=[.tmp 3]
def bo:List (Nat×du):=[
 (3,⟨1,8,.int .i64,.int .i64 0⟩),
 (9,⟨1,16,.str,.str []⟩),
 (23,⟨1,24,.slice 61,.slice 5 .nil []⟩),
 (30,⟨1,24,.slice 32,.slice 4 .nil []⟩),
 (32,⟨4,56,.struct [(0,3),(1,3),(2,9),(3,30)],.agg [.int .i64 0,.int .i64 0,.str [],.slice 4 .nil []]⟩),
 (61,⟨5,64,.struct [(0,3),(1,32)],.agg [.int .i64 0,.int .i64 0,.int .i64 0,.str [],.slice 4 .nil []]⟩),
 (112,⟨1,24,.slice 3,.slice 1 .nil []⟩),
 (154,⟨1,8,.map 3 4,.junk⟩),
 (163,⟨1,8,.int .u64,.int .u64 0⟩),
 (184,⟨1,8,.other,.junk⟩)]
theorem mixed:az.follows .mixedOrders=true:=by kernel_rfl
theorem bE{bo:List (Nat×du)}(aN:fA az bo=true){f:FuncId}{fn:Func}(aQ:az.funcs[f]? =some fn){c:C}{ez:List bu}{n:Nat}(eu:cc bo c ez n fn=true){args:List ai}{r:ai}(he:h9 args→cT az [] c (bz ez r) ⟨jB 0 args,[],[],0,[]⟩)(aq:args.length≤n:=by simp)(aI:aF (fun _=>ej) r:=by simp[aF]):b7 az f args r:=b7.mk mixed aN aQ eu aq aI he
theorem fs:fA az bo=true:=by kernel_rfl
theorem T2:cc bo HC ah2 1 Tryz.f68=true:=by kernel_rfl
theorem P8:az.funcs[(68:Nat)]? =some Tryz.f68:=Tryz.func68
theorem Ci:cc bo yd aif 1 Tryz.f74=true:=by kernel_rfl
theorem AV:az.funcs[(74:Nat)]? =some Tryz.f74:=Tryz.func74
theorem T7:cc bo HM Va 1 Tryz.f91=true:=by kernel_rfl
theorem Qd:az.funcs[(91:Nat)]? =some Tryz.f91:=Tryz.func91
theorem agj:cc bo N9 UM 2 Tryz.f95=true:=by kernel_rfl
theorem ZV:az.funcs[(95:Nat)]? =some Tryz.f95:=Tryz.func95
theorem afV:cc bo NM FP 1 Tryz.f100=true:=by kernel_rfl
theorem Zy:az.funcs[(100:Nat)]? =some Tryz.f100:=Tryz.func100
theorem af8:cc bo NZ UF 2 Tryz.f108=true:=by kernel_rfl
theorem ZL:az.funcs[(108:Nat)]? =some Tryz.f108:=Tryz.func108
theorem ag2:cc bo OX U6 2 Tryz.f114=true:=by kernel_rfl
theorem aaE:az.funcs[(114:Nat)]? =some Tryz.f114:=Tryz.func114
theorem afT:cc bo NK Uv 1 Tryz.f117=true:=by kernel_rfl
theorem Zw:az.funcs[(117:Nat)]? =some Tryz.f117:=Tryz.func117
theorem afK:cc bo NA FO 1 Tryz.f128=true:=by kernel_rfl
theorem Zn:az.funcs[(128:Nat)]? =some Tryz.f128:=Tryz.func128
theorem zB:cc bo wx xv 2 Tryz.f129=true:=by kernel_rfl
theorem yo:az.funcs[(129:Nat)]? =some Tryz.f129:=Tryz.func129
theorem aga:cc bo N1 UH 2 Tryz.f134=true:=by kernel_rfl
theorem ZN:az.funcs[(134:Nat)]? =some Tryz.f134:=Tryz.func134
theorem zC:cc bo wy xw 2 Tryz.f153=true:=by kernel_rfl
theorem yp:az.funcs[(153:Nat)]? =some Tryz.f153:=Tryz.func153
theorem KM:cc bo DH FW 2 Tryz.f170=true:=by kernel_rfl
theorem Ik:az.funcs[(170:Nat)]? =some Tryz.f170:=Tryz.func170
theorem agl:cc bo Ob Lc 2 Tryz.f181=true:=by kernel_rfl
theorem ZX:az.funcs[(181:Nat)]? =some Tryz.f181:=Tryz.func181
theorem agk:cc bo Oa Lb 2 Tryz.f182=true:=by kernel_rfl
theorem ZW:az.funcs[(182:Nat)]? =some Tryz.f182:=Tryz.func182
theorem ago:cc bo Oe UO 1 Tryz.f189=true:=by kernel_rfl
theorem Z0:az.funcs[(189:Nat)]? =some Tryz.f189:=Tryz.func189
theorem age:cc bo N5 FV 2 Tryz.f194=true:=by kernel_rfl
theorem ZR:az.funcs[(194:Nat)]? =some Tryz.f194:=Tryz.func194
theorem T0:cc bo HA ahZ 1 Tryz.f200=true:=by kernel_rfl
theorem P6:az.funcs[(200:Nat)]? =some Tryz.f200:=Tryz.func200
theorem ags:cc bo Oj UQ 2 Tryz.f211=true:=by kernel_rfl
theorem Z4:az.funcs[(211:Nat)]? =some Tryz.f211:=Tryz.func211
theorem agb:cc bo N2 UI 3 Tryz.f212=true:=by kernel_rfl
theorem ZO:az.funcs[(212:Nat)]? =some Tryz.f212:=Tryz.func212
theorem agi:cc bo N8 UL 2 Tryz.f225=true:=by kernel_rfl
theorem ZU:az.funcs[(225:Nat)]? =some Tryz.f225:=Tryz.func225
theorem agh:cc bo N7 UK 2 Tryz.f232=true:=by kernel_rfl
theorem ZT:az.funcs[(232:Nat)]? =some Tryz.f232:=Tryz.func232
theorem xp:cc bo uO uq 2 Tryz.f239=true:=by kernel_rfl
theorem wD:az.funcs[(239:Nat)]? =some Tryz.f239:=Tryz.func239
theorem agm:cc bo Oc UN 2 Tryz.f240=true:=by kernel_rfl
theorem ZY:az.funcs[(240:Nat)]? =some Tryz.f240:=Tryz.func240
end Go.Proofs.YtohaalphocaebaaGreat
namespace Go.Pv
open Go Go.RowKit
theorem fE{α:Type}{l:List α}{i:Nat}(h:i<l.length):∃b,l[i]? =some b∧∀h,(l[i]'h)=b:=⟨l[i],cv h,fun _=>rfl⟩
def LO(st:bj)(i:dY):Prop:=match lN st i with|some (c,_)=>c|none=>ej
def LP(st:bj)(i:dY):bj:=match lN st i with|some (_,s)=>s|none=>st
def Dh(P:cy)(r:List c3)(K:bj→Prop)(st:bj):Prop:=hK P r st K
def x2(P:cy)(ob:List aH)(c:C)(Q:Exit→bj→Prop)(st:bj):Prop:=cT P ob c Q st
def pn(P:cy)(v:ai)(s:Nat)(w:Bool)(i:dV)(r:List c3)(st:bj)(K:bj→Prop):Prop:=
 match v with
 | .bool b=>(b=w→hK P (⟨none,i⟩::r) {st with t:=put s (.bool w) st.t} K)∧(b= !w→hK P r {st with t:=eK i.dst (.tuple []) (put s (.bool !w) st.t)} K)
 | .tuple []=>hK P r {st with t:=eK i.dst (.tuple []) st.t} K
 |_=>ej
def tu(P:cy)(ob:List aH)(v:ai)(x:dn)(t e:C)(Q:Exit→bj→Prop)(st:bj):Prop:=
 match v with
 | .bool b=>(b=true→cT P ob t Q (rH st x true))∧(b=false→cT P ob e Q (rH st x false))
 |_=>ej
def H9(P:cy)(v:ai)(d:Option Nat)(xs:List ai)(r:List c3)(st:bj)(K:bj→Prop):Prop:=
 match v with
 | .func n dg=>cD P n (df (xs++dg)) st d (Dh P r K)
 |_=>ej
section
variable {P:cy} {ob:List aH} {st:bj} {K:bj→Prop} {r:List c3} {Q:Exit→bj→Prop} {a b c t e:C}
theorem Y7:hK P [] st K=K st:=rfl
theorem Y8{i:dY}:hK P (⟨none,.s i⟩::r) st K=(LO st i∧hK P r (LP st i) K):=by
 simp only[hK,tt,LO,LP];cases lN st i with
 |none=>simp
 |some x=>rfl
theorem Y4{d:Option Nat}{f:dn}{xs:List dn}:hK P (⟨none,.call d f xs⟩::r) st K=H9 P (cg st.t f) d (xs.map (cg st.t)) r st K:=by simp only[hK,tt,H9];rfl
theorem Y6{d:Nat}{x:dn}:hK P (⟨none,.next d x⟩::r) st K=sa st d (cg st.t x) (Dh P r K):=by simp only[hK,tt];rfl
def wg(P:cy)(ob:List aH)(c:C)(Q:Exit→bj→Prop):Option bj→Prop
 |some st=>cT P ob c Q st
 |none=>ej
theorem Xe:wg P ob c Q (some st)=cT P ob c Q st:=rfl
theorem YJ{s:Nat}:cT P ob (.pub s c) Q st=wg P ob c Q (vI st s):=by simp only[cT];cases vI st s<;>rfl
theorem YF{oW:Bool}{s:Nat}:cT P ob (.fg oW s c) Q st=cT P ob c Q {st with t:=put s (yr oW (get s st.t)) st.t}:=rfl
theorem YG{oW:Bool}{s:Nat}{d:C}:cT P ob (.seq (.fg oW s c) d) Q st=cT P ob (.seq c d) Q {st with t:=put s (yr oW (get s st.t)) st.t}:=rfl
theorem YH{eW:Bool}{s:Nat}:cT P ob (.fz eW s c) Q st=wg P ob c Q (uX st eW s):=by simp only[cT];cases uX st eW s<;>rfl
theorem YI{eW:Bool}{s:Nat}{d:C}:cT P ob (.seq (.fz eW s c) d) Q st=wg P ob (.seq c d) Q (uX st eW s):=by simp only[cT];cases uX st eW s<;>rfl
theorem YK{s:Nat}:cT P ob (.pubB s c) Q st=wg P ob c Q (vH st s):=by simp only[cT];cases vH st s<;>rfl
theorem Y3{n:Nat}{dg:List ai}{d:Option Nat}{xs:List ai}:H9 P (.func n dg) d xs r st K=cD P n (df (xs++dg)) st d (Dh P r K):=rfl
theorem Y5{s:Nat}{w:Bool}{i:dV}:hK P (⟨some (s,w),i⟩::r) st K=pn P (get s st.t) s w i r st K:=by simp only[hK,pn];try rfl
theorem Zd{s:Nat}{i:dV}:pn P (.bool true) s true i r st K=hK P (⟨none,i⟩::r) {st with t:=put s (.bool true) st.t} K:=by simp[pn]
theorem Y9{s:Nat}{i:dV}:pn P (.bool false) s false i r st K=hK P (⟨none,i⟩::r) {st with t:=put s (.bool false) st.t} K:=by simp[pn]
theorem Zc{s:Nat}{i:dV}:pn P (.bool true) s false i r st K=hK P r {st with t:=eK i.dst (.tuple []) (put s (.bool true) st.t)} K:=by simp[pn]
theorem Za{s:Nat}{i:dV}:pn P (.bool false) s true i r st K=hK P r {st with t:=eK i.dst (.tuple []) (put s (.bool false) st.t)} K:=by simp[pn]
theorem Zb{s:Nat}{w:Bool}{i:dV}:pn P (.tuple []) s w i r st K=hK P r {st with t:=eK i.dst (.tuple []) st.t} K:=by simp[pn]
theorem bK{x:Bool}{s:Nat}{w:Bool}{i:dV}(J:x=w→hK P (⟨none,i⟩::r) {st with t:=put s (.bool w) st.t} K)(U:x= !w→hK P r {st with t:=eK i.dst (.tuple []) (put s (.bool !w) st.t)} K):pn P (.bool x) s w i r st K:=⟨J,U⟩
theorem Yu:cT P ob (.seq (.seq a b) c) Q st=cT P ob (.seq a (.seq b c)) Q st:=by simp only[cT];congr 1;funext e st';cases e<;>rfl
theorem YP:cT P ob (.seq .skip c) Q st=cT P ob c Q st:=rfl
theorem YN:cT P ob (.seq .ret c) Q st=Q .ret st:=rfl
theorem YD{n:Nat}:cT P ob (.seq (.exit n) c) Q st=Q (.exit n) st:=rfl
theorem YQ:cT P ob .skip Q st=Q .normal st:=rfl
theorem YO:cT P ob .ret Q st=Q .ret st:=rfl
theorem YE{n:Nat}:cT P ob (.exit n) Q st=Q (.exit n) st:=rfl
theorem YL{gs:List c3}:cT P ob (.seq (.region gs) c) Q st=hK P gs st (x2 P ob c Q):=rfl
theorem YM{gs:List c3}:cT P ob (.region gs) Q st=hK P gs st (Q .normal):=rfl
theorem Yx{x:dn}:cT P ob (.seq (.cond x t e) c) Q st=tu P ob (cg st.t x) x (.seq t c) (.seq e c) Q st:=by simp only[cT,tu];try rfl
theorem Yy{x:dn}:cT P ob (.cond x t e) Q st=tu P ob (cg st.t x) x t e Q st:=by simp only[cT,tu];try rfl
theorem YS{x:dn}:tu P ob (.bool true) x t e Q st=cT P ob t Q (rH st x true):=by simp[tu]
theorem YR{x:dn}:tu P ob (.bool false) x t e Q st=cT P ob e Q (rH st x false):=by simp[tu]
theorem bI{v:Bool}{x:dn}(J:v=true→cT P ob t Q (rH st x true))(U:v=false→cT P ob e Q (rH st x false)):tu P ob (.bool v) x t e Q st:=⟨J,U⟩
def xY(P:cy)(ob:List aH)(id:Nat)(c:C)(Q:Exit→bj→Prop)(e:Exit)(st:bj):Prop:=
 match e with
 | .normal=>cT P ob c Q st
 | .exit j=>if j=id then cT P ob c Q st else Q (.exit j) st
 |e=>Q e st
theorem Yv{id:Nat}:cT P ob (.seq (.block id a) c) Q st=cT P ob a (xY P ob id c Q) st:=by
 simp only[cT];congr 1;funext e st';cases e with
 |exit j=>rfl
 |_=>rfl
theorem Yw{id:Nat}:cT P ob (.block id a) Q st=cT P ob a (xY P ob id .skip Q) st:=by
 simp only[cT];congr 1;funext e st';cases e with
 |exit j=>simp only[xY];by_cases ag:j=id<;>simp[ag,cT]
 |_=>rfl
theorem W2{id:Nat}:xY P ob id c Q .normal st=x2 P ob c Q st:=rfl
theorem W1{id j:Nat}:xY P ob id c Q (.exit j) st=if j=id then x2 P ob c Q st else Q (.exit j) st:=rfl
theorem W3{id:Nat}:xY P ob id c Q .ret st=Q .ret st:=rfl
def bT(ob:List aH)(gJ:Nat→bj→Prop)(k:Nat)(Q:Exit→bj→Prop)(e:Exit)(st:bj):Prop:=
 match e with
 | .normal=> ∃bD og,bD<k∧im ob st og∧gJ bD og
 |e=>Q e st
theorem De{gJ:Nat→bj→Prop}{k:Nat}:bT ob gJ k Q .normal st= ∃bD og,bD<k∧im ob st og∧gJ bD og:=rfl
theorem W9{gJ:Nat→bj→Prop}{k n:Nat}:bT ob gJ k Q (.exit n) st=Q (.exit n) st:=rfl
theorem Xa{gJ:Nat→bj→Prop}{k:Nat}:bT ob gJ k Q .ret st=Q .ret st:=rfl
theorem nj(gJ:Nat→bj→Prop)(m:Nat)(vS:bj)(hw:im ob st vS)(bV:gJ m vS)(h:∀k s,gJ k s→(∀i,ho (get i s.t))→(∀j cs,look j s.b=some cs→hE cs=true→hV cs)→cT P ob a (bT ob gJ k Q) s):cT P ob (.loop a) Q st:=by
 simp only[cT];refine⟨gJ,m,vS,hw,bV,fun k s J U ao=>?_⟩;have:=h k s J U ao;have bn:(bT ob gJ k Q)=(fun e ah=>match e with| .normal=> ∃bD og,bD<k∧im ob ah og∧gJ bD og|e=>Q e ah):=by funext e ah;cases e<;>rfl
 rw[bn]at this;exact this
end
/-Regions cK draw kI order. -/
def LM(n0:Nat)(st:bj)(i:dY):Prop:=match er (oH n0 i) st.n (oH n0 i::st.o) st i with|some (c,_)=>c|none=>ej
def LN(n0:Nat)(st:bj)(i:dY):bj:=match er (oH n0 i) st.n (oH n0 i::st.o) st i with|some (_,s)=>s|none=>st
def G1(P:cy)(q:Bool)(nw:List Nat)(n0:Nat)(r:List c3)(K:bj→Prop)(st:bj):Prop:=hx P q nw n0 r st K
def pk(P:cy)(q:Bool)(nw:List Nat)(n0:Nat)(v:ai)(s:Nat)(w:Bool)(i:dV)(r:List c3)(st:bj)(K:bj→Prop):Prop:=
 match v with
 | .bool b=>(b=w→hx P q nw n0 (⟨none,i⟩::r) {st with t:=put s (.bool w) st.t} K)∧(b= !w→hx P q nw n0 r {st with t:=eK i.dst (.tuple []) (put s (.bool !w) st.t)} K)
 | .tuple []=>hx P q nw n0 r {st with t:=eK i.dst (.tuple []) st.t} K
 |_=>ej
def H8(P:cy)(q:Bool)(nw:List Nat)(n0:Nat)(v:ai)(d:Option Nat)(xs:List ai)(r:List c3)(st:bj)(K:bj→Prop):Prop:=
 match v with
 | .func n dg=>fu P q nw n (df (xs++dg)) st d (G1 P q nw n0 r K)
 |_=>ej
section
variable {P:cy} {ob:List aH} {st:bj} {K:bj→Prop} {r:List c3} {Q:Exit→bj→Prop} {c:C} {q:Bool} {nw:List Nat} {n0 N:Nat}
theorem YW:hx P q nw n0 [] st K=K st:=rfl
theorem YX{i:dY}:hx P q nw n0 (⟨none,.s i⟩::r) st K=(lD q nw n0 st i∧LM n0 st i∧hx P q nw n0 r (LN n0 st i) K):=by
 simp only[hx,j7,LM,LN];cases er (oH n0 i) st.n (oH n0 i::st.o) st i with
 |none=>simp
 |some x=>rfl
theorem YU{d:Option Nat}{f:dn}{xs:List dn}:hx P q nw n0 (⟨none,.call d f xs⟩::r) st K=H8 P q nw n0 (cg st.t f) d (xs.map (cg st.t)) r st K:=by simp only[hx,j7,H8];rfl
theorem YT{n:Nat}{dg:List ai}{d:Option Nat}{xs:List ai}:H8 P q nw n0 (.func n dg) d xs r st K=fu P q nw n (df (xs++dg)) st d (G1 P q nw n0 r K):=rfl
theorem YV{s:Nat}{w:Bool}{i:dV}:hx P q nw n0 (⟨some (s,w),i⟩::r) st K=pk P q nw n0 (get s st.t) s w i r st K:=by simp only[hx,pk];try rfl
theorem Y2{s:Nat}{i:dV}:pk P q nw n0 (.bool true) s true i r st K=hx P q nw n0 (⟨none,i⟩::r) {st with t:=put s (.bool true) st.t} K:=by simp[pk]
theorem YY{s:Nat}{i:dV}:pk P q nw n0 (.bool false) s false i r st K=hx P q nw n0 (⟨none,i⟩::r) {st with t:=put s (.bool false) st.t} K:=by simp[pk]
theorem Y1{s:Nat}{i:dV}:pk P q nw n0 (.bool true) s false i r st K=hx P q nw n0 r {st with t:=eK i.dst (.tuple []) (put s (.bool true) st.t)} K:=by simp[pk]
theorem YZ{s:Nat}{i:dV}:pk P q nw n0 (.bool false) s true i r st K=hx P q nw n0 r {st with t:=eK i.dst (.tuple []) (put s (.bool false) st.t)} K:=by simp[pk]
theorem Y0{s:Nat}{w:Bool}{i:dV}:pk P q nw n0 (.tuple []) s w i r st K=hx P q nw n0 r {st with t:=eK i.dst (.tuple []) st.t} K:=by simp[pk]
theorem bJ{x:Bool}{s:Nat}{w:Bool}{i:dV}(J:x=w→hx P q nw n0 (⟨none,i⟩::r) {st with t:=put s (.bool w) st.t} K)(U:x= !w→hx P q nw n0 r {st with t:=eK i.dst (.tuple []) (put s (.bool !w) st.t)} K):pk P q nw n0 (.bool x) s w i r st K:=⟨J,U⟩
theorem Yz{gs:List c3}:cT P ob (.seq (.drawn q N gs) c) Q st=hx P q [] st.n gs st (s9 (st.n+N) st.o (x2 P ob c Q)):=rfl
theorem YA{gs:List c3}:cT P ob (.drawn q N gs) Q st=hx P q [] st.n gs st (s9 (st.n+N) st.o (Q .normal)):=rfl
theorem YB{gs:List c3}:cT P ob (.seq (.drawnW nw N gs) c) Q st=((∀j∈nw,.obj j∉st.o)∧hx P false nw st.n gs st (s9 (st.n+N) (nw.map aH.obj++st.o) (x2 P ob c Q))):=rfl
theorem YC{gs:List c3}:cT P ob (.drawnW nw N gs) Q st=((∀j∈nw,.obj j∉st.o)∧hx P false nw st.n gs st (s9 (st.n+N) (nw.map aH.obj++st.o) (Q .normal))):=rfl
theorem fu.val{n:Nat}{args:List ai}{d:Option Nat}{r:ai}(ab:aO (fun _=>ej) args)(aQ:b7 P n args r)(h:K {st with t:=eK d r st.t}):fu P q nw n args st d K:=by
 refine .inr ⟨⟨[],[]⟩,⟨[],[]⟩,r,none,fun k cs ab=>by simp[look]at ab,fun k cs ab=>by simp[look]at ab,uf,uf,⟨fun k h=>.inl h,fun k h=>.inl h,fun k h=>h,fun k h=>h,fun k h=>by cases h⟩,jI (fun _ h=>h.elim) _ ab,aQ,fun _=>⟨rfl,rfl⟩,?_⟩;have:({after st ⟨[],[]⟩ ⟨[],[]⟩ d r with o:=st.o}:bj)={st with t:=eK d r st.t}:=by simp[after,MD]
 rw[this];exact h
theorem aD{n:Nat}{args:List ai}{d:Option Nat}{r:ai}(aQ:b7 P n args r)(h:K {st with t:=eK d r st.t})(ab:aO (fun _=>ej) args:=by simp):fu P q nw n args st d K:=fu.val ab aQ h
end
section
variable {k:IntKind} {n:Int} {b:Bool} {s:List cV} {sz:Nat} {tag:Az} {xs:List ai} {key:aH} {off f:Nat} {x:ai}
@[simp] theorem api:eE (.int k n)=true:=rfl
@[simp] theorem ao5:eE (.bool b)=true:=rfl
@[simp] theorem apr:eE (.str s)=true:=rfl
@[simp] theorem apq:eE (.slice sz tag xs)=true:=rfl
@[simp] theorem ao2:eE (.agg xs)=true:=rfl
@[simp] theorem apm:eE (.ptr key off)=true:=rfl
@[simp] theorem ape:eE (.eptr x)=true:=rfl
@[simp] theorem aph{t:Nat}:eE (.iface t x)=true:=rfl
@[simp] theorem alx{t:Nat}:cells (.iface t x)=[.iface t x]:=rfl
@[simp] theorem ao7{a:Option Addr}{n c:Nat}:eE (.cst (.slice a n c))=true:=rfl
@[simp] theorem ao8{s}:eE (.cst (.string s))=true:=rfl
@[simp] theorem apl:eE .nilp=true:=rfl
@[simp] theorem apf:eE (.func f xs)=true:=rfl
@[simp] theorem apg:eE (.gmap key)=true:=rfl
@[simp] theorem apn{n:Nat}:eE (.row sz key n)=true:=rfl
@[simp] theorem alE{n:Nat}:cells (.row sz key n)=[.row sz key n]:=rfl
@[simp] theorem aly:cells (.int k n)=[.int k n]:=rfl
@[simp] theorem aln:cells (.bool b)=[.bool b]:=rfl
@[simp] theorem alG:cells (.str s)=[.str s]:=rfl
@[simp] theorem alF:cells (.slice sz tag xs)=[.slice sz tag xs]:=rfl
@[simp] theorem alj:cells (.agg xs)=xs:=rfl
@[simp] theorem alD:cells (.ptr key off)=[.ptr key off]:=rfl
@[simp] theorem alu:cells (.eptr x)=[.eptr x]:=rfl
@[simp] theorem alC:cells .nilp=[.nilp]:=rfl
@[simp] theorem alv:cells (.func f xs)=[.func f xs]:=rfl
@[simp] theorem alw:cells (.gmap key)=[.gmap key]:=rfl
end
section
variable {b:List (aH×List ai)} {e:List (aH×fv)} {agg:Bool} {sz off:Nat} {k:aH} {p:ai} {cs xs a7:List ai} {fb:IntKind} {n i:Int} {m j:Nat} {tag:Az} {s:List cV} {Nj:Bool} {lo hi:Option ai}
@[simp] theorem anv{dy:Nat}{f:Nat}:me b e agg sz (.rptr dy k m j f)=xD agg sz dy m j f (look k e):=rfl
@[simp] theorem anu:me b e agg sz (.ptr k off)=(match look k b with
  |some cs=>if agg then some (hE cs=true∧off+sz≤cs.length,.agg ((cs.drop off).take sz))else(cs[off]?).map fun p=>(hE cs=true,p)
  |none=>none):=rfl
@[simp] theorem ant:me b e agg sz (.eptr p)=if agg then some (isAgg sz p,p)else some (eE p=true∧cells p=[p],p):=rfl
@[simp] theorem al7:A2 agg sz (.eptr p)=if agg then some (isAgg sz p,p)else some (eE p=true∧cells p=[p],p):=rfl
@[simp] theorem alX{o:Nat}:po off agg sz (.ptr k o)=some (True,.ptr k (o+off)):=rfl
@[simp] theorem alY{dy f:Nat}:po off agg sz (.rptr dy k m j f)=some (True,.rptr dy k m j (f+off)):=rfl
@[simp] theorem alQ:po off agg sz (.eptr (.agg cs))=if agg then some (off+sz≤cs.length,.eptr (.agg ((cs.drop off).take sz)))else(cs[off]?).map fun p=>(eE p=true∧cells p=[p],.eptr p):=rfl
@[simp] theorem al0:qY off agg sz (.agg cs)=if agg then some (off+sz≤cs.length,.agg ((cs.drop off).take sz))else(cs[off]?).map fun p=>(True,p):=rfl
@[simp] theorem amH{dy:Nat}:y7 sz (.slice dy tag xs) (.int fb i)=if dy=sz then some (0≤i∧i<xs.length,.eptr (xs.getD i.toNat .junk))else none:=rfl
@[simp] theorem amG{dy:Nat}:y7 sz (.row dy k m) (.int fb i)=if dy=sz then some (0≤i∧i<m,.rptr dy k m i.toNat 0)else none:=rfl
@[simp] theorem ans{dy:Nat}:zj (.slice dy tag xs)=some (True,.int .i64 xs.length):=rfl
@[simp] theorem anr{dy:Nat}:zj (.row dy k m)=some (True,.int .i64 m):=rfl
@[simp] theorem anq{a:Option Addr}{n c:Nat}:zj (.cst (.slice a n c))=some (True,.int .i64 n):=rfl
@[simp] theorem ao0{s}:CR (.cst (.string s))=some (True,.int .i64 s.size):=rfl
@[simp] theorem ao1:CR (.str s)=some (True,.int .i64 s.length):=rfl
@[simp] theorem alP:yn j (.tuple a7)=(a7[j]?).map fun p=>(True,p):=rfl
@[simp] theorem anW:zu (.ptr k off)=some (True,.ptr k off):=rfl
@[simp] theorem anU:zu (.eptr p)=some (True,.eptr p):=rfl
@[simp] theorem anV:zu (.func j cs)=some (True,.func j cs):=rfl
@[simp] theorem anX:FB (.bool Nj)=some (True,.bool (!Nj)):=rfl
@[simp] theorem aoZ:Gs (.str s) (.int fb i)=some (0≤i∧i<s.length,.int .u8 (s.getD i.toNat 0).toNat):=rfl
@[simp] theorem aps:Gx (.str s) lo hi=(match qw 0 lo,qw s.length hi with
  |some l,some h=>some (0≤l∧l≤h∧h≤s.length,.str ((s.take h.toNat).drop l.toNat))
  |_,_=>none):=rfl
@[simp] theorem anw{dy:Nat}:Fo sz (.slice dy tag xs) lo hi=(if dy=sz then match qw 0 lo,qw xs.length hi with
  |some l,some h=>some (0≤l∧l≤h∧h≤xs.length,.slice sz .no ((xs.take h.toNat).drop l.toNat))
  |_,_=>none else none):=rfl
theorem Tx{f:aH→Option (List ai)}{ck:jo}{z q:ai}{ok:Bool}:nq f ck z ok (.gmap k) q=(match f k with
  |some (.hdm _ _::kvs)=>if tS ck q=false then none else match vv ck q kvs with
   |some (some v)=>some (True,if ok then .tuple [v,.bool true]else v)
   |some none=>some (True,if ok then .tuple [z,.bool false]else z)
   |none=>none
  |_=>none):=rfl
theorem afp{f:aH→Option (List ai)}:ud f (.gmap k)=(match f k with
  |some (.hdm _ borns::_)=>some (True,.int .i64 borns.length)
  |_=>none):=rfl
theorem Tu{f:aH→Option (List ai)}:oY f (.ptr k 0)=(match f k with
  |some [.hdi _ seen last,.gmap mk]=>match f mk with
   |some (.hdm clock borns::kvs)=>match seen.getLast? with
    |some n=>(mf n borns kvs).map fun p=>(clock=last,p)
    |none=>none
   |_=>none
  |_=>none):=rfl
@[simp] theorem aoY{dy f n' el iY:Nat}:xD agg sz dy m j f (some ⟨n',el,iY,some xs⟩)=(if n'=m∧iY=dy then
   (match xs[j]? with
    |some p=>if agg then some (eE p=true∧f+sz≤(cells p).length,.agg (((cells p).drop f).take sz))else((cells p)[f]?).map fun q=>(eE p=true,q)
    |none=>none)else none):=rfl
end
attribute [simp] Yu YL Yv Yx YP YN YD YQ YO YE YM Yw Yy x2 W2 W1 W3 W9 Xa Y7 Y8 Y4 Y3 Y5
 Zd Y9 Zc Za Zb YS YR LO LP lN gS jB cg get put jy pI mK mL ct qw bY cb Gy nu tq FK Fy DT Fx
 look eK dY.dst dV.dst rH Dh r2 df dO aF aO
 Yz YA YB YC YW YX YU YT YV Y2 YY Y1 YZ Y0 LM LN er oH lD wG fL.loadO s9 G1 w6 hE r3 Y6 YJ YK YF YG YH YI uX IA r7 yr Xe vI Ct vH qC o5 lW Fs
theorem aC{P:cy}{n:Nat}{args:List ai}{st:bj}{d:Option Nat}{K:bj→Prop}{r:ai}(aQ:b7 P n args r)(h:K {st with t:=eK d r st.t})(ab:aO (fun _=>ej) args:=by simp):cD P n args st d K:=cD.val ab aQ h
theorem aj{a b:Prop}(ae:b)(br:a:=by first|omega|(unfold n7;omega)|(unfold lim;omega)):a∧b:=⟨br,ae⟩
theorem cm{p:Prop}(h:ej:=by first|contradiction|omega):p:=h.elim
theorem cZ{p:Prop}(h:p:=by(try simp[*]);(repeat' first|with_reducible refine aj ?_|with_reducible refine aC (by assumption) ?_|with_reducible refine aD (by assumption) ?_|simp[*]);(all_goals first|done|(simp[bz,aV,aY,aT, *];done))):p:=h
end Go.Pv
namespace Go.Pv
open Go Go.RowKit
structure dG (s:cF):Prop where
 obj:ic s
 kb:∀k cs,look k s.b=some cs→aO (inObs s) cs
 ke:∀k o,look k s.e=some o→eb (inObs s) o
structure Same (s ah:cF):Prop where
 b:∀k,(look k s.b).isSome=(look k ah.b).isSome
 e:∀k,(look k s.e).isSome=(look k ah.e).isSome
theorem Same.refl(s:cF):Same s s:=⟨fun _=>rfl,fun _=>rfl⟩
theorem Same.inObs{s ah:cF}(h:Same s ah)(k:aH):inObs s k↔inObs ah k:=by unfold Pv.inObs;rw[h.b,h.e]
theorem ua{α:Type}{k:aH}{x:α}:∀{l:List (aH×α)},(k,x)∈l→(look k l).isSome
 |(i,y)::r,h=>by
  simp only[look];split
  ·rfl
  ·rename_i cC;rcases ga.1 h with h|h
   ·cases h;exact absurd rfl cC
   ·exact ua h
theorem Si{s:cF}{k:aH}(h:k∈cR s):inObs s k:=by
 unfold cR at h;rcases ja.1 h with h|h
 ·obtain⟨⟨bD,x⟩,J,rfl⟩:=hH.1 h;exact .inl (ua J)
 ·obtain⟨⟨bD,x⟩,J,rfl⟩:=hH.1 h;exact .inr (ua J)
theorem jL{s:cF}(h:ic s)(m:Nat):aH.loc m∉cR s:=fun hm=>by
 rcases Si hm with J|J
 ·rw[h.1 m]at J;cases J
 ·rw[h.2 m]at J;cases J
theorem ig{α β:Type}(s:List (aH×β)):∀(a b:List (aH×α)),bR s (a++b)=bR s a++bR s b
 |[],b=>rfl
 |(k,x)::r,b=>by
  simp only[bO,bR];cases look k s with
  |none=>simp[ig s r b]
  |some _=>exact ig s r b
theorem ME{α β:Type}(s:List (aH×β)):∀(l:List (aH×α)),(∀k x,(k,x)∈l→(look k s).isSome)→bR s l=[]
 |[],_=>rfl
 |(k,x)::r,h=>by
  have J:=h k x (by simp);simp only[bR];cases aq:look k s with
  |none=>rw[aq]at J;cases J
  |some _=>exact ME s r fun k x ad=>h k x (by simp[ad])
theorem gH{α:Type}(s:List (aH×α)):bR s s=[]:=ME s s fun k x h=>ua h
theorem jR{α:Type}{k:aH}{x:α}:∀{l:List (aH×α)},look k l=none→ct k x l=l++[(k,x)]
 |[],_=>rfl
 |(i,y)::r,h=>by
  simp only[look]at h;split at h
  ·cases h
  ·rename_i cC;simp[ct,cC,jR h]
theorem cE{α:Type}(k:aH):∀(a b:List (aH×α)),look k (a++b)=match look k a with|some x=>some x|none=>look k b
 |[],b=>rfl
 |(i,y)::r,b=>by
  simp only[bO,look];split
  ·rfl
  ·exact cE k r b
theorem cD.ob{P:cy}{n:Nat}{args:List ai}{st:bj}{d:Option Nat}{K:bj→Prop}{s:cF}{Q:ai→cF→Prop}(aQ:bB P n args s Q)(af:dG s)(ae:∀k cs,look k s.b=some cs→look k st.b=some cs)(he:∀k o,look k s.e=some o→look k st.e=some o)
  (ab:aO (inObs s) args) (h:∀r ah,Q r ah→Same s ah∧K ⟨eK d r st.t,bR s.b st.b++ah.b,bR s.e st.e++ah.e,st.n,st.o++cR ah⟩):cD P n args st d K:=by
 refine .inl ⟨s,Q,fun k cs av=>⟨ae k cs av,.inl (by simp[av]),af.kb k cs av⟩,fun k o au=>⟨he k o au,.inr (by simp[au]),af.ke k o au⟩,af.obj,ab,aQ,fun r ah bn=>?_⟩;obtain⟨J,U⟩:=h r ah bn;exact⟨⟨fun m hm=>.inl (by rw[J.b];exact hm),fun m hm=>.inl (by rw[J.e];exact hm)⟩,U⟩
theorem cG.ob{ez:List bu}{s ah:cF}{Q:ai→cF→Prop}{e:Exit}{st:bj}{c:Prop}{cp:List ai}(q8:e= .ret∨e= .normal)(rh:aV st ez=some (c,cp))(av:c)(af:dG ah)(e6:Same s ah)(ae:∀k cs,look k ah.b=some cs→look k st.b=some cs)(dA:∀k o,look k ah.e=some o→look k st.e=some o)
  (ab:aF (inObs ah) (dO (aT cp))) (bn:Q (dO (aT cp)) ah):cG ez s Q e st:=by
 refine⟨q8,?_⟩;rw[rh];have Rw:∀{α:Type} (l:List (aH×α)),(∀k x,(k,x)∈l→inObs ah k)→kD ah l:=by
  intro α l;induction l with
  |nil=>intro _;trivial
  |cons x r bW=>obtain⟨k,x⟩:=x;intro h;exact⟨h k x (by simp),bW fun k x ad=>h k x (by simp[ad])⟩
 exact⟨av,ah,Rw _ fun k x ad=>.inl (by rw[←e6.b];exact ua ad),Rw _ fun k x ad=>.inr (by rw[←e6.e];exact ua ad),fun k cs da=>⟨ae k cs da,.inl (by simp[da]),af.kb k cs da⟩,fun k o au=>⟨dA k o au,.inr (by simp[au]),af.ke k o au⟩,af.obj,ab,bn⟩
theorem bB.mono{P:cy}{f:FuncId}{args:List ai}{s:cF}{Q pZ:ai→cF→Prop}(h:bB P f args s Q)(bn:∀r ah,Q r ah→pZ r ah):bB P f args s pZ:=by
 intro w ν a7 J U ao;have hm:∀(e:Ending) (w':World),(∃v r ah bg,e= .returned v∧Q r ah∧a6 w' bg r v∧Good (fun bl=>e8 ν s bl∨w.heap.size≤bl) w' bg ah.b ah.e∧nO bg ah∧ic ah∧pd ⟨w,ν,e8 ν s,0,cR s⟩ w' bg)→(∃v r ah bg,e= .returned v∧pZ r ah∧a6 w' bg r v∧Good (fun bl=>e8 ν s bl∨w.heap.size≤bl) w' bg ah.b ah.e∧nO bg ah∧ic ah∧pd ⟨w,ν,e8 ν s,0,cR s⟩ w' bg):=by rintro e w' ⟨v,r,ah,bg,bp,a2,a3⟩;exact⟨v,r,ah,bg,bp,bn _ _ a2,a3⟩
 rcases h w ν a7 J U ao with⟨qg,av⟩|⟨v,w',av,aI⟩
 ·exact .inl ⟨qg,av.mono hm⟩
 ·exact .inr ⟨v,w',av,hm _ _ aI⟩
theorem Cf{s:cF}{k:aH}(h:inObs s k):¬fresh 0 (cR s) k:=fun aQ=>aQ.2 (sK h)
theorem im.ob{s:cF}(af:dG s){st:bj}{dE:List (Nat×ai)}(aN:∀x∈dE,get x.1 st.t=x.2∧aF (inObs s) x.2)(ae:∀k cs,look k s.b=some cs→look k st.b=some cs)(he:∀k o,look k s.e=some o→look k st.e=some o):
  im (cR s) st ⟨dE,s.b,s.e,0,cR s⟩:=
 ⟨fun x ad=>⟨(aN x ad).1,vp (fun k ab=>Cf ab) _ (aN x ad).2⟩,fun k cs av=>⟨ae k cs av,Cf (.inl (by simp[av])),jI (fun k ab=>Cf ab) _ (af.kb k cs av)⟩,
  fun k o au=>⟨he k o au,Cf (.inr (by simp[au])),fun xs ad=>jI (fun k ab=>Cf ab) _ (af.ke k o au xs ad)⟩,fun m hm=>hm⟩
def cM(st:bj)(ez:List bu)(R:ai→Prop):Prop:=match aV st ez with
 |some (c,cp)=>c∧R (dO (aT cp))
 |none=>ej
theorem cG.at{ez:List bu}{s:cF}{Q:ai→cF→Prop}{e:Exit}{st:bj}(ah:cF)(q8:e= .ret∨e= .normal)(af:dG ah)(e6:Same s ah)(ae:∀k cs,look k ah.b=some cs→look k st.b=some cs)(dA:∀k o,look k ah.e=some o→look k st.e=some o)
  (h:cM st ez fun r=>aF (inObs ah) r∧Q r ah):cG ez s Q e st:=by
 unfold cM at h;split at h
 ·rename_i c cp aI;exact cG.ob q8 aI h.1 af e6 ae dA h.2.1 h.2.2
 ·exact h.elim
theorem fu.ob{P:cy}{nw:List Nat}{n:Nat}{args:List ai}{st:bj}{d:Option Nat}{K:bj→Prop}{s ah:cF}{r:ai}(aQ:bB P n args s fun eD dE=>eD=r∧dE=ah)(af:dG s)(fw:dG ah)(e6:Same s ah)(ae:∀k cs,look k s.b=some cs→look k st.b=some cs)(he:∀k o,look k s.e=some o→look k st.e=some o)
  (ab:aO (inObs s) args) (h:K ⟨eK d r st.t,bR s.b st.b++ah.b,bR s.e st.e++ah.e,st.n,st.o⟩):fu P false nw n args st d K:=
 .inr ⟨s,ah,r,none,fun k cs av=>⟨ae k cs av,.inl (by simp[av]),af.kb k cs av⟩,fun k o au=>⟨he k o au,.inr (by simp[au]),af.ke k o au⟩,af.obj,fw.obj,⟨fun k ab=>.inl (by rw[e6.b];exact ab),fun k ab=>.inl (by rw[e6.e];exact ab),fun k ab=>by rw[←e6.b];exact ab,fun k ab=>by rw[←e6.e];exact ab,fun k ab=>by cases ab⟩,ab,aQ,(fun e=>by cases e),h⟩
theorem dG.of{s:cF}(au:ic s)(ae:∀x∈s.b,aO (inObs s) x.2)(he:∀x∈s.e,∀xs,x.2.xs=some xs→aO (inObs s) xs):dG s:=⟨au,fun k cs ab=>ae (k,cs) (sD ab),fun k o ab xs ad=>he (k,o) (sD ab) xs ad⟩
@[simp] theorem anZ(b:List (aH×List ai))(e:List (aH×fv)):cR ⟨b,e⟩=b.map (·.1)++e.map (·.1):=rfl
theorem Af{α:Type}{k:aH}{p:α}:∀{a r:List (aH×α)},look k a=none→ct k p (a++r)=a++ct k p r
 |[],_,_=>rfl
 |(i,y)::a,r,h=>by
  simp only[look]at h;split at h
  ·cases h
  ·rename_i cC;simp[ct,cC,Af h]
theorem aeM{α:Type}{s b:List (aH×α)}(h:∀p∈s,look p.1 b=some p.2):∀k x,look k s=some x→look k b=some x:=fun k x ad=>h (k,x) (sD ad)
theorem eF{S:aH→Prop}{b0 b:List (aH×List ai)}(h:∀p∈b0,look p.1 b=some p.2∧S p.1∧aO S p.2):hQ S b0 b:=fun k x ad=>h (k,x) (sD ad)
theorem eG{S:aH→Prop}{b0 b:List (aH×fv)}(h:∀p∈b0,look p.1 b=some p.2∧S p.1∧eb S p.2):mR S b0 b:=fun k x ad=>h (k,x) (sD ad)
theorem aE{α:Type}{s b:List (aH×α)}(h:∀k x,look k s=some x→look k b=some x:=by first|(refine aeM ?_;simp;done)|(intro k x ad;first|exact ad|(simp[ad,gH];done)|(simp[cE,gH,ad];done)|(cases k<;>simp_all[cE];done))):∀k x,look k s=some x→look k b=some x:=h
theorem cu{ob:List aH}{st st':bj}(J:∀x∈st'.t,get x.1 st.t=x.2∧aF (fun k=> ¬fresh st'.n st'.o k) x.2:=by simp[fresh,aO,aF,cl,inObs,Pv.look])(U:∀p∈st'.b,look p.1 st.b=some p.2∧(¬fresh st'.n st'.o p.1)∧aO (fun k=> ¬fresh st'.n st'.o k) p.2:=by simp[fresh,aO,aF,cl,inObs,Pv.look])(ao:∀p∈st'.e,look p.1 st.e=some p.2∧(¬fresh st'.n st'.o p.1)∧eb (fun k=> ¬fresh st'.n st'.o k) p.2:=by simp[fresh,aO,aF,eb,inObs,Pv.look])(aZ:∀m∈ob,m∈st'.o:=by simp):im ob st st':=⟨J,eF U,eG ao,aZ⟩
theorem bT.next{ob:List aH}{gJ:Nat→bj→Prop}{k:Nat}{Q:Exit→bj→Prop}{st:bj}(bD:Nat){ah:bj}(ab:bD<k)(hi:gJ bD ah)(hw:im ob st ah):bT ob gJ k Q .normal st:=⟨bD,ah,ab,hw,hi⟩
def j8:List (Int×ai)→List ai
 |[]=>[]
 |(k,v)::r=>.int .i64 k::v::j8 r
def jx(l:List (Int×ai)):List ai:= .hdm l.length (List.range l.length)::j8 l
def wm(k:Int):List (Int×ai)→Option ai
 |[]=>none
 |(i,v)::r=>if k=i then some v else wm k r
def oD(k:Int)(v:ai):List (Int×ai)→Option (List (Int×ai))
 |[]=>none
 |(i,w)::r=>if k=i then some ((k,v)::r)else match oD k v r with|some eD=>some ((i,w)::eD)|none=>none
def Dt(k:Int)(v:ai)(l:List (Int×ai)):List (Int×ai):=match oD k v l with|some aX=>aX|none=>l++[(k,v)]
@[simp] theorem anH:[ai.hdm 0 []]=jx []:=rfl
theorem Ql:∀a b,j8 (a++b)=j8 a++j8 b
 |[],_=>rfl
 |(k,v)::r,b=>by simp[j8,Ql r b]
theorem Tv(k:Int):∀l,vv .i (.int .i64 k) (j8 l)=some (wm k l)
 |[]=>rfl
 |(i,v)::r=>by
  simp only[j8,vv,sA,wm];by_cases h:k=i
  ·simp[h]
  ·have:(k==i)=false:=by simp[h]
   simp[h,Tv k r,this]
theorem Na{k:Int}{v:ai}:∀{l aX},oD k v l=some aX→aX.length=l.length
 |[],_,h=>by simp[oD]at h
 |(i,w)::r,aX,h=>by
  simp only[oD]at h;split at h
  ·cases h;rfl
  ·split at h
   ·rename_i eD aI;cases h;simp[Na aI]
   ·cases h
theorem TL(k:Int)(v:ai):∀l,ue .i (.int .i64 k) v (j8 l)=some ((oD k v l).map j8)
 |[]=>rfl
 |(i,w)::r=>by
  simp only[j8,ue,sA,oD];by_cases h:k=i
  ·subst h;simp[j8]
  ·simp only[and_self,if_true,h,if_false,dH,TL k v r];have:(k==i)=false:=by simp[h]
   rw[this];cases oD k v r<;>simp[j8]
@[simp] theorem TJ(k:Int)(v:ai)(l:List (Int×ai)):oc .i (.int .i64 k) v (jx l)=some (jx (Dt k v l)):=by
 simp only[jx,oc,SM,Bool.true_eq_false,reduceCtorEq,if_false,TL,Dt];cases h:oD k v l with
 |some aX=>simp[Na h]
 |none=>simp[Ql,j8,List.range_succ]
@[simp] theorem afd(f:aH→Option (List ai))(m:aH)(l:List (Int×ai))(z:ai)(ok:Bool)(k:Int)(hm:f m=some (jx l)):nq f .i z ok (.gmap m) (.int .i64 k)=(match wm k l with
  |some v=>some (True,if ok then .tuple [v,.bool true]else v)
  |none=>some (True,if ok then .tuple [z,.bool false]else z)):=by
 simp only[Tx,hm,jx,SM,Bool.true_eq_false,reduceCtorEq,if_false,Tv];cases wm k l<;>rfl
@[simp] theorem afq(f:aH→Option (List ai))(m:aH)(l:List (Int×ai))(hm:f m=some (jx l)):ud f (.gmap m)=some (True,.int .i64 l.length):=by simp[afp,hm,jx]
def cl(n:Nat)(seen:List Nat)(m:aH):List ai:=[.hdi n seen n,.gmap m]
@[simp] theorem aoX(m:aH)(l:List (Int×ai)):vL m (jx l)=some (cl l.length [] m):=rfl
@[simp] theorem an8(l:List (Int×ai)):hE (jx l)=false:=rfl
theorem Kk(b:Nat):∀(n:Nat) (l:List (Int×ai)),mf b (List.range' n l.length) (j8 l)=(if n≤b then(l[b-n]?).map fun x=>.tuple [.int .i64 x.1,x.2]else none)
 |n,[]=>by simp[mf,j8]
 |n,(k,v)::r=>by
  simp only[nB,List.range'_succ,j8,mf];by_cases h:n=b
  ·subst h;simp
  ·rw[if_neg h,Kk b (n+1) r];by_cases U:n≤b
   ·rw[if_pos U,if_pos (by omega)];have:b-n=(b-(n+1))+1:=by omega
    rw[this];simp
   ·rw[if_neg U,if_neg (by omega)]
@[simp] theorem Tt(f:aH→Option (List ai))(fb mk:aH)(n:Nat)(seen:List Nat)(b:Nat)(l:List (Int×ai))(hi:f fb=some (cl n (seen++[b]) mk))(hm:f mk=some (jx l))(ar:n=l.length):oY f (.ptr fb 0)=(l[b]?).map fun x=>(True,.tuple [.int .i64 x.1,x.2]):=by subst ar;simp only[Tu,hi,hm,cl,jx,List.getLast?_append,List.getLast?_singleton,Option.some_or,List.range_eq_range',Kk,Nat.zero_le,if_true,Nat.sub_zero,Option.map_map];cases l[b]?<;>simp
theorem PU{st:bj}{d:Nat}{K:bj→Prop}{fb mk:aH}{n:Nat}{seen:List Nat}{l:List (Int×ai)}(hi:look fb st.b=some (cl n seen mk))(hm:look mk st.b=some (jx l))(ar:n=l.length)
  (J:(∀b,b<n→b∈seen)→K {st with t:=put d (.tuple [.bool false]) st.t}) (U:∀b k v,l[b]? =some (k,v)→b∉seen→K {st with t:=put d (.tuple [.bool true,.int .i64 k,v]) st.t,b:=ct fb (cl n (seen++[b]) mk) st.b}):
  sa st d (.ptr fb 0) K:=by
 subst ar;simp only[sa,hi,cl,hm,jx,Ky,and_self,true_and];refine⟨fun h=>J fun b ae=>h b (by simpa using ae),fun b k v wY ae=>?_⟩;rw[List.range_eq_range',Kk]at wY;simp only[Nat.zero_le,if_true,Nat.sub_zero,gd,ai.tuple.injEq,xX,and_true]at wY;obtain⟨⟨bD,v'⟩,ak,aA,bs⟩:=wY;simp only at aA bs;subst aA bs;exact U b bD v' ak ae
theorem ahx{n:Nat}{seen:List Nat}(aK:seen.Nodup)(bq:∀b∈seen,b<n)(la:∀b,b<n→b∈seen):seen.Perm (List.range n):=(List.perm_ext_iff_of_nodup aK List.nodup_range).2 fun b=>⟨fun h=>by simpa using bq b h,fun h=>la b (by simpa using h)⟩
theorem Gq{n:Nat}{seen:List Nat}(aK:seen.Nodup)(bq:∀b∈seen,b<n):seen.length≤n:=by have:=GX aK (l₂:=List.range n) (fun b ae=>by simpa using bq b ae);simpa using this
theorem LU{n b:Nat}{seen:List Nat}(aK:seen.Nodup)(bq:∀b∈seen,b<n)(ae:b<n)(ar:b∉seen):seen.length<n:=by have J:(b::seen).Nodup:=List.nodup_cons.2 ⟨ar,aK⟩;have:=Gq J (n:=n) (by simp;exact⟨ae,bq⟩);simp at this;omega
theorem Ve{α:Type}:∀(l pre:List α),(List.range' pre.length l.length).filterMap (fun b=>(pre++l)[b]?)=l
 |[],_=>rfl
 |x::r,pre=>by have bW:=Ve r (pre++[x]);simp only[pa,List.length_singleton,List.append_assoc,List.singleton_append]at bW;simp[List.range'_succ,bW]
theorem LS{α:Type}{l:List α}{seen:List Nat}(aK:seen.Nodup)(bq:∀b∈seen,b<l.length)(la:∀b,b<l.length→b∈seen):(seen.filterMap fun b=>l[b]?).Perm l:=by have J:=(ahx aK bq la).filterMap fun b=>l[b]?;have U:=Ve l [];simp only[List.length_nil,bS,←List.range_eq_range']at U;rwa[U]at J
theorem KC{b:Nat}{seen:List Nat}(aK:seen.Nodup)(ar:b∉seen):(seen++[b]).Nodup:=by rw[List.nodup_append];exact⟨aK,by simp,by simp;intro a br e;subst e;exact ar br⟩
theorem cO.start{w:World}{ν:bc}{s:cF}{args:List ai}{a7:Array Value}(oS:ic s)(aS:Good (e8 ν s) w ν s.b s.e)(ad:nO ν s)(aI:cJ w ν args a7.toList):
  cO ⟨w,ν,e8 ν s,a7.size,cR s⟩ ⟨jB 0 args,s.b,s.e,0,cR s⟩ {tmps:=a7,defers:=[]} w ν:=by
 have n4:=xA aI;have kj:a7.size=args.length:=by simpa using n4
 have nX:∀k,fresh 0 (cR s) k→ν.bx k=none∧ν.ow k=none∧∀j b,¬ν.tr k j b:=by
  intro k ab;cases k with
  |loc m=>exact⟨(ad _).1 (oS.1 m),(ad _).2.1 (oS.2 m),(ad _).2.2⟩
  |obj m=>
   simp only[fresh,true_and]at ab;refine⟨?_,?_,(ad _).2.2⟩
   ·refine(ad _).1 ?_;cases h:look (.obj m) s.b with
    |none=>rfl
    |some x=>exact absurd (sK (.inl (by simp[h]))) ab
   ·refine(ad _).2.1 ?_;cases h:look (.obj m) s.e with
    |none=>rfl
    |some x=>exact absurd (sK (.inr (by simp[h]))) ab
 have iQ:∀m,(ν.bx (.obj m)≠none∨ν.ow (.obj m)≠none)→ .obj m∈cR s:=by
  intro m hm;refine Classical.byContradiction fun av=>?_;obtain⟨J,U,_⟩:=nX (.obj m) ⟨trivial,av⟩;rcases hm with hm|hm
  ·exact hm J
  ·exact hm U
 refine⟨⟨aS.alt,fun k cs ab=>?_,aS.inj,fun g o eJ=>?_,aS.oinj,aS.obx,aS.one,aS.otr⟩,⟨rfl,rfl,rfl,e1 _,fun _ _ _=>rfl,fun b o h=>⟨h,rfl⟩,fun b o h=>.inl h,fun n b h=>h,fun n b h=>iQ n (.inl (by rw[h];simp)),fun m n u h=>⟨n,u,h,.inl ⟨rfl,rfl⟩⟩,fun m n u h=>iQ m (.inr (by rw[h];simp)),fun k j _ _ b h=>absurd h ((ad k).2.2 j b),fun k j b h=>absurd h ((ad k).2.2 j b),fun k j b h=>absurd h ((ad k).2.2 j b),fun _ _ _=>rfl⟩,rfl,rfl,fun i=>?_,nX⟩
 ·obtain⟨bl,us,el,g1,g2,g3⟩:=aS.box k cs ab;exact⟨bl,us,el,g1,.inl g2,g3⟩
 ·obtain⟨v,us,g1,g2,g3,g4⟩:=aS.own g o eJ;exact⟨v,us,g1,g2,fun bl fp=>⟨.inl (g3 bl fp).1,(g3 bl fp).2⟩,g4⟩
 ·rw[Ee];by_cases hi:i<args.length
  ·rw[if_pos (by omega)];have qj:args[i]? =some args[i]:=cv hi;obtain⟨v,ak,aA⟩:=CE i aI qj;have AP:a7[i]? =some v:=by simpa using ak
   show a6 w ν _ (a7.getD i undef);rw[Array.getD_eq_getD_getElem?,AP];simpa[List.getD,qj]using aA
  ·rw[if_neg (by omega)];simp[a6]
theorem bB.sem{P:cy}{f:FuncId}{args:List ai}{s:cF}{Q:ai→cF→Prop}(oS:ic s)
  (h:∀(w:World) (ν:bc) (a7:Array Value),a7.size=args.length→cO ⟨w,ν,e8 ν s,a7.size,cR s⟩ ⟨jB 0 args,s.b,s.e,0,cR s⟩ {tmps:=a7,defers:=[]} w ν→
   wb P f a7 w fun e w'=> ∃v st' bh bg r ah,e= .returned v∧cO ⟨w,ν,e8 ν s,a7.size,cR s⟩ st' bh w' bg∧a6 w' bg r v∧kD ah s.b∧kD ah s.e∧hQ (inObs ah) ah.b st'.b∧mR (inObs ah) ah.e st'.e∧ic ah∧aF (inObs ah) r∧Q r ah):bB P f args s Q:=by
 intro w ν a7 aS ad aI;have kj:a7.size=args.length:=by simpa using xA aI
 have nZ:=cO.start oS aS ad aI;have hm:∀(e:Ending) (w':World),(∃v st' bh bg r ah,e= .returned v∧cO ⟨w,ν,e8 ν s,a7.size,cR s⟩ st' bh w' bg∧a6 w' bg r v∧kD ah s.b∧kD ah s.e∧hQ (inObs ah) ah.b st'.b∧mR (inObs ah) ah.e st'.e∧ic ah∧aF (inObs ah) r∧Q r ah)→
   ∃v r ah bg,e= .returned v∧Q r ah∧a6 w' bg r v∧Good (fun bl=>e8 ν s bl∨w.heap.size≤bl) w' bg ah.b ah.e∧nO bg ah∧ic ah∧pd ⟨w,ν,e8 ν s,0,cR s⟩ w' bg:=by
  rintro e w' ⟨v,st',bh,bg,r,ah,rfl,dc,rF,kb,ke,a1,bt,b2,c2,c8⟩;refine⟨v,r,ah,bg.cut (inObs ah),rfl,c8,j2 (nE.cut _ w' bg) _ _ c2 rF,dc.good.cut a1 bt (fun bl h _=>h),?_,b2,?_⟩
  ·intro k;refine⟨?_,?_,?_⟩;rotate_left 2
   ·rintro j b ⟨af,ae⟩;obtain⟨t1,t2⟩:=dc.fr.trn k j b ae;rcases af with af|af<;>obtain⟨x,hY⟩:=fm.1 af
    ·obtain⟨bl,b9,el,ak,_⟩:=dc.good.box k x (a1 k x hY).1;rw[t1]at ak;cases ak
    ·obtain⟨v',b9,ak,_⟩:=dc.good.own k x (bt k x hY).1;rw[t2]at ak;cases ak
   ·intro ab;by_cases af:inObs ah k
    ·rw[bc.cut_bx af];rcases af with af|af
     ·rw[ab]at af;cases af
     ·obtain⟨x,hY⟩:=fm.1 af;obtain⟨v',b9,ak,_⟩:=dc.good.own k x (bt k x hY).1;rcases dc.good.one k with J|J
      ·exact J
      ·rw[J]at ak;cases ak
    ·exact(bc.cut_no af).1
   ·intro ab;by_cases af:inObs ah k
    ·rw[bc.cut_ow af];rcases af with af|af
     ·obtain⟨x,hY⟩:=fm.1 af;obtain⟨bl,b9,el,ak,_⟩:=dc.good.box k x (a1 k x hY).1;rcases dc.good.one k with J|J
      ·rw[J]at ak;cases ak
      ·exact J
     ·rw[ab]at af;cases af
    ·exact(bc.cut_no af).2.1
  ·refine⟨dc.fr.os,dc.fr.tape,dc.fr.output,dc.fr.size,dc.fr.block,dc.fr.keep,dc.fr.fresh,fun n b h=>?_,dc.fr.obn,fun m n u h=>?_,dc.fr.obr,fun k j bD dx b J U=>dc.fr.trd k j bD dx b J.2 U.2,fun k j b ae=>dc.fr.trb k j b ae.2,fun k j b ae=>(by rw[bc.cut_bx ae.1,bc.cut_ow ae.1];exact dc.fr.trn k j b ae.2),dc.fr.sh⟩
   ·have af:inObs ah (.obj n):=by
     cases aq:look (.obj n) s.b with
     |none=>rw[(ad _).1 aq]at h;cases h
     |some x=>exact ze kb _ (by simp[aq])
    rw[bc.cut_bx af];exact dc.fr.obj n b h
   ·have af:inObs ah (.obj m):=by
     cases aq:look (.obj m) s.e with
     |none=>rw[(ad _).2.1 aq]at h;cases h
     |some x=>exact ze ke _ (by simp[aq])
    rw[bc.cut_ow af];exact dc.fr.row m n u h
 rcases h w ν a7 kj nZ with⟨qg,av⟩|⟨v,w',av,rh⟩
 ·exact .inl ⟨qg,av.mono hm⟩
 ·exact .inr ⟨v,w',av,hm _ _ rh⟩
theorem cO.grown{C:e2}{st:bj}{a:Act}{w w':World}{ν:bc}(h:cO C st a w ν)(aS:w.grownBy w' none):cO C st a w' ν:=by
 have kC:k5 w ν w' ν:=⟨fun b o bd=>⟨bd,DR aS (h.good.alt b o bd)⟩,fun _ _ _ h=>h,fun _ n u _ h=>⟨n,u,h,.inl ⟨rfl,rfl⟩⟩,fun b o bd=>vO (aS.block b (h.good.alt b o bd) (by simp)),fun _ _ _ _ h=>h⟩;refine h.over kC rfl ⟨fun b o bd=>Nat.lt_of_lt_of_le (h.good.alt b o bd) aS.size,fun k cs ab=>?_,h.good.inj,fun g o eJ=>?_,h.good.oinj,h.good.obx,h.good.one,h.good.otr⟩
  ⟨aS.os.trans h.fr.os,aS.tape.trans h.fr.tape,aS.output.trans h.fr.output,ji h.fr.size aS.size,fun k ab hm=>?_,fun b o bd=>?_,h.fr.fresh,h.fr.obj,h.fr.obn,h.fr.row,h.fr.obr,h.fr.trd,fun k j b ae=>⟨(h.fr.trb k j b ae).1,Nat.lt_of_lt_of_le (h.fr.trb k j b ae).2 aS.size⟩,h.fr.trn,fun b o bd=>(kC.sh b o (h.fr.keep b o bd).1).trans (h.fr.sh b o bd)⟩ h.new
 ·obtain⟨bl,us,el,g1,g2,g3,g4,g5⟩:=h.good.box k cs ab;exact⟨bl,us,el,g1,g2,g3,by rw[aS.block bl (Array.getElem?_eq_some_iff.1 g4).1 (by simp)];exact g4,pR kC g5⟩
 ·obtain⟨v,us,g1,g2,g3,g4⟩:=h.good.own g o eJ;exact⟨v,us,g1,g2.kept aS (by cases v.ownBlock<;>simp),g3,rI kC (fun _ _ _ h=>h) g4⟩
 ·rw[aS.block k (Nat.lt_of_lt_of_le ab h.fr.size) (by simp)];exact h.fr.block k ab hm
 ·obtain⟨aR,be⟩:=h.fr.keep b o bd;exact⟨aR,(kC.A b o aR).2.trans be⟩
theorem cD.new{P:cy}{n:Nat}{args:List ai}{st:bj}{d:Option Nat}{K:bj→Prop}{s:cF}{Q:ai→cF→Prop}(aQ:bB P n args s Q)(af:dG s)(ae:∀k cs,look k s.b=some cs→look k st.b=some cs)(he:∀k o,look k s.e=some o→look k st.e=some o)
  (ab:aO (inObs s) args) (h:∀r ah,Q r ah→(∀m,inObs ah (.obj m)→inObs s (.obj m)∧Same s ah∨ .obj m∉st.o)∧K ⟨eK d r st.t,bR s.b st.b++ah.b,bR s.e st.e++ah.e,st.n,st.o++cR ah⟩):cD P n args st d K:=by
 refine .inl ⟨s,Q,fun k cs av=>⟨ae k cs av,.inl (by simp[av]),af.kb k cs av⟩,fun k o au=>⟨he k o au,.inr (by simp[au]),af.ke k o au⟩,af.obj,ab,aQ,fun r ah bn=>?_⟩;obtain⟨J,U⟩:=h r ah bn;refine⟨⟨fun m hm=>?_,fun m hm=>?_⟩,U⟩
 ·rcases J m (.inl hm)with⟨_,ao⟩|ao
  ·exact .inl (by rw[ao.b];exact hm)
  ·exact .inr ao
 ·rcases J m (.inr hm)with⟨_,ao⟩|ao
  ·exact .inl (by rw[ao.e];exact hm)
  ·exact .inr ao
theorem cG.new{ez:List bu}{s:cF}{Q:ai→cF→Prop}{e:Exit}{st:bj}(ah:cF)(q8:e= .ret∨e= .normal)(af:dG ah)(e6:kD ah s.b∧kD ah s.e)(ae:∀k cs,look k ah.b=some cs→look k st.b=some cs)(dA:∀k o,look k ah.e=some o→look k st.e=some o)
  (h:cM st ez fun r=>aF (inObs ah) r∧Q r ah):cG ez s Q e st:=by
 unfold cM at h;split at h
 ·rename_i c cp aI;refine⟨q8,?_⟩;rw[aI];exact⟨h.1,ah,e6.1,e6.2,fun k cs da=>⟨ae k cs da,.inl (by simp[da]),af.kb k cs da⟩,fun k o au=>⟨dA k o au,.inr (by simp[au]),af.ke k o au⟩,af.obj,h.2.1,h.2.2⟩
 ·exact h.elim
@[simp] theorem alM{P:cy}{ob:List aH}{c d:C}{Q:Exit→bj→Prop}{st:bj}{s:Nat}:cT P ob (.seq (.pub s c) d) Q st=wg P ob (.seq c d) Q (vI st s):=by simp only[cT];cases vI st s<;>rfl
@[simp] theorem alL{P:cy}{ob:List aH}{c d:C}{Q:Exit→bj→Prop}{st:bj}{s:Nat}:cT P ob (.seq (.pubB s c) d) Q st=wg P ob (.seq c d) Q (vH st s):=by simp only[cT];cases vH st s<;>rfl
end Go.Pv
namespace Go.Pv
open Go Go.RowKit
def tR(t:List (Nat×ai))(ck:List Nat):List (Nat×ai):=ck.map fun k=>(k,get k t)
@[simp] theorem amT(t:List (Nat×ai)):tR t []=[]:=rfl
@[simp] theorem amS(t:List (Nat×ai))(k:Nat)(ck:List Nat):tR t (k::ck)=(k,get k t)::tR t ck:=rfl
def o0(st:bj)(ck:List Nat)(cs:List (Nat×ai)):bj:=⟨tR st.t ck++cs,st.b,st.e,st.n,st.o⟩
theorem afn(t:List (Nat×ai))(b:List (aH×List ai))(e:List (aH×fv))(n:Nat)(o:List aH)(ck:List Nat)(cs:List (Nat×ai)):o0 ⟨t,b,e,n,o⟩ ck cs=⟨tR t ck++cs,b,e,n,o⟩:=rfl
def xZ{α:Type}(S:Nat→α→bj)(n:Nat)(gD:Nat→α→Prop)(k:Nat)(st:bj):Prop:= ∃i a,i≤n∧k=n-i∧gD i a∧st=S i a
section
variable {P:cy} {ob:List aH} {st:bj} {Q:Exit→bj→Prop} {c:C} {α:Type}
theorem ir(S:Nat→α→bj)(n:Nat)(gD:Nat→α→Prop)(a0:α)(hw:im ob st (S 0 a0))(bV:gD 0 a0)(sj:∀a,gD n a→(∀i,ho (get i (S n a).t))→cT P ob c (bT ob (xZ S n gD) 0 Q) (S n a))
  (jw:∀i a,i<n→gD i a→(∀j,ho (get j (S i a).t))→cT P ob c (bT ob (xZ S n gD) (n-i) Q) (S i a)):cT P ob (.loop c) Q st:=by
 refine nj (xZ S n gD) n _ hw ⟨0,a0,by omega,by omega,bV,rfl⟩ ?_;rintro k s ⟨i,a,hi,rfl,ag,rfl⟩ ae _;rcases Nat.lt_or_ge i n with h|h
 ·exact jw i a h ag ae
 ·obtain rfl:i=n:=by omega
  rw[Nat.sub_self];exact sj a ag ae
theorem bT.rng{S:Nat→α→bj}{n:Nat}{gD:Nat→α→Prop}{i:Nat}(bh:α)(hi:i<n)(ag:gD (i+1) bh)(hw:im ob st (S (i+1) bh)):bT ob (xZ S n gD) (n-i) Q .normal st:=⟨n-(i+1),_,by omega,hw,i+1,bh,by omega,rfl,ag,rfl⟩
def Aq{α:Type}(S:α→bj)(μ:α→Nat)(gD:α→Prop)(k:Nat)(st:bj):Prop:= ∃a,k=μ a∧gD a∧st=S a
theorem nN(S:α→bj)(μ:α→Nat)(gD:α→Prop)(a0:α)(hw:im ob st (S a0))(bV:gD a0)
  (jw:∀a,gD a→(∀j,ho (get j (S a).t))→cT P ob c (bT ob (Aq S μ gD) (μ a) Q) (S a)):cT P ob (.loop c) Q st:=by
 refine nj (Aq S μ gD) (μ a0) _ hw ⟨a0,rfl,bV,rfl⟩ ?_;rintro k s ⟨a,rfl,ag,rfl⟩ ae _;exact jw a ag ae
theorem bT.whl{S:α→bj}{μ:α→Nat}{gD:α→Prop}{k:Nat}(bh:α)(hm:μ bh<k)(ag:gD bh)(hw:im ob st (S bh)):bT ob (Aq S μ gD) k Q .normal st:=⟨μ bh,_,hm,hw,bh,rfl,ag,rfl⟩
end
theorem ko{p:Prop}(h:p:=by(try simp[*]);(repeat' first|with_reducible refine aj ?_|with_reducible refine aC (by assumption) ?_|with_reducible refine aD (by assumption) ?_|simp[*]);(all_goals first|exact bT.rng () (by assumption) (by first|assumption|trivial) cu|exact bT.rng _ (by assumption) (by assumption) cu)):p:=h
end Go.Pv
namespace Go.Pv
open Go Go.RowKit
def lM(s:cF)(n:Nat)(k:aH):Prop:=inObs s k∨ ∃m,m<n∧k= .loc m
@[simp] theorem TO(s:cF)(n m:Nat)(hm:m<n):lM s n (.loc m):= .inr ⟨m,hm,rfl⟩
theorem zx{s:cF}{n:Nat}{l:List ai}(h:aO (inObs s) l):aO (lM s n) l:=jI (fun _ h=>.inl h) l h
theorem xk{s ah:cF}(e6:Same s ah){n:Nat}{k:aH}(h:lM ah n k):¬fresh n (cR s) k:=by
 rcases h with h|⟨m,hm,rfl⟩
 ·exact fun aQ=>aQ.2 (sK ((e6.inObs k).2 h))
 ·intro aQ;have:=aQ.1;simp at this;omega
theorem im.obL{s ah:cF}(fw:dG ah)(e6:Same s ah){st:bj}{dE:List (Nat×ai)}{L:List (aH×List ai)}{n:Nat}(aN:∀x∈dE,get x.1 st.t=x.2∧aF (lM ah n) x.2)(hz:∀x∈L,look x.1 st.b=some x.2∧lM ah n x.1∧aO (lM ah n) x.2)
  (ae:∀k cs,look k ah.b=some cs→look k st.b=some cs) (he:∀k o,look k ah.e=some o→look k st.e=some o):im (cR s) st ⟨dE,L++ah.b,ah.e,n,cR s⟩:=by
 refine⟨fun x ad=>⟨(aN x ad).1,vp (fun k ab=>xk e6 ab) _ (aN x ad).2⟩,fun k cs ab=>?_,fun k o au=>?_,fun m hm=>hm⟩
 ·simp only at ab;rw[cE]at ab;cases aq:look k L with
  |some x=>rw[aq]at ab;simp only[dt]at ab;subst ab;obtain⟨J,U,ao⟩:=hz _ (sD aq);exact⟨J,xk e6 U,jI (fun k ab=>xk e6 ab) _ ao⟩
  |none=>rw[aq]at ab;exact⟨ae k cs ab,xk e6 (.inl (.inl (by simp[ab]))),jI (fun k ab=>xk e6 (.inl ab)) _ (fw.kb k cs ab)⟩
 ·exact⟨he k o au,xk e6 (.inl (.inr (by simp at au;simp[au]))),fun xs ad=>jI (fun k ab=>xk e6 (.inl ab)) _ (fw.ke k o au xs ad)⟩
def gP{α:Type}(l:List α)(i j:Nat):List α:=match l[i]?,l[j]? with
 |some x,some y=>(l.set i y).set j x
 |_,_=>l
section
variable {α:Type}
@[simp] theorem aeW(l:List α)(i j:Nat):(gP l i j).length=l.length:=by unfold gP;split<;>simp
theorem zm(l:List α)(i j k:Nat)(hi:i<l.length)(ag:j<l.length):(gP l i j)[k]? =if k=i then l[j]? else if k=j then l[i]? else l[k]?:=by
 unfold gP;rw[cv hi,cv ag];simp only[List.getElem?_set,List.length_set];by_cases J:j=k
 ·subst J;by_cases U:j=i
  ·subst U;simp[hi]
  ·simp[U,ag]
 ·by_cases U:i=k
  ·subst U;simp[J,hi]
  ·simp[J,U,kO J,kO U]
theorem Th(l:List α)(i j:Nat):(gP l i j).Perm l:=by
 unfold gP;split
 ·rename_i x y ad aG;obtain⟨hi,rfl⟩:=fG.1 ad;obtain⟨ag,rfl⟩:=fG.1 aG;exact List.set_set_perm hi ag
 ·exact .refl _
inductive gg (a b:Nat):List α→List α→Prop
 |refl (l:List α):gg a b l l
 |step {l m:List α} {i j:Nat}:gg a b l m→a≤i→i<b→a≤j→j<b→i<m.length→j<m.length→gg a b l (gP m i j)
theorem gg.length{a b:Nat}{l m:List α}(h:gg a b l m):m.length=l.length:=by
 induction h with
 |refl=>rfl
 |step _ _ _ _ _ _ _ bW=>rw[aeW,bW]
theorem gg.perm{a b:Nat}{l m:List α}(h:gg a b l m):m.Perm l:=by
 induction h with
 |refl=>exact .refl _
 |step _ _ _ _ _ _ _ bW=>exact(Th _ _ _).trans bW
theorem gg.out{a b:Nat}{l m:List α}(h:gg a b l m)(k:Nat)(ab:k<a∨b≤k):m[k]? =l[k]?:=by
 induction h with
 |refl=>rfl
 |step _ J U ao aZ b1 c6 bW=>rw[zm _ _ _ _ b1 c6,if_neg (by omega),if_neg (by omega)];exact bW
theorem gg.all{a b:Nat}{l m:List α}(h:gg a b l m)(p:α→Prop)(bF:∀k x,a≤k→k<b→l[k]? =some x→p x):∀k x,a≤k→k<b→m[k]? =some x→p x:=by
 induction h with
 |refl=>exact bF
 |step _ J U ao aZ b1 c6 bW=>
  intro k x gj jX ad;rw[zm _ _ _ _ b1 c6]at ad;split at ad
  ·exact bW _ _ ao aZ ad
  ·split at ad
   ·exact bW _ _ J U ad
   ·exact bW _ _ gj jX ad
theorem gg.trans{a b:Nat}{l m r:List α}(h:gg a b l m)(cA:gg a b m r):gg a b l r:=by
 induction cA with
 |refl=>exact h
 |step _ J U ao aZ b1 c6 bW=>exact .step bW J U ao aZ b1 c6
theorem gg.mono{a b bh b0:Nat}{l m:List α}(h:gg a b l m)(br:bh≤a)(ae:b≤b0):gg bh b0 l m:=by
 induction h with
 |refl=>exact .refl _
 |step _ J U ao aZ b1 c6 bW=>exact .step bW (by omega) (by omega) (by omega) (by omega) b1 c6
def e4(lt:α→α→Bool)(a b:Nat)(l:List α):Prop:= ∀i j x y,a≤i→i<j→j<b→l[i]? =some x→l[j]? =some y→lt y x=false
structure pY (lt:α→α→Bool):Prop where
 asym:∀x y,lt x y=true→lt y x=false
 ntr:∀x y z,lt y x=false→lt z y=false→lt z x=false
theorem e4.pairwise{lt:α→α→Bool}{l:List α}(h:e4 lt 0 l.length l):l.Pairwise fun x y=>lt y x=false:=by rw[pb];intro i j hi ag lH;exact h i j _ _ (by omega) lH ag (cv hi) (cv ag)
def hG(a m b k:Nat):Nat:=if k<a then k else if k<a+(b-m)then k+(m-a)else if k<b then k-(b-m)else k
def rO(a b c k:Nat):Nat:=if a≤k∧k<a+c then b+(k-a)else if b≤k∧k<b+c then a+(k-b)else k
end
theorem El(i j:Nat)(h:i+j≤1099511627776):mi.wrap (Int.fdiv (gU.wrap ((i:Int)+j)) (2 ^ (min 1 gU.bits)))=((i+j)/2:Nat):=by
 have hw:gU.wrap ((i:Int)+j)=i+j:=by simp[rU,mW,qG];omega
 have IU:gU.bits=64:=rfl;rw[hw,IU,show(2:Int) ^ (min 1 64)=2 from by decide,Int.fdiv_eq_ediv_of_nonneg _ (by omega),lR]
 ·omega
 ·omega
end Go.Pv
namespace Go.Pv
open Go Go.RowKit
section
variable {P:cy} {ob:List aH} {st:bj} {Q:Exit→bj→Prop} {c:C} {α:Type}
theorem gh(ck:List Nat)(cs:Nat→α→List (Nat×ai))(n:Nat)(gD:Nat→α→Prop)(a0:α)(hw:im ob st (o0 st ck (cs 0 a0)))(bV:gD 0 a0)(sj:∀a,gD n a→(∀i,ho (get i (o0 st ck (cs n a)).t))→cT P ob c (bT ob (xZ (fun i a=>o0 st ck (cs i a)) n gD) 0 Q) (o0 st ck (cs n a)))
  (jw:∀i a,i<n→gD i a→(∀j,ho (get j (o0 st ck (cs i a)).t))→cT P ob c (bT ob (xZ (fun i a=>o0 st ck (cs i a)) n gD) (n-i) Q) (o0 st ck (cs i a))):cT P ob (.loop c) Q st:=
 ir (fun i a=>o0 st ck (cs i a)) n gD a0 hw bV sj jw
theorem uU(ck:List Nat)(cs:α→List (Nat×ai))(μ:α→Nat)(gD:α→Prop)(a0:α)(hw:im ob st (o0 st ck (cs a0)))(bV:gD a0)
  (jw:∀a,gD a→(∀j,ho (get j (o0 st ck (cs a)).t))→cT P ob c (bT ob (Aq (fun a=>o0 st ck (cs a)) μ gD) (μ a) Q) (o0 st ck (cs a))):cT P ob (.loop c) Q st:=
 nN (fun a=>o0 st ck (cs a)) μ gD a0 hw bV jw
end
attribute [simp] afn
end Go.Pv
namespace Go.Proofs.YtohaalphocaebaaGreat
open Go Go.Pv
def OI:C:=(aa [cU 6 e7] (aa [I 7 0,I 8 1,cw 9 45 7 8,I 10 2,cX 11 44 [.t 9,.t 10,(et 5)],bG 5 6 11] .ret))
@[simp] def aid:List bu:=[.cell 6 true 5]
def OJ:C:=(aa [cU 8 dz] (aa [I 9 0,I 10 1,cw 11 45 9 10,I 12 2,I 13 3,cX 14 46 [.t 11,.t 12,.t 13],bG 4 8 14] .ret))
@[simp] def UZ:List bu:=[.cell 8 true 4]
def OH:C:=(aa [cr 4 0] (aa [I 6 0,I 7 1,cw 8 45 6 7,I 5 8] (aa [I 9 5,cL 10 53 9,aW 11 .mul 10 256,I 12 5,cL 13 53 12,bA 14 .add 11 13,I 4 14] .ret)))
@[simp] def aic:List bu:=[.tmp 4]
def Pf:C:=(aa [cU 6 e7] (aa [I 12 1,gB 13 e7 [(0,1,(.t 12))],cU 7 e7,bG 5 7 13] (.seq (aa [I 14 0,I 15 2,aW 16 .add 15 1,cw 17 110 14 16,I 8 17] (.block 0 (.loop (.seq (aa [I 18 8,aW 19 .gtr 18 0] (a8 19 .skip (.exit 0))) (.seq (.block 1 (aa [I 22 0,I 23 1,cX 24 46 [.t 22,(et 3),.t 23],cU 9 dz,bG 4 9 24] (.seq (.drawn false 46 [ba 26 5 7,I 27 0,cX 28 110 [.t 27,(et 4)],ba 29 4 9,I 30 0,I 31 1,cX 32 46 [.t 30,(et 5),.t 31],I 33 0,cX 34 110 [.t 33,(et 2)],bX 35 (.bin .add false (et 2) (.t 34)),I 36 0,c4 (.bsl 37 1 9 [(.c (.str [97])),(.c (.str [98]))]),cw 38 111 36 37,cX 39 93 [.t 26,.t 28,.t 29,.t 32,.t 35,.t 38],I 25 39,cq 40 0 25,cq 41 1 25,cU 10 e7,bG 5 10 40,I 11 41]) (aa [I 42 11] (a8 42 (.region [ba 43 5 10,bG 5 7 43]) .skip))))) (.region [I 20 8,aW 21 .sub 20 1,I 8 21])))))) (aa [ba 44 5 7,cL 45 112 44,bG 5 6 45] .ret))))
@[simp] def Lu:List bu:=[.cell 6 true 5]
def Pg:C:=(aa [bX 4 (.mov (.c (.nilp)))] (aa [I 7 0,cL 8 113 7,I 5 8] (.seq (aa [cr 6 0] (.block 0 (.loop (.seq (aa [I 9 6,I 10 1,bA 11 .lss 9 10] (a8 11 .skip (.exit 0))) (.seq (.block 1 (.region [I 14 5,cL 15 53 14])) (.region [I 12 6,aW 13 .add 12 1,I 6 13])))))) (aa [I 16 5,I 4 16] .ret))))
@[simp] def Vd:List bu:=[.tmp 4]
def OS:C:=(aa [cU 6 dz] (aa [I 9 0,cX 10 110 [.t 9,(et 8)],I 7 10] (.seq (aa [I 11 1,aW 12 .gtr 11 2,I 13 12,bU 13 true 14 7,aw 13 true (aW 15 .geq 14 3),dr 16 13 15] (a8 16 (aa [I 17 0,I 18 1,aW 19 .quo 18 2,I 20 2,cX 21 46 [.t 17,.t 19,.t 20],cU 8 dz,bG 4 8 21] (.seq (.drawn false 42 [ba 22 4 8,I 23 0,I 24 1,aW 25 .quo 24 2,I 26 2,cX 27 46 [.t 23,.t 25,.t 26],cw 28 114 22 27,bG 4 6 28]) .ret)) .skip)) (.seq (aa [I 29 2,aW 30 .gtr 29 0,I 31 30,bU 31 true 32 7,aw 31 true (aW 33 .rem 32 2),aw 31 true (aW 34 .eql 33 0),dr 35 31 34] (a8 35 (aa [I 36 0,I 37 2,cw 38 110 36 37,cL 39 91 38,bG 4 6 39] .ret) .skip)) (aa [I 40 0,cL 41 115 40,bG 4 6 41] .ret)))))
@[simp] def FZ:List bu:=[.cell 6 true 4]
def HL:C:=(aa [cr 2 0] (aa [I 4 0,I 5 0,eB 6 5,aP 7 2 1 6,aB 8 1 7,bX 9 (.bin .mul true (.t 8) (et 6364136223846793005)),bX 10 (.bin .add true (.t 9) (et 1442695040888963407)),eB 11 4,aP 12 2 1 11,bG 1 12 10] (.seq (.drawn true 58 [I 13 0,eB 14 13,aP 15 2 1 14,aB 16 1 15,bX 17 (.bin .shr false (.t 16) (.c (.int .u64 33))),I 18 0,eB 19 18,aP 20 2 1 19,aB 21 1 20,bX 22 (.bin .shr false (.t 21) (.c (.int .u64 45))),bA 23 .xor 17 22,aW 24 .and 23 255,I 3 24]) (.seq (.seq (.drawn true 58 [I 25 0,eB 26 25,aP 27 1 1 26,aB 28 1 27,I 29 0,eB 30 29,aP 31 0 1 30,aB 32 1 31,cS 33 32,bA 34 .lss 28 33]) (a8 34 (.seq (.drawn true 58 [I 35 3,I 36 0,eB 37 36,aP 38 0 1 37,aB 39 1 38,I 40 0,eB 41 40,aP 42 1 1 41,aB 43 1 42,cN 44 1 39 43,aB 45 1 44,bX 46 (.conv .i64 (.t 45)),bA 47 .add 35 46,aW 48 .and 47 255,I 3 48]) (.region [I 49 0,I 50 0,eB 51 50,aP 52 1 1 51,aB 53 1 52,aW 54 .add 53 1,eB 55 49,aP 56 1 1 55,bG 1 56 54])) .skip)) (aa [I 57 3,I 2 57] .ret)))))
@[simp] def Lk:List bu:=[.tmp 2]
def OM:C:=(aa [cr 4 0] (.seq (aa [I 5 1,aW 6 .leq 5 0] (a8 6 (aa [cr 4 0] .ret) .skip)) (aa [I 7 0,cL 8 53 7,I 9 1,bA 10 .rem 8 9,I 4 10] .ret)))
@[simp] def Lj:List bu:=[.tmp 4]
def OP:C:=(aa [bX 4 (.mov (.c (.str [])))] (aa [I 5 1,I 6 0,I 7 1,cS 8 7,cw 9 110 6 8,cN 10 1 5 9,aB 11 1 10,I 4 11] .ret))
@[simp] def U2:List bu:=[.tmp 4]
def OO:C:=(aa [bX 2 (.mov (.c (.nilp)))] (aa [I 5 0,cS 6 5,bX 7 (.bin .add false (et 90411) (.t 6)),I 3 7] (.seq (aa [cr 4 0] (.block 0 (.loop (.seq (aa [I 8 4,I 9 0,cS 10 9,bA 11 .lss 8 10,I 12 11,bU 12 true 13 4,aw 12 true (aW 14 .lss 13 4000),dr 15 12 14] (a8 15 .skip (.exit 0))) (.seq (.block 1 (.region [I 18 3,aW 19 .mul 18 131,I 20 0,I 21 4,cN 22 1 20 21,aB 23 1 22,bX 24 (.conv .i64 (.t 23)),bA 25 .add 19 24,aW 26 .add 25 7,aW 27 .and 26 1073741823,I 3 27])) (.region [I 16 4,aW 17 .add 16 1,I 4 17])))))) (aa [I 28 0,I 29 3,bX 30 (.build [.slice 1 .nil [],.int .i64 0,.int .i64 0] [(0,1,(.t 28)),(2,1,(.t 29))]),c4 (.box 31 (some 401) (.t 30)),I 2 31] .ret))))
@[simp] def U1:List bu:=[.tmp 2]
def OQ:C:=(aa [cU 2 dz] (aa [I 4 0,cX 5 110 [.t 4,(et 7)],I 3 5] (.seq (aa [I 6 3,aW 7 .lss 6 2] (a8 7 (aa [I 8 3,cL 9 192 8,bG 4 2 9] .ret) .skip)) (.seq (aa [I 10 3,aW 11 .lss 10 5] (a8 11 (aa [c4 (.bsl 12 1 9 [(.c (.str [97])),(.c (.str [98])),(.c (.str [99]))]),I 13 3,aW 14 .sub 13 2,cN 15 1 12 14,aB 16 1 15,cL 17 184 16,bG 4 2 17] .ret) .skip)) (aa [gB 18 dz [],bG 4 2 18] .ret)))))
@[simp] def U3:List bu:=[.cell 2 true 4]
def O0:C:=(aa [cU 2 dz] (aa [I 3 0,gB 4 dz [(0,1,(et 2)),(2,1,(.t 3))],bG 4 2 4] .ret))
@[simp] def U9:List bu:=[.cell 2 true 4]
def OV:C:=(aa [cU 2 dz] (aa [I 3 0,gB 4 dz [(0,1,(et 3)),(1,1,(.t 3))],bG 4 2 4] .ret))
@[simp] def U5:List bu:=[.cell 2 true 4]
def o7:List (Nat×du):=[
 (3,⟨1,8,.int .i64,.int .i64 0⟩),
 (5,⟨1,1,.int .u8,.int .u8 0⟩),
 (9,⟨1,16,.str,.str []⟩),
 (22,⟨1,24,.slice 5,.slice 1 .nil []⟩),
 (23,⟨1,24,.slice 61,.slice 5 .nil []⟩),
 (24,⟨1,24,.slice 23,.slice 1 .nil []⟩),
 (25,⟨1,24,.slice 104,.slice 2 .nil []⟩),
 (26,⟨1,24,.slice 106,.slice 2 .nil []⟩),
 (28,⟨5,104,.struct [(0,3),(1,23),(2,24),(3,25),(4,26)],.agg [.int .i64 0,.slice 5 .nil [],.slice 1 .nil [],.slice 2 .nil [],.slice 2 .nil []]⟩),
 (30,⟨1,24,.slice 32,.slice 4 .nil []⟩),
 (32,⟨4,56,.struct [(0,3),(1,3),(2,9),(3,30)],.agg [.int .i64 0,.int .i64 0,.str [],.slice 4 .nil []]⟩),
 (145,⟨1,24,.slice 9,.slice 1 .nil []⟩),
 (162,⟨3,40,.struct [(0,22),(1,3),(2,3)],.agg [.slice 1 .nil [],.int .i64 0,.int .i64 0]⟩)]
theorem o8:fA az o7=true:=by kernel_rfl
theorem agN:cc o7 OI aid 3 Tryz.f10=true:=by kernel_rfl
theorem aap:az.funcs[(10:Nat)]? =some Tryz.f10:=Tryz.func10
theorem agO:cc o7 OJ UZ 4 Tryz.f11=true:=by kernel_rfl
theorem aaq:az.funcs[(11:Nat)]? =some Tryz.f11:=Tryz.func11
theorem agM:cc o7 OH aic 2 Tryz.f15=true:=by kernel_rfl
theorem aao:az.funcs[(15:Nat)]? =some Tryz.f15:=Tryz.func15
theorem ahk:cc o7 Pf Lu 3 Tryz.f44=true:=by kernel_rfl
theorem aaW:az.funcs[(44:Nat)]? =some Tryz.f44:=Tryz.func44
theorem ahl:cc o7 Pg Vd 2 Tryz.f45=true:=by kernel_rfl
theorem aaX:az.funcs[(45:Nat)]? =some Tryz.f45:=Tryz.func45
theorem agX:cc o7 OS FZ 3 Tryz.f46=true:=by kernel_rfl
theorem aaz:az.funcs[(46:Nat)]? =some Tryz.f46:=Tryz.func46
theorem T6:cc o7 HL Lk 1 Tryz.f53=true:=by kernel_rfl
theorem Qc:az.funcs[(53:Nat)]? =some Tryz.f53:=Tryz.func53
theorem agR:cc o7 OM Lj 2 Tryz.f110=true:=by kernel_rfl
theorem aat:az.funcs[(110:Nat)]? =some Tryz.f110:=Tryz.func110
theorem agU:cc o7 OP U2 2 Tryz.f111=true:=by kernel_rfl
theorem aaw:az.funcs[(111:Nat)]? =some Tryz.f111:=Tryz.func111
theorem agT:cc o7 OO U1 1 Tryz.f113=true:=by kernel_rfl
theorem aav:az.funcs[(113:Nat)]? =some Tryz.f113:=Tryz.func113
theorem agV:cc o7 OQ U3 1 Tryz.f115=true:=by kernel_rfl
theorem aax:az.funcs[(115:Nat)]? =some Tryz.f115:=Tryz.func115
theorem ag5:cc o7 O0 U9 1 Tryz.f184=true:=by kernel_rfl
theorem aaH:az.funcs[(184:Nat)]? =some Tryz.f184:=Tryz.func184
theorem ag0:cc o7 OV U5 1 Tryz.f192=true:=by kernel_rfl
theorem aaC:az.funcs[(192:Nat)]? =some Tryz.f192:=Tryz.func192
end Go.Proofs.YtohaalphocaebaaGreat
namespace Go.Pv
open Go
inductive bQ where
 |mk (kind n:Int) (name:List cV) (args:List bQ)
def bQ.kind:bQ→Int| .mk k _ _ _=>k
def bQ.num:bQ→Int| .mk _ n _ _=>n
def bQ.name:bQ→List cV| .mk _ _ s _=>s
def bQ.args:bQ→List bQ| .mk _ _ _ a=>a
mutual
def enc:bQ→ai
 | .mk k n s a=>.agg [.int .i64 k,.int .i64 n,.str s,.slice 4 .no (qa a)]
def qa:List bQ→List ai
 |[]=>[]
 |x::xs=>enc x::qa xs
end
theorem D1:∀l,qa l=l.map enc
 |[]=>rfl
 |x::xs=>by simp[qa,D1 xs]
theorem wA(t:bQ):enc t= .agg [.int .i64 t.kind,.int .i64 t.num,.str t.name,.slice 4 .no (t.args.map enc)]:=by cases t;simp[enc,D1,bQ.kind,bQ.num,bQ.name,bQ.args]
mutual
theorem S2(S:aH→Prop):∀t:bQ,aF S (enc t)
 | .mk k n s a=>by simp[enc,aF,aO,J2 S a]
theorem J2(S:aH→Prop):∀l:List bQ,aO S (qa l)
 |[]=>by simp[qa,aO]
 |x::xs=>by simp[qa,aO,S2 S x,J2 S xs]
end
mutual
theorem VU:∀t:bQ,dO (enc t)=enc t
 | .mk k n s a=>by simp[enc,dO,df,L6 a]
theorem L6:∀l:List bQ,df (qa l)=qa l
 |[]=>by simp[qa,df]
 |x::xs=>by simp[qa,df,VU x,L6 xs]
end
@[simp] theorem ane(S:aH→Prop)(t:bQ):aF S (enc t)=True:=eq_true (S2 S t)
@[simp] theorem am4(S:aH→Prop)(l:List bQ):aO S (l.map enc)=True:=by rw[←D1];exact eq_true (J2 S l)
theorem ajk(l:List bQ):df (l.map enc)=l.map enc:=by rw[←D1];exact L6 l
attribute [simp] VU ajk
@[simp] theorem apd(t:bQ):eE (enc t)=true:=by rw[wA];rfl
@[simp] theorem als(t:bQ):cells (enc t)=[.int .i64 t.kind,.int .i64 t.num,.str t.name,.slice 4 .no (t.args.map enc)]:=by rw[wA];rfl
@[simp] theorem akQ(t:bQ):ai.agg [.int .i64 t.kind,.int .i64 t.num,.str t.name,.slice 4 .no (t.args.map enc)]=enc t:=(wA t).symm
@[simp] theorem al4(off:Nat)(eW:Bool)(sz:Nat)(t:bQ):qY off eW sz (enc t)=if eW then some (off+sz≤4,.agg (([.int .i64 t.kind,.int .i64 t.num,.str t.name,.slice 4 .no (t.args.map enc)].drop off).take sz))else(([.int .i64 t.kind,.int .i64 t.num,.str t.name,.slice 4 .no (t.args.map enc)]:List ai)[off]?).map fun p=>(True,p):=by rw[wA];rfl
@[simp] theorem alU(off:Nat)(eW:Bool)(sz:Nat)(t:bQ):po off eW sz (.eptr (enc t))=if eW then some (off+sz≤4,.eptr (.agg (([.int .i64 t.kind,.int .i64 t.num,.str t.name,.slice 4 .no (t.args.map enc)].drop off).take sz)))else(([.int .i64 t.kind,.int .i64 t.num,.str t.name,.slice 4 .no (t.args.map enc)]:List ai)[off]?).map fun p=>(eE p=true∧cells p=[p],.eptr p):=by rw[wA];rfl
@[simp] theorem amO(t:bQ):Pv.isAgg 4 (enc t):=by rw[wA];exact⟨_,rfl,rfl⟩
inductive T where
 |nil
 |var (n:Int)
 |sym (s:List cV)
 |num (n:Int)
 |pair (a b:T)
 deriving DecidableEq,Inhabited
def T.tm:T→bQ
 | .nil=>.mk 0 0 [] []
 | .var n=>.mk 1 n [] []
 | .sym s=>.mk 2 0 s []
 | .num n=>.mk 3 n [] []
 | .pair a b=>.mk 4 0 [] [a.tm,b.tm]
def T.e:T→ai
 | .nil=>.agg [.int .i64 0,.int .i64 0,.str [],.slice 4 .no []]
 | .var n=>.agg [.int .i64 1,.int .i64 n,.str [],.slice 4 .no []]
 | .sym s=>.agg [.int .i64 2,.int .i64 0,.str s,.slice 4 .no []]
 | .num n=>.agg [.int .i64 3,.int .i64 n,.str [],.slice 4 .no []]
 | .pair a b=>.agg [.int .i64 4,.int .i64 0,.str [],.slice 4 .no [a.e,b.e]]
theorem qT:∀t:T,enc t.tm=t.e
 | .nil| .var _| .sym _| .num _=>rfl
 | .pair a b=>by simp[T.tm,enc,qa,T.e,qT a,qT b]
def T.kind:T→Int
 | .nil=>0| .var _=>1| .sym _=>2| .num _=>3| .pair _ _=>4
def T.int:T→Int
 | .var n=>n| .num n=>n|_=>0
def T.name:T→List cV
 | .sym s=>s|_=>[]
def T.args:T→List T
 | .pair a b=>[a,b]|_=>[]
theorem T.e_eq(t:T):t.e= .agg [.int .i64 t.kind,.int .i64 t.int,.str t.name,.slice 4 .no (t.args.map T.e)]:=by cases t<;>rfl
@[simp] theorem akP(t:T):ai.agg [.int .i64 t.kind,.int .i64 t.int,.str t.name,.slice 4 .no (t.args.map T.e)]=t.e:=(T.e_eq t).symm
@[simp] theorem akR:ai.agg [.int .i64 0,.int .i64 0,.str [],.slice 4 .no []]=T.nil.e:=rfl
@[simp] theorem akV(n:Int):ai.agg [.int .i64 1,.int .i64 n,.str [],.slice 4 .no []]=(T.var n).e:=rfl
@[simp] theorem akU(s:List cV):ai.agg [.int .i64 2,.int .i64 0,.str s,.slice 4 .no []]=(T.sym s).e:=rfl
@[simp] theorem akS(n:Int):ai.agg [.int .i64 3,.int .i64 n,.str [],.slice 4 .no []]=(T.num n).e:=rfl
@[simp] theorem akT(a b:T):ai.agg [.int .i64 4,.int .i64 0,.str [],.slice 4 .no [a.e,b.e]]=(T.pair a b).e:=rfl
@[simp] theorem al3(off:Nat)(eW:Bool)(sz:Nat)(t:T):qY off eW sz t.e=if eW then some (off+sz≤4,.agg (([.int .i64 t.kind,.int .i64 t.int,.str t.name,.slice 4 .no (t.args.map T.e)].drop off).take sz))else(([.int .i64 t.kind,.int .i64 t.int,.str t.name,.slice 4 .no (t.args.map T.e)]:List ai)[off]?).map fun p=>(True,p):=by rw[T.e_eq];rfl
@[simp] theorem alT(off:Nat)(eW:Bool)(sz:Nat)(t:T):po off eW sz (.eptr t.e)=if eW then some (off+sz≤4,.eptr (.agg (([.int .i64 t.kind,.int .i64 t.int,.str t.name,.slice 4 .no (t.args.map T.e)].drop off).take sz)))else(([.int .i64 t.kind,.int .i64 t.int,.str t.name,.slice 4 .no (t.args.map T.e)]:List ai)[off]?).map fun p=>(eE p=true∧cells p=[p],.eptr p):=by rw[T.e_eq];rfl
@[simp] theorem aeF:(T.nil).kind=0:=rfl
@[simp] theorem ad8:(T.nil).int=0:=rfl
@[simp] theorem afu:(T.nil).name=[]:=rfl
@[simp] theorem XC:(T.nil).args=[]:=rfl
@[simp] theorem aeJ(n:Int):(T.var n).kind=1:=rfl
@[simp] theorem aec(n:Int):(T.var n).int=n:=rfl
@[simp] theorem afy(n:Int):(T.var n).name=[]:=rfl
@[simp] theorem XG(n:Int):(T.var n).args=[]:=rfl
@[simp] theorem aeI(s:List cV):(T.sym s).kind=2:=rfl
@[simp] theorem aeb(s:List cV):(T.sym s).int=0:=rfl
@[simp] theorem afx(s:List cV):(T.sym s).name=s:=rfl
@[simp] theorem XF(s:List cV):(T.sym s).args=[]:=rfl
@[simp] theorem aeG(n:Int):(T.num n).kind=3:=rfl
@[simp] theorem ad9(n:Int):(T.num n).int=n:=rfl
@[simp] theorem afv(n:Int):(T.num n).name=[]:=rfl
@[simp] theorem XD(n:Int):(T.num n).args=[]:=rfl
@[simp] theorem aeH(a b:T):(T.pair a b).kind=4:=rfl
@[simp] theorem aea(a b:T):(T.pair a b).int=0:=rfl
@[simp] theorem afw(a b:T):(T.pair a b).name=[]:=rfl
@[simp] theorem XE(a b:T):(T.pair a b).args=[a,b]:=rfl
@[simp] theorem anc(S:aH→Prop)(t:T):aF S t.e=True:=by rw[←qT];simp
@[simp] theorem apz(t:T):dO t.e=t.e:=by rw[←qT];simp
theorem SX(S:aH→Prop):∀l:List T,aO S (l.map T.e)
 |[]=>by simp[aO]
 |x::xs=>by simp[aO,SX S xs]
@[simp] theorem SV(S:aH→Prop)(l:List T):aO S (l.map T.e)=True:=eq_true (SX S l)
@[simp] theorem ajj:∀l:List T,df (l.map T.e)=l.map T.e
 |[]=>rfl
 |x::xs=>by simp[df,ajj xs]
@[simp] theorem apc(t:T):eE t.e=true:=by rw[T.e_eq];rfl
@[simp] theorem alr(t:T):cells t.e=[.int .i64 t.kind,.int .i64 t.int,.str t.name,.slice 4 .no (t.args.map T.e)]:=by rw[T.e_eq];rfl
@[simp] theorem amN(t:T):Pv.isAgg 4 t.e:=by rw[T.e_eq];exact⟨_,rfl,rfl⟩
def T.size:T→Nat
 | .pair a b=>1+a.size+b.size
 |_=>1
theorem T.size_pos(t:T):1≤t.size:=by cases t<;>simp[T.size]<;>omega
def low(b:cV):Bool:=decide (97≤b.toNat∧b.toNat≤122)
def l6(b:cV):Bool:=low b||decide (48≤b.toNat∧b.toNat≤57)||b.toNat==45
def iB(s:List cV):Bool:=decide (1≤s.length∧s.length≤12)&&low (s.getD 0 0)&&(s.drop 1).all l6
def T.ok:T→Bool
 | .nil=>true
 | .var n=>decide (0≤n∧n≤100000)
 | .sym s=>iB s
 | .num n=>decide (-1000000000≤n∧n≤1000000000)
 | .pair a b=>a.ok&&b.ok
def kY(k n:Int)(s:List cV):Bool:=if k=0 then n==0&&s==[]else if k=1 then decide (0≤n∧n≤100000)&&s==[]else if k=2 then n==0&&iB s else if k=3 then decide (-1000000000≤n∧n≤1000000000)&&s==[]else false
def fi:bQ→Int→Int
 | .mk k n s [a,b],room=>if room<1∨k≠4∨n≠0∨s≠[]then-1 else if fi a (room-1)<0 then-1 else if fi b (room-1-fi a (room-1))<0 then-1 else 1+fi a (room-1)+fi b (room-1-fi a (room-1))
 | .mk k n s args,room=>if room<1∨k=4∨args≠[]∨kY k n s=false then-1 else 1
theorem Kz(k n:Int)(s:List cV)(args:List bQ)(room:Int):fi (.mk k n s args) room=if room<1 then-1 else if k≠4 then(if args≠[]then-1 else if kY k n s then 1 else-1)else if n≠0∨s≠[]then-1 else match args with
  |[a,b]=>if fi a (room-1)<0 then-1 else if fi b (room-1-fi a (room-1))<0 then-1 else 1+fi a (room-1)+fi b (room-1-fi a (room-1))
  |_=> -1:=by
 match args with
 |[]=>simp only[fi];by_cases J:room<1<;>by_cases U:k=4<;>by_cases ao:kY k n s=true<;>simp[J,U,ao]
 |[a]=>simp[fi]
 |[a,b]=>simp only[fi];by_cases J:room<1<;>by_cases U:k=4<;>simp[J,U]
 |a::b::c::r=>simp[fi]
theorem FA:∀(t:T) (room:Int),fi t.tm room=if t.ok=true∧(t.size:Int)≤room then(t.size:Int)else-1
 | .nil,room=>by simp[T.tm,fi,T.ok,T.size,kY];split<;>rename_i h<;>simp_all<;>omega
 | .var n,room=>by simp[T.tm,fi,T.ok,T.size,kY];split<;>split<;>simp_all<;>omega
 | .sym s,room=>by simp[T.tm,fi,T.ok,T.size,kY];by_cases J:room<1<;>by_cases U:iB s=true<;>simp[J,U]<;>omega
 | .num n,room=>by simp[T.tm,fi,T.ok,T.size,kY];split<;>split<;>simp_all<;>omega
 | .pair a b,room=>by
  have br:=a.size_pos;have ae:=b.size_pos;simp only[T.tm,fi,FA a,FA b,T.ok,T.size,cx];by_cases J:room<1
  ·simp[J];omega
  ·by_cases U:a.ok=true∧(a.size:Int)≤room-1
   ·rw[if_pos U];by_cases ao:b.ok=true∧(b.size:Int)≤room-1-a.size
    ·rw[if_pos ao];simp[J,U.1,ao.1];split<;>omega
    ·rw[if_neg ao];simp[J,U.1];intro lb;have:=ao;simp[lb]at this;omega
   ·rw[if_neg U];simp[J];intro kT;have:=U;simp[kT]at this;omega
theorem Ce:∀(t:bQ) (room:Int),fi t room= -1∨1≤fi t room
 | .mk k n s [a,b],room=>by
  simp only[fi];split
  ·exact .inl rfl
  ·split
   ·exact .inl rfl
   ·split
    ·exact .inl rfl
    ·right;omega
 | .mk k n s [],room=>by simp only[fi];split<;>simp
 | .mk k n s [a],room=>by simp[fi]
 | .mk k n s (a::b::c::r),room=>by simp[fi]
theorem KB:∀(t:bQ) (room:Int),0<fi t room→∃x:T,x.tm=t
 | .mk k n s [a,b],room,h=>by
  simp only[fi]at h;split at h
  ·omega
  ·rename_i J;simp only[not_or,Int.not_lt,ne_eq,apN]at J;obtain⟨J,rfl,rfl,rfl⟩:=J;split at h
   ·omega
   ·split at h
    ·omega
    ·obtain⟨x,rfl⟩:=KB a (room-1) (by rcases Ce a (room-1)with h|h<;>omega);obtain⟨y,rfl⟩:=KB b (room-1-fi x.tm (room-1)) (by rcases Ce b (room-1-fi x.tm (room-1))with h|h<;>omega);exact⟨.pair x y,rfl⟩
 | .mk k n s [],room,h=>by
  simp only[fi]at h;split at h
  ·omega
  ·rename_i J;simp only[not_or,ne_eq,not_true_eq_false,not_false_eq_true,true_and,Bool.not_eq_false]at J;obtain⟨_,_,J⟩:=J;unfold kY at J;split at J
   ·rename_i e;subst e;simp at J;obtain⟨rfl,rfl⟩:=J;exact⟨.nil,rfl⟩
   ·split at J
    ·rename_i e;subst e;simp at J;obtain⟨_,rfl⟩:=J;exact⟨.var n,rfl⟩
    ·split at J
     ·rename_i e;subst e;simp at J;obtain⟨rfl,_⟩:=J;exact⟨.sym s,rfl⟩
     ·split at J
      ·rename_i e;subst e;simp at J;obtain⟨_,rfl⟩:=J;exact⟨.num n,rfl⟩
      ·cases J
 | .mk k n s [a],room,h=>by simp[fi]at h
 | .mk k n s (a::b::c::r),room,h=>by simp[fi]at h
theorem KA:∀(t:bQ) (room:Int),fi t room≤room∨fi t room= -1
 | .mk k n s [a,b],room=>by
  simp only[fi];split
  ·exact .inr rfl
  ·split
   ·exact .inr rfl
   ·split
    ·exact .inr rfl
    ·rcases KA b (room-1-fi a (room-1))with h|h<;>omega
 | .mk k n s [],room=>by simp only[fi];split<;>simp;rename_i h;omega
 | .mk k n s [a],room=>by simp[fi]
 | .mk k n s (a::b::c::r),room=>by simp[fi]
mutual
def bQ.sz:bQ→Nat
 | .mk _ _ _ a=>1+bQ.szL a
def bQ.szL:List bQ→Nat
 |[]=>0
 |x::xs=>x.sz+bQ.szL xs
end
theorem VW:∀{l:List bQ} {x:bQ},x∈l→x.sz≤bQ.szL l
 |y::l,x,h=>by
  rcases ga.1 h with rfl|h
  ·simp[bQ.szL]
  ·have:=VW h;simp[bQ.szL];omega
theorem ajo{t x:bQ}(h:x∈t.args):x.sz<t.sz:=by cases t;simp[bQ.args]at h;have:=VW h;simp[bQ.sz];omega
def T.fit(t:T):Bool:=t.ok&&decide (t.size≤5000)
def bQ.fits(t:bQ):Bool:=decide (0<fi t 5000)
theorem bQ.fits_T(t:T):t.tm.fits=t.fit:=by
 unfold bQ.fits T.fit;rw[FA];have:=t.size_pos;by_cases J:t.ok=true<;>by_cases U:t.size≤5000
 ·rw[if_pos ⟨J,by omega⟩];simp[J,U];omega
 ·rw[if_neg (by omega)];simp[U]
 ·rw[if_neg (by simp[J])];simp[J]
 ·rw[if_neg (by simp[J])];simp[J]
theorem bQ.fits_ex{t:bQ}(h:t.fits=true):∃x:T,x.tm=t∧x.fit=true:=by obtain⟨x,rfl⟩:=KB t 5000 (by simpa[bQ.fits]using h);exact⟨x,rfl,by rw[←bQ.fits_T];exact h⟩
structure al where
 v:Int
 t:T
 deriving DecidableEq,Inhabited
def al.e(b:al):ai:= .agg [.int .i64 b.v,.int .i64 b.t.kind,.int .i64 b.t.int,.str b.t.name,.slice 4 .no (b.t.args.map T.e)]
@[simp] theorem al.eta(b:al):al.mk b.v b.t=b:=rfl
@[simp] theorem MY(v:Int)(t:T):ai.agg [.int .i64 v,.int .i64 t.kind,.int .i64 t.int,.str t.name,.slice 4 .no (t.args.map T.e)]=(al.mk v t).e:=rfl
@[simp] theorem akK(v:Int):ai.agg [.int .i64 v,.int .i64 0,.int .i64 0,.str [],.slice 4 .no []]=(al.mk v .nil).e:=rfl
@[simp] theorem akO(v n:Int):ai.agg [.int .i64 v,.int .i64 1,.int .i64 n,.str [],.slice 4 .no []]=(al.mk v (.var n)).e:=rfl
@[simp] theorem akN(v:Int)(s:List cV):ai.agg [.int .i64 v,.int .i64 2,.int .i64 0,.str s,.slice 4 .no []]=(al.mk v (.sym s)).e:=rfl
@[simp] theorem akL(v n:Int):ai.agg [.int .i64 v,.int .i64 3,.int .i64 n,.str [],.slice 4 .no []]=(al.mk v (.num n)).e:=rfl
@[simp] theorem akM(v:Int)(a b:T):ai.agg [.int .i64 v,.int .i64 4,.int .i64 0,.str [],.slice 4 .no [a.e,b.e]]=(al.mk v (.pair a b)).e:=rfl
@[simp] theorem am8(S:aH→Prop)(b:al):aF S b.e=True:=by simp[al.e,-MY]
@[simp] theorem apu(b:al):dO b.e=b.e:=by simp[al.e,-MY]
theorem SR(S:aH→Prop):∀l:List al,aO S (l.map al.e)
 |[]=>by simp[aO]
 |x::xs=>by simp[aO,SR S xs]
@[simp] theorem am1(S:aH→Prop)(l:List al):aO S (l.map al.e)=True:=eq_true (SR S l)
@[simp] theorem VT:∀l:List al,df (l.map al.e)=l.map al.e
 |[]=>rfl
 |x::xs=>by simp[df,VT xs]
@[simp] theorem ao4(b:al):eE b.e=true:=rfl
@[simp] theorem alm(b:al):cells b.e=[.int .i64 b.v,.int .i64 b.t.kind,.int .i64 b.t.int,.str b.t.name,.slice 4 .no (b.t.args.map T.e)]:=rfl
@[simp] theorem amL(b:al):Pv.isAgg 5 b.e:=⟨_,rfl,rfl⟩
@[simp] theorem al1(off:Nat)(eW:Bool)(sz:Nat)(b:al):qY off eW sz b.e=if eW then some (off+sz≤5,.agg (([.int .i64 b.v,.int .i64 b.t.kind,.int .i64 b.t.int,.str b.t.name,.slice 4 .no (b.t.args.map T.e)].drop off).take sz))else(([.int .i64 b.v,.int .i64 b.t.kind,.int .i64 b.t.int,.str b.t.name,.slice 4 .no (b.t.args.map T.e)]:List ai)[off]?).map fun p=>(True,p):=rfl
@[simp] theorem alR(off:Nat)(eW:Bool)(sz:Nat)(b:al):po off eW sz (.eptr b.e)=if eW then some (off+sz≤5,.eptr (.agg (([.int .i64 b.v,.int .i64 b.t.kind,.int .i64 b.t.int,.str b.t.name,.slice 4 .no (b.t.args.map T.e)].drop off).take sz)))else(([.int .i64 b.v,.int .i64 b.t.kind,.int .i64 b.t.int,.str b.t.name,.slice 4 .no (b.t.args.map T.e)]:List ai)[off]?).map fun p=>(eE p=true∧cells p=[p],.eptr p):=rfl
def T.occ(v:Int):T→Bool
 | .var n=>n==v
 | .pair a b=>a.occ v||b.occ v
 |_=>false
def ek(a b:Int):Int:=if a<b then-1 else if b<a then 1 else 0
def kn(a b:List cV):Int:=if a=b then 0 else if gZ a b then-1 else 1
def ei:T→T→Int
 | .pair a b,.pair c d=>if ei a c=0 then ei b d else ei a c
 |x,y=>if x.kind≠y.kind then ek x.kind y.kind else if x.int≠y.int then ek x.int y.int else kn x.name y.name
structure dU where
 v:Int
 t:bQ
def dU.e(b:dU):ai:= .agg [.int .i64 b.v,.int .i64 b.t.kind,.int .i64 b.t.num,.str b.t.name,.slice 4 .no (b.t.args.map enc)]
def al.b(b:al):dU:=⟨b.v,b.t.tm⟩
theorem al.b_e(b:al):b.b.e=b.e:=by obtain⟨v,t⟩:=b;cases t<;>simp only[al.b,dU.e,al.e,T.tm,bQ.kind,bQ.num,bQ.name,bQ.args,qT,aeF,aeJ,aeI,aeG,aeH,ad8,aec,aeb,ad9,aea,afu,afy,afx,afv,afw,XC,XG,XF,XD,XE,gI,mj]
@[simp] theorem dU.eta(b:dU):dU.mk b.v b.t=b:=rfl
@[simp] theorem MZ(v:Int)(t:bQ):ai.agg [.int .i64 v,.int .i64 t.kind,.int .i64 t.num,.str t.name,.slice 4 .no (t.args.map enc)]=(dU.mk v t).e:=rfl
@[simp] theorem am9(S:aH→Prop)(b:dU):aF S b.e=True:=by simp[dU.e,-MZ]
@[simp] theorem apv(b:dU):dO b.e=b.e:=by simp[dU.e,-MZ]
theorem SU(S:aH→Prop):∀l:List dU,aO S (l.map dU.e)
 |[]=>by simp[aO]
 |x::xs=>by simp[aO,SU S xs]
@[simp] theorem am2(S:aH→Prop)(l:List dU):aO S (l.map dU.e)=True:=eq_true (SU S l)
@[simp] theorem aji:∀l:List dU,df (l.map dU.e)=l.map dU.e
 |[]=>rfl
 |x::xs=>by simp[df,aji xs]
@[simp] theorem ao6(b:dU):eE b.e=true:=rfl
@[simp] theorem alo(b:dU):cells b.e=[.int .i64 b.v,.int .i64 b.t.kind,.int .i64 b.t.num,.str b.t.name,.slice 4 .no (b.t.args.map enc)]:=rfl
@[simp] theorem amM(b:dU):Pv.isAgg 5 b.e:=⟨_,rfl,rfl⟩
@[simp] theorem al2(off:Nat)(eW:Bool)(sz:Nat)(b:dU):qY off eW sz b.e=if eW then some (off+sz≤5,.agg (([.int .i64 b.v,.int .i64 b.t.kind,.int .i64 b.t.num,.str b.t.name,.slice 4 .no (b.t.args.map enc)].drop off).take sz))else(([.int .i64 b.v,.int .i64 b.t.kind,.int .i64 b.t.num,.str b.t.name,.slice 4 .no (b.t.args.map enc)]:List ai)[off]?).map fun p=>(True,p):=rfl
@[simp] theorem alS(off:Nat)(eW:Bool)(sz:Nat)(b:dU):po off eW sz (.eptr b.e)=if eW then some (off+sz≤5,.eptr (.agg (([.int .i64 b.v,.int .i64 b.t.kind,.int .i64 b.t.num,.str b.t.name,.slice 4 .no (b.t.args.map enc)].drop off).take sz)))else(([.int .i64 b.v,.int .i64 b.t.kind,.int .i64 b.t.num,.str b.t.name,.slice 4 .no (b.t.args.map enc)]:List ai)[off]?).map fun p=>(eE p=true∧cells p=[p],.eptr p):=rfl
def zA(l:List dU)(i:Nat):Prop:= ∀b,l[i]? =some b→(0≤b.v∧b.v≤100000)∧(∀c,0<i→l[i-1]? =some c→c.v<b.v)∧b.t.fits=true
def x4(l:List dU):Prop:=l.length≤400∧∀i,i<l.length→zA l i
theorem qx:∀a b:T,ei a b=0↔a=b
 | .pair a b,.pair c d=>by
  simp only[ei,T.pair.injEq];split
  ·rename_i h;rw[qx b d,←qx a c];simp[h]
  ·rename_i h;simp[h,←qx a c]
 | .nil,y=>by cases y<;>simp[ei,ek,kn]
 | .var n,y=>by cases y<;>simp[ei,ek,kn]<;>omega
 | .sym s,y=>by cases y<;>simp[ei,ek,kn];rename_i ah;by_cases h:s=ah<;>simp[h];by_cases U:gZ s ah=true<;>simp[U]
 | .num n,y=>by cases y<;>simp[ei,ek,kn]<;>omega
 | .pair a b,.nil| .pair a b,.var _| .pair a b,.sym _| .pair a b,.num _=>by simp[ei,ek]
def T.sub(f:Int→Option T):T→T
 | .var n=>match f n with|some x=>x|none=>.var n
 | .pair a b=>.pair (a.sub f) (b.sub f)
 |t=>t
def kZ(f:Int→Int):T→Int
 | .var n=>if 5001<f n then 5001 else f n
 | .pair a b=>if 5000<kZ f a then kZ f a else if 5001<1+kZ f a+kZ f b then 5001 else 1+kZ f a+kZ f b
 |_=>1
theorem Gt(f:Int→Int)(aQ:∀v,-1≤f v):∀t,-1≤kZ f t∧kZ f t≤5001
 | .var n=>by have:=aQ n;simp only[kZ];split<;>omega
 | .pair a b=>by have:=Gt f aQ a;have:=Gt f aQ b;simp only[kZ];split<;>(try split)<;>omega
 | .nil| .sym _| .num _=>by simp[kZ]
def c0(l:List al)(v:Int):Option T:=(l.find? fun b=>b.v==v).map (·.t)
end Go.Pv
namespace Go.Proofs.YtohaalphocaebaaGreat
open Go Go.Pv
structure dF where
 d:List Int
 i:Nat
 h:Int
def hs(d:List Int):List ai:=d.map (ai.int .u8)
def dF.e(c:dF):List ai:=[.slice 1 .no (hs c.d),.int .i64 c.i,.int .i64 c.h]
def bC(c:dF):cF:=⟨[(.obj 401,c.e)],[]⟩
@[simp] theorem amW(S:aH→Prop)(d:List Int):aO S (hs d)=True:=by
 apply eq_true;induction d with
 |nil=>simp[-cb,-bY,hs,aO]
 |cons x r bW=>simp only[hs,gI,aO,aF]at bW⊢;exact⟨trivial,bW⟩
@[simp] theorem apw(d:List Int):df (hs d)=hs d:=by
 induction d with
 |nil=>rfl
 |cons x r bW=>simp only[hs,gI,df,dO]at bW⊢;rw[bW]
@[simp] theorem alh(d:List Int):(hs d).length=d.length:=by simp[-cb,-bY,hs]
theorem Hr{d:List Int}{i:Nat}{x:Int}(h:d[i]? =some x):(hs d)[i]? =some (.int .u8 x):=by simp[-cb,-bY,hs,h]
theorem dM(c:dF):dG (bC c):=by unfold bC;exact dG.of ⟨by intro m;simp[-cb,-bY,Pv.look],by intro m;simp[-cb,-bY,Pv.look]⟩ (by simp[-cb,-bY,dF.e,aO,aF]) (by simp[-cb,-bY])
theorem fJ(c cd:dF):Same (bC c) (bC cd):=by refine⟨fun k=>?_,fun k=>rfl⟩;simp only[bC,Pv.look];split<;>rfl
def qQ(d:List Int):Prop:= ∀x∈d,0≤x∧x<256
def zw(h:Int):Int:=mi.wrap (mi.wrap (h*6364136223846793005)+1442695040888963407)
def wo(k:IntKind)(a b:Int):Int:=k.wrap (lz k.bits a&&& lz k.bits b).toNat
def WW(k:IntKind)(a b:Int):Int:=k.wrap (lz k.bits a ^^^ lz k.bits b).toNat
def LY(k:IntKind)(a b:Int):Int:=a.fdiv (2 ^ (min b.toNat k.bits))
section
variable (a b:Int)
@[simp] theorem akZ:bY .add false (.int .i64 a) (.int .i64 b)=some (n7 (a+b),.int .i64 (a+b)):=by unfold bY cb;simp[-cb,-bY]
@[simp] theorem ak0:bY .add true (.int .i64 a) (.int .i64 b)=some (True,.int .i64 (mi.wrap (a+b))):=rfl
@[simp] theorem ald:bY .sub false (.int .i64 a) (.int .i64 b)=some (n7 (a-b),.int .i64 (a-b)):=by unfold bY cb;simp[-cb,-bY]
@[simp] theorem ak7:bY .mul false (.int .i64 a) (.int .i64 b)=some (n7 (a*b),.int .i64 (a*b)):=by unfold bY cb;simp[-cb,-bY]
@[simp] theorem ak8:bY .mul true (.int .i64 a) (.int .i64 b)=some (True,.int .i64 (mi.wrap (a*b))):=rfl
@[simp] theorem ala:bY .quo false (.int .i64 a) (.int .i64 b)=some (b≠0,.int .i64 (mi.wrap (a.tdiv b))):=rfl
@[simp] theorem alb:bY .rem false (.int .i64 a) (.int .i64 b)=some (b≠0,.int .i64 (a.tmod b)):=rfl
@[simp] theorem ak2:bY .eql false (.int .i64 a) (.int .i64 b)=some (True,.bool (a==b)):=rfl
@[simp] theorem ak9:bY .neq false (.int .i64 a) (.int .i64 b)=some (True,.bool (a !=b)):=rfl
@[simp] theorem ak6:bY .lss false (.int .i64 a) (.int .i64 b)=some (True,.bool (decide (a<b))):=rfl
@[simp] theorem ak5:bY .leq false (.int .i64 a) (.int .i64 b)=some (True,.bool (decide (a≤b))):=rfl
@[simp] theorem ak4:bY .gtr false (.int .i64 a) (.int .i64 b)=some (True,.bool (decide (b<a))):=rfl
@[simp] theorem ak3:bY .geq false (.int .i64 a) (.int .i64 b)=some (True,.bool (decide (b≤a))):=rfl
@[simp] theorem ak1:bY .and false (.int .i64 a) (.int .i64 b)=some (True,.int .i64 (wo .i64 a b)):=rfl
@[simp] theorem ale:bY .xor false (.int .i64 a) (.int .i64 b)=some (True,.int .i64 (WW .i64 a b)):=rfl
@[simp] theorem alc(k:IntKind):bY .shr false (.int .i64 a) (.int k b)=some (0≤b,.int .i64 (LY .i64 a b)):=rfl
end
theorem Hi(x m:Int)(bV:0≤m)(J:m<9223372036854775807):0≤wo .i64 x m∧wo .i64 x m≤m:=by
 have hm:(lz 64 m).toNat=m.toNat:=by rw[BitVec.toNat_ofInt];omega
 have h:(lz 64 x&&& lz 64 m).toNat≤m.toNat:=by rw[BitVec.toNat_and,hm];exact Nat.and_le_right
 unfold wo;rw[show mi.bits=64 from rfl,lR _ (by omega)];omega
def xj(h:Int):Int:=wo .i64 (WW .i64 (LY .i64 h 33) (LY .i64 h 45)) 255
theorem TE(h:Int):0≤xj h∧xj h≤255:=Hi _ _ (by omega) (by omega)
def dF.byte(c:dF):Int:=match c.d[c.i]? with|some x=>wo .i64 (xj (zw c.h)+x) 255|none=>xj (zw c.h)
def dF.next(c:dF):dF:=⟨c.d,if c.i<c.d.length then c.i+1 else c.i,zw c.h⟩
theorem dF.byte_le(c:dF):0≤c.byte∧c.byte≤255:=by
 unfold dF.byte;split
 ·exact Hi _ _ (by omega) (by omega)
 ·exact TE _
structure dF.ok (c:dF):Prop where
 d:qQ c.d
 l:c.d.length≤10000000
 i:c.i≤c.d.length
theorem dF.ok.next{c:dF}(h:c.ok):c.next.ok:=⟨h.d,h.l,by have:=h.i;simp only[dF.next];split<;>omega⟩
set_option maxRecDepth 4000 in
theorem Eb(c:dF)(av:c.ok):bB az 53 [.ptr (.obj 401) 0] (bC c) fun r ah=>r= .int .i64 c.byte∧ah=bC c.next:=by
 have af:=dM c;have fw:=dM c.next;have ev:=fJ c c.next;obtain⟨d,i,h⟩:=c;obtain⟨aK,aq,hi⟩:=av;simp only at aK aq hi;have va:=TE (zw h);simp only[xj]at va;by_cases bq:i<d.length
 ·obtain⟨x,ad⟩:∃x,d[i]? =some x:=⟨_,cv bq⟩;have ka:∀h,(hs d)[i]'h= .int .u8 x:=fun h=>by have:=Hr ad;rw[cv h]at this;simpa using this
  have oT:=aK x (gb ad);have hw:mi.wrap x=x:=lR _ (by omega);simp only[bC,dF.e,dF.next,bq,if_true]at af fw ev⊢;refine bB.mk mixed o8 Qc T6 (by simp[-cb,-bY]) af.obj fun aU cH=>?_;unfold HL;simp[-cb,-bY,bq,ka,hw,←zw.eq_1];(with_reducible repeat' first|((first|apply bI|apply bK|apply bJ)<;>intro h<;>try simp[-cb,-bY]at h)|refine aj ?_|simp[-cb,-bY]);refine cG.at _ (.inl rfl) fw ev aE aE ?_;simp[-cb,-bY,cM,Lk,aV,aY,aT];simp[-cb,-bY,dF.byte,ad,xj]
 ·have ad:d[i]? =none:=by simp[-cb,-bY];omega
  simp only[bC,dF.e,dF.next,bq,if_false]at af fw ev⊢;refine bB.mk mixed o8 Qc T6 (by simp[-cb,-bY]) af.obj fun aU cH=>?_;unfold HL;simp[-cb,-bY,bq,←zw.eq_1];(with_reducible repeat' first|((first|apply bI|apply bK|apply bJ)<;>intro h<;>try simp[-cb,-bY]at h)|refine aj ?_|simp[-cb,-bY]);refine cG.at _ (.inl rfl) fw ev aE aE ?_;simp[-cb,-bY,cM,Lk,aV,aY,aT];simp[-cb,-bY,dF.byte,ad,xj]
end Go.Proofs.YtohaalphocaebaaGreat
namespace Go.Proofs.YtohaalphocaebaaGreat
open Go Go.Pv
def aeh(s:List cV)(k:Nat)(st:bj):Prop:=∃i:Nat,1≤i∧i≤s.length∧k=s.length-i∧((s.drop 1).all l6=(s.drop i).all l6)∧st=⟨[(0,.str s),(3,.int .i64 i)],[],[],0,[]⟩
theorem sW(s:List cV):b7 az 128 [.str s] (.bool (iB s)):=by
 refine b7.mk mixed fs Zn afK (by simp) (by simp[aF]) fun ae=>?_;unfold NA;simp;(with_reducible repeat' first|((first|refine bI (fun h=>?_) fun h=>?_|refine bK (fun h=>?_) fun h=>?_|refine bJ (fun h=>?_) fun h=>?_)<;>try simp at h)|refine aj ?_|simp);case refine_1.refine_1.refine_1.refine_2=>
  have adf:iB s=(s.drop 1).all l6:=by simp[iB,low];omega
  rw[adf];refine nj (aeh s) (s.length-1) _ ⟨by simp,by simp[hQ],by simp[mR],by simp⟩ ⟨1,by omega,by omega,rfl,rfl,rfl⟩ ?_;rintro k st ⟨i,lG,hj,ab,la,rfl⟩ js cH;rw[la];simp;refine bI (fun bq=>?_) (fun u3=>?_)
  ·simp at bq;have aK:s.drop i=s[i]?.getD 0::s.drop (i+1):=by rw[kN bq];simp[bq]
   simp;(with_reducible repeat' first|((first|refine bI (fun h=>?_) fun h=>?_|refine bK (fun h=>?_) fun h=>?_|refine bJ (fun h=>?_) fun h=>?_)<;>try simp at h)|refine aj ?_|simp);all_goals first
    |(simp[bz,FO,aV,aY,aT,aK,l6,low];omega)
    |(simp only[De];refine⟨s.length-(i+1),_,by omega,⟨by simp,by simp[hQ],by simp[mR],by simp⟩,i+1,by omega,by omega,rfl,?_,rfl⟩;rw[la,aK];simp[l6,low];omega)
  ·simp at u3;have:s.drop i=[]:=by simp;omega
   simp[bz,FO,aV,aY,aT,this]
 all_goals simp[bz,FO,aV,aY,aT,iB,low]
 all_goals omega
theorem WE(m:Nat):∀(t:bQ),t.sz≤m→∀(room:Int),0≤room∧room≤10000→b7 az 194 [enc t,.int .i64 room] (.int .i64 (fi t room)):=by
 induction m with
 |zero=>intro t aN;cases t;simp[bQ.sz]at aN
 |succ m bW=>
 rintro⟨k,n,s,args⟩ aN room ri;refine bE fs ZR age fun aU=>?_;unfold N5;simp[bQ.kind,bQ.num,bQ.name,bQ.args];(with_reducible repeat' first|((first|refine bI (fun h=>?_) fun h=>?_|refine bK (fun h=>?_) fun h=>?_|refine bJ (fun h=>?_) fun h=>?_)<;>try simp at h)|refine aj ?_|simp);all_goals try refine cD.val (by simp) (sW _) ?_
 all_goals try simp
 (with_reducible repeat' first|((first|refine bI (fun h=>?_) fun h=>?_|refine bK (fun h=>?_) fun h=>?_|refine bJ (fun h=>?_) fun h=>?_)<;>try simp at h)|refine aj ?_|simp);all_goals try simp[bz,FV,aV,aY,aT]
 case succ.refine_2.refine_2.refine_1.refine_1.refine_2=>
  rename_i bV J U ao;match args,h with
  |[a,b],_=>
  simp[bQ.sz,bQ.szL]at aN;subst J U ao;simp;(with_reducible repeat' first|((first|refine bI (fun h=>?_) fun h=>?_|refine bK (fun h=>?_) fun h=>?_|refine bJ (fun h=>?_) fun h=>?_)<;>try simp at h)|refine aj ?_|simp);refine cD.val (by simp) (bW a (by omega) (room-1) (by omega)) ?_;simp;have br:=KA a (room-1);have my:=Ce a (room-1);(with_reducible repeat' first|((first|refine bI (fun h=>?_) fun h=>?_|refine bK (fun h=>?_) fun h=>?_|refine bJ (fun h=>?_) fun h=>?_)<;>try simp at h)|refine aj ?_|simp)
  ·simp[bz,FV,aV,aY,aT];rw[Kz];simp;omega
  ·refine cD.val (by simp) (bW b (by omega) (room-1-fi a (room-1)) (by omega)) ?_;simp;have ae:=KA b (room-1-fi a (room-1));have gz:=Ce b (room-1-fi a (room-1));(with_reducible repeat' first|((first|refine bI (fun h=>?_) fun h=>?_|refine bK (fun h=>?_) fun h=>?_|refine bJ (fun h=>?_) fun h=>?_)<;>try simp at h)|refine aj ?_|simp);all_goals simp[bz,FV,aV,aY,aT]
   all_goals rw[Kz];simp;omega
 all_goals rw[Kz]
 all_goals simp_all[kY]
 all_goals first|omega|(split<;>simp at h⊢)
theorem GI(t:bQ):b7 az 117 [enc t] (.bool t.fits):=by refine bE fs Zw afT fun aU=>?_;unfold NK;simp;refine cD.val (by simp) (WE t.sz t (e1 _) 5000 (by omega)) ?_;simp;simp[bz,Uv,aV,aY,aT];simp[bQ.fits]
theorem ajT(t:T):b7 az 117 [t.e] (.bool t.fit):=by have:=GI t.tm;rwa[qT,bQ.fits_T]at this
theorem GP(a b:T):b7 az 225 [a.e,b.e] (T.pair a b).e:=by refine bE fs ZU agi fun aU=>?_;unfold N8;simp;(with_reducible repeat' first|((first|refine bI (fun h=>?_) fun h=>?_|refine bK (fun h=>?_) fun h=>?_|refine bJ (fun h=>?_) fun h=>?_)<;>try simp at h)|refine aj ?_|simp);all_goals try simp[bz,UL,aV,aY,aT]
theorem Ai(a b:T):b7 az 114 [a.e,b.e] (T.pair a b).e:=by refine bE fs aaE ag2 fun aU=>?_;unfold OX;simp;(with_reducible repeat' first|((first|refine bI (fun h=>?_) fun h=>?_|refine bK (fun h=>?_) fun h=>?_|refine bJ (fun h=>?_) fun h=>?_)<;>try simp at h)|refine aj ?_|simp);all_goals try simp[bz,U6,aV,aY,aT]
theorem sX(t:T):b7 az 200 [t.e] t.e:=by
 induction t with
 |pair a b ee ef=>refine bE fs P6 T0 fun aU=>?_;unfold HA;exact cZ
 |_=>refine bE fs P6 T0 fun aU=>?_;unfold HA;exact cZ
theorem nz(a b:Int):b7 az 232 [.int .i64 a,.int .i64 b] (.int .i64 (ek a b)):=by
 refine bE fs ZT agh fun aU=>?_;unfold N7;simp;((with_reducible repeat' first|refine aj ?_|simp|((first|apply bI|apply bK|apply bJ)<;>intro h<;>try simp at h))<;>(try exact cm));all_goals simp[bz,UK,aV,aY,aT]
 all_goals simp[ek]
 all_goals omega
theorem Ak(a:T):∀b:T,b7 az 170 [a.e,b.e] (.int .i64 (ei a b)):=by
 induction a with
 |pair bp a2 EY EZ=>
  intro b;cases b with
  |pair b8 b3=>
   refine bE fs Ik KM fun aU=>?_;unfold DH;simp;((with_reducible repeat' first|refine aj ?_|refine aC (EY _) ?_|refine aD (EY _) ?_|refine aC (EZ _) ?_|refine aD (EZ _) ?_|refine aC (nz _ _) ?_|refine aD (nz _ _) ?_|simp|((first|apply bI|apply bK|apply bJ)<;>intro h<;>try simp at h))<;>(try exact cm));all_goals simp[bz,FW,aV,aY,aT]
   all_goals simp_all[ei]
  |_=>
   refine bE fs Ik KM fun aU=>?_;unfold DH;simp;(with_reducible repeat' first|refine aj ?_|refine aC (nz _ _) ?_|refine aD (nz _ _) ?_|simp);all_goals simp[bz,FW,aV,aY,aT]
   all_goals simp_all[ei]
 |_=>
  intro b;cases b<;>
  (refine bE fs Ik KM fun aU=>?_;unfold DH
   simp
   (with_reducible repeat' first|((first|apply bI|apply bK|apply bJ)<;>intro h<;>try simp at h)|refine aj ?_|refine aC (nz _ _) ?_|refine aD (nz _ _) ?_|simp)
   all_goals simp[bz,FW,aV,aY,aT]
   all_goals simp_all[ei,kn])
theorem sY(a b:T):b7 az 108 [a.e,b.e] (.bool (decide (a=b))):=by
 refine bE fs ZL af8 fun aU=>?_;unfold NZ;simp;(with_reducible repeat' first|refine aj ?_|refine aC (Ak _ _) ?_|refine aD (Ak _ _) ?_|simp);all_goals simp[bz,UF,aV,aY,aT]
 have:=qx a b;by_cases h:ei a b=0<;>simp_all
open Classical in
def aem(l:List dU)(k:Nat)(st:bj):Prop:=∃i:Nat,i≤l.length∧k=l.length-i∧(∀j,j<i→zA l j)∧st=⟨[(0,.slice 5 .no (l.map dU.e)),(8,.slice 5 .no (l.map dU.e)),(9,.int .i64 l.length),(10,.int .i64 i)],[],[],0,[]⟩
open Classical in
theorem ajU(l:List dU):b7 az 100 [.slice 5 .no (l.map dU.e)] (.bool (decide (x4 l))):=by
 refine bE fs Zy afV fun aU=>?_;unfold NM;simp;(with_reducible repeat' first|((first|apply bI|apply bK|apply bJ)<;>intro h<;>try simp at h)|refine aj ?_|simp)
 ·simp[bz,FP,aV,aY,aT];intro cA;have:=cA.1;omega
 ·refine nj (aem l) l.length _ ⟨by simp,by simp[hQ],by simp[mR],by simp⟩ ⟨0,by omega,by omega,by simp,rfl⟩ ?_;rintro k st ⟨i,hi,ab,la,rfl⟩ js cH;simp;refine bI (fun bq=>?_) (fun u3=>?_)
  ·simp at bq;obtain⟨b,ae⟩:∃b,l[i]? =some b:=⟨_,cv bq⟩;obtain⟨c,av⟩:∃c,l[i-1]? =some c:=⟨_,cv (by omega)⟩;clear js cH;simp[ae,av];((with_reducible repeat' first|refine aj ?_|refine aC (GI _) ?_|refine aD (GI _) ?_|simp[av]|((first|apply bI|apply bK|apply bJ)<;>intro h<;>try simp at h))<;>(try exact cm));all_goals first
    |(simp[bz,FP,aV,aY,aT];intro cA;have J:=cA.2 i bq b ae;have U:=J.2.1 c;have ao:=J.2.2;first|omega|(have:=U (by omega) av;omega)|(rw[ao]at h;cases h)|simp_all)
    |(simp only[De];refine⟨l.length-(i+1),_,by omega,⟨by simp,by simp[hQ],by simp[mR],by simp⟩,i+1,by omega,rfl,fun j ag=>?_,rfl⟩
      by_cases e:j=i
      ·subst e;intro b0 gz;rw[ae]at gz;cases gz;refine⟨by omega,fun cd bV hW=>?_,by assumption⟩;rw[av]at hW;cases hW;omega
      ·exact la j (by omega))
  ·simp at u3;simp[bz,FP,aV,aY,aT];exact⟨by omega,fun j ag=>la j (by omega)⟩
def dF.below(c:dF)(n:Int):Int:=if n≤0 then 0 else c.byte.tmod n
def dF.belowC(c:dF)(n:Int):dF:=if n≤0 then c else c.next
theorem dF.ok.below{c:dF}(h:c.ok)(n:Int):(c.belowC n).ok:=by unfold dF.belowC;split;exact h;exact h.next
theorem dF.below_le(c:dF)(n:Int)(ar:0<n):0≤c.below n∧c.below n<n:=by have:=c.byte_le;unfold dF.below;rw[if_neg (by omega)];exact⟨Int.tmod_nonneg _ this.1,Int.tmod_lt_of_pos _ ar⟩
theorem wI(c:dF)(av:c.ok)(n:Int):bB az 110 [.ptr (.obj 401) 0,.int .i64 n] (bC c) fun r ah=>r= .int .i64 (c.below n)∧ah=bC (c.belowC n):=by
 have af:=dM c;have ev:=fJ c;refine bB.mk mixed o8 aat agR (by simp[-cb,-bY]) af.obj fun aU cH=>?_;unfold OM;unfold bC;simp[-cb,-bY];(with_reducible repeat' first|((first|apply bI|apply bK|apply bJ)<;>intro h<;>try simp[-cb,-bY]at h)|refine aj ?_|simp[-cb,-bY])
 ·(refine cG.at (bC (c)) (.inl rfl) (dM _) (fJ _ _) (by unfold bC;exact aE) (by unfold bC;exact aE) ?_;simp[-cb,-bY,cM,Lj,aV,aY,aT,bC]);simp[-cb,-bY,dF.below,dF.belowC,h]
 ·(refine cD.ob (Eb c av) (dM _) (by unfold bC;exact aE) (by unfold bC;exact aE) (by simp[-cb,-bY,inObs,bC,Pv.look]) ?_;rintro r ah ⟨rfl,rfl⟩;refine⟨fJ _ _,?_⟩;unfold bC;simp[-cb,-bY,bR]);((with_reducible repeat' first|refine aj ?_|simp[-cb,-bY]|((first|apply bI|apply bK|apply bJ)<;>intro h<;>try simp[-cb,-bY]at h))<;>(try exact cm));(refine cG.at (bC (c.next)) (.inl rfl) (dM _) (fJ _ _) (by unfold bC;exact aE) (by unfold bC;exact aE) ?_;simp[-cb,-bY,cM,Lj,aV,aY,aT,bC]);have:¬n≤0:=by omega
  simp[-cb,-bY,dF.below,dF.belowC,this]
theorem Wx(n:Int):b7 az 91 [.int .i64 n] (T.var n).e:=by refine bE fs Qd T7 fun aU=>?_;unfold HM;simp[-cb,-bY];simp[-cb,-bY,bz,Va,aV,aY,aT]
theorem Wu(n:Int):b7 az 192 [.int .i64 n] (T.num n).e:=by refine bE o8 aaC ag0 fun aU=>?_;unfold OV;simp[-cb,-bY];simp[-cb,-bY,bz,U5,aV,aY,aT]
theorem Ww(s:List cV):b7 az 184 [.str s] (T.sym s).e:=by refine bE o8 aaH ag5 fun aU=>?_;unfold O0;simp[-cb,-bY];simp[-cb,-bY,bz,U9,aV,aY,aT]
def qO(k:Int):T:=if k<2 then .num k else if k<5 then .sym (([[97],[98],[99]]:List (List cV)).getD (k-2).toNat [])else .nil
set_option maxRecDepth 4000 in
theorem abx(c:dF)(av:c.ok):bB az 115 [.ptr (.obj 401) 0] (bC c) fun r ah=>r=(qO (c.below 7)).e∧ah=bC c.next:=by
 have af:=dM c;have ae:=c.below_le 7 (by omega);have iz:c.belowC 7=c.next:=by simp[-cb,-bY,dF.belowC]
 refine bB.mk mixed o8 aax agV (by simp[-cb,-bY]) af.obj fun aU cH=>?_;unfold OQ;unfold bC;simp[-cb,-bY];(refine cD.ob (wI c av 7) (dM _) (by unfold bC;exact aE) (by unfold bC;exact aE) (by simp[-cb,-bY,inObs,bC,Pv.look]) ?_;rintro r ah ⟨rfl,rfl⟩;refine⟨fJ _ _,?_⟩;unfold bC;simp[-cb,-bY,bR]);rw[iz];generalize ab:c.below 7=k at ae⊢;obtain⟨bD,rfl⟩:∃bD:Nat,k=bD:=⟨k.toNat,by omega⟩;rcases(by omega:bD=0∨bD=1∨bD=2∨bD=3∨bD=4∨bD=5∨bD=6)with rfl|rfl|rfl|rfl|rfl|rfl|rfl;all_goals simp[-cb,-bY]
 all_goals(with_reducible repeat' first|refine aj ?_|refine aC (Wu _) ?_|refine aD (Wu _) ?_|refine aC (Ww _) ?_|refine aD (Ww _) ?_|simp[-cb,-bY])
 all_goals(refine cG.at (bC (c.next)) (.inl rfl) (dM _) (fJ _ _) (by unfold bC;exact aE) (by unfold bC;exact aE) ?_;simp[-cb,-bY,cM,U3,aV,aY,aT,bC])
 all_goals simp[-cb,-bY,qO]
def dZ(size:Nat)(vars:Int)(c:dF):T×dF:=
 if 2<size∧3≤c.below 8 then
  (.pair (dZ (size/2) vars c.next).1 (dZ (size/2) vars (dZ (size/2) vars c.next).2).1,(dZ (size/2) vars (dZ (size/2) vars c.next).2).2)
 else if 0<vars∧(c.below 8).tmod 2=0 then(.var (c.next.below vars),c.next.belowC vars)
 else(qO (c.next.below 7),c.next.next)
termination_by size
theorem AO(size:Nat)(vars:Int):∀c:dF,c.ok→(dZ size vars c).2.ok:=by
 induction size using qI with
 |ind size bW=>
  intro c av;rw[dZ];split
  ·rename_i h;exact bW _ (by omega) _ (bW _ (by omega) _ av.next)
  ·split
   ·exact av.next.below _
   ·exact av.next.next
set_option maxRecDepth 4000 in
theorem IC(vars:Int)(aJ:vars≤1000000)(size:Nat)(bf:size≤1000000):∀(c:dF),c.ok→bB az 46 [.ptr (.obj 401) 0,.int .i64 size,.int .i64 vars] (bC c) fun r ah=>r=(dZ size vars c).1.e∧ah=bC (dZ size vars c).2:=by
 induction size using qI with
 |ind size bW=>
  intro c av;have af:=dM c;have ae:=c.below_le 8 (by omega);have iz:c.belowC 8=c.next:=by simp[-cb,-bY,dF.belowC]
  obtain⟨z,EX⟩:∃z,z=size/2:=⟨_,rfl⟩;have hdiv:mi.wrap ((size:Int)/2)=(z:Int):=by rw[lR _ (by omega)];omega
  have pz:∀h:2<size∧3≤c.below 8,dZ size vars c=(.pair (dZ z vars c.next).1 (dZ z vars (dZ z vars c.next).2).1,(dZ z vars (dZ z vars c.next).2).2):=fun h=>by rw[dZ,if_pos h,EX]
  have acD:∀(h:¬(2<size∧3≤c.below 8)) (cA:0<vars∧(c.below 8).tmod 2=0),dZ size vars c=(.var (c.next.below vars),c.next.belowC vars):=fun h cA=>by rw[dZ,if_neg h,if_pos cA]
  have acA:∀(h:¬(2<size∧3≤c.below 8)) (cA:¬(0<vars∧(c.below 8).tmod 2=0)),dZ size vars c=(qO (c.next.below 7),c.next.next):=fun h cA=>by rw[dZ,if_neg h,if_neg cA]
  have BM:2<size→∀c:dF,c.ok→bB az 46 [.ptr (.obj 401) 0,.int .i64 z,.int .i64 vars] (bC c) fun r ah=>r=(dZ z vars c).1.e∧ah=bC (dZ z vars c).2:=fun h=>bW z (by omega) (by omega);clear bW;refine bB.mk mixed o8 aaz agX (by simp[-cb,-bY]) af.obj fun aU cH=>?_;unfold OS;unfold bC;simp[-cb,-bY];(refine cD.ob (wI c av 8) (dM _) (by unfold bC;exact aE) (by unfold bC;exact aE) (by simp[-cb,-bY,inObs,bC,Pv.look]) ?_;rintro r ah ⟨rfl,rfl⟩;refine⟨fJ _ _,?_⟩;unfold bC;simp[-cb,-bY,bR]);rw[iz];(with_reducible repeat' first|((first|apply bI|apply bK|apply bJ)<;>intro h<;>try simp[-cb,-bY]at h)|refine aj ?_|simp[-cb,-bY,hdiv])
  ·rename_i U;(refine cD.ob (BM (by omega) c.next av.next) (dM _) (by unfold bC;exact aE) (by unfold bC;exact aE) (by simp[-cb,-bY,inObs,bC,Pv.look]) ?_;rintro r ah ⟨rfl,rfl⟩;refine⟨fJ _ _,?_⟩;unfold bC;simp[-cb,-bY,bR]);((with_reducible repeat' first|refine aj ?_|simp[-cb,-bY,hdiv]|((first|apply bI|apply bK|apply bJ)<;>intro h<;>try simp[-cb,-bY]at h))<;>(try exact cm));(refine fu.ob (BM (by omega) (dZ z vars c.next).2 (AO _ _ _ av.next)) (dM _) (dM _) (fJ _ _) (by unfold bC;exact aE) (by unfold bC;exact aE) (by simp[-cb,-bY,inObs,bC,Pv.look]) ?_;unfold bC;simp[-cb,-bY,bR]);(with_reducible repeat' first|refine aj ?_|refine aC (Ai _ _) ?_|refine aD (Ai _ _) ?_|simp[-cb,-bY]);rw[pz (by omega)];(refine cG.at (bC ((dZ z vars (dZ z vars c.next).2).2)) (.inl rfl) (dM _) (fJ _ _) (by unfold bC;exact aE) (by unfold bC;exact aE) ?_;simp[-cb,-bY,cM,FZ,aV,aY,aT,bC])
  all_goals first
   |(rw[acD (by omega) ⟨by omega,by assumption⟩];(refine cD.ob (wI c.next av.next vars) (dM _) (by unfold bC;exact aE) (by unfold bC;exact aE) (by simp[-cb,-bY,inObs,bC,Pv.look]) ?_;rintro r ah ⟨rfl,rfl⟩;refine⟨fJ _ _,?_⟩;unfold bC;simp[-cb,-bY,bR]);(with_reducible repeat' first|refine aj ?_|refine aC (Wx _) ?_|refine aD (Wx _) ?_|simp[-cb,-bY]);(refine cG.at (bC (c.next.belowC vars)) (.inl rfl) (dM _) (fJ _ _) (by unfold bC;exact aE) (by unfold bC;exact aE) ?_;simp[-cb,-bY,cM,FZ,aV,aY,aT,bC]);done)
   |(rw[acA (by omega) (by rintro⟨J,U⟩;first|omega|contradiction|(simp_all;done))];(refine cD.ob (abx c.next av.next) (dM _) (by unfold bC;exact aE) (by unfold bC;exact aE) (by simp[-cb,-bY,inObs,bC,Pv.look]) ?_;rintro r ah ⟨rfl,rfl⟩;refine⟨fJ _ _,?_⟩;unfold bC;simp[-cb,-bY,bR]);(with_reducible repeat' first|refine aj ?_|simp[-cb,-bY]);(refine cG.at (bC (c.next.next)) (.inl rfl) (dM _) (fJ _ _) (by unfold bC;exact aE) (by unfold bC;exact aE) ?_;simp[-cb,-bY,cM,FZ,aV,aY,aT,bC]);done)
def zY:List Int→Int→Int
 |[],h=>h
 |x::r,h=>zY r (wo .i64 (h*131+x+7) 1073741823)
def vx(d:List Int):dF:=⟨d,0,zY (d.take 4000) (90411+d.length)⟩
def aej(d:List Int)(k:Nat)(st:bj):Prop:=∃(i:Nat) (h:Int),i≤d.length∧i≤4000∧k=d.length-i∧0≤h∧h≤2000000000∧zY ((d.take 4000).drop i) h=zY (d.take 4000) (90411+d.length)∧st=⟨[(0,.slice 1 .no (hs d)),(3,.int .i64 h),(4,.int .i64 i)],[],[],0,[]⟩
set_option maxRecDepth 4000 in
theorem abv(d:List Int)(aK:qQ d)(aq:d.length≤10000000):bB az 113 [.slice 1 .no (hs d)] ⟨[],[]⟩ fun r ah=>r= .ptr (.obj 401) 0∧ah=bC (vx d):=by
 have af:dG ⟨[],[]⟩:=(dG.of ⟨by intro m;simp[-cb,-bY,Pv.look],by intro m;simp[-cb,-bY,Pv.look]⟩ (by simp[-cb,-bY,aO,aF,inObs,Pv.look]) (by simp[-cb,-bY,aO,aF,inObs,Pv.look]));refine bB.mk mixed o8 aav agT (by simp[-cb,-bY]) af.obj fun aU cH=>?_;unfold OO;simp[-cb,-bY];(with_reducible repeat' first|refine aj ?_|simp[-cb,-bY]);refine nj (aej d) d.length _ ⟨by simp[-cb,-bY],by simp[-cb,-bY,hQ],by simp[-cb,-bY,mR],by simp[-cb,-bY]⟩ ⟨0,90411+d.length,by omega,by omega,by omega,by omega,by omega,by simp[-cb,-bY],rfl⟩ ?_;rintro k st ⟨i,g,hi,amn,ab,bV,J,ki,rfl⟩ js cH;clear js cH;have sj:¬(i<d.length∧i<4000)→g=zY (d.take 4000) (90411+d.length):=by intro ar;rw[List.drop_of_length_le (by simp[-cb,-bY];omega)]at ki;exact ki
 have iR:¬(i<d.length∧i<4000)→vx d=⟨d,0,g⟩:=fun ar=>by simp[-cb,-bY,vx,sj ar]
 simp[-cb,-bY];(with_reducible repeat' first|((first|apply bI|apply bK|apply bJ)<;>intro h<;>try simp[-cb,-bY]at h)|refine aj ?_|simp[-cb,-bY])
 ·have bq:i<d.length:=by omega
  obtain⟨x,ad⟩:∃x,d[i]? =some x:=⟨_,cv bq⟩;have ka:∀h,(hs d)[i]'h= .int .u8 x:=fun h=>by have:=Hr ad;rw[cv h]at this;simpa using this
  have oT:=aK x (gb ad);have hw:mi.wrap x=x:=lR _ (by omega);have pt:=Hi (g*131+x+7) 1073741823 (by omega) (by omega);simp[-cb,-bY,Hr ad,hw];(with_reducible repeat' first|refine aj ?_|simp[-cb,-bY]);refine bT.next (d.length-(i+1)) (by omega) ⟨i+1,_,by omega,by omega,rfl,pt.1,by omega,?_,rfl⟩ ⟨by simp[-cb,-bY],by simp[-cb,-bY,hQ],by simp[-cb,-bY,mR],by simp[-cb,-bY]⟩;rw[←ki,kN (l:=d.take 4000) (i:=i) (by simp[-cb,-bY];omega)];have:(d.take 4000)[i]'(by simp[-cb,-bY];omega)=x:=by have:=ad;rw[cv bq]at this;simpa using this
  rw[this,zY]
 all_goals rw[iR (by omega)]
 all_goals refine cG.new (bC ⟨d,0,g⟩) (.inl rfl) (dM _) (by simp[-cb,-bY,kD]) (by unfold bC;exact aE) (by unfold bC;exact aE) ?_
 all_goals simp[-cb,-bY,cM,U1,aV,aY,aT,bC,inObs,Pv.look]
def rJ:Nat→dF→dF
 |0,c=>c
 |n+1,c=>(rJ n c).next
theorem LZ{c:dF}(h:c.ok):∀n,(rJ n c).ok
 |0=>h
 |n+1=>(LZ h n).next
theorem TN{d:List Int}(aK:qQ d)(aq:d.length≤10000000):(vx d).ok:=⟨aK,aq,by simp[-cb,-bY,vx]⟩
def iO(d:List Int)(n:Nat):dF:=rJ n (vx d)
theorem DV{d:List Int}(aK:qQ d)(aq:d.length≤10000000)(n:Nat):(iO d n).ok:=LZ (TN aK aq) n
theorem kX(S:aH→Prop)(c:dF):aO S c.e:=by simp[-cb,-bY,dF.e,aO,aF]
def aee(c:dF)(n:Nat)(k:Nat)(st:bj):Prop:=∃i:Nat,i≤n∧k=n-i∧st=⟨[(1,.int .i64 n),(5,.ptr (.obj 401) 0),(6,.int .i64 i)],[(.obj 401,(rJ i c).e)],[],0,[.obj 401]⟩
set_option maxRecDepth 4000 in
theorem ID(d:List Int)(aK:qQ d)(aq:d.length≤10000000)(n:Nat)(ar:n≤1000000):bB az 45 [.slice 1 .no (hs d),.int .i64 n] ⟨[],[]⟩ fun r ah=>r= .ptr (.obj 401) 0∧ah=bC (iO d n):=by
 unfold iO;have af:dG ⟨[],[]⟩:=(dG.of ⟨by intro m;simp[-cb,-bY,Pv.look],by intro m;simp[-cb,-bY,Pv.look]⟩ (by simp[-cb,-bY,aO,aF,inObs,Pv.look]) (by simp[-cb,-bY,aO,aF,inObs,Pv.look]));refine bB.mk mixed o8 aaX ahl (by simp[-cb,-bY]) af.obj fun aU cH=>?_;unfold Pg;simp[-cb,-bY];refine cD.new (abv d aK aq) af aE aE (by simp[-cb,-bY]) ?_;rintro r ah ⟨rfl,rfl⟩;refine⟨fun m _=>.inr (by simp[-cb,-bY]),?_⟩;unfold bC;simp[-cb,-bY,bR];refine nj (aee (vx d) n) n _ ⟨by simp[-cb,-bY,fresh,aO,aF,cl,inObs,Pv.look,kX,rJ],eF (by simp[-cb,-bY,fresh,aO,aF,cl,inObs,Pv.look,kX,rJ]),eG (by simp[-cb,-bY,fresh,aO,aF,eb,inObs,Pv.look,kX,rJ]),by simp[-cb,-bY]⟩ ⟨0,by omega,rfl,rfl⟩ ?_;rintro k st ⟨i,hi,ab,rfl⟩ js cH;clear js cH;simp[-cb,-bY];(with_reducible repeat' first|((first|apply bI|apply bK|apply bJ)<;>intro h<;>try simp[-cb,-bY]at h)|refine aj ?_|simp[-cb,-bY])
 ·(refine cD.ob (Eb _ (LZ (TN aK aq) i)) (dM _) (by unfold bC;exact aE) (by unfold bC;exact aE) (by simp[-cb,-bY,inObs,bC,Pv.look]) ?_;rintro r ah ⟨rfl,rfl⟩;refine⟨fJ _ _,?_⟩;unfold bC;simp[-cb,-bY,bR]);(with_reducible repeat' first|((first|apply bI|apply bK|apply bJ)<;>intro h<;>try simp[-cb,-bY]at h)|refine aj ?_|simp[-cb,-bY]);refine bT.next (n-(i+1)) (by omega) ⟨i+1,by omega,rfl,rfl⟩ ⟨by simp[-cb,-bY,fresh,aO,aF,cl,inObs,Pv.look,kX,rJ],eF (by simp[-cb,-bY,fresh,aO,aF,cl,inObs,Pv.look,kX,rJ]),eG (by simp[-cb,-bY,fresh,aO,aF,eb,inObs,Pv.look,kX,rJ]),by simp[-cb,-bY]⟩
 ·obtain rfl:i=n:=by omega
  refine cG.new (bC (rJ i (vx d))) (.inl rfl) (dM _) (by simp[-cb,-bY,kD]) (by unfold bC;exact aE) (by unfold bC;exact aE) ?_;simp[-cb,-bY,cM,Vd,aV,aY,aT,bC,inObs,Pv.look]
theorem Wd(d:List Int)(aK:qQ d)(aq:d.length≤10000000)(n:Nat)(ar:n≤1000000)(size:Nat)(bf:size≤1000000)(vars:Int)(aJ:vars≤1000000):b7 az 11 [.slice 1 .no (hs d),.int .i64 n,.int .i64 size,.int .i64 vars] (dZ size vars (iO d n)).1.e:=by refine bE o8 aaq agO fun aU=>?_;unfold OJ;simp[-cb,-bY];refine cD.new (ID d aK aq n ar) ((dG.of ⟨by intro m;simp[-cb,-bY,Pv.look],by intro m;simp[-cb,-bY,Pv.look]⟩ (by simp[-cb,-bY,aO,aF,inObs,Pv.look]) (by simp[-cb,-bY,aO,aF,inObs,Pv.look]))) aE aE (by simp[-cb,-bY]) ?_;rintro r ah ⟨rfl,rfl⟩;refine⟨fun m _=>.inr (by simp[-cb,-bY]),?_⟩;unfold bC;simp[-cb,-bY,bR];(refine cD.ob (IC vars aJ size bf _ (DV aK aq n)) (dM _) (by unfold bC;exact aE) (by unfold bC;exact aE) (by simp[-cb,-bY,inObs,bC,Pv.look]) ?_;rintro r ah ⟨rfl,rfl⟩;refine⟨fJ _ _,?_⟩;unfold bC;simp[-cb,-bY,bR]);simp[-cb,-bY,bz,UZ,aV,aY,aT]
/-What is drawn. -/
theorem XL(k:Int)(bV:0≤k)(J:k<7):(qO k).ok=true∧(∀v,(qO k).occ v=false)∧(qO k).size=1:=by obtain⟨n,rfl⟩:∃n:Nat,k=n:=⟨k.toNat,by omega⟩;rcases(by omega:n=0∨n=1∨n=2∨n=3∨n=4∨n=5∨n=6)with rfl|rfl|rfl|rfl|rfl|rfl|rfl<;>refine⟨?_,fun v=>?_,?_⟩<;>first|rfl|decide
theorem Ya(vars:Int)(aJ:vars≤100001)(n:Nat):∀c:dF,(dZ n vars c).1.ok=true∧(∀v,(dZ n vars c).1.occ v=true→0≤v∧v<vars)∧(dZ n vars c).1.size≤2*n-1+(if n=0 then 1 else 0):=by
 induction n using qI with
 |ind n bW=>
  intro c;have dP:=c.next.below_le 7 (by omega);rw[dZ];split
  ·rename_i h;obtain⟨bp,a2,a3⟩:=bW (n/2) (by omega) c.next;obtain⟨b8,b3,fR⟩:=bW (n/2) (by omega) (dZ (n/2) vars c.next).2;refine⟨by simp[T.ok,bp,b8],fun v aJ=>?_,?_⟩
   ·simp only[T.occ,lQ]at aJ;rcases aJ with aJ|aJ
    ·exact a2 v aJ
    ·exact b3 v aJ
   ·simp only[T.size];split at a3<;>split at fR<;>split<;>omega
  ·split
   ·rename_i h;have:=c.next.below_le vars h.1;refine⟨by simp[T.ok];omega,fun v aJ=>?_,by simp only[T.size];split<;>omega⟩;simp[T.occ]at aJ;omega
   ·obtain⟨bp,a2,a3⟩:=XL _ dP.1 dP.2;refine⟨bp,fun v aJ=>?_,?_⟩
    ·simp only[a2 v]at aJ;cases aJ
    ·simp only[a3];split<;>omega
theorem ajO(d:List Int)(aK:qQ d)(aq:d.length≤10000000)(n:Nat)(ar:n≤1000000):b7 az 15 [.slice 1 .no (hs d),.int .i64 n] (.int .i64 ((iO d n).byte*256+(iO d n).next.byte)):=by have b8:=(iO d n).byte_le;have b3:=(iO d n).next.byte_le;refine bE o8 aao agM fun aU=>?_;unfold OH;simp[-cb,-bY];refine cD.new (ID d aK aq n ar) ((dG.of ⟨by intro m;simp[-cb,-bY,Pv.look],by intro m;simp[-cb,-bY,Pv.look]⟩ (by simp[-cb,-bY,aO,aF,inObs,Pv.look]) (by simp[-cb,-bY,aO,aF,inObs,Pv.look]))) aE aE (by simp[-cb,-bY]) ?_;rintro r ah ⟨rfl,rfl⟩;refine⟨fun m _=>.inr (by simp[-cb,-bY]),?_⟩;unfold bC;simp[-cb,-bY,bR];(refine cD.ob (Eb _ (DV aK aq n)) (dM _) (by unfold bC;exact aE) (by unfold bC;exact aE) (by simp[-cb,-bY,inObs,bC,Pv.look]) ?_;rintro r ah ⟨rfl,rfl⟩;refine⟨fJ _ _,?_⟩;unfold bC;simp[-cb,-bY,bR]);(with_reducible repeat' first|refine aj ?_|simp[-cb,-bY]);(refine cD.ob (Eb _ (DV aK aq n).next) (dM _) (by unfold bC;exact aE) (by unfold bC;exact aE) (by simp[-cb,-bY,inObs,bC,Pv.look]) ?_;rintro r ah ⟨rfl,rfl⟩;refine⟨fJ _ _,?_⟩;unfold bC;simp[-cb,-bY,bR]);exact cZ
def lO(p:Nat→Bool)(i j:Nat):Nat:=if i<j then(if p ((i+j)/2)then lO p i ((i+j)/2)else lO p ((i+j)/2+1) j)else i
termination_by j-i
def ael(s:cF)(n g:Nat)(dg:List ai)(p:Nat→Bool)(k:Nat)(st:bj):Prop:=∃i j:Nat,i≤j∧j≤n∧k=j-i∧lO p i j=lO p 0 n∧st=⟨[(1,.func g dg),(5,.int .i64 i),(6,.int .i64 j)],s.b,s.e,0,cR s⟩
theorem abk(s:cF)(af:dG s)(n g:Nat)(ar:n≤1000000)(dg:List ai)(av:aO (inObs s) dg)(dh:df dg=dg)(p:Nat→Bool)(aQ:∀i:Nat,i<n→bB az g (.int .i64 i::dg) s fun r ah=>r= .bool (p i)∧ah=s):
  bB az 211 [.int .i64 n,.func g dg] s fun r ah=>r= .int .i64 (lO p 0 n)∧ah=s:=by
 refine bB.mk mixed fs Z4 ags (by simp) af.obj fun aU cH=>?_;unfold Oj;simp;refine nj (ael s n g dg p) n _ (im.ob af (by simp[av]) aE aE) ⟨0,n,by omega,by omega,rfl,rfl,rfl⟩ ?_;rintro k st ⟨i,j,lH,ag,ab,Jx,rfl⟩ js cH;clear js cH;simp;refine bI (fun bq=>?_) (fun u3=>?_)
 ·simp at bq;have hw:gU.wrap ((i:Int)+j)=i+j:=by simp[rU,mW,qG];omega
  obtain⟨m,hm⟩:∃m,m=(i+j)/2:=⟨_,rfl⟩;have aK:Int.fdiv ((i:Int)+j) 2=(m:Int):=by rw[Int.fdiv_eq_ediv_of_nonneg _ (by omega)];omega
  have n5:mi.wrap (m:Int)=m:=by rw[lR];omega
  have IU:gU.bits=64:=rfl;simp[hw,dh,IU,aK,n5];refine⟨by unfold n7;omega,?_⟩;refine cD.ob (aQ m (by omega)) af aE aE (by simp[av]) ?_;rintro r ah ⟨rfl,rfl⟩;refine⟨Same.refl _,?_⟩;simp[gH];(with_reducible repeat' first|((first|apply bI|apply bK|apply bJ)<;>intro h<;>try simp at h)|refine aj ?_|simp)
  ·simp only[De];refine⟨j-(m+1),_,by omega,im.ob af (by simp[av]) aE aE,m+1,j,by omega,by omega,rfl,?_,rfl⟩;rw[←Jx];conv=>rhs;unfold lO
   simp[bq,←hm,h]
  ·simp only[De];refine⟨m-i,_,by omega,im.ob af (by simp[av]) aE aE,i,m,by omega,by omega,rfl,?_,rfl⟩;rw[←Jx];conv=>rhs;unfold lO
   simp[bq,←hm,h]
 ·simp at u3;have:lO p 0 n=i:=by rw[←Jx];unfold lO;rw[if_neg (by omega)]
  rw[this];simp;refine cG.at s (.inl rfl) af (Same.refl s) aE aE ?_;simp[cM,UQ,aV,aY,aT]
def mv(l:List al)(v:Int):Int:=
 let i:=lO (fun i=>match l[i]? with|some b=>decide (v≤b.v)|none=>false) 0 l.length
 match l[i]? with|some b=>if b.v=v then i else-1|none=> -1
theorem abr(l:List al)(v:Int)(i:Nat)(b:al)(ae:l[i]? =some b):bB az 212 [.int .i64 i,.ptr (.obj 101) 0,.ptr (.obj 102) 0] ⟨[(.obj 101,[.slice 5 .no (l.map al.e)]),(.obj 102,[.int .i64 v])],[]⟩ fun r ah=>r= .bool (decide (v≤b.v))∧ah=⟨[(.obj 101,[.slice 5 .no (l.map al.e)]),(.obj 102,[.int .i64 v])],[]⟩:=by have af:dG ⟨[(.obj 101,[.slice 5 .no (l.map al.e)]),(.obj 102,[.int .i64 v])],[]⟩:=(dG.of ⟨by intro m;simp[Pv.look],by intro m;simp[Pv.look]⟩ (by simp[aO,aF,inObs,Pv.look]) (by simp[aO,aF,inObs,Pv.look]));have bq:i<l.length:=(fG.1 ae).1;refine bB.mk mixed fs ZO agb (by simp) af.obj fun aU cH=>?_;unfold N2;simp[ae];(with_reducible repeat' first|refine aj ?_|simp);refine cG.at _ (.inl rfl) af (Same.refl _) aE aE ?_;simp[cM,UI,aV,aY,aT]
theorem sZ(l:List al)(v:Int)(aq:l.length≤1000000):b7 az 134 [.slice 5 .no (l.map al.e),.int .i64 v] (.int .i64 (mv l v)):=by
 refine bE fs ZN aga fun aU=>?_;unfold N1;simp;have af:dG ⟨[(.obj 101,[.slice 5 .no (l.map al.e)]),(.obj 102,[.int .i64 v])],[]⟩:=(dG.of ⟨by intro m;simp[Pv.look],by intro m;simp[Pv.look]⟩ (by simp[aO,aF,inObs,Pv.look]) (by simp[aO,aF,inObs,Pv.look]));refine cD.ob (abk ⟨[(.obj 101,[.slice 5 .no (l.map al.e)]),(.obj 102,[.int .i64 v])],[]⟩ af l.length 212 aq [.ptr (.obj 101) 0,.ptr (.obj 102) 0] (by simp[inObs]) (by simp) (fun i=>match l[i]? with|some b=>decide (v≤b.v)|none=>false) fun i hi=>?_) af aE aE (by simp[inObs]) ?_
 ·obtain⟨b,ae⟩:∃b,l[i]? =some b:=⟨_,cv hi⟩;simp only[ae];exact abr l v i b ae
 rintro r ah ⟨rfl,rfl⟩;refine⟨Same.refl _,?_⟩;unfold mv;generalize lO _ 0 l.length=i;cases ae:l[i]? with
 |none=>
  have bq:¬i<l.length:=by simpa using ae
  simp[bR,bq];exact cZ
 |some b=>
  have bq:i<l.length:=(fG.1 ae).1;simp[bR,ae,bq];((with_reducible repeat' first|refine aj ?_|simp[ae]|((first|apply bI|apply bK|apply bJ)<;>intro h<;>try simp at h))<;>(try exact cm));all_goals simp[bz,UH,aV,aY,aT]
  all_goals simp_all
def rE(l:List al)(v:Int):Option T:=if mv l v<0 then none else(l[(mv l v).toNat]?).map (·.t)
theorem Qm(l:List al)(v:Int):mv l v<l.length∧ -1≤mv l v:=by
 unfold mv;simp only;split
 ·rename_i b ae;have:=(fG.1 ae).1;split<;>omega
 ·omega
theorem QC(l:List al)(v:Int)(aq:l.length≤1000000)(o:Option T)(au:o=rE l v):bB az 182 [.int .i64 v,.ptr (.obj 201) 0] ⟨[(.obj 201,[.slice 5 .no (l.map al.e)])],[]⟩ fun r ah=>r= .tuple [(o.getD .nil).e,.bool o.isSome]∧ah=⟨[(.obj 201,[.slice 5 .no (l.map al.e)])],[]⟩:=by
 have af:dG ⟨[(.obj 201,[.slice 5 .no (l.map al.e)])],[]⟩:=(dG.of ⟨by intro m;simp[Pv.look],by intro m;simp[Pv.look]⟩ (by simp[aO,aF,inObs,Pv.look]) (by simp[aO,aF,inObs,Pv.look]));have bq:=(Qm l v).1;unfold rE at au;refine bB.mk mixed fs ZW agk (by simp) af.obj fun aU cH=>?_;unfold Oa;simp;(with_reducible repeat' first|((first|apply bI|apply bK|apply bJ)<;>intro h<;>try simp at h)|refine aj ?_|refine aC (sZ l v aq) ?_|refine aD (sZ l v aq) ?_|simp)
 ·obtain⟨b,ae⟩:∃b,l[(mv l v).toNat]? =some b:=⟨_,cv (by omega)⟩;have hA:o=some b.t:=by rw[au,if_neg (by omega),ae];rfl
  simp[ae];(with_reducible repeat' first|((first|apply bI|apply bK|apply bJ)<;>intro h<;>try simp at h)|refine aj ?_|simp[ae]);refine cG.at _ (.inl rfl) af (Same.refl _) aE aE ?_;simp[cM,Lb,aV,aY,aT];simp[hA]
 ·have hA:o=none:=by rw[au,if_pos h]
  refine cG.at _ (.inl rfl) af (Same.refl _) aE aE ?_;simp[cM,Lb,aV,aY,aT];simp[hA]
theorem abM(s:cF)(af:dG s)(g:Nat)(dg:List ai)(av:aO (inObs s) dg)(dh:df dg=dg)(f:Int→Int)(Bk:∀v,-1≤f v)(t:T)(aQ:∀v,t.occ v=true→bB az g (.int .i64 v::dg) s fun r ah=>r= .int .i64 (f v)∧ah=s):
  bB az 239 [t.e,.func g dg] s fun r ah=>r= .int .i64 (kZ f t)∧ah=s:=by
 have ar:∀m,Pv.look (.loc m) s.b=none:=af.obj.1;have hu:∀m cs,ct (.loc m) cs s.b=s.b++[(.loc m,cs)]:=fun m cs=>jR (ar m);have au:∀m,aH.loc m∉cR s:=jL af.obj;induction t with
 |pair a b ee ef=>
  have amF:=Gt f Bk a;have amI:=Gt f Bk b;refine bB.mk mixed fs wD xp (by simp) af.obj fun aU cH=>?_;unfold uO;simp[hu,au,cE,ar,dh];(with_reducible repeat' first|refine aj ?_|simp[hu,au,cE,ar]);refine cD.ob (ee fun v aJ=>aQ v (by simp[T.occ,aJ])) af aE aE (by simp[av]) ?_;rintro r ah ⟨rfl,rfl⟩;refine⟨Same.refl _,?_⟩;simp[gH,ig,bR,ar];(with_reducible repeat' first|((first|apply bI|apply bK|apply bJ)<;>intro h<;>try simp at h)|refine aj ?_|simp[hu,au,cE,ar])
  ·refine cG.at ah (.inl rfl) af (Same.refl _) aE aE ?_;simp[cM,uq,aV,aY,aT];simp[kZ];omega
  ·rw[dh];refine cD.ob (ef fun v aJ=>aQ v (by simp[T.occ,aJ])) af aE aE (by simp[av]) ?_;rintro r s2 ⟨rfl,rfl⟩;refine⟨Same.refl _,?_⟩;simp[gH,ig,bR,ar];(with_reducible repeat' first|((first|apply bI|apply bK|apply bJ)<;>intro h<;>try simp at h)|refine aj ?_|simp[hu,au,cE,ar]);refine cG.at s2 (.inl rfl) af (Same.refl _) aE aE ?_;simp[cM,uq,aV,aY,aT];simp[kZ];omega
 |var n=>refine bB.mk mixed fs wD xp (by simp) af.obj fun aU cH=>?_;unfold uO;simp[hu,au,cE,ar,dh];(with_reducible repeat' first|refine aj ?_|simp[hu,au,cE,ar]);refine cD.ob (aQ n (by simp[T.occ])) af aE aE (by simp[av]) ?_;rintro r ah ⟨rfl,rfl⟩;refine⟨Same.refl _,?_⟩;simp[gH,ig,bR,ar];refine cG.at ah (.inl rfl) af (Same.refl _) aE aE ?_;simp[cM,uq,aV,aY,aT];simp[kZ]
 |_=>refine bB.mk mixed fs wD xp (by simp) af.obj fun aU cH=>?_;unfold uO;simp[hu,au,cE,ar,dh];(with_reducible repeat' first|refine aj ?_|simp[hu,au,cE,ar]);refine cG.at s (.inl rfl) af (Same.refl _) aE aE ?_;simp[cM,uq,aV,aY,aT];simp[kZ]
theorem abz(s:cF)(af:dG s)(g:Nat)(dg:List ai)(av:aO (inObs s) dg)(dh:df dg=dg)(f:Int→Option T)(t:T)(aQ:∀v,t.occ v=true→bB az g (.int .i64 v::dg) s fun r ah=>r= .tuple [((f v).getD .nil).e,.bool (f v).isSome]∧ah=s):
  bB az 153 [t.e,.func g dg] s fun r ah=>r=(t.sub f).e∧ah=s:=by
 have ar:∀m,Pv.look (.loc m) s.b=none:=af.obj.1;have cC:∀m,Pv.look (.loc m) s.e=none:=af.obj.2;have hu:∀m cs,ct (.loc m) cs s.b=s.b++[(.loc m,cs)]:=fun m cs=>jR (ar m);have au:∀m,aH.loc m∉cR s:=jL af.obj;have ll:∀m p r,ct (.loc m) p (s.b++r)=s.b++ct (.loc m) p r:=fun m p r=>Af (ar m);induction t with
 |pair a b ee ef=>refine bB.mk mixed fs yp zC (by simp) af.obj fun aU cH=>?_;unfold wy;simp[hu,au,cE,ar,cC,dh,ll];(with_reducible repeat' first|refine aj ?_|simp[hu,au,cE,ar,cC,ll]);refine fu.ob (ee fun v aJ=>aQ v (by simp[T.occ,aJ])) af af (Same.refl _) aE aE (by simp[av]) ?_;simp[gH,ig,bR,ar,dh];refine fu.ob (ef fun v aJ=>aQ v (by simp[T.occ,aJ])) af af (Same.refl _) aE aE (by simp[av]) ?_;simp[gH,ig,bR,ar,dh];(with_reducible repeat' first|refine aj ?_|refine aC (GP _ _) ?_|refine aD (GP _ _) ?_|simp);refine cG.at s (.inl rfl) af (Same.refl _) aE aE ?_;simp[cM,xw,aV,aY,aT,cE,ar];simp[T.sub]
 |var n=>
  refine bB.mk mixed fs yp zC (by simp) af.obj fun aU cH=>?_;unfold wy;simp[hu,au,cE,ar,dh,ll];(with_reducible repeat' first|refine aj ?_|simp[hu,au,cE,ar,ll]);refine cD.ob (aQ n (by simp[T.occ])) af aE aE (by simp[av]) ?_;rintro r ah ⟨rfl,rfl⟩;refine⟨Same.refl _,?_⟩;simp[gH,ig,bR,ar,hu,au,cE];(with_reducible repeat' first|((first|apply bI|apply bK|apply bJ)<;>intro h<;>try simp at h)|refine aj ?_|refine aC (sX _) ?_|refine aD (sX _) ?_|simp[hu,au,cE,ar,ll]);all_goals refine cG.at ah (.inl rfl) af (Same.refl _) aE aE ?_
  all_goals simp[cM,xw,aV,aY,aT,cE,ar]
  all_goals cases qg:f n<;>simp_all[T.sub]
 |_=>refine bB.mk mixed fs yp zC (by simp) af.obj fun aU cH=>?_;unfold wy;simp[hu,au,cE,ar,dh,ll];(with_reducible repeat' first|((first|apply bI|apply bK|apply bJ)<;>intro h<;>try simp at h)|refine aj ?_|simp[hu,au,cE,ar,ll]);refine cG.at s (.inl rfl) af (Same.refl _) aE aE ?_;simp[cM,xw,aV,aY,aT,cE,ar];simp[T.sub]
def nF(l:List al):cF:=⟨[(.obj 201,[.slice 5 .no (l.map al.e)])],[]⟩
def qK(l:List al):cF:=⟨[(.obj 201,[.slice 5 .no (l.map al.e)]),(.obj 202,[.func 182 [.ptr (.obj 201) 0]])],[]⟩
theorem Ax(l:List al):dG (nF l):=by unfold nF;exact(dG.of ⟨by intro m;simp[Pv.look],by intro m;simp[Pv.look]⟩ (by simp[aO,aF,inObs,Pv.look]) (by simp[aO,aF,inObs,Pv.look]))
theorem G2(l:List al):dG (qK l):=by unfold qK;exact(dG.of ⟨by intro m;simp[Pv.look],by intro m;simp[Pv.look]⟩ (by simp[aO,aF,inObs,Pv.look]) (by simp[aO,aF,inObs,Pv.look]))
def tx(l:List al)(v:Int):Int:=match rE l v with|some x=>fi x.tm 5000|none=>1
theorem abc(l:List al)(v:Int): -1≤tx l v:=by
 unfold tx;split
 ·rename_i x _;rcases Ce x.tm 5000 with h|h<;>omega
 ·omega
theorem WG(t:T):b7 az 194 [t.e,.int .i64 5000] (.int .i64 (fi t.tm 5000)):=by have:=WE t.tm.sz t.tm (e1 _) 5000 (by omega);rwa[qT]at this
theorem abJ(l:List al)(v:Int)(aq:l.length≤1000000):bB az 240 [.int .i64 v,.ptr (.obj 202) 0] (qK l) fun r ah=>r= .int .i64 (tx l v)∧ah=qK l:=by
 have af:=G2 l;unfold qK at af⊢;refine bB.mk mixed fs ZY agm (by simp) af.obj fun aU cH=>?_;unfold Oc;simp;refine cD.ob (QC l v aq _ rfl) (Ax l) aE aE (by simp[inObs]) ?_;rintro r ah ⟨rfl,rfl⟩;refine⟨Same.refl _,?_⟩;simp[bR];(with_reducible repeat' first|((first|apply bI|apply bK|apply bJ)<;>intro h<;>try simp at h)|refine aj ?_|refine aC (WG _) ?_|refine aD (WG _) ?_|simp);all_goals refine cG.at _ (.inl rfl) af (Same.refl _) aE aE ?_
 all_goals simp[cM,UN,aV,aY,aT]
 all_goals unfold tx
 all_goals cases bF:rE l v<;>simp_all
def Cu(l:List al)(t:T):T:=t.sub (rE l)
def sM(l:List al)(t:T):Bool:=decide (kZ (tx l) t≤5000)
theorem abI(l:List al)(t:T)(aq:l.length≤1000000):bB az 181 [t.e,.func 182 [.ptr (.obj 201) 0]] (nF l) fun r ah=>r= .tuple [(if sM l t then Cu l t else .nil).e,.bool (sM l t)]∧ah=nF l:=by
 have af:=Ax l;unfold nF at af⊢;refine bB.mk mixed fs ZX agl (by simp) af.obj fun aU cH=>?_;unfold Ob;simp;refine cD.ob (abM (qK l) (G2 l) 240 [.ptr (.obj 202) 0] (by simp[inObs,qK]) (by simp) (tx l) (abc l) t fun v aJ=>abJ l v aq) (G2 l) (by unfold qK;exact aE) (by unfold qK;exact aE) (by simp[inObs,qK]) ?_;rintro r ah ⟨rfl,rfl⟩;refine⟨Same.refl _,?_⟩;unfold qK;simp[bR];(with_reducible repeat' first|((first|apply bI|apply bK|apply bJ)<;>intro h<;>try simp at h)|refine aj ?_|simp)
 ·refine cG.at _ (.inl rfl) af (Same.refl _) aE aE ?_;simp[cM,Lc,aV,aY,aT];have:sM l t=false:=by simp[sM];omega
  simp[this]
 ·refine cD.ob (abz (nF l) (Ax l) 182 [.ptr (.obj 201) 0] (by simp[inObs,nF]) (by simp) (rE l) t fun v aJ=>QC l v aq _ rfl) (Ax l) (by unfold nF;exact aE) (by unfold nF;exact aE) (by simp[inObs,nF]) ?_;rintro r ah ⟨rfl,rfl⟩;refine⟨Same.refl _,?_⟩;unfold nF;simp[bR];refine cG.at _ (.inl rfl) af (Same.refl _) aE aE ?_;simp[cM,Lc,aV,aY,aT];have:sM l t=true:=by simp[sM];omega
  simp[this,Cu]
theorem akk(l:List al)(t:T)(aq:l.length≤1000000):b7 az 95 [.slice 5 .no (l.map al.e),t.e] (.tuple [(if sM l t then Cu l t else .nil).e,.bool (sM l t)]):=by refine bE fs ZV agj fun aU=>?_;unfold N9;simp;refine cD.ob (abI l t aq) (Ax l) (by unfold nF;exact aE) (by unfold nF;exact aE) (by simp[inObs,nF]) ?_;rintro r ah ⟨rfl,rfl⟩;refine⟨Same.refl _,?_⟩;unfold nF;simp[bR];simp[bz,UM,aV,aY,aT]
end Go.Proofs.YtohaalphocaebaaGreat
namespace Go.Pv
open Go
def T.ap(aL:Int→T):T→T
 | .var n=>aL n
 | .pair a b=>.pair (a.ap aL) (b.ap aL)
 |t=>t
theorem x6(f g:Int→T)(t:T):(t.ap f).ap g=t.ap fun v=>(f v).ap g:=by
 induction t with
 |pair a b ee ef=>simp[T.ap,ee,ef]
 |_=>simp[T.ap]
theorem qN{f g:Int→T}{t:T}(h:∀v,t.occ v=true→f v=g v):t.ap f=t.ap g:=by
 induction t with
 |var n=>exact h n (by simp[T.occ])
 |pair a b ee ef=>simp only[T.ap];rw[ee fun v aJ=>h v (by simp[T.occ,aJ]),ef fun v aJ=>h v (by simp[T.occ,aJ])]
 |_=>rfl
theorem M6(t:T):t.ap .var=t:=by induction t<;>simp_all[T.ap]
theorem M4{f:Int→T}{t:T}(h:∀v,t.occ v=true→f v= .var v):t.ap f=t:=(qN h).trans (M6 t)
theorem VV(f:Int→Option T)(t:T):t.sub f=t.ap fun v=>(f v).getD (.var v):=by
 induction t with
 |var n=>simp only[T.sub,T.ap];cases f n<;>rfl
 |pair a b ee ef=>simp[T.sub,T.ap,ee,ef]
 |_=>rfl
theorem XA(aL:Int→T)(t:T):t.size≤(t.ap aL).size:=by
 induction t with
 |var n=>exact T.size_pos _
 |pair a b ee ef=>simp only[T.ap,T.size];omega
 |_=>exact e1 _
theorem zz(aL:Int→T){v:Int}{t:T}(h:t.occ v=true):(aL v).size≤(t.ap aL).size∧(t.kind≠1→(aL v).size<(t.ap aL).size):=by
 induction t with
 |var n=>simp[T.occ]at h;subst h;simp[T.ap,T.kind]
 |pair a b ee ef=>
  simp only[T.occ,lQ]at h;simp only[T.ap,T.size];rcases h with h|h
  ·have:=(ee h).1;exact⟨by omega,fun _=>by omega⟩
  ·have:=(ef h).1;exact⟨by omega,fun _=>by omega⟩
 |_=>simp[T.occ]at h
theorem zy{aL:Int→T}{v:Int}{t:T}:(t.ap aL).occ v=true↔∃w,t.occ w=true∧(aL w).occ v=true:=by
 induction t with
 |var n=>simp[T.ap,T.occ]
 |pair a b ee ef=>
  simp only[T.ap,T.occ,lQ,ee,ef];constructor
  ·rintro(⟨w,J,U⟩|⟨w,J,U⟩)
   ·exact⟨w,.inl J,U⟩
   ·exact⟨w,.inr J,U⟩
  ·rintro⟨w,J|J,U⟩
   ·exact .inl ⟨w,J,U⟩
   ·exact .inr ⟨w,J,U⟩
 |_=>simp[T.ap,T.occ]
def bP(s:List al)(v:Int):T:=(c0 s v).getD (.var v)
abbrev h5(s:List al):Prop:=s.Pairwise fun x y=>x.v<y.v
def fV(s:List al)(aL:Int→T):Prop:= ∀b∈s,aL b.v=b.t.ap aL
structure ff (s:List al):Prop where
 asc:h5 s
 free:∀b∈s,∀w,b.t.occ w=true→c0 s w=none
 ori:∀b∈s,∀w,b.t= .var w→w<b.v
theorem tn(b:al)(s:List al)(v:Int):c0 (b::s) v=if b.v=v then some b.t else c0 s v:=by
 unfold c0;by_cases h:b.v=v
 ·simp[h]
 ·have:(b.v==v)=false:=by simp[h]
  simp[this,h,List.find?_cons]
theorem jT{v:Int}{t:T}:∀{s:List al},c0 s v=some t→(⟨v,t⟩:al)∈s
 |[],h=>by simp[c0]at h
 |b::s,h=>by
  rw[tn]at h;split at h
  ·rename_i e;cases h;subst e;simp
  ·exact mX _ (jT h)
theorem r4{v:Int}:∀{s:List al},c0 s v=none↔∀b∈s,b.v≠v
 |[]=>by simp[c0]
 |b::s=>by
  rw[tn];by_cases h:b.v=v
  ·simp[h]
  ·simp[h,r4 (s:=s)]
theorem qP{b:al}:∀{s:List al},h5 s→b∈s→c0 s b.v=some b.t
 |[],_,h=>by simp at h
 |c::s,br,h=>by
  rw[tn];have my:=ml.1 br;rcases ga.1 h with rfl|h
  ·simp
  ·have:=my.1 b h;rw[if_neg (by omega)];exact qP my.2 h
theorem M7:∀{s ah:List al},h5 s→h5 ah→(∀v,c0 s v=c0 ah v)→s=ah
 |[],[],_,_,_=>rfl
 |[],c::ah,_,_,h=>by have:=h c.v;rw[tn]at this;simp[c0]at this
 |c::s,[],_,_,h=>by have:=h c.v;rw[tn]at this;simp[c0]at this
 |b::s,c::ah,br,ae,h=>by
  have gz:=ml.1 ae;have my:=ml.1 br;have J:(⟨b.v,b.t⟩:al)∈c::ah:=jT (by rw[←h b.v,tn];simp);have U:(⟨c.v,c.t⟩:al)∈b::s:=jT (by rw[h c.v,tn];simp);have Q3:b=c:=by
   rcases ga.1 J with e|e
   ·exact e
   ·rcases ga.1 U with aA|aA
    ·exact aA.symm
    ·have a1:=gz.1 _ e;have bt:=my.1 _ aA;simp only at a1 bt;omega
  subst Q3;rw[M7 my.2 gz.2 fun v=>?_];have:=h v;rw[tn,tn]at this;by_cases e:b.v=v
  ·have kL:c0 s v=none:=r4.2 fun x ad=>by have:=my.1 x ad;omega
   have z2:c0 ah v=none:=r4.2 fun x ad=>by have:=gz.1 x ad;omega
   rw[kL,z2]
  ·simpa[e]using this
theorem ai6{s:List al}(br:h5 s){aL:Int→T}:fV s aL↔∀v,aL v=(bP s v).ap aL:=by
 constructor
 ·intro h v;unfold bP;cases e:c0 s v with
  |none=>rfl
  |some t=>exact h _ (jT e)
 ·intro h b ae;have:=h b.v;rw[bP,qP br ae]at this;exact this
theorem L1{s:List al}{aL:Int→T}(h:fV s aL)(t:T):t.ap aL=(t.ap (bP s)).ap aL:=by
 rw[x6];refine qN fun v _=>?_;unfold bP;cases e:c0 s v with
 |none=>rfl
 |some t=>exact h _ (jT e)
theorem aiN{s:List al}(af:ff s){t:T}(h:∀w,t.occ w=true→c0 s w=none):t.ap (bP s)=t:=M4 fun v aJ=>by simp[bP,h v aJ]
theorem vP{s:List al}(af:ff s):fV s (bP s):=fun b ae=>by rw[aiN af (af.free b ae),bP,qP af.asc ae];rfl
theorem Cb{s ah:List al}(af:ff s)(fw:ff ah)(h:∀aL,fV ah aL→fV s aL){v:Int}(aJ:c0 ah v=none):c0 s v=none:=by
 cases e:c0 s v with
 |none=>rfl
 |some t=>
  have J:=h _ (vP fw) _ (jT e);simp only[bP,aJ,jj]at J;cases t with
  |var w=>
   have U:w<v:=af.ori _ (jT e) w rfl;simp only[T.ap,bP]at J;cases bs:c0 ah w with
   |none=>rw[bs]at J;simp at J;omega
   |some u=>rw[bs]at J;simp only[jk]at J;subst J;have:=fw.ori _ (jT bs) v rfl;simp only at this;omega
  |_=>simp[T.ap]at J
theorem afr{s ah:List al}(fw:ff ah)(h:∀aL,fV ah aL→fV s aL){v:Int}:(bP s v).size≤(bP ah v).size:=by
 have J:=h _ (vP fw);unfold bP;cases e:c0 s v with
 |none=>exact T.size_pos _
 |some t=>have:=J _ (jT e);show t.size≤(bP ah v).size;simp only at this;rw[this];exact XA _ _
theorem ai9{s ah:List al}(af:ff s)(fw:ff ah)(h:∀aL,fV s aL↔fV ah aL):s=ah:=by
 refine M7 af.asc fw.asc fun v=>?_;have d1:∀w,c0 s w=none↔c0 ah w=none:=fun w=>⟨Cb fw af (fun aL=>(h aL).1),Cb af fw fun aL=>(h aL).2⟩;cases e:c0 s v with
 |none=>exact((d1 v).1 e).symm
 |some t=>
  cases fD:c0 ah v with
  |none=>rw[(d1 v).2 fD]at e;cases e
  |some dE=>have J:=(h _).2 (vP fw) _ (jT e);simp only[bP,fD,jk]at J;rw[J];exact eO some (M4 fun w hw=>by have:=(d1 w).1 (af.free _ (jT e) w hw);simp[bP,this]).symm
def gy(s:List al):Prop:=s.length≤400∧∀b∈s,b.t.size≤5000
theorem XK{s:List al}(h:h5 s):(s.map (·.v)).Nodup:=by rw[List.nodup_iff_pairwise_ne,List.pairwise_map];exact h.imp fun h=>by omega
theorem Qh{s ah:List al}(af:ff s)(fw:ff ah)(h:∀aL,fV ah aL→fV s aL)(aQ:gy ah):gy s:=by
 have aK:∀x∈s.map (·.v),x∈ah.map (·.v):=by
  intro x ad;obtain⟨b,ae,rfl⟩:=hH.1 ad;cases e:c0 ah b.v with
  |none=>have:=Cb af fw h e;rw[qP af.asc ae]at this;cases this
  |some t=>exact hH.2 ⟨_,jT e,rfl⟩
 have aq:=GX (XK af.asc) aK;simp only[List.length_map]at aq;refine⟨ji aq aQ.1,fun b ae=>?_⟩;have J:=afr (s:=s) fw h (v:=b.v);rw[bP,qP af.asc ae]at J;obtain⟨c,av,e⟩:=hH.1 (aK b.v (hH.2 ⟨b,ae,rfl⟩));have U:=aQ.2 c av;rw[bP,←e,qP fw.asc av]at J;exact ji J U
def iN(E:List (T×T))(aL:Int→T):Prop:= ∀e∈E,e.1.ap aL=e.2.ap aL
theorem CU(aL:Int→T):iN [] aL:=fun _ h=>by simp at h
theorem qz{e:T×T}{E:List (T×T)}{aL:Int→T}:iN (e::E) aL↔e.1.ap aL=e.2.ap aL∧iN E aL:=by simp[iN]
theorem CT{E lT:List (T×T)}{aL:Int→T}:iN (E++lT) aL↔iN E aL∧iN lT aL:=by simp only[iN,ja];exact⟨fun h=>⟨fun e he=>h e (.inl he),fun e he=>h e (.inr he)⟩,fun h e he=>he.elim (h.1 e) (h.2 e)⟩
def il(s:List al)(E:List (T×T)):Option (List al)→Prop
 |some ah=>(ff ah∧gy ah)∧∀aL,fV ah aL↔fV s aL∧iN E aL
 |none=> ∀ah,ff ah→(∀aL,fV ah aL→fV s aL∧iN E aL)→¬gy ah
theorem Xo{s:List al}{E:List (T×T)}:∀{o o':Option (List al)},il s E o→il s E o'→o=o'
 |none,none,_,_=>rfl
 |some s1,none,h,cA=>absurd h.1.2 (cA s1 h.1.1 fun aL=>(h.2 aL).1)
 |none,some s1,cA,h=>absurd h.1.2 (cA s1 h.1.1 fun aL=>(h.2 aL).1)
 |some s1,some s2,h,cA=>by rw[ai9 h.1.1 cA.1.1 fun aL=>(h.2 aL).trans (cA.2 aL).symm]
theorem x3{s s2:List al}{E MN:List (T×T)}(h:∀aL,(fV s aL∧iN E aL)↔(fV s2 aL∧iN MN aL)):∀{o:Option (List al)},il s E o→il s2 MN o
 |none,aI=>fun ah J U=>aI ah J fun aL fT=>(h aL).2 (U aL fT)
 |some s1,aI=>⟨aI.1,fun aL=>(aI.2 aL).trans (h aL)⟩
theorem Hb{s s1:List al}{E lT:List (T×T)}(h:il s E (some s1)):∀{o:Option (List al)},il s1 lT o→il s (E++lT) o
 |none,aI=>fun ah J U=>aI ah J fun aL fT=>⟨(h.2 aL).2 ⟨(U aL fT).1,(CT.1 (U aL fT).2).1⟩,(CT.1 (U aL fT).2).2⟩
 |some s2,aI=>⟨aI.1,fun aL=>by rw[aI.2 aL,h.2 aL,CT,and_assoc]⟩
theorem Dq{s:List al}{E:List (T×T)}(lT:List (T×T))(h:il s E none):il s (E++lT) none:=fun ah J U=>h ah J fun aL fT=>⟨(U aL fT).1,(CT.1 (U aL fT).2).1⟩
theorem Dp{s:List al}{E:List (T×T)}(h:∀aL,fV s aL→¬iN E aL):il s E none:=fun ah J U=>absurd (U _ (vP J)).2 (h _ (U _ (vP J)).1)
theorem Hc{s:List al}(af:ff s)(aQ:gy s):il s [] (some s):=⟨⟨af,aQ⟩,fun aL=>⟨fun h=>⟨h,CU aL⟩,fun h=>h.1⟩⟩
def one(v:Int)(x:T)(w:Int):T:=if w=v then x else .var w
def n9(b:al):List al→List al
 |[]=>[b]
 |c::s=>if b.v<c.v then b::c::s else c::n9 b s
def lX(s:List al)(v:Int)(x:T):List al:=n9 ⟨v,x⟩ (s.map fun b=>⟨b.v,b.t.ap (one v x)⟩)
theorem Kn{b x:al}:∀{s:List al},x∈n9 b s↔x=b∨x∈s
 |[]=>by simp[n9]
 |c::s=>by
  simp only[n9];split
  ·simp
  ·simp only[ga,Kn (s:=s)];constructor
   ·rintro(h|h|h)
    ·exact .inr (.inl h)
    ·exact .inl h
    ·exact .inr (.inr h)
   ·rintro(h|h|h)
    ·exact .inr (.inl h)
    ·exact .inl h
    ·exact .inr (.inr h)
theorem S9{b:al}:∀{s:List al},(n9 b s).length=s.length+1
 |[]=>rfl
 |c::s=>by simp only[n9];split<;>simp[S9]
theorem M8{b:al}:∀{s:List al},h5 s→(∀c∈s,c.v≠b.v)→h5 (n9 b s)
 |[],_,_=>by simp[n9]
 |c::s,br,ar=>by
  have my:=ml.1 br;simp only[n9];split
  ·rename_i bq;refine ml.2 ⟨fun x ad=>?_,br⟩;rcases ga.1 ad with rfl|ad
   ·exact bq
   ·have:=my.1 x ad;omega
  ·rename_i u3;refine ml.2 ⟨fun x ad=>?_,M8 my.2 fun c av=>ar c (by simp[av])⟩;rcases Kn.1 ad with rfl|ad
   ·have:=ar c (by simp);omega
   ·exact my.1 x ad
theorem pN{s:List al}{v:Int}{x:T}{b:al}:b∈lX s v x↔b=⟨v,x⟩∨ ∃c∈s,b=⟨c.v,c.t.ap (one v x)⟩:=by unfold lX;rw[Kn,hH];refine or_congr Iff.rfl ⟨fun⟨c,J,U⟩=>⟨c,J,U.symm⟩,fun⟨c,J,U⟩=>⟨c,J,U.symm⟩⟩
theorem T9{v:Int}{x:T}{aL:Int→T}(h:aL v=x.ap aL)(t:T):(t.ap (one v x)).ap aL=t.ap aL:=by
 rw[x6];refine qN fun w _=>?_;unfold one;split
 ·rename_i e;subst e;exact h.symm
 ·rfl
theorem Du{s:List al}{v w:Int}{x:T}:c0 (lX s v x) w=none↔w≠v∧c0 s w=none:=by
 rw[r4,r4];constructor
 ·intro h;exact⟨fun e=>h ⟨v,x⟩ (pN.2 (.inl rfl)) e.symm,fun b ae=>h ⟨b.v,b.t.ap (one v x)⟩ (pN.2 (.inr ⟨b,ae,rfl⟩))⟩
 ·rintro⟨J,U⟩ b ae;rcases pN.1 ae with rfl|⟨c,av,rfl⟩
  ·exact fun e=>J e.symm
  ·exact U c av
theorem LX{s:List al}(af:ff s){t:T}{w:Int}(h:(t.ap (bP s)).occ w=true):c0 s w=none:=by
 obtain⟨u,_,U⟩:=zy.1 h;unfold bP at U;cases e:c0 s u with
 |none=>rw[e]at U;simp[T.occ]at U;subst U;exact e
 |some t=>rw[e]at U;exact af.free _ (jT e) w U
theorem ai8{s:List al}(af:ff s){v:Int}{t:T}(aJ:c0 s v=none)(au:(t.ap (bP s)).occ v=false)(oO:∀w,t.ap (bP s)= .var w→w<v):ff (lX s v (t.ap (bP s))):=by
 have ad:∀w,(t.ap (bP s)).occ w=true→c0 (lX s v (t.ap (bP s))) w=none:=fun w hw=>Du.2 ⟨fun e=>(by subst e;rw[au]at hw;cases hw),LX af hw⟩;refine⟨M8 ?_ ?_,fun b ae w hw=>?_,fun b ae w hw=>?_⟩
 ·rw[h5,List.pairwise_map];exact af.asc
 ·intro c av;obtain⟨b,ae,rfl⟩:=hH.1 av;exact r4.1 aJ b ae
 ·rcases pN.1 ae with rfl|⟨c,av,rfl⟩
  ·exact ad w hw
  ·obtain⟨u,J,U⟩:=zy.1 hw;unfold one at U;split at U
   ·exact ad w U
   ·rename_i cC;simp[T.occ]at U;subst U;exact Du.2 ⟨cC,af.free c av _ J⟩
 ·rcases pN.1 ae with rfl|⟨c,av,rfl⟩
  ·exact oO w hw
  ·simp only at hw⊢;cases e:c.t with
   |var u=>
    have:=af.ori c av u e;rw[e]at hw;simp only[T.ap,one]at hw;split at hw
    ·rename_i aA;subst aA;have:=oO w hw;omega
    ·cases hw;exact this
   |_=>rw[e]at hw;simp[T.ap]at hw
theorem VN{s:List al}{v:Int}{t:T}(aL:Int→T):fV (lX s v (t.ap (bP s))) aL↔fV s aL∧iN [(.var v,t)] aL:=by
 have ak:iN [(.var v,t)] aL↔aL v=t.ap aL:=by simp[iN,T.ap]
 rw[ak];constructor
 ·intro h;have bV:aL v=(t.ap (bP s)).ap aL:=h _ (pN.2 (.inl rfl));have J:fV s aL:=fun b ae=>by have:=h _ (pN.2 (.inr ⟨b,ae,rfl⟩));simp only at this;rw[T9 bV]at this;exact this
  exact⟨J,by rw[L1 J t];exact bV⟩
 ·rintro⟨J,U⟩ b ae;have bV:aL v=(t.ap (bP s)).ap aL:=by rw[←L1 J t];exact U
  rcases pN.1 ae with rfl|⟨c,av,rfl⟩
  ·exact bV
  ·simp only;rw[T9 bV];exact J c av
open Classical in
theorem Xl{s:List al}(af:ff s){v:Int}{t:T}(aJ:c0 s v=none)(au:(t.ap (bP s)).occ v=false)(oO:∀w,t.ap (bP s)= .var w→w<v):il s [(.var v,t)] (if gy (lX s v (t.ap (bP s)))then some (lX s v (t.ap (bP s)))else none):=by
 have J:=ai8 af aJ au oO;split
 ·rename_i aQ;exact⟨⟨J,aQ⟩,VN⟩
 ·rename_i aQ;exact fun ah U ao aZ=>aQ (Qh J U (fun aL fT=>(VN aL).2 (ao aL fT)) aZ)
def gT(s:List al):T→T
 | .var n=>bP s n
 |t=>t
def ng(s:List al)(v:Int)(t:T):Option (List al):=if(t.ap (bP s)).size≤5000∧(t.ap (bP s)).occ v=false∧s.length<400∧∀b∈s,(b.t.ap (one v (t.ap (bP s)))).size≤5000 then some (lX s v (t.ap (bP s)))else none
def jQ(rec:List al→T→T→Option (Option (List al)))(s:List al):T→T→Option (Option (List al))
 | .var i,.var j=>some (if i<j then ng s j (.var i)else if i=j then some s else ng s i (.var j))
 | .var i,y=>some (ng s i y)
 |x,.var j=>some (ng s j x)
 | .pair bp a2,.pair b8 b3=>match rec s bp b8 with
  |none=>none
  |some none=>some none
  |some (some s1)=>rec s1 a2 b3
 |x,y=>some (if x=y then some s else none)
def kq:Nat→List al→T→T→Option (Option (List al))
 |0,_,_,_=>none
 |n+1,s,a,b=>jQ (kq n) s (gT s a) (gT s b)
theorem ajz{rec Lv:List al→T→T→Option (Option (List al))}(h:∀s a b o,rec s a b=some o→Lv s a b=some o){s:List al}{x y:T}{o:Option (List al)}(he:jQ rec s x y=some o):jQ Lv s x y=some o:=by
 cases x<;>cases y<;>simp only[jQ]at he⊢ <;>try exact he
 rename_i bp a2 b8 b3;cases e:rec s bp b8 with
 |none=>rw[e]at he;cases he
 |some gv=>
  rw[e]at he;rw[h _ _ _ _ e];cases gv with
  |none=>exact he
  |some s1=>exact h _ _ _ _ he
theorem CY:∀{n m:Nat} {s:List al} {a b:T} {o:Option (List al)},n≤m→kq n s a b=some o→kq m s a b=some o
 |0,_,_,_,_,_,_,h=>by simp[kq]at h
 |n+1,0,_,_,_,_,hm,_=>by omega
 |n+1,m+1,s,a,b,o,hm,h=>by simp only[kq]at h⊢;exact ajz (fun s a b o h=>CY (by omega) h) h
theorem Iv{s:List al}{v:Int}{x:T}:gy (lX s v x)↔(x.size≤5000∧s.length<400∧∀b∈s,(b.t.ap (one v x)).size≤5000):=by
 have aq:(lX s v x).length=s.length+1:=by simp[lX,S9]
 unfold gy;rw[aq];constructor
 ·rintro⟨J,U⟩;exact⟨U _ (pN.2 (.inl rfl)),by omega,fun b ae=>U _ (pN.2 (.inr ⟨b,ae,rfl⟩))⟩
 ·rintro⟨J,U,ao⟩;refine⟨by omega,fun b ae=>?_⟩;rcases pN.1 ae with rfl|⟨c,av,rfl⟩
  ·exact J
  ·exact ao c av
theorem Xm{s:List al}(af:ff s){v:Int}{t:T}(aJ:c0 s v=none)(cC:t.ap (bP s)≠ .var v)(oO:∀w,t.ap (bP s)= .var w→w<v):il s [(.var v,t)] (ng s v t):=by
 unfold ng;cases au:(t.ap (bP s)).occ v with
 |true=>
  rw[if_neg (by simp)];refine Dp fun aL J U=>?_;have ao:=(qz.1 U).1;simp only[T.ap]at ao;rw[L1 J t]at ao;have ab:(t.ap (bP s)).kind≠1:=by
   intro ab;cases e:t.ap (bP s)with
   |var w=>rw[e]at au;simp[T.occ]at au;subst au;exact cC e
   |_=>rw[e]at ab;simp[T.kind]at ab
  have:=(zz aL au).2 ab;rw[←ao]at this;omega
 |false=>
  have J:=Xl af aJ au oO;by_cases aQ:gy (lX s v (t.ap (bP s)))
  ·rw[if_pos aQ]at J;rw[if_pos ⟨(Iv.1 aQ).1,rfl,(Iv.1 aQ).2⟩];exact J
  ·rw[if_neg aQ]at J;rw[if_neg fun h=>aQ (Iv.2 ⟨h.1,h.2.2⟩)];exact J
theorem WL{s:List al}(af:ff s){t:T}{i:Int}(h:gT s t= .var i):c0 s i=none:=by
 cases t with
 |var n=>
  simp only[gT,bP]at h;cases e:c0 s n with
  |none=>rw[e]at h;simp at h;subst h;exact e
  |some u=>rw[e]at h;simp at h;subst h;exact af.free _ (jT e) i (by simp[T.occ])
 |_=>simp[gT]at h
theorem MB{s:List al}{aL:Int→T}(h:fV s aL)(t:T):(gT s t).ap aL=t.ap aL:=by
 cases t with
 |var n=>
  simp only[gT,T.ap,bP];cases e:c0 s n with
  |none=>rfl
  |some u=>exact(h _ (jT e)).symm
 |_=>rfl
theorem WN{s:List al}(af:ff s)(t:T):(gT s t).ap (bP s)=t.ap (bP s):=MB (vP af) t
def pC(V:List Int)(t:T):Prop:= ∀w,t.occ w=true→w∈V
def w5(V:List Int)(s:List al):Prop:= ∀b∈s,b.v∈V∧pC V b.t
def yh(V:List Int)(s:List al):Nat:=(V.filter fun v=>(c0 s v).isNone).length
theorem Qf{α:Type}{p q:α→Bool}{v:α}:∀{V:List α},(∀x∈V,q x=true→p x=true)→v∈V→p v=true→q v=false→(V.filter q).length<(V.filter p).length
 |[],_,h,_,_=>by simp at h
 |x::V,h,aJ,bF,bn=>by
  have hle:∀W:List α,(∀x∈W,q x=true→p x=true)→(W.filter q).length≤(W.filter p).length:=by
   intro W;induction W with
   |nil=>intro _;simp
   |cons y W bW=>intro Bb;have:=bW fun x ad=>Bb x (by simp[ad]);have aG:=Bb y (by simp);simp only[List.filter_cons];cases e:q y<;>cases aA:p y<;>simp_all<;>omega
  simp only[List.filter_cons];rcases ga.1 aJ with rfl|aJ
  ·have:=hle V fun x ad=>h x (by simp[ad]);simp[bF,bn];omega
  ·have:=Qf (fun x ad=>h x (mX _ ad)) aJ bF bn;have ad:=h x (by simp);cases e:q x<;>cases aA:p x<;>simp_all<;>omega
theorem X3{V:List Int}{s:List al}{v:Int}{x:T}(aJ:v∈V)(ar:c0 s v=none):yh V (lX s v x)<yh V s:=by
 unfold yh;refine Qf (v:=v) (fun w _ h=>?_) aJ (by simp[ar]) ?_
 ·rw[Option.isNone_iff_eq_none,Du]at h;simp[h.2]
 ·cases e:c0 (lX s v x) v with
  |none=>exact absurd rfl (Du.1 e).1
  |some _=>rfl
theorem Sj{V:List Int}{s:List al}(h:w5 V s){t:T}(aN:pC V t):pC V (t.ap (bP s)):=fun w hw=>by
 obtain⟨u,J,U⟩:=zy.1 hw;unfold bP at U;cases e:c0 s u with
 |none=>rw[e]at U;simp[T.occ]at U;subst U;exact aN _ J
 |some x=>rw[e]at U;exact(h _ (jT e)).2 w U
theorem ad6{V:List Int}{s:List al}(h:w5 V s){v:Int}{x:T}(aJ:v∈V)(ad:pC V x):w5 V (lX s v x):=fun b ae=>by
 rcases pN.1 ae with rfl|⟨c,av,rfl⟩
 ·exact⟨aJ,ad⟩
 ·refine⟨(h c av).1,fun w hw=>?_⟩;obtain⟨u,J,U⟩:=zy.1 hw;unfold one at U;split at U
  ·exact ad w U
  ·simp[T.occ]at U;subst U;exact(h c av).2 _ J
theorem Sk{V:List Int}{s:List al}(h:w5 V s){t:T}(aN:pC V t):pC V (gT s t):=by
 cases t with
 |var n=>have:=Sj h aN;simpa[gT,T.ap]using this
 |_=>exact aN
def AA(V:List Int)(s:List al)(a b:T)(o:Option (List al)):Prop:=il s [(a,b)] o∧∀ah,o=some ah→w5 V ah∧(ah=s∨yh V ah<yh V s)
theorem CZ{V:List Int}{s:List al}(af:ff s)(jd:w5 V s){v:Int}{t a b:T}(aJ:v∈V)(aN:pC V t)(ar:c0 s v=none)(cC:t.ap (bP s)≠ .var v)(oO:∀w,t.ap (bP s)= .var w→w<v)(av:∀aL,fV s aL→(aL v=t.ap aL↔a.ap aL=b.ap aL)):AA V s a b (ng s v t):=by
 refine⟨x3 (fun aL=>?_) (Xm af ar cC oO),fun ah h=>?_⟩
 ·refine and_congr_right fun h=>?_;rw[qz,qz];simp only[T.ap,av aL h]
 ·unfold ng at h;split at h
  ·cases h;exact⟨ad6 jd aJ (Sj jd aN),.inr (X3 aJ ar)⟩
  ·cases h
theorem zZ{s:List al}{i:Int}(h:c0 s i=none):bP s i= .var i:=by simp[bP,h]
theorem V4(V:List Int)(k:Nat):∀(m:Nat) (s:List al) (a b:T),ff s→gy s→w5 V s→pC V a→pC V b→yh V s=k→(a.ap (bP s)).size+(b.ap (bP s)).size=m→
  ∃n o,kq n s a b=some o∧AA V s a b o:=by
 induction k using qI with
 |ind k JK=>
 intro m;induction m using qI with
 |ind m y8=>
 intro s a b af aQ jd br ae ab hm;have ad:=Sk jd br;have aG:=Sk jd ae;have Ma:=WN af a;have Mb:=WN af b;have tj:=fun aL (h:fV s aL)=>MB h a;have nc:=fun aL (h:fV s aL)=>MB h b;have qd:=fun i=>WL af (t:=a) (i:=i);have Iz:=fun i=>WL af (t:=b) (i:=i);have key:∀(rec:List al→T→T→Option (Option (List al))) (o:Option (List al)),jQ rec s (gT s a) (gT s b)=some o→(∀bp a2 b8 b3,gT s a= .pair bp a2→gT s b= .pair b8 b3→AA V s a b o)→AA V s a b o:=by
  intro rec o he bF;cases ex:gT s a with
  |var i=>
   have yt:=qd i ex;have p3:=fun aL h=>(tj aL h).symm.trans (by rw[ex]);cases hL:gT s b with
   |var j=>
    have wF:=Iz j hL;have oE:=fun aL h=>(nc aL h).symm.trans (by rw[hL]);rw[ex,hL]at he;simp only[jQ]at he;have hi:i∈V:=by rw[ex]at ad;exact ad i (by simp[T.occ])
    have ag:j∈V:=by rw[hL]at aG;exact aG j (by simp[T.occ])
    rcases Int.lt_trichotomy i j with h|h|h
    ·rw[if_pos h]at he;cases he;refine CZ af jd ag (by rw[ex]at ad;exact ad) wF (by simp[T.ap,zZ yt];omega) (fun w hw=>by simp[T.ap,zZ yt]at hw;omega) fun aL fT=>?_;rw[p3 aL fT,oE aL fT];simp only[T.ap];exact⟨Eq.symm,Eq.symm⟩
    ·subst h;rw[if_neg (by omega),if_pos rfl]at he;cases he;refine⟨⟨⟨af,aQ⟩,fun aL=>⟨fun h=>⟨h,qz.2 ⟨?_,CU aL⟩⟩,fun h=>h.1⟩⟩,fun ah e=>by cases e;exact⟨jd,.inl rfl⟩⟩;simp only;rw[p3 aL h,oE aL h]
    ·rw[if_neg (by omega),if_neg (by omega)]at he;cases he;refine CZ af jd hi (by rw[hL]at aG;exact aG) yt (by simp[T.ap,zZ wF];omega) (fun w hw=>by simp[T.ap,zZ wF]at hw;omega) fun aL fT=>?_;rw[p3 aL fT,oE aL fT];simp only[T.ap]
   |_=>have oE:=fun aL h=>(nc aL h).symm.trans (by rw[hL]);rw[ex,hL]at he;simp only[jQ]at he;cases he;refine CZ af jd (by rw[ex]at ad;exact ad i (by simp[T.occ])) (by rw[hL]at aG;exact aG) yt (by simp[T.ap]) (fun w hw=>by simp[T.ap]at hw) fun aL fT=>?_;rw[p3 aL fT,oE aL fT];simp only[T.ap]
  |pair bp a2=>
   cases hL:gT s b with
   |pair b8 b3=>exact bF bp a2 b8 b3 ex hL
   |var j=>have wF:=Iz j hL;have p3:=fun aL h=>(tj aL h).symm.trans (by rw[ex]);have oE:=fun aL h=>(nc aL h).symm.trans (by rw[hL]);rw[ex,hL]at he;simp only[jQ]at he;cases he;refine CZ af jd (by rw[hL]at aG;exact aG j (by simp[T.occ])) (by rw[ex]at ad;exact ad) wF (by simp[T.ap]) (fun w hw=>by simp[T.ap]at hw) fun aL fT=>?_;rw[p3 aL fT,oE aL fT];simp only[T.ap];exact⟨Eq.symm,Eq.symm⟩
   |_=>have p3:=fun aL h=>(tj aL h).symm.trans (by rw[ex]);have oE:=fun aL h=>(nc aL h).symm.trans (by rw[hL]);rw[ex,hL]at he;simp only[jQ]at he;simp at he;subst he;refine⟨Dp fun aL J U=>?_,fun ah e=>by cases e⟩;have:=(qz.1 U).1;simp only at this;rw[p3 aL J,oE aL J]at this;simp[T.ap]at this
  |_=>
   have p3:=fun aL h=>(tj aL h).symm.trans (by rw[ex]);cases hL:gT s b with
   |var j=>have wF:=Iz j hL;have oE:=fun aL h=>(nc aL h).symm.trans (by rw[hL]);rw[ex,hL]at he;simp only[jQ]at he;cases he;refine CZ af jd (by rw[hL]at aG;exact aG j (by simp[T.occ])) (by rw[ex]at ad;exact ad) wF (by simp[T.ap]) (fun w hw=>by simp[T.ap]at hw) fun aL fT=>?_;rw[p3 aL fT,oE aL fT];simp only[T.ap];exact⟨Eq.symm,Eq.symm⟩
   |_=>
    have oE:=fun aL h=>(nc aL h).symm.trans (by rw[hL]);rw[ex,hL]at he;simp only[jQ,dt]at he;split at he
    ·rename_i e;subst he;refine⟨⟨⟨af,aQ⟩,fun aL=>⟨fun h=>⟨h,qz.2 ⟨?_,CU aL⟩⟩,fun h=>h.1⟩⟩,fun ah e=>by cases e;exact⟨jd,.inl rfl⟩⟩;simp only;rw[p3 aL h,oE aL h];try rw[e]
    ·rename_i e;subst he;refine⟨Dp fun aL J U=>?_,fun ah e=>by cases e⟩;have:=(qz.1 U).1;simp only at this;rw[p3 aL J,oE aL J]at this;simp[T.ap]at this e;try exact e this
 by_cases EL:∃bp a2 b8 b3,gT s a= .pair bp a2∧gT s b= .pair b8 b3
 ·obtain⟨bp,a2,b8,b3,ex,hL⟩:=EL;have ed:(bp.ap (bP s)).size+(b8.ap (bP s)).size<m∧(a2.ap (bP s)).size+(b3.ap (bP s)).size<m:=by rw[ex]at Ma;rw[hL]at Mb;simp only[T.ap]at Ma Mb;rw[←hm,←Ma,←Mb];simp only[T.size];omega
  have kT:pC V bp:=fun w hw=>by rw[ex]at ad;exact ad w (by simp[T.occ,hw])
  have ps:pC V a2:=fun w hw=>by rw[ex]at ad;exact ad w (by simp[T.occ,hw])
  have lb:pC V b8:=fun w hw=>by rw[hL]at aG;exact aG w (by simp[T.occ,hw])
  have nQ:pC V b3:=fun w hw=>by rw[hL]at aG;exact aG w (by simp[T.occ,hw])
  have Rf:∀aL,(fV s aL∧iN ([(bp,b8)]++[(a2,b3)]) aL)↔(fV s aL∧iN [(a,b)] aL):=fun aL=>and_congr_right fun h=>by simp only[List.singleton_append,qz,CU,and_true];rw[←tj aL h,←nc aL h,ex,hL];simp[T.ap]
  obtain⟨hq,gv,ak,cQ⟩:=y8 _ ed.1 s bp b8 af aQ jd kT lb ab rfl;cases gv with
  |none=>refine⟨hq+1,none,?_,x3 Rf (Dq _ cQ.1),fun ah e=>by cases e⟩;simp only[kq,ex,hL,jQ,ak]
  |some s1=>
   obtain⟨v1,v2⟩:=cQ.2 s1 rfl;have BD:∃fX gq,kq fX s1 a2 b3=some gq∧AA V s1 a2 b3 gq:=by
    rcases v2 with rfl|v2
    ·exact y8 _ ed.2 _ a2 b3 af aQ jd ps nQ ab rfl
    ·exact JK _ (by omega) _ s1 a2 b3 cQ.1.1.1 cQ.1.1.2 v1 ps nQ rfl rfl
   obtain⟨fX,gq,aA,dm⟩:=BD;refine⟨max hq fX+1,gq,?_,x3 Rf (Hb cQ.1 dm.1),fun ah e=>?_⟩
   ·simp only[kq,ex,hL,jQ,CY (Nat.le_max_left hq fX) ak];exact CY (Nat.le_max_right hq fX) aA
   ·obtain⟨fH,dL⟩:=dm.2 ah e;refine⟨fH,?_⟩;rcases v2 with rfl|v2
    ·exact dL
    ·rcases dL with rfl|dL
     ·exact .inr v2
     ·exact .inr (by omega)
 ·have RO:∀bp a2 b8 b3,gT s a= .pair bp a2→gT s b= .pair b8 b3→ej:=fun bp a2 b8 b3 J U=>EL ⟨bp,a2,b8,b3,J,U⟩;have:∃o,jQ (kq 0) s (gT s a) (gT s b)=some o:=by cases ex:gT s a<;>cases hL:gT s b<;>simp only[jQ]<;>first|exact⟨_,rfl⟩|exact(RO _ _ _ _ ex hL).elim
  obtain⟨o,au⟩:=this;exact⟨1,o,au,key _ o au fun bp a2 b8 b3 J U=>(RO bp a2 b8 b3 J U).elim⟩
def tg{α:Type}(k:Int):List (Int×α)→Option α
 |[]=>none
 |(i,v)::r=>if k=i then some v else tg k r
def eN{α:Type}(k:Int)(v:α):List (Int×α)→List (Int×α)
 |[]=>[(k,v)]
 |(i,w)::r=>if k=i then(i,v)::r else(i,w)::eN k v r
def ch{α:Type}(m:List (Int×α)):List Int:=m.map (·.1)
theorem mS{α:Type}(k:Int)(v:α)(j:Int):∀m:List (Int×α),tg j (eN k v m)=if j=k then some v else tg j m
 |[]=>by simp only[eN,tg]
 |(i,w)::r=>by
  simp only[eN];by_cases h:k=i
  ·subst h;by_cases U:j=k<;>simp[tg,U]
  ·by_cases U:j=i
   ·subst U;have:¬j=k:=fun e=>h e.symm;simp[tg,h,this]
   ·simp[tg,h,U,mS k v j r]
theorem GB{α:Type}{k:Int}:∀{m:List (Int×α)},(tg k m).isSome=true↔k∈ch m
 |[]=>by simp[tg,ch]
 |(i,w)::r=>by
  simp only[tg,ch,gI,ga];by_cases h:k=i
  ·simp[h]
  ·simp only[h,if_false,false_or];exact GB
theorem ajt{α:Type}{k:Int}{m:List (Int×α)}:tg k m=none↔k∉ch m:=by rw[←GB];cases tg k m<;>simp
theorem BV{α:Type}{k:Int}{v:α}:∀{m:List (Int×α)},k∈ch m→ch (eN k v m)=ch m
 |[],h=>by simp[ch]at h
 |(i,w)::r,h=>by
  simp only[eN];by_cases e:k=i
  ·simp[e,ch]
  ·rw[if_neg e];have cA:k∈ch r:=by simpa[ch,e]using h
   have:=BV (v:=v) cA;simp only[ch]at this⊢;simp[this]
theorem SO{α:Type}{k:Int}{v:α}:∀{m:List (Int×α)},k∉ch m→ch (eN k v m)=ch m++[k]
 |[],h=>by simp[ch,eN]
 |(i,w)::r,h=>by have e:¬k=i:=fun e=>h (by simp[ch,e]);have cA:k∉ch r:=fun ab=>h (by simp[ch]at ab⊢;exact .inr ab);have:=SO (v:=v) cA;simp only[eN,if_neg e];simp only[ch]at this⊢;simp[this]
structure bm where
 up:List (Int×Int)
 shape:List (Int×T)
 shaped:List (Int×Bool)
 color:List (Int×Int)
 size:List (Int×Int)
 full:List (Int×T)
def bm.shd(c:bm)(x:Int):Bool:=(tg x c.shaped).getD false
def bm.shp(c:bm)(x:Int):T:=(tg x c.shape).getD .nil
def bm.col(c:bm)(x:Int):Int:=(tg x c.color).getD 0
def bm.sz(c:bm)(x:Int):Int:=(tg x c.size).getD 0
def iI(m:List (Int×Int))(v:Int):Int:=(tg v m).getD 0
def vN:Nat→List (Int×Int)→Int→Option (Int×List (Int×Int))
 |0,_,_=>none
 |n+1,m,v=>if iI m v=v then some (v,m)else vN n (eN v (iI m (iI m v)) m) (iI (eN v (iI m (iI m v)) m) v)
def x5(v:Int)(m:List (Int×Int)):List (Int×Int):=if(tg v m).isSome then m else eN v v m
def rt(c:bm)(v:Int):Option (Int×bm):=(vN (v.toNat+1) (x5 v c.up) v).map fun p=>(p.1,{c with up:=p.2})
def T.foldO{α:Type}(f:Int→α→Option α):T→α→Option α
 | .var n,a=>f n a
 | .pair x y,a=>(x.foldO f a).bind (y.foldO f)
 |_,a=>some a
def T.mapO{α:Type}(f:Int→α→Option (T×α)):T→α→Option (T×α)
 | .var n,a=>f n a
 | .pair x y,a=>(x.mapO f a).bind fun p=>(y.mapO f p.2).map fun q=>(.pair p.1 q.1,q.2)
 |t,a=>some (t,a)
def T.sizeO{α:Type}(f:Int→α→Option (Int×α)):T→α→Option (Int×α)
 | .var n,a=>(f n a).map fun p=>(if 5001<p.1 then 5001 else p.1,p.2)
 | .pair x y,a=>(x.sizeO f a).bind fun p=>if 5000<p.1 then some p else(y.sizeO f p.2).map fun q=>(if 5001<1+p.1+q.1 then 5001 else 1+p.1+q.1,q.2)
 |_,a=>some (1,a)
def zo(t:T)(c:bm):Option bm:=t.foldO (fun v c=>(rt c v).map (·.2)) c
structure tc where
 c:bm
 seen:List (Int×Bool)
 found:Bool
def vM(rec:T→bm→List (Int×Bool)→Option tc)(x:Int)(v:Int)(a:tc):Option tc:=
 (rt a.c v).bind fun p=>if a.found=true∨p.1=x then some ⟨p.2,a.seen,true⟩
  else if(tg p.1 a.seen).getD false=false∧p.2.shd p.1=true then rec (p.2.shp p.1) p.2 (eN p.1 true a.seen)
  else some ⟨p.2,a.seen,a.found⟩
def o3:Nat→Int→T→bm→List (Int×Bool)→Option tc
 |0,_,_,_,_=>none
 |n+1,x,t,c,seen=>t.foldO (vM (o3 n x) x) ⟨c,seen,false⟩
def bm.know(c:bm)(x:Int)(t:T):bm:={c with shape:=eN x t c.shape,shaped:=eN x true c.shaped}
def tW(n:Nat)(x:Int)(t:T)(c:bm):Option (Bool×bm):=(o3 n x t (c.know x t) []).map fun a=>(!a.found,a.c)
def bm.join(c:bm)(x y:Int):bm:={c with up:=eN y x c.up}
def qU(rec:T→T→bm→Option (Bool×bm))(n:Nat)(x y:Int)(c:bm):Option (Bool×bm):=
 if c.shd y=false then
  (if c.shd x=false then some (true,c)else(o3 n x (c.shp x) c []).map fun a=>(!a.found,a.c))
 else if c.shd x=false then tW n x (c.shp y) c
 else(o3 n x (c.shp y) c []).bind fun a=>if a.found=true then some (false,a.c)else
  (o3 n x (a.c.shp x) a.c []).bind fun b=>if b.found=true then some (false,b.c)else rec (b.c.shp x) (c.shp y) b.c
def gn:Nat→T→T→bm→Option (Bool×bm)
 |0,_,_,_=>none
 |n+1,.var i,.var j,c=>(rt c i).bind fun p=>(rt p.2 j).bind fun q=>if p.1=q.1 then some (true,q.2)else if q.1<p.1 then qU (gn n) n q.1 p.1 (q.2.join q.1 p.1)else qU (gn n) n p.1 q.1 (q.2.join p.1 q.1)
 |n+1,.var i,b,c=>(rt c i).bind fun p=>if p.2.shd p.1=false then tW n p.1 b p.2 else gn n (p.2.shp p.1) b p.2
 |n+1,a,.var j,c=>gn n (.var j) a c
 |n+1,.pair bp a2,.pair b8 b3,c=>(gn n bp b8 c).bind fun p=>if p.1=true then gn n a2 b3 p.2 else some (false,p.2)
 |_+1,a,b,c=>some (decide (a=b),c)
structure jq (m:List (Int×Int)) (ρ:Int→Int):Prop where
 up:∀v u,tg v m=some u→(0≤u∧u≤v∧u∈ch m)∧ρ u=ρ v∧(ρ v=v↔u=v)
 no:∀v,v∉ch m→ρ v=v
theorem jq.get{m:List (Int×Int)}{ρ:Int→Int}(h:jq m ρ){v:Int}(aJ:v∈ch m):∃u,tg v m=some u∧iI m v=u:=by have:=GB.2 aJ;obtain⟨u,hu⟩:=fm.1 this;exact⟨u,hu,by simp[iI,hu]⟩
theorem jq.root{m:List (Int×Int)}{ρ:Int→Int}(h:jq m ρ):∀(n:Nat) (v:Int),v.toNat≤n→(ρ v≤v∧ρ (ρ v)=ρ v∧(v∈ch m→ρ v∈ch m∧0≤ρ v)):=by
 intro n;induction n using qI with
 |ind n bW=>
 intro v ar;by_cases aJ:v∈ch m
 ·obtain⟨u,J,_⟩:=h.get aJ;obtain⟨⟨bp,a2,a3⟩,a4,a5⟩:=h.up v u J;by_cases e:u=v
  ·have:=a5.2 e;subst e;rw[this];exact⟨by omega,this,fun _=>⟨a3,bp⟩⟩
  ·obtain⟨b8,b3,fR⟩:=bW (u.toNat) (by omega) u (by omega);rw[←a4];exact⟨by omega,b3,fun _=>fR a3⟩
 ·have:=h.no v aJ;rw[this];exact⟨by omega,this,fun h=>absurd h aJ⟩
theorem jq.le{m:List (Int×Int)}{ρ:Int→Int}(h:jq m ρ)(v:Int):ρ v≤v:=(h.root v.toNat v (e1 _)).1
theorem jq.idem{m:List (Int×Int)}{ρ:Int→Int}(h:jq m ρ)(v:Int):ρ (ρ v)=ρ v:=(h.root v.toNat v (e1 _)).2.1
theorem jq.mem{m:List (Int×Int)}{ρ:Int→Int}(h:jq m ρ){v:Int}(aJ:v∈ch m):ρ v∈ch m∧0≤ρ v:=(h.root v.toNat v (e1 _)).2.2 aJ
theorem VD{ρ:Int→Int}:∀(n:Nat) (m:List (Int×Int)) (v:Int),jq m ρ→v∈ch m→v.toNat<n→∃km,vN n m v=some (ρ v,km)∧jq km ρ∧ch km=ch m
 |0,_,_,_,_,ar=>by omega
 |n+1,m,v,h,aJ,ar=>by
  obtain⟨u,J,U⟩:=h.get aJ;obtain⟨⟨bp,a2,a3⟩,a4,a5⟩:=h.up v u J;simp only[vN,U];by_cases e:u=v
  ·rw[if_pos e];have:=a5.2 e;exact⟨m,by rw[this],h,rfl⟩
  ·rw[if_neg e];obtain⟨x,g1,g2⟩:=h.get a3;obtain⟨⟨b8,b3,fR⟩,tk,Nd⟩:=h.up u x g1;rw[g2];have ab:=BV (v:=x) aJ;have lJ:jq (eN v x m) ρ:=by
    refine⟨fun w y hw=>?_,fun w hw=>h.no w (by rw[ab]at hw;exact hw)⟩;rw[mS]at hw;rw[ab];by_cases ew:w=v
    ·subst ew;rw[if_pos rfl]at hw;cases hw;refine⟨⟨b8,by omega,fR⟩,by rw[tk,a4],⟨fun aI=>absurd (a5.1 aI) e,fun ad=>?_⟩⟩;have:u=w:=by omega
     exact absurd this e
    ·rw[if_neg ew]at hw;exact h.up w y hw
   have adL:iI (eN v x m) v=x:=by simp[iI,mS]
   rw[adL];obtain⟨km,bL,cn,dp⟩:=VD n (eN v x m) x lJ (by rw[ab];exact fR) (by omega);exact⟨km,by rw[bL,tk,a4],cn,by rw[dp,ab]⟩
structure ik (ρ:Int→Int) (c cd:bm):Prop where
 ru:jq cd.up ρ
 keys:ch cd.up=ch c.up
 eq:cd={c with up:=cd.up}
theorem ik.refl{ρ:Int→Int}{c:bm}(h:jq c.up ρ):ik ρ c c:=⟨h,rfl,rfl⟩
theorem ik.trans{ρ:Int→Int}{a b c:bm}(h:ik ρ a b)(k:ik ρ b c):ik ρ a c:=⟨k.ru,k.keys.trans h.keys,by rw[k.eq,h.eq]⟩
theorem ik.shd{ρ:Int→Int}{c cd:bm}(h:ik ρ c cd)(x:Int):cd.shd x=c.shd x:=by rw[h.eq];rfl
theorem ik.shp{ρ:Int→Int}{c cd:bm}(h:ik ρ c cd)(x:Int):cd.shp x=c.shp x:=by rw[h.eq];rfl
theorem sQ{ρ:Int→Int}{c:bm}{v:Int}(h:jq c.up ρ)(aJ:v∈ch c.up):∃cd,rt c v=some (ρ v,cd)∧ik ρ c cd:=by
 have br:x5 v c.up=c.up:=by simp[x5,GB.2 aJ]
 obtain⟨km,J,U,ao⟩:=VD (v.toNat+1) c.up v h aJ (by omega);exact⟨{c with up:=km},by simp[rt,br,J],⟨U,ao,rfl⟩⟩
theorem aiy{ρ:Int→Int}{c:bm}{v:Int}(h:jq c.up ρ)(bV:0≤v)(aJ:v∉ch c.up):rt c v=some (v,{c with up:=eN v v c.up})∧jq (eN v v c.up) ρ∧ch (eN v v c.up)=ch c.up++[v]:=by
 have ar:=ajt.2 aJ;have ab:=SO (v:=v) aJ;refine⟨?_,⟨fun w u hw=>?_,fun w hw=>h.no w fun hm=>hw (by rw[ab];simp[hm])⟩,ab⟩
 ·simp[rt,x5,ar,vN,iI,mS]
 ·rw[mS]at hw;rw[ab];by_cases e:w=v
  ·subst e;rw[if_pos rfl]at hw;cases hw;exact⟨⟨bV,by omega,by simp⟩,rfl,⟨fun _=>rfl,fun _=>h.no _ aJ⟩⟩
  ·rw[if_neg e]at hw;obtain⟨⟨bp,a2,a3⟩,a4⟩:=h.up w u hw;exact⟨⟨bp,a2,by simp[a3]⟩,a4⟩
def bm.ph(c:bm)(x:Int):Option T:=if c.shd x then some (c.shp x)else none
theorem ik.ph{ρ:Int→Int}{c cd:bm}(h:ik ρ c cd):cd.ph=c.ph:=by funext x;simp only[bm.ph,h.shd,h.shp]
def jS(ph:Int→Option T)(ρ:Int→Int)(aL:Int→T):Prop:=(∀v,aL v=aL (ρ v))∧∀x t,ρ x=x→ph x=some t→aL x=t.ap aL
def iK(ph:Int→Option T)(ρ:Int→Int)(z u:Int):Prop:=ρ z=z∧∃t w,ph z=some t∧t.occ w=true∧ρ w=u
inductive mm (E:Int→Int→Prop):Int→Int→Prop
 |refl (a:Int):mm E a a
 |step {a b c:Int}:E a b→mm E b c→mm E a c
def nH(V:List Int)(ph:Int→Option T):Prop:= ∀x t,ph x=some t→t.kind≠1∧(∀w,t.occ w=true→w∈V)∧x∈V
def GH(V:List Int)(ph:Int→Option T)(seen:List (Int×Bool)):Nat:=(V.filter fun v=>(ph v).isSome&& !((tg v seen).getD false)).length
def l7(seen:List (Int×Bool))(z:Int):Prop:=(tg z seen).getD false=true
structure Xf (V:List Int) (ph:Int→Option T) (ρ:Int→Int) (x:Int) (occ:Int→Prop) (a bh:tc):Prop where
 sm:ik ρ a.c bh.c
 sub:∀z,l7 a.seen z→l7 bh.seen z
 yes:bh.found=true→a.found=true∨ ∃w,occ w∧mm (iK ph ρ) (ρ w) x
 kept:a.found=true→bh.found=true
 no:bh.found=false→(∀w,occ w→ρ w≠x∧((ph (ρ w)).isSome=true→l7 bh.seen (ρ w)))∧∀r,l7 bh.seen r→¬l7 a.seen r→∀u,iK ph ρ r u→u≠x∧((ph u).isSome=true→l7 bh.seen u)
theorem D6{α:Type}{p q:α→Bool}:∀{V:List α},(∀x∈V,q x=true→p x=true)→(V.filter q).length≤(V.filter p).length
 |[],_=>by simp
 |y::V,h=>by have:=D6 (p:=p) (q:=q) (V:=V) fun x ad=>h x (by simp[ad]);have aG:=h y (by simp);simp only[List.filter_cons];cases e:q y<;>cases aA:p y<;>simp_all<;>omega
theorem D7{α:Type}{p q:α→Bool}{v:α}:∀{V:List α},(∀x∈V,q x=true→p x=true)→v∈V→p v=true→q v=false→(V.filter q).length<(V.filter p).length
 |[],_,h,_,_=>by simp at h
 |x::V,h,aJ,bF,bn=>by
  have hle:=D6 (p:=p) (q:=q) (V:=V) fun x ad=>h x (mX _ ad);simp only[List.filter_cons];rcases ga.1 aJ with rfl|aJ
  ·simp[bF,bn];omega
  ·have:=D7 (fun x ad=>h x (mX _ ad)) aJ bF bn;have ad:=h x (by simp);cases e:q x<;>cases aA:p x<;>simp_all<;>omega
theorem ajB{V:List Int}{ph:Int→Option T}{s ah:List (Int×Bool)}(h:∀z,l7 s z→l7 ah z):GH V ph ah≤GH V ph s:=
 D6 fun x _ ad=>by
  simp only[cx,rT]at ad⊢;refine⟨ad.1,?_⟩;cases e:(tg x s).getD false with
  |false=>rfl
  |true=>have:=h x e;unfold l7 at this;rw[ad.2]at this;cases this
theorem JL{s:List (Int×Bool)}{r z:Int}:l7 (eN r true s) z↔z=r∨l7 s z:=by unfold l7;rw[mS];by_cases h:z=r<;>simp[h]
theorem aio{V:List Int}{ph:Int→Option T}{ρ:Int→Int}{x:Int}(gu:nH V ph)(k:Nat):∀(t:T) (a:tc),jq a.c.up ρ→ch a.c.up=V→a.c.ph=ph→(∀w,t.occ w=true→w∈V)→GH V ph a.seen≤k→
  ∃N bh,(∀n,N≤n→t.foldO (vM (o3 n x) x) a=some bh)∧Xf V ph ρ x (fun w=>t.occ w=true) a bh:=by
 induction k using qI with
 |ind k JK=>
 intro t;induction t with
 |var v=>
  intro a lJ ab je aN BH;obtain⟨bL,J,U⟩:=sQ lJ (by rw[ab];exact aN v (by simp[T.occ]));have ki:bL.shd (ρ v)=(ph (ρ v)).isSome:=by rw[U.shd,←je];simp only[bm.ph];split<;>simp_all
  by_cases aQ:a.found=true∨ρ v=x
  ·refine⟨0,⟨bL,a.seen,true⟩,fun n _=>by simp[T.foldO,vM,J,aQ],U,fun z bf=>bf,fun _=>?_,fun _=>rfl,fun h=>by cases h⟩;rcases aQ with aQ|aQ
   ·exact .inl aQ
   ·exact .inr ⟨v,by simp[T.occ],by rw[aQ];exact .refl _⟩
  ·by_cases af:(tg (ρ v) a.seen).getD false=false∧bL.shd (ρ v)=true
   ·have EK:ph (ρ v)=some (bL.shp (ρ v)):=by rw[←je];simp only[bm.ph,U.shp];rw[if_pos (by rw[←U.shd];exact af.2)]
    obtain⟨g1,g2,g3⟩:=gu _ _ EK;have bq:GH V ph (eN (ρ v) true a.seen)<k:=by
     refine Nat.lt_of_lt_of_le (D7 (v:=ρ v) (fun z _ bf=>?_) g3 ?_ ?_) BH
     ·simp only[cx,rT]at bf⊢;refine⟨bf.1,?_⟩;rw[mS]at bf;by_cases e:z=ρ v
      ·subst e;exact af.1
      ·rw[if_neg e]at bf;exact bf.2
     ·simp[EK,af.1]
     ·simp[mS]
    obtain⟨N,bh,ak,cQ⟩:=JK _ bq (bL.shp (ρ v)) ⟨bL,eN (ρ v) true a.seen,false⟩ U.ru (by rw[U.keys];exact ab) (by rw[U.ph];exact je) g2 (e1 _);refine⟨N+1,bh,fun n ar=>?_,U.trans cQ.sm,fun z bf=>cQ.sub z (JL.2 (.inr bf)),fun aG=>?_,fun h=>absurd (.inl h) aQ,fun dT=>?_⟩
    ·obtain⟨n',rfl⟩:∃n',n=n'+1:=⟨n-1,by omega⟩;simp only[T.foldO,vM,J,h4,if_neg aQ,if_pos af,o3];exact ak n' (by omega)
    ·rcases cQ.yes aG with h|⟨w,a1,bt⟩
     ·cases h
     ·exact .inr ⟨v,by simp[T.occ],.step ⟨by rw[jq.idem lJ],_,w,EK,a1,rfl⟩ bt⟩
    ·obtain⟨a1,bt⟩:=cQ.no dT;have iQ:l7 bh.seen (ρ v):=cQ.sub _ (JL.2 (.inl rfl));refine⟨fun w hw=>?_,fun r aI dc u hu=>?_⟩
     ·simp[T.occ]at hw;subst hw;exact⟨fun e=>aQ (.inr e),fun _=>iQ⟩
     ·by_cases qb:r=ρ v
      ·subst qb;obtain⟨_,dE,w,kL,z2,rfl⟩:=hu;rw[EK]at kL;cases kL;exact a1 w z2
      ·exact bt r aI (fun h=>(JL.1 h).elim qb dc) u hu
   ·have Bk:a.found=false:=by cases e:a.found with
     |false=>rfl
     |true=>exact absurd (.inl e) aQ
    refine⟨0,⟨bL,a.seen,a.found⟩,fun n _=>by simp only[T.foldO,vM,J,h4,if_neg aQ,if_neg af],U,fun z bf=>bf,fun h=>.inl h,fun h=>h,fun _=>⟨fun w hw=>?_,fun r J U=>absurd J U⟩⟩;simp[T.occ]at hw;subst hw;refine⟨fun e=>aQ (.inr e),fun bF=>?_⟩;unfold l7;cases e:(tg (ρ v) a.seen).getD false with
    |true=>rfl
    |false=>exact absurd ⟨e,by rw[ki];exact bF⟩ af
 |pair p q ad4 ad5=>
  intro a lJ ab je aN BH;obtain⟨hn,bp,ak,cQ⟩:=ad4 a lJ ab je (fun w hw=>aN w (by simp[T.occ,hw])) BH;obtain⟨iM,a2,aA,dm⟩:=ad5 bp cQ.sm.ru (by rw[cQ.sm.keys];exact ab) (by rw[cQ.sm.ph];exact je) (fun w hw=>aN w (by simp[T.occ,hw])) (ji (ajB cQ.sub) BH);refine⟨max hn iM,a2,fun n ar=>by simp only[T.foldO];rw[ak n (by omega)];exact aA n (by omega),cQ.sm.trans dm.sm,fun z bf=>dm.sub z (cQ.sub z bf),fun aG=>?_,fun h=>dm.kept (cQ.kept h),fun dT=>?_⟩
  ·rcases dm.yes aG with h|⟨w,a1,bt⟩
   ·rcases cQ.yes h with h|⟨w,a1,bt⟩
    ·exact .inl h
    ·exact .inr ⟨w,by simp[T.occ,a1],bt⟩
   ·exact .inr ⟨w,by simp[T.occ,a1],bt⟩
  ·have ab4:bp.found=false:=by cases e:bp.found with
    |false=>rfl
    |true=>have:=dm.kept e;rw[dT]at this;cases this
   obtain⟨ep,fe⟩:=cQ.no ab4;obtain⟨s1,s2⟩:=dm.no dT;refine⟨fun w hw=>?_,fun r aI dc u hu=>?_⟩
   ·simp only[T.occ,lQ]at hw;rcases hw with hw|hw
    ·exact⟨(ep w hw).1,fun h=>dm.sub _ ((ep w hw).2 h)⟩
    ·exact s1 w hw
   ·by_cases h:l7 bp.seen r
    ·exact⟨(fe r h dc u hu).1,fun cP=>dm.sub _ ((fe r h dc u hu).2 cP)⟩
    ·exact s2 r aI h u hu
 |_=>intro a lJ ab je aN BH;exact⟨0,a,fun n _=>rfl,ik.refl lJ,fun z bf=>bf,fun h=>.inl h,fun h=>h,fun _=>⟨fun w hw=>by simp[T.occ]at hw,fun r J U=>absurd J U⟩⟩
theorem F4{ρ:Int→Int}{x:Int}{c:bm}{t:T}(lJ:jq c.up ρ)(gu:nH (ch c.up) c.ph)(aN:∀w,t.occ w=true→w∈ch c.up):
  ∃N a,(∀n,N≤n→o3 n x t c []=some a)∧ik ρ c a.c∧(a.found=true↔∃w,t.occ w=true∧mm (iK c.ph ρ) (ρ w) x):=by
 obtain⟨N,a,J,U⟩:=aio (x:=x) gu _ t ⟨c,[],false⟩ lJ rfl rfl aN (e1 _);refine⟨N+1,a,fun n ar=>?_,U.sm,fun h=>?_,fun⟨w,hw,aI⟩=>?_⟩
 ·obtain⟨n',rfl⟩:∃n',n=n'+1:=⟨n-1,by omega⟩;exact J n' (by omega)
 ·rcases U.yes h with h|h
  ·cases h
  ·exact h
 ·cases e:a.found with
  |true=>rfl
  |false=>
   obtain⟨a1,bt⟩:=U.no e;have key:∀z,mm (iK c.ph ρ) z x→z≠x→((c.ph z).isSome=true→l7 a.seen z)→ej:=by
    have:∀z y,mm (iK c.ph ρ) z y→y=x→z≠x→((c.ph z).isSome=true→l7 a.seen z)→ej:=by
     intro z y aG;induction aG with
     |refl z=>intro h cA;exact absurd h cA
     | @step z b cd he _ bW=>intro ad cC iQ;obtain⟨_,dE,w',kL,_,_⟩:=id he;have af:=iQ (by simp[kL]);obtain⟨g1,g2⟩:=bt z af (by simp[l7,tg]) b he;exact bW ad g1 g2
    exact fun z bf=>this z x bf rfl
   exact(key _ aI (a1 w hw).1 (a1 w hw).2).elim
end Go.Pv
