/- made by mk2.py: the code of the functions, and the checks against the program's own form. -/
import Derived.Sort.AssemblyPlain
import Derived.Sort.LotD5
import Derived.Test.YtohaalphocaebaaGreatProg
import Derived.Lib.OwnBridge
import Derived.Shelf.GgSortMore.Stable
import Derived.Shelf.GgSortFunc.SmallK
import Derived.Shelf.GgSortFunc.Slice
import Derived.Ground.GgsProg
import Derived.Test.YtohaalphocaebaaGreatY3
set_option linter.all false
set_option maxHeartbeats 4000000
open Array renaming getElem?_toList→s6
open BitVec renaming ofInt→lz
open Bool renaming and_eq_true→cx,eq_iff_iff→pV,false_eq_true→gr,or_eq_true→lQ
open Go renaming Program→cy,TypeId→gx
open Go.Extern.ReflectliteSwapper renaming swap→Dd,swapper→apP
open Go.Extern.ReflectliteValue renaming len→apQ,method→apR,unpack→akF,valueError→akG
open Go.Extern.Rtype renaming kind→W0
open Go.IntKind renaming bits→mW,i64→mi,signed→qG,u64→gU,wrap→rU
open Go.IntWalk renaming i64_in→lR
open Go.Proofs.Tryz renaming prog→az
open List renaming all_eq_true→jD,cons_append→bO,drop_eq_getElem_cons→kN,getElem?_eq_getElem→cv,getElem?_eq_some_iff→fG,getElem_of_mem→ov,length_cons→nB,map_cons→gI,map_nil→mj,mem_cons→ga,mem_cons_of_mem→mX,mem_of_getElem?→gb,mem_singleton→rW,nil_append→bS,pairwise_iff_getElem→pb,take_length→mY,take_of_length_le→ha
open List.cons renaming injEq→xX
open Nat renaming add_mul→pc,le_refl→e1,le_trans→ji,strongRecOn→qI
open Ne renaming symm→kO
open Option renaming isSome_none→jl,map_eq_some_iff→gd,map_some→nC
open Option.some renaming inj→fP,injEq→dt
open Prod.mk renaming injEq→jm
open _root_ renaming UInt8→cV,beq_iff_eq→dH,congrArg→eO,decide_eq_false→lS,decide_eq_false_iff_not→j4,decide_eq_true→lA,decide_eq_true_eq→fI
namespace Go.Proofs.YtohaalphocaebaaGreat
open Go Go.Pv
structure eV {α:Type} (S:List α→cF) (n:Nat) (g b5:Nat) (lc bZ:List ai) (lt:α→α→Bool):Prop where
 ok:∀l,dG (S l)
 same:∀l aX,l.length=n→aX.length=n→Same (S l) (S aX)
 klc:∀l,l.length=n→aO (inObs (S l)) lc
 ksc:∀l,l.length=n→aO (inObs (S l)) bZ
 slc:df lc=lc
 ssc:df bZ=bZ
 le:n≤68719476736
 less:∀l,l.length=n→∀(i j:Nat) x y,l[i]? =some x→l[j]? =some y→bB az g (.int .i64 i:: .int .i64 j::lc) (S l) fun r ah=>r= .bool (lt x y)∧ah=S l
 swap:∀l,l.length=n→2≤n→∀i j:Nat,i<n→j<n→bB az b5 (.int .i64 i:: .int .i64 j::bZ) (S l) fun r ah=>r= .tuple []∧ah=S (gP l i j)
variable {α:Type} {S:List α→cF} {n g b5:Nat} {lc bZ:List ai} {lt:α→α→Bool}
def eP(g b5:Nat)(lc bZ:List ai):ai:= .agg [.func g lc,.func b5 bZ]
theorem IK(H:eV S n g b5 lc bZ lt)(l:List α)(aq:l.length=n)(a b c:Nat)(amc:a+c≤b)(Q3:b+c≤n):
  bB az 295 [eP g b5 lc bZ,.int .i64 a,.int .i64 b,.int .i64 c] (S l) fun r ah=>r= .tuple []∧∃aX,ah=S aX∧gg a (b+c) l aX∧∀k,aX[k]? =l[rO a b c k]?:=by
 have af:=H.ok l;have ar:∀l m,Pv.look (.loc m) (S l).b=none:=fun l=>(H.ok l).obj.1;have hu:∀l m cs,ct (.loc m) cs (S l).b=(S l).b++[(.loc m,cs)]:=fun l m cs=>jR (ar l m);have au:∀m,aH.loc m∉cR (S l):=jL af.obj;have hle:=H.le;refine bB.mk mixed Ac aak agI (by simp) af.obj fun aU cH=>?_;unfold OD;simp[eP,hu,au,cE,ar,H.slc,H.ssc];refine ir (fun i (lk:List α)=>⟨[(1,.int .i64 a),(2,.int .i64 b),(3,.int .i64 c),(4,.ptr (.loc 0) 0),(8,.int .i64 i)],[(.loc 0,[.func g lc,.func b5 bZ])]++(S lk).b,(S lk).e,1,cR (S l)⟩) c (fun i lk=>lk.length=n∧gg a (b+c) l lk∧∀k,lk[k]? =l[rO a b i k]?) l
  (im.obL af (Same.refl _) (by simp[aF]) (by simp[cE,ar,aF,aO,zx (H.klc l aq),zx (H.ksc l aq)]) aE aE) ⟨aq,.refl _,fun k=>by simp[rO];split<;>(try split)<;>(try rfl)<;>(exfalso;omega)⟩ ?_ ?_
 ·rintro lk ⟨J,U,ao⟩ _;simp;refine cG.at (S lk) (.inr rfl) (H.ok lk) (H.same _ _ aq J) aE aE ?_;simp[cM,UX,aV,aY,aT];exact⟨lk,rfl,U,ao⟩
 ·rintro i lk hi ⟨J,U,ao⟩ _;have ak:((a:Int)+i)=(a+i:Nat):=by omega
  have aA:((b:Int)+i)=(b+i:Nat):=by omega
  simp[hi,cE,ar,H.ssc];(with_reducible repeat' first|refine aj ?_|simp);rw[ak,aA];refine cD.ob (H.swap lk J (by omega) (a+i) (b+i) (by omega) (by omega)) (H.ok lk) aE aE (by simp[H.ksc lk J]) ?_;rintro r ah ⟨rfl,rfl⟩;refine⟨H.same _ _ J (by simp[J]),?_⟩;simp[gH,ig,bR,ar];(with_reducible repeat' first|refine aj ?_|simp);refine bT.rng (gP lk (a+i) (b+i)) hi ⟨by simp[J],.step U (by omega) (by omega) (by omega) (by omega) (by omega) (by omega),fun k=>?_⟩ (im.obL (L:=[(.loc 0,[.func g lc,.func b5 bZ])]) (H.ok _) (H.same _ _ aq (by simp[J])) (by simp[aF]) (by simp[cE,ar,aF,aO,zx (H.klc (gP lk (a+i) (b+i)) (by simp[J])),zx (H.ksc (gP lk (a+i) (b+i)) (by simp[J]))]) aE aE);rw[zm _ _ _ _ (by omega) (by omega),ao,ao,ao];have:rO a b (i+1) k=if k=a+i then rO a b i (b+i)else if k=b+i then rO a b i (a+i)else rO a b i k:=by
   simp only[rO];repeat' split
   all_goals omega
  rw[this];split
  ·rfl
  ·split<;>rfl
section
variable (H:eV S n g b5 lc bZ lt)
include H
theorem eV.loc{l:List α}(m:Nat):Pv.look (.loc m) (S l).b=none:=(H.ok l).obj.1 m
theorem eV.weak{l lk:List α}(aq:l.length=n)(ab:lk.length=n){st:bj}{dE:List (Nat×ai)}(aN:∀x∈dE,Pv.get x.1 st.t=x.2∧aF (lM (S lk) 1) x.2)(bV:Pv.look (.loc 0) st.b=some [.func g lc,.func b5 bZ])
  (ae:∀k cs,Pv.look k (S lk).b=some cs→Pv.look k st.b=some cs) (he:∀k o,Pv.look k (S lk).e=some o→Pv.look k st.e=some o):
  im (cR (S l)) st ⟨dE,(.loc 0,[.func g lc,.func b5 bZ])::(S lk).b,(S lk).e,1,cR (S l)⟩:=
 im.obL (L:=[(.loc 0,[.func g lc,.func b5 bZ])]) (H.ok _) (H.same _ _ aq ab) aN (by simp[bV,aF,aO,zx (H.klc lk ab),zx (H.ksc lk ab)]) ae he
theorem eV.weakC{l lk:List α}(aq:l.length=n)(ab:lk.length=n){t dE:List (Nat×ai)}{q:Nat}{o:List aH}(aN:∀x∈dE,Pv.get x.1 t=x.2∧aF (lM (S lk) 1) x.2):
  im (cR (S l)) ⟨t,(.loc 0,[.func g lc,.func b5 bZ])::(S lk).b,(S lk).e,q,o⟩ ⟨dE,(.loc 0,[.func g lc,.func b5 bZ])::(S lk).b,(S lk).e,1,cR (S l)⟩:=
 H.weak aq ab aN (by simp[Pv.look]) (fun k cs ad=>by
  cases k with
  |loc m=>rw[H.loc m]at ad;cases ad
  |obj m=>simpa[Pv.look]using ad) (fun _ _ ad=>ad)
theorem eV.call{lk:List α}(J:lk.length=n){f:Nat}{args:List ai}{R:ai→List α→Prop}(aQ:bB az f args (S lk) fun r ah=> ∃aX,ah=S aX∧R r aX)(b4:∀r aX,R r aX→aX.length=n)(ab:aO (inObs (S lk)) args){t:List (Nat×ai)}{D:List ai}{o:List aH}{d:Option Nat}{K:bj→Prop}
  (h:∀r aX,R r aX→K ⟨eK d r t,(.loc 0,D)::(S aX).b,(S aX).e,1,o++cR (S aX)⟩):cD az f args ⟨t,(.loc 0,D)::(S lk).b,(S lk).e,1,o⟩ d K:=by
 refine cD.ob aQ (H.ok lk) (fun k cs ad=>?_) (fun _ _ ad=>ad) ab ?_
 ·cases k with
  |loc m=>rw[H.loc m]at ad;cases ad
  |obj m=>simpa[Pv.look]using ad
 ·rintro r ah ⟨aX,rfl,aI⟩;refine⟨H.same _ _ J (b4 _ _ aI),?_⟩;have ak:bR (S lk).b ((.loc 0,D)::(S lk).b)=[(.loc 0,D)]:=by have:=ig (S lk).b [(aH.loc 0,D)] (S lk).b;rw[gH]at this;simpa[bR,H.loc]using this
  have aA:bR (S lk).e (S lk).e=[]:=gH _;have:=h _ _ aI;simp only[ak,aA];exact this
theorem eV.doSwap{lk:List α}(J:lk.length=n)(i j:Nat)(hi:i<n)(ag:j<n)(U:2≤n){t:List (Nat×ai)}{D:List ai}{o:List aH}{d:Option Nat}{K:bj→Prop}
  (h:K ⟨eK d (.tuple []) t,(.loc 0,D)::(S (gP lk i j)).b,(S (gP lk i j)).e,1,o++cR (S (gP lk i j))⟩):cD az b5 (.int .i64 i:: .int .i64 j::bZ) ⟨t,(.loc 0,D)::(S lk).b,(S lk).e,1,o⟩ d K:=
 H.call J (R:=fun r aX=>r= .tuple []∧aX=gP lk i j) ((H.swap lk J U i j hi ag).mono fun r ah ⟨ak,aA⟩=>⟨_,aA,ak,rfl⟩) (fun r aX ⟨_,e⟩=>by rw[e];simp[J]) (by simp[aF,aO,H.ksc lk J]) (by rintro r aX ⟨rfl,rfl⟩;exact h)
theorem eV.doLess{lk:List α}(J:lk.length=n)(i j:Nat){x y:α}(hi:lk[i]? =some x)(ag:lk[j]? =some y){t:List (Nat×ai)}{D:List ai}{o:List aH}{d:Option Nat}{K:bj→Prop}
  (h:K ⟨eK d (.bool (lt x y)) t,(.loc 0,D)::(S lk).b,(S lk).e,1,o++cR (S lk)⟩):cD az g (.int .i64 i:: .int .i64 j::lc) ⟨t,(.loc 0,D)::(S lk).b,(S lk).e,1,o⟩ d K:=
 H.call J (R:=fun r aX=>r= .bool (lt x y)∧aX=lk) ((H.less lk J i j x y hi ag).mono fun r ah ⟨ak,aA⟩=>⟨_,aA,ak,rfl⟩) (fun r aX ⟨_,e⟩=>by rw[e];exact J) (by simp[aF,aO,H.klc lk J]) (by rintro r aX ⟨rfl,rfl⟩;exact h)
theorem eV.doFn{lk:List α}(J:lk.length=n){f:Nat}{args:List ai}{R:List α→Prop}(aQ:bB az f args (S lk) fun r ah=>r= .tuple []∧∃aX,ah=S aX∧R aX)(b4:∀aX,R aX→aX.length=n)(ab:aO (inObs (S lk)) args){t:List (Nat×ai)}{D:List ai}{o:List aH}{d:Option Nat}{K:bj→Prop}
  (h:∀aX,R aX→K ⟨eK d (.tuple []) t,(.loc 0,D)::(S aX).b,(S aX).e,1,o++cR (S aX)⟩):cD az f args ⟨t,(.loc 0,D)::(S lk).b,(S lk).e,1,o⟩ d K:=
 H.call J (R:=fun r aX=>r= .tuple []∧R aX) (aQ.mono fun r ah ⟨ak,aX,aA,bs⟩=>⟨aX,aA,ak,bs⟩) (fun r aX h=>b4 aX h.2) ab (by rintro r aX ⟨rfl,aI⟩;exact h aX aI)
theorem eV.kdata{lk:List α}(J:lk.length=n):aF (inObs (S lk)) (eP g b5 lc bZ):=by simp[eP,aF,aO,H.klc lk J,H.ksc lk J]
theorem eV.ret{l lk:List α}(aq:l.length=n)(J:lk.length=n){Q:ai→cF→Prop}{e:Exit}(he:e= .ret∨e= .normal){t:List (Nat×ai)}{D:List ai}{q:Nat}{o:List aH}(bn:Q (.tuple []) (S lk)):cG [] (S l) Q e ⟨t,(.loc 0,D)::(S lk).b,(S lk).e,q,o⟩:=by
 refine cG.at (S lk) he (H.ok lk) (H.same _ _ aq J) (fun k cs ad=>?_) (fun _ _ ad=>ad) ?_
 ·cases k with
  |loc m=>rw[H.loc m]at ad;cases ad
  |obj m=>simpa[Pv.look]using ad
 ·simp[cM,aV,aT,aF,aO,bn]
end
theorem h3(H:eV S n g b5 lc bZ lt):dO (eP g b5 lc bZ)=eP g b5 lc bZ:=by simp[eP,dO,df,H.slc,H.ssc]
theorem hT:ai.agg [.func g lc,.func b5 bZ]=eP g b5 lc bZ:=rfl
theorem abL(H:eV S n g b5 lc bZ lt)(l:List α)(aq:l.length=n)(a m b:Nat)(Bf:a<m)(va:m<b)(ae:b≤n):
  bB az 284 [eP g b5 lc bZ,.int .i64 a,.int .i64 m,.int .i64 b] (S l) fun r ah=>r= .tuple []∧∃aX,ah=S aX∧gg a b l aX∧∀k,aX[k]? =l[hG a m b k]?:=by
 have af:=H.ok l;have ar:∀l m,Pv.look (.loc m) (S l).b=none:=fun l=>(H.ok l).obj.1;have hu:∀l m cs,ct (.loc m) cs (S l).b=(S l).b++[(.loc m,cs)]:=fun l m cs=>jR (ar l m);have au:∀m,aH.loc m∉cR (S l):=jL af.obj;have hle:=H.le;refine bB.mk mixed Ac aah agF (by simp) af.obj fun aU cH=>?_;unfold OA;simp[eP,hu,au,cE,ar];(with_reducible repeat' first|refine aj ?_|simp[hu,au,cE,ar]);refine nN (fun(x:(Nat×Nat)×List α)=>⟨[(2,.int .i64 m),(4,.ptr (.loc 0) 0),(8,.int .i64 x.1.1),(9,.int .i64 x.1.2)],(.loc 0,[.func g lc,.func b5 bZ])::(S x.2).b,(S x.2).e,1,cR (S l)⟩) (fun x=>x.1.1+x.1.2)
  (fun x=>x.2.length=n∧0<x.1.1∧0<x.1.2∧a+x.1.1≤m∧m+x.1.2≤b∧gg a b l x.2∧∀k,l[hG a m b k]? =x.2[hG (m-x.1.1) m (m+x.1.2) k]?) ((m-a,b-m),l)
  (H.weak aq aq (by simp[aF];omega) (by simp[cE,ar]) aE aE) ⟨aq,by simp;omega,by simp;omega,by simp;omega,by simp;omega,.refl _,fun k=>by simp[show m-(m-a)=a by omega,show m+(b-m)=b by omega]⟩ ?_
 rintro⟨⟨i,j⟩,lk⟩ ⟨J,hi,ag,jF,Ex,U,ao⟩ _;simp only at J hi ag jF Ex U ao;simp[Pv.look];((with_reducible repeat' first|refine aj ?_|simp[Pv.look]|((first|apply bI|apply bK|apply bJ)<;>intro h<;>try simp at h))<;>(try exact cm))
 ·have ak:((m:Int)-i)=(m-i:Nat):=by omega
  simp only[h3 H,H.slc,H.ssc,ak,hT];refine H.doFn J (IK H lk J (m-i) m j (by omega) (by omega)) (fun aX h=>by rw[h.1.length];exact J) (by simp[aO,aF,H.kdata J]) ?_;rintro aX ⟨a1,bt⟩;have b2:aX.length=n:=by rw[a1.length];exact J
  simp;((with_reducible repeat' first|refine aj ?_|simp|((first|apply bI|apply bK|apply bJ)<;>intro h<;>try simp at h))<;>(try exact cm));refine bT.whl ((i-j,j),aX) (by simp;omega) ⟨b2,by simp;omega,ag,by simp;omega,Ex,U.trans (a1.mono (by omega) (by omega)),fun k=>?_⟩ (H.weakC aq b2 (by simp[aF];omega));rw[ao,bt];congr 1;simp only[hG,rO];repeat' split
  all_goals omega
 ·have ak:((m:Int)-i)=(m-i:Nat):=by omega
  have aA:((m:Int)+j-i)=(m+j-i:Nat):=by omega
  simp only[h3 H,H.slc,H.ssc,ak,aA,hT];refine H.doFn J (IK H lk J (m-i) (m+j-i) i (by omega) (by omega)) (fun aX h=>by rw[h.1.length];exact J) (by simp[aO,aF,H.kdata J]) ?_;rintro aX ⟨a1,bt⟩;have b2:aX.length=n:=by rw[a1.length];exact J
  simp;(with_reducible repeat' first|refine aj ?_|simp);refine bT.whl ((i,j-i),aX) (by simp;omega) ⟨b2,hi,by simp;omega,jF,by simp;omega,U.trans (a1.mono (by omega) (by omega)),fun k=>?_⟩ (H.weakC aq b2 (by simp[aF];omega));rw[ao,bt];congr 1;simp only[hG,rO];repeat' split
  all_goals omega
 ·have ak:((m:Int)-i)=(m-i:Nat):=by omega
  simp only[h3 H,H.slc,H.ssc,ak,hT];refine H.doFn J (IK H lk J (m-i) m i (by omega) (by omega)) (fun aX h=>by rw[h.1.length];exact J) (by simp[aO,aF,H.kdata J]) ?_;rintro aX ⟨a1,bt⟩;have b2:aX.length=n:=by rw[a1.length];exact J
  simp;refine H.ret aq b2 (.inr rfl) ⟨rfl,aX,rfl,U.trans (a1.mono (by omega) (by omega)),fun k=>?_⟩;rw[ao,bt];congr 1;simp only[hG,rO];repeat' split
  all_goals omega
end Go.Proofs.YtohaalphocaebaaGreat
namespace Go.Proofs.YtohaalphocaebaaGreat
open Go Go.Pv
variable {α:Type} {S:List α→cF} {n g b5:Nat} {lc bZ:List ai} {lt:α→α→Bool}
def tf(lt:α→α→Bool)(a b j:Nat)(l:List α):Prop:= ∀p q x y,a≤p→p<q→q<b→q≠j→l[p]? =some x→l[q]? =some y→lt y x=false
theorem tf.swap(bq:pY lt){a b j:Nat}{l:List α}(h:tf lt a b (j+1) l)(Q2:a≤j)(Ex:j+1<b)(ag:j+1<l.length){x y:α}(ad:l[j+1]? =some x)(aG:l[j]? =some y)(hB:lt x y=true):tf lt a b j (gP l (j+1) j):=by
 intro p q u v bF kf bn amz hu aJ;rw[zm _ _ _ _ ag (by omega)]at hu aJ;rw[if_neg (by omega:¬(q=j))]at aJ;split at aJ
 ·rename_i e;subst e;rw[aG]at aJ;cases aJ;split at hu
  ·omega
  ·split at hu
   ·rw[ad]at hu;cases hu;exact bq.asym _ _ hB
   ·exact h p j u y bF (by omega) (by omega) (by omega) hu aG
 ·split at hu
  ·rename_i e;subst e;rw[aG]at hu;cases hu;exact h j q y v Q2 (by omega) bn (by omega) aG aJ
  ·split at hu
   ·rename_i e;subst e;rw[ad]at hu;cases hu;exact h (p+1) q x v (by omega) (by omega) bn (by omega) ad aJ
   ·exact h p q u v bF kf bn (by omega) hu aJ
theorem tf.done(bq:pY lt){a b j:Nat}{l:List α}(h:tf lt a b (j+1) l)(Q2:a≤j)(Ex:j+1<b){x y:α}(ad:l[j+1]? =some x)(aG:l[j]? =some y)(hB:lt x y=false):e4 lt a b l:=by
 intro p q u v bF kf bn hu aJ;by_cases e:q=j+1
 ·subst e;rw[ad]at aJ;cases aJ;by_cases aA:p=j
  ·subst aA;rw[aG]at hu;cases hu;exact hB
  ·exact bq.ntr _ _ _ (h p j u y bF (by omega) (by omega) (by omega) hu aG) hB
 ·exact h p q u v bF kf bn e hu aJ
theorem tf.first{a b:Nat}{l:List α}(h:tf lt a b a l):e4 lt a b l:=fun p q u v bF kf bn hu aJ=>h p q u v bF kf bn (by omega) hu aJ
theorem e4.but{a b:Nat}{l:List α}(h:e4 lt a b l):tf lt a (b+1) b l:=fun p q u v bF kf bn Jo hu aJ=>h p q u v bF kf (by omega) hu aJ
theorem QA(H:eV S n g b5 lc bZ lt)(bq:pY lt)(l:List α)(aq:l.length=n)(a b:Nat)(mz:a≤b)(ae:b≤n):
  bB az 260 [eP g b5 lc bZ,.int .i64 a,.int .i64 b] (S l) fun r ah=>r= .tuple []∧∃aX,ah=S aX∧gg a b l aX∧e4 lt a b aX:=by
 have af:=H.ok l;have ar:∀l m,Pv.look (.loc m) (S l).b=none:=fun l=>(H.ok l).obj.1;have hu:∀l m cs,ct (.loc m) cs (S l).b=(S l).b++[(.loc m,cs)]:=fun l m cs=>jR (ar l m);have au:∀m,aH.loc m∉cR (S l):=jL af.obj;have hle:=H.le;refine bB.mk mixed Ac Qa T4 (by simp) af.obj fun aU cH=>?_;unfold HE;simp[eP,hu,au,cE,ar];(with_reducible repeat' first|refine aj ?_|simp[hu,au,cE,ar]);refine nN (fun(x:Nat×List α)=>⟨[(1,.int .i64 a),(2,.int .i64 b),(3,.ptr (.loc 0) 0),(6,.int .i64 x.1)],(.loc 0,[.func g lc,.func b5 bZ])::(S x.2).b,(S x.2).e,1,cR (S l)⟩) (fun x=>b+1-x.1)
  (fun x=>x.2.length=n∧a<x.1∧x.1≤b+1∧(x.1≤b∨x.1=a+1)∧gg a b l x.2∧e4 lt a x.1 x.2) (a+1,l)
  (H.weak aq aq (by simp[aF]) (by simp[cE,ar]) aE aE) ⟨aq,by simp,by simp;omega,.inr rfl,.refl _,fun i j x y J U ao=>by simp at ao;omega⟩ ?_
 rintro⟨i,lk⟩ ⟨J,mA,yK,oO,U,ao⟩ _;simp only at J mA yK oO U ao;simp;((with_reducible repeat' first|refine aj ?_|simp|((first|apply bI|apply bK|apply bJ)<;>intro h<;>try simp at h))<;>(try exact cm))
 ·refine nN (fun(x:Nat×List α)=>⟨[(1,.int .i64 a),(2,.int .i64 b),(3,.ptr (.loc 0) 0),(6,.int .i64 i),(7,.int .i64 x.1)],(.loc 0,[.func g lc,.func b5 bZ])::(S x.2).b,(S x.2).e,1,cR (S l)⟩) (fun x=>x.1)
   (fun x=>x.2.length=n∧a≤x.1∧x.1≤i∧gg a b l x.2∧tf lt a (i+1) x.1 x.2) (i,lk)
   (H.weakC aq J (by simp[aF])) ⟨J,by simp;omega,by simp,U,e4.but ao⟩ ?_
  rintro⟨j,B1⟩ ⟨aR,aex,aeK,be,bN⟩ _;simp only at aR aex aeK be bN;simp[Pv.look];((with_reducible repeat' first|refine aj ?_|simp[Pv.look]|((first|apply bI|apply bK|apply bJ)<;>intro h<;>try simp at h))<;>(try exact cm))
  ·obtain⟨dx,rfl⟩:∃dx,j=dx+1:=⟨j-1,by omega⟩;obtain⟨x,ad⟩:∃x,B1[dx+1]? =some x:=⟨_,cv (by omega)⟩;obtain⟨y,aG⟩:∃y,B1[dx]? =some y:=⟨_,cv (by omega)⟩;have ak:(((dx+1:Nat):Int)-1)=(dx:Nat):=by omega
   rw[H.slc,ak];refine H.doLess aR (dx+1) dx ad aG ?_;simp;cases hB:lt x y with
   |true=>
    simp[Pv.look];(with_reducible repeat' first|refine aj ?_|simp[Pv.look]);have bs:((dx:Int)+1)=(dx+1:Nat):=by omega
    rw[H.ssc,bs];refine H.doSwap aR (dx+1) dx (by omega) (by omega) (by omega) ?_;simp;(with_reducible repeat' first|refine aj ?_|simp);refine bT.whl (dx,gP B1 (dx+1) dx) (by simp) ⟨by simp[aR],by simp;omega,by simp;omega,.step be (by omega) (by omega) (by omega) (by omega) (by omega) (by omega),bN.swap bq (by omega) (by omega) (by omega) ad aG hB⟩ (H.weakC aq (by simp[aR]) (by simp[aF]))
   |false=>simp;((with_reducible repeat' first|refine aj ?_|simp|((first|apply bI|apply bK|apply bJ)<;>intro h<;>try simp at h))<;>(try exact cm));refine bT.whl (i+1,B1) (by simp;omega) ⟨aR,by simp;omega,by simp;omega,by simp;omega,be,bN.done bq (by omega) (by omega) ad aG hB⟩ (H.weakC aq aR (by simp[aF]))
  ·obtain rfl:j=a:=by omega
   refine bT.whl (i+1,B1) (by simp;omega) ⟨aR,by simp;omega,by simp;omega,by simp;omega,be,bN.first⟩ (H.weakC aq aR (by simp[aF]))
 ·refine H.ret aq J (.inr rfl) ⟨rfl,lk,rfl,U,fun p q x y bF kf bn=>ao p q x y bF kf (by omega)⟩
end Go.Proofs.YtohaalphocaebaaGreat
namespace Go.Proofs.YtohaalphocaebaaGreat
open Go Go.Pv
variable {α:Type} [Inhabited α] {S:List α→cF} {n g b5:Nat} {lc bZ:List ai} {lt:α→α→Bool}
theorem x7{d:Array α}{i:Nat}(h:i<d.size):d.toList[i]? =some d[i]!:=by simp[getElem!_pos,h]
theorem Fp(d:Array α){i j:Nat}(hi:i<d.size)(ag:j<d.size):gP d.toList i j=(Sort.swp d i j).toList:=by simp[gP,Sort.swp,x7 hi,x7 ag]
section
variable (H:eV S n g b5 lc bZ lt)
include H
theorem eV.swapA{d:Array α}(J:d.size=n)(U:2≤n)(i j:Nat)(hi:i<n)(ag:j<n){t:List (Nat×ai)}{D:List ai}{o:List aH}{cj:Option Nat}{K:bj→Prop}
  (h:∀o,K ⟨eK cj (.tuple []) t,(.loc 0,D)::(S (Sort.swp d i j).toList).b,(S (Sort.swp d i j).toList).e,1,o⟩):cD az b5 (.int .i64 i:: .int .i64 j::bZ) ⟨t,(.loc 0,D)::(S d.toList).b,(S d.toList).e,1,o⟩ cj K:=by
 refine H.doSwap (by simpa using J) i j hi ag U ?_;rw[Fp d (by omega) (by omega)];exact h _
theorem eV.lessA{d:Array α}(J:d.size=n)(i j:Nat)(hi:i<n)(ag:j<n){t:List (Nat×ai)}{D:List ai}{o:List aH}{cj:Option Nat}{K:bj→Prop}
  (h:∀o,K ⟨eK cj (.bool (lt d[i]! d[j]!)) t,(.loc 0,D)::(S d.toList).b,(S d.toList).e,1,o⟩):cD az g (.int .i64 i:: .int .i64 j::lc) ⟨t,(.loc 0,D)::(S d.toList).b,(S d.toList).e,1,o⟩ cj K:=
 H.doLess (by simpa using J) i j (x7 (by omega)) (x7 (by omega)) (h _)
theorem eV.fnA{d d2:Array α}(J:d.size=n)(U:d2.size=n){f:Nat}{args:List ai}{r:ai}(aQ:bB az f args (S d.toList) fun eD ah=>eD=r∧ah=S d2.toList)(ab:aO (inObs (S d.toList)) args){t:List (Nat×ai)}{D:List ai}{o:List aH}{cj:Option Nat}{K:bj→Prop}
  (h:∀o,K ⟨eK cj r t,(.loc 0,D)::(S d2.toList).b,(S d2.toList).e,1,o⟩):cD az f args ⟨t,(.loc 0,D)::(S d.toList).b,(S d.toList).e,1,o⟩ cj K:=
 H.call (by simpa using J) (R:=fun eD aX=>eD=r∧aX=d2.toList) (aQ.mono fun r ah ⟨ak,aA⟩=>⟨_,aA,ak,rfl⟩) (fun r aX ⟨_,e⟩=>by rw[e];simpa using U) ab (by rintro eD aX ⟨rfl,rfl⟩;exact h _)
end
section
variable (H:eV S n g b5 lc bZ lt)
include H
theorem eV.loopA{β:Type}{xd:List α}(aq:xd.length=n){t:List (Nat×ai)}{b:List (aH×List ai)}{e:List (aH×fv)}{q:Nat}{o:List aH}(ck:List Nat)(cs:β→List (Nat×ai))(A:β→Array α)(μ:β→Nat)(gD:β→Prop)(a0:β)(bd:(A a0).size=n)(bV:gD a0)
  (q5:Pv.look (.loc 0) b=some [.func g lc,.func b5 bZ]) (ae:∀k cs,Pv.look k (S (A a0).toList).b=some cs→Pv.look k b=some cs) (he:∀k o,Pv.look k (S (A a0).toList).e=some o→Pv.look k e=some o)
  (aN:∀x∈tR t ck++cs a0,Pv.get x.1 t=x.2∧aF (lM (S (A a0).toList) 1) x.2) {c:C} {Q:Exit→bj→Prop}
  (af:∀a,gD a→cT az (cR (S xd)) c (bT (cR (S xd)) (Aq (fun a=>⟨tR t ck++cs a,(.loc 0,[.func g lc,.func b5 bZ])::(S (A a).toList).b,(S (A a).toList).e,1,cR (S xd)⟩) μ gD) (μ a) Q) ⟨tR t ck++cs a,(.loc 0,[.func g lc,.func b5 bZ])::(S (A a).toList).b,(S (A a).toList).e,1,cR (S xd)⟩):
  cT az (cR (S xd)) (.loop c) Q ⟨t,b,e,q,o⟩:=
 nN (fun a=>⟨tR t ck++cs a,(.loc 0,[.func g lc,.func b5 bZ])::(S (A a).toList).b,(S (A a).toList).e,1,cR (S xd)⟩) μ gD a0 (H.weak aq (by simpa using bd) aN q5 ae he) bV fun a ag _=>af a ag
theorem eV.callA0{lk:List α}(J:lk.length=n){f:Nat}{args:List ai}{R:ai→List α→Prop}(aQ:bB az f args (S lk) fun r ah=> ∃aX,ah=S aX∧R r aX)(b4:∀r aX,R r aX→aX.length=n)(ab:aO (inObs (S lk)) args){t:List (Nat×ai)}{D:List ai}{o:List aH}{d:Option Nat}{K:bj→Prop}
  (h:∀r aX,R r aX→∀o,K ⟨eK d r t,(.loc 0,D)::(S aX).b,(S aX).e,1,o⟩):cD az f args ⟨t,(S lk).b++[(.loc 0,D)],(S lk).e,1,o⟩ d K:=by
 refine cD.ob aQ (H.ok lk) (fun k cs ad=>by rw[cE,ad]) (fun _ _ ad=>ad) ab ?_;rintro r ah ⟨aX,rfl,aI⟩;refine⟨H.same _ _ J (b4 _ _ aI),?_⟩;have ak:bR (S lk).b ((S lk).b++[(.loc 0,D)])=[(.loc 0,D)]:=by rw[ig,gH];simp[bR,H.loc]
 have aA:bR (S lk).e (S lk).e=[]:=gH _;have:=h _ _ aI (o++cR (S aX));simp only[ak,aA];exact this
theorem eV.swapA0{d:Array α}(J:d.size=n)(U:2≤n)(i j:Nat)(hi:i<n)(ag:j<n){t:List (Nat×ai)}{D:List ai}{o:List aH}{cj:Option Nat}{K:bj→Prop}
  (h:∀o,K ⟨eK cj (.tuple []) t,(.loc 0,D)::(S (Sort.swp d i j).toList).b,(S (Sort.swp d i j).toList).e,1,o⟩):cD az b5 (.int .i64 i:: .int .i64 j::bZ) ⟨t,(S d.toList).b++[(.loc 0,D)],(S d.toList).e,1,o⟩ cj K:=by
 refine H.callA0 (by simpa using J) (R:=fun r aX=>r= .tuple []∧aX=(Sort.swp d i j).toList) ((H.swap d.toList (by simpa using J) U i j hi ag).mono fun r ah ⟨ak,aA⟩=>⟨_,aA,ak,Fp d (by omega) (by omega)⟩) (fun r aX ⟨_,e⟩=>by rw[e];simp[Sort.swp,J]) (by simp[aF,aO,H.ksc d.toList (by simpa using J)]) ?_;rintro r aX ⟨rfl,rfl⟩ o;exact h o
theorem eV.retA{l:List α}{d:Array α}(aq:l.length=n)(J:d.size=n){Q:ai→cF→Prop}{e:Exit}(he:e= .ret∨e= .normal){t:List (Nat×ai)}{D:List ai}{q:Nat}{o:List aH}(bn:Q (.tuple []) (S d.toList)):cG [] (S l) Q e ⟨t,(.loc 0,D)::(S d.toList).b,(S d.toList).e,q,o⟩:=H.ret aq (by simpa using J) he bn
theorem eV.retR{ez:List bu}{l:List α}{d:Array α}(aq:l.length=n)(J:d.size=n){Q:ai→cF→Prop}{e:Exit}(he:e= .ret∨e= .normal){t:List (Nat×ai)}{D:List ai}{q:Nat}{o:List aH}(h:cM ⟨t,(.loc 0,D)::(S d.toList).b,(S d.toList).e,q,o⟩ ez fun r=>aF (inObs (S d.toList)) r∧Q r (S d.toList)):cG ez (S l) Q e ⟨t,(.loc 0,D)::(S d.toList).b,(S d.toList).e,q,o⟩:=by
 refine cG.at (S d.toList) he (H.ok _) (H.same _ _ aq (by simpa using J)) (fun k cs ad=>?_) (fun _ _ ad=>ad) h;cases k with
 |loc m=>rw[H.loc m]at ad;cases ad
 |obj m=>simpa[Pv.look]using ad
end
theorem gA(d:Array α)(i j:Nat):(Sort.swp d i j).size=d.size:=by simp[Sort.swp]
end Go.Proofs.YtohaalphocaebaaGreat
namespace Go.Proofs.YtohaalphocaebaaGreat
open Go Go.Pv
def Oh:C:=(aa [cr 2 0] (.seq (.cond (.c (.bool false)) (aa [I 3 0,bX 4 (.conv .u32 (.t 3)),cL 5 258 4,I 2 5] .ret) .skip) (aa [I 6 0,cL 7 259 6,I 2 7] .ret)))
@[simp] def ah4:List bu:=[.tmp 2]
def HF:C:=(aa [ba 91 2 4,I 92 1,I 93 2,I 94 11,cX 95 267 [.t 91,.t 92,.t 93,.t 94],I 90 95,cq 96 0 90,cq 97 1 90,I 14 96,I 15 97] (aa [I 98 15,I 9 98] (aa [I 99 14,I 100 1,bA 101 .sub 99 100,I 102 2,I 103 14,bA 104 .sub 102 103,I 16 101,I 17 104] (aa [I 105 10,aW 106 .quo 105 8,I 18 106] (aa [I 107 16,I 108 17,bA 109 .lss 107 108] (a8 109 (aa [I 110 16,I 111 18,bA 112 .geq 110 111,I 8 112] (aa [ba 113 2 4,I 114 1,I 115 14,I 116 3,cX 117 210 [.t 113,.t 114,.t 115,.t 116]] (.region [I 118 14,aW 119 .add 118 1,I 1 119]))) (aa [I 120 17,I 121 18,bA 122 .geq 120 121,I 8 122] (aa [ba 123 2 4,I 124 14,aW 125 .add 124 1,I 126 2,I 127 3,cX 128 210 [.t 123,.t 125,.t 126,.t 127]] (.region [I 129 14,I 2 129])))))))))
def AK:C:=(.seq (aa [I 73 1,aW 74 .gtr 73 0,I 75 74,aw 75 true (aP 76 0 1 4),aw 75 true (aB 77 1 76),bU 75 true 78 1,aw 75 true (aW 79 .sub 78 1),bU 75 true 80 11,aw 75 true (gw 81 77 [.t 79,.t 80]),aw 75 true (cI 82 81),dr 83 75 82] (a8 83 (aa [ba 84 2 4,I 85 1,I 86 2,I 87 11,cX 88 266 [.t 84,.t 85,.t 86,.t 87],I 13 88] (aa [I 89 13,I 1 89] (.exit 1))) .skip)) HF)
def HG:C:=(.seq (aa [I 61 8,I 62 61,bU 62 true 63 9,dr 64 62 63,I 65 64,bU 65 true 66 12,aw 65 true (aW 67 .eql 66 1),dr 68 65 67] (a8 68 (aa [ba 69 2 4,I 70 1,I 71 2,cX 72 265 [.t 69,.t 70,.t 71]] (a8 72 .ret .skip)) .skip)) AK)
def HH:C:=(aa [ba 43 2 4,I 44 1,I 45 2,cX 46 263 [.t 43,.t 44,.t 45],I 42 46,cq 47 0 42,cq 48 1 42,I 11 47,I 12 48] (.seq (aa [I 49 12,aW 50 .eql 49 2] (a8 50 (aa [ba 51 2 4,I 52 1,I 53 2,cX 54 264 [.t 51,.t 52,.t 53]] (aa [I 55 2,aW 56 .sub 55 1,I 57 11,I 58 1,bA 59 .sub 57 58,bA 60 .sub 56 59,I 11 60] (.region [cr 12 1]))) .skip)) HG))
def Oy:C:=(aa [cW 4 0] (aa [bH 8 true] (aa [bH 9 true] (.block 0 (.loop (.block 1 (aa [I 19 2,I 20 1,bA 21 .sub 19 20,I 10 21] (.seq (aa [I 22 10,aW 23 .leq 22 12] (a8 23 (aa [ba 24 2 4,I 25 1,I 26 2,cX 27 260 [.t 24,.t 25,.t 26]] .ret) .skip)) (.seq (aa [I 28 3,aW 29 .eql 28 0] (a8 29 (aa [ba 30 2 4,I 31 1,I 32 2,cX 33 261 [.t 30,.t 31,.t 32]] .ret) .skip)) (.seq (aa [I 34 8,cI 35 34] (a8 35 (aa [ba 36 2 4,I 37 1,I 38 2,cX 39 262 [.t 36,.t 37,.t 38]] (.region [I 40 3,aW 41 .sub 40 1,I 3 41])) .skip)) HH))))))))))
@[simp] def UW:List bu:=[]
@[simp] def aoy:List bu:=[.tmp 2]
def Oi:C:=(aa [cr 2 0] (.seq (aa [I 3 0,bX 4 (.bin .geq false (.t 3) (.c (.int .u64 4294967296)))] (a8 4 (aa [I 5 0,bX 6 (.bin .shr false (.t 5) (.c (.int .u64 32))),I 0 6] (.region [cr 2 32])) .skip)) (.seq (aa [I 7 0,bX 8 (.bin .geq false (.t 7) (.c (.int .u64 65536)))] (a8 8 (aa [I 9 0,bX 10 (.bin .shr false (.t 9) (.c (.int .u64 16))),I 0 10] (.region [I 11 2,aW 12 .add 11 16,I 2 12])) .skip)) (.seq (aa [I 13 0,bX 14 (.bin .geq false (.t 13) (.c (.int .u64 256)))] (a8 14 (aa [I 15 0,bX 16 (.bin .shr false (.t 15) (.c (.int .u64 8))),I 0 16] (.region [I 17 2,aW 18 .add 17 8,I 2 18])) .skip)) (aa [I 19 2,I 20 0,bX 21 (.conv .u8 (.t 20)),bX 22 (.sidx (.c (.str [0,1,2,2,3,3,3,3,4,4,4,4,4,4,4,4,5,5,5,5,5,5,5,5,5,5,5,5,5,5,5,5,6,6,6,6,6,6,6,6,6,6,6,6,6,6,6,6,6,6,6,6,6,6,6,6,6,6,6,6,6,6,6,6,7,7,7,7,7,7,7,7,7,7,7,7,7,7,7,7,7,7,7,7,7,7,7,7,7,7,7,7,7,7,7,7,7,7,7,7,7,7,7,7,7,7,7,7,7,7,7,7,7,7,7,7,7,7,7,7,7,7,7,7,7,7,7,7,8,8,8,8,8,8,8,8,8,8,8,8,8,8,8,8,8,8,8,8,8,8,8,8,8,8,8,8,8,8,8,8,8,8,8,8,8,8,8,8,8,8,8,8,8,8,8,8,8,8,8,8,8,8,8,8,8,8,8,8,8,8,8,8,8,8,8,8,8,8,8,8,8,8,8,8,8,8,8,8,8,8,8,8,8,8,8,8,8,8,8,8,8,8,8,8,8,8,8,8,8,8,8,8,8,8,8,8,8,8,8,8,8,8,8,8,8,8,8,8,8,8,8,8,8,8,8,8])) (.t 21)),bX 23 (.conv .i64 (.t 22)),bA 24 .add 19 23,I 2 24] .ret)))))
@[simp] def zO:List bu:=[.tmp 2]
def On:C:=(aa [cW 3 0] (aa [I 11 1,I 6 11] (aa [cr 7 0] (aa [I 12 2,I 13 1,bA 14 .sub 12 13,I 8 14] (.seq (aa [I 15 8,aW 16 .sub 15 1,aW 17 .quo 16 2,I 9 17] (.block 0 (.loop (.seq (aa [I 18 9,aW 19 .geq 18 0] (a8 19 .skip (.exit 0))) (.seq (.block 1 (.region [ba 22 2 3,I 23 9,I 24 8,I 25 6,cX 26 278 [.t 22,.t 23,.t 24,.t 25]])) (.region [I 20 9,aW 21 .sub 20 1,I 9 21])))))) (aa [I 27 8,aW 28 .sub 27 1,I 10 28] (.block 2 (.loop (.seq (aa [I 29 10,aW 30 .geq 29 0] (a8 30 .skip (.exit 2))) (.seq (.block 3 (aa [aP 33 1 1 3,aB 34 1 33,I 35 6,I 36 6,I 37 10,bA 38 .add 36 37,gw 39 34 [.t 35,.t 38]] (.region [ba 40 2 3,I 41 7,I 42 10,I 43 6,cX 44 278 [.t 40,.t 41,.t 42,.t 43]]))) (.region [I 31 10,aW 32 .sub 31 1,I 10 32])))))))))))
@[simp] def ah5:List bu:=[]
def Ol:C:=(aa [cW 3 0] (aa [I 11 2,I 12 1,bA 13 .sub 11 12,I 6 13] (aa [I 14 6,aW 15 .geq 14 8] (a8 15 (aa [I 16 6,bX 17 (.conv .u64 (.t 16)),c4 (.alloc 7 (some 902) (.int .u64 0)),bG 1 7 17] (aa [I 18 6,cL 19 279 18,I 8 19] (aa [I 20 1,I 21 6,aW 22 .quo 21 4,aW 23 .mul 22 2,bA 24 .add 20 23,aW 25 .sub 24 1,I 9 25] (.block 0 (.loop (.seq (aa [I 26 9,I 27 1,I 28 6,aW 29 .quo 28 4,aW 30 .mul 29 2,bA 31 .add 27 30,aW 32 .add 31 1,bA 33 .leq 26 32] (a8 33 .skip (.exit 0))) (.seq (.block 1 (aa [cL 36 280 7,I 37 8,bX 38 (.bin .sub true (.t 37) (.c (.int .u64 1))),bA 39 .and 36 38,bX 40 (.conv .i64 (.t 39)),I 10 40] (.seq (aa [I 41 10,I 42 6,bA 43 .geq 41 42] (a8 43 (.region [I 44 10,I 45 6,bA 46 .sub 44 45,I 10 46]) .skip)) (.region [aP 47 1 1 3,aB 48 1 47,I 49 9,I 50 1,I 51 10,bA 52 .add 50 51,gw 53 48 [.t 49,.t 52]])))) (.region [I 34 9,aW 35 .add 34 1,I 9 35])))))))) .skip))))
@[simp] def UR:List bu:=[]
def Om:C:=(aa [cW 3 0,cr 6 0,cr 7 0] (aa [I 13 2,I 14 1,bA 15 .sub 13 14,I 8 15] (aa [c4 (.alloc 9 (some 901) (.int .i64 0))] (aa [I 16 1,I 17 8,aW 18 .quo 17 4,aW 19 .mul 18 1,bA 20 .add 16 19,I 10 20] (aa [I 21 1,I 22 8,aW 23 .quo 22 4,aW 24 .mul 23 2,bA 25 .add 21 24,I 11 25] (aa [I 26 1,I 27 8,aW 28 .quo 27 4,aW 29 .mul 28 3,bA 30 .add 26 29,I 12 30] (.seq (aa [I 31 8,aW 32 .geq 31 8] (a8 32 (.seq (aa [I 33 8,aW 34 .geq 33 50] (a8 34 (aa [ba 35 2 3,I 36 10,cX 37 281 [.t 35,.t 36,.t 9],I 10 37] (aa [ba 38 2 3,I 39 11,cX 40 281 [.t 38,.t 39,.t 9],I 11 40] (.region [ba 41 2 3,I 42 12,cX 43 281 [.t 41,.t 42,.t 9],I 12 43]))) .skip)) (.region [ba 44 2 3,I 45 10,I 46 11,I 47 12,cX 48 282 [.t 44,.t 45,.t 46,.t 47,.t 9],I 11 48])) .skip)) (aa [aB 49 1 9] (.block 0 (aa [aW 52 .eql 49 0,I 51 52] (a8 51 (aa [I 53 11,I 6 53,cr 7 1] .ret) (aa [aW 55 .eql 49 12,I 54 55] (a8 54 (aa [I 56 11,I 6 56,cr 7 2] .ret) (aa [I 50 11,I 6 50,cr 7 0] .ret))))))))))))))
@[simp] def Le:List bu:=[.tmp 6,.tmp 7]
def Oz:C:=(aa [cW 3 0] (aa [I 8 1,I 6 8] (aa [I 9 2,aW 10 .sub 9 1,I 7 10] (.block 0 (.loop (.seq (aa [I 11 6,I 12 7,bA 13 .lss 11 12] (a8 13 .skip (.exit 0))) (.block 1 (aa [aP 14 1 1 3,aB 15 1 14,I 16 6,I 17 7,gw 18 15 [.t 16,.t 17]] (aa [I 19 6,aW 20 .add 19 1,I 6 20] (.region [I 21 7,aW 22 .sub 21 1,I 7 22]))))))))))
@[simp] def ah7:List bu:=[]
def Ov:C:=(aa [cW 3 0,bH 6 false] (aa [I 11 1,aW 12 .add 11 1,I 7 12] (.seq (aa [cr 8 0] (.block 0 (.loop (.seq (aa [I 13 8,aW 14 .lss 13 5] (a8 14 .skip (.exit 0))) (.seq (.block 1 (.seq (.block 2 (.loop (.seq (aa [I 17 7,I 18 2,bA 19 .lss 17 18,I 20 19,aw 20 true (aP 21 0 1 3),aw 20 true (aB 22 1 21),bU 20 true 23 7,bU 20 true 24 7,aw 20 true (aW 25 .sub 24 1),aw 20 true (gw 26 22 [.t 23,.t 25]),aw 20 true (cI 27 26),dr 28 20 27] (a8 28 .skip (.exit 2))) (.block 3 (.region [I 29 7,aW 30 .add 29 1,I 7 30]))))) (.seq (aa [I 31 7,I 32 2,bA 33 .eql 31 32] (a8 33 (aa [bH 6 true] .ret) .skip)) (.seq (aa [I 34 2,I 35 1,bA 36 .sub 34 35,aW 37 .lss 36 50] (a8 37 (aa [bH 6 false] .ret) .skip)) (aa [aP 38 1 1 3,aB 39 1 38,I 40 7,I 41 7,aW 42 .sub 41 1,gw 43 39 [.t 40,.t 42]] (.seq (aa [I 44 7,I 45 1,bA 46 .sub 44 45,aW 47 .geq 46 2] (a8 47 (aa [I 48 7,aW 49 .sub 48 1,I 9 49] (.block 4 (.loop (.seq (aa [I 50 9,aW 51 .geq 50 1] (a8 51 .skip (.exit 4))) (.seq (.block 5 (.seq (aa [aP 54 0 1 3,aB 55 1 54,I 56 9,I 57 9,aW 58 .sub 57 1,gw 59 55 [.t 56,.t 58],cI 60 59] (a8 60 (.exit 4) .skip)) (.region [aP 61 1 1 3,aB 62 1 61,I 63 9,I 64 9,aW 65 .sub 64 1,gw 66 62 [.t 63,.t 65]]))) (.region [I 52 9,aW 53 .sub 52 1,I 9 53])))))) .skip)) (aa [I 67 2,I 68 7,bA 69 .sub 67 68,aW 70 .geq 69 2] (a8 70 (aa [I 71 7,aW 72 .add 71 1,I 10 72] (.block 6 (.loop (.seq (aa [I 73 10,I 74 2,bA 75 .lss 73 74] (a8 75 .skip (.exit 6))) (.seq (.block 7 (.seq (aa [aP 78 0 1 3,aB 79 1 78,I 80 10,I 81 10,aW 82 .sub 81 1,gw 83 79 [.t 80,.t 82],cI 84 83] (a8 84 (.exit 6) .skip)) (.region [aP 85 1 1 3,aB 86 1 85,I 87 10,I 88 10,aW 89 .sub 88 1,gw 90 86 [.t 87,.t 89]]))) (.region [I 76 10,aW 77 .add 76 1,I 10 77])))))) .skip)))))))) (.region [I 15 8,aW 16 .add 15 1,I 8 16])))))) (aa [bH 6 false] .ret))))
@[simp] def FY:List bu:=[.tmp 6]
def Ow:C:=(aa [cW 4 0,cr 8 0] (aa [aP 11 1 1 4,aB 12 1 11,I 13 1,I 14 3,gw 15 12 [.t 13,.t 14]] (aa [I 16 1,aW 17 .add 16 1,I 18 2,aW 19 .sub 18 1,I 9 17,I 10 19] (.seq (.block 0 (.loop (.block 1 (.seq (.block 2 (.loop (.seq (aa [I 20 9,I 21 10,bA 22 .leq 20 21,I 23 22,aw 23 true (aP 24 0 1 4),aw 23 true (aB 25 1 24),bU 23 true 26 1,bU 23 true 27 9,aw 23 true (gw 28 25 [.t 26,.t 27]),aw 23 true (cI 29 28),dr 30 23 29] (a8 30 .skip (.exit 2))) (.block 3 (.region [I 31 9,aW 32 .add 31 1,I 9 32]))))) (.seq (.block 4 (.loop (.seq (aa [I 33 9,I 34 10,bA 35 .leq 33 34,I 36 35,aw 36 true (aP 37 0 1 4),aw 36 true (aB 38 1 37),bU 36 true 39 1,bU 36 true 40 10,aw 36 true (gw 41 38 [.t 39,.t 40]),dr 42 36 41] (a8 42 .skip (.exit 4))) (.block 5 (.region [I 43 10,aW 44 .sub 43 1,I 10 44]))))) (.seq (aa [I 45 9,I 46 10,bA 47 .gtr 45 46] (a8 47 (.exit 0) .skip)) (aa [aP 48 1 1 4,aB 49 1 48,I 50 9,I 51 10,gw 52 49 [.t 50,.t 51]] (aa [I 53 9,aW 54 .add 53 1,I 9 54] (.region [I 55 10,aW 56 .sub 55 1,I 10 56]))))))))) (aa [I 57 9,I 8 57] .ret)))))
@[simp] def Lg:List bu:=[.tmp 8]
def Ox:C:=(aa [cW 4 0,cr 8 0,bH 9 false] (aa [aP 12 1 1 4,aB 13 1 12,I 14 1,I 15 3,gw 16 13 [.t 14,.t 15]] (aa [I 17 1,aW 18 .add 17 1,I 19 2,aW 20 .sub 19 1,I 10 18,I 11 20] (.seq (.block 0 (.loop (.seq (aa [I 21 10,I 22 11,bA 23 .leq 21 22,I 24 23,aw 24 true (aP 25 0 1 4),aw 24 true (aB 26 1 25),bU 24 true 27 10,bU 24 true 28 1,aw 24 true (gw 29 26 [.t 27,.t 28]),dr 30 24 29] (a8 30 .skip (.exit 0))) (.block 1 (.region [I 31 10,aW 32 .add 31 1,I 10 32]))))) (.seq (.block 2 (.loop (.seq (aa [I 33 10,I 34 11,bA 35 .leq 33 34,I 36 35,aw 36 true (aP 37 0 1 4),aw 36 true (aB 38 1 37),bU 36 true 39 11,bU 36 true 40 1,aw 36 true (gw 41 38 [.t 39,.t 40]),aw 36 true (cI 42 41),dr 43 36 42] (a8 43 .skip (.exit 2))) (.block 3 (.region [I 44 11,aW 45 .sub 44 1,I 11 45]))))) (.seq (aa [I 46 10,I 47 11,bA 48 .gtr 46 47] (a8 48 (aa [aP 49 1 1 4,aB 50 1 49,I 51 11,I 52 1,gw 53 50 [.t 51,.t 52]] (aa [I 54 11,I 8 54,bH 9 true] .ret)) .skip)) (aa [aP 55 1 1 4,aB 56 1 55,I 57 10,I 58 11,gw 59 56 [.t 57,.t 58]] (aa [I 60 10,aW 61 .add 60 1,I 10 61] (aa [I 62 11,aW 63 .sub 62 1,I 11 63] (.seq (.block 4 (.loop (.block 5 (.seq (.block 6 (.loop (.seq (aa [I 64 10,I 65 11,bA 66 .leq 64 65,I 67 66,aw 67 true (aP 68 0 1 4),aw 67 true (aB 69 1 68),bU 67 true 70 10,bU 67 true 71 1,aw 67 true (gw 72 69 [.t 70,.t 71]),dr 73 67 72] (a8 73 .skip (.exit 6))) (.block 7 (.region [I 74 10,aW 75 .add 74 1,I 10 75]))))) (.seq (.block 8 (.loop (.seq (aa [I 76 10,I 77 11,bA 78 .leq 76 77,I 79 78,aw 79 true (aP 80 0 1 4),aw 79 true (aB 81 1 80),bU 79 true 82 11,bU 79 true 83 1,aw 79 true (gw 84 81 [.t 82,.t 83]),aw 79 true (cI 85 84),dr 86 79 85] (a8 86 .skip (.exit 8))) (.block 9 (.region [I 87 11,aW 88 .sub 87 1,I 11 88]))))) (.seq (aa [I 89 10,I 90 11,bA 91 .gtr 89 90] (a8 91 (.exit 4) .skip)) (aa [aP 92 1 1 4,aB 93 1 92,I 94 10,I 95 11,gw 96 93 [.t 94,.t 95]] (aa [I 97 10,aW 98 .add 97 1,I 10 98] (.region [I 99 11,aW 100 .sub 99 1,I 11 100]))))))))) (aa [aP 101 1 1 4,aB 102 1 101,I 103 11,I 104 1,gw 105 102 [.t 103,.t 104]] (aa [I 106 11,I 8 106,bH 9 false] .ret))))))))))))
@[simp] def Cw:List bu:=[.tmp 8,.tmp 9]
def OB:C:=(aa [cW 4 0] (aa [I 10 1,I 8 10] (.block 0 (.loop (.block 1 (aa [I 11 8,bX 12 (.bin .mul false (et 2) (.t 11)),aW 13 .add 12 1,I 9 13] (.seq (aa [I 14 9,I 15 2,bA 16 .geq 14 15] (a8 16 (.exit 0) .skip)) (.seq (aa [I 17 9,aW 18 .add 17 1,I 19 2,bA 20 .lss 18 19,I 21 20,aw 21 true (aP 22 0 1 4),aw 21 true (aB 23 1 22),bU 21 true 24 3,bU 21 true 25 9,aw 21 true (bA 26 .add 24 25),bU 21 true 27 3,bU 21 true 28 9,aw 21 true (bA 29 .add 27 28),aw 21 true (aW 30 .add 29 1),aw 21 true (gw 31 23 [.t 26,.t 30]),dr 32 21 31] (a8 32 (.region [I 33 9,aW 34 .add 33 1,I 9 34]) .skip)) (.seq (aa [aP 35 0 1 4,aB 36 1 35,I 37 3,I 38 8,bA 39 .add 37 38,I 40 3,I 41 9,bA 42 .add 40 41,gw 43 36 [.t 39,.t 42],cI 44 43] (a8 44 .ret .skip)) (aa [aP 45 1 1 4,aB 46 1 45,I 47 3,I 48 8,bA 49 .add 47 48,I 50 3,I 51 9,bA 52 .add 50 51,gw 53 46 [.t 49,.t 52]] (.region [I 54 9,I 8 54])))))))))))
@[simp] def ah9:List bu:=[]
def Ot:C:=(aa [bX 2 (.mov (.c (.int .u64 0)))] (aa [I 4 0,bX 5 (.conv .u64 (.t 4)),cL 6 209 5,bX 7 (.conv .u64 (.t 6)),I 3 7] (aa [I 8 3,bX 9 (.bin .shl false (.c (.int .u64 1)) (.t 8)),I 2 9] .ret)))
@[simp] def UU:List bu:=[.tmp 2]
def OF:C:=(aa [bX 2 (.mov (.c (.int .u64 0)))] (.seq (.drawn true 33 [I 3 0,eB 4 3,aB 5 1 4,I 6 0,eB 7 6,aB 8 1 7,bX 9 (.bin .shl false (.t 8) (.c (.int .u64 13))),bA 10 .xor 5 9,eB 11 3,bG 1 11 10]) (.seq (.drawn true 33 [I 12 0,eB 13 12,aB 14 1 13,I 15 0,eB 16 15,aB 17 1 16,bX 18 (.bin .shr false (.t 17) (.c (.int .u64 7))),bA 19 .xor 14 18,eB 20 12,bG 1 20 19]) (.seq (.drawn true 33 [I 21 0,eB 22 21,aB 23 1 22,I 24 0,eB 25 24,aB 26 1 25,bX 27 (.bin .shl false (.t 26) (.c (.int .u64 17))),bA 28 .xor 23 27,eB 29 21,bG 1 29 28]) (aa [I 30 0,eB 31 30,aB 32 1 31,I 2 32] .ret)))))
@[simp] def UY:List bu:=[.tmp 2]
def Oo:C:=(aa [cW 3 0,cr 6 0] (aa [ba 7 2 3,I 8 1,aW 9 .sub 8 1,I 10 1,I 11 1,aW 12 .add 11 1,I 13 2,cX 14 282 [.t 7,.t 9,.t 10,.t 12,.t 13],I 6 14] .ret))
@[simp] def US:List bu:=[.tmp 6]
def Oq:C:=(aa [cW 5 0,cr 10 0] (aa [ba 12 2 5,I 13 1,I 14 2,I 15 4,cX 16 285 [.t 12,.t 13,.t 14,.t 15],I 11 16,cq 17 0 11,cq 18 1 11,I 1 17,I 2 18] (aa [ba 20 2 5,I 21 2,I 22 3,I 23 4,cX 24 285 [.t 20,.t 21,.t 22,.t 23],I 19 24,cq 25 0 19,cq 26 1 19,I 2 25,I 3 26] (aa [ba 28 2 5,I 29 1,I 30 2,I 31 4,cX 32 285 [.t 28,.t 29,.t 30,.t 31],I 27 32,cq 33 0 27,cq 34 1 27,I 1 33,I 2 34] (aa [I 35 2,I 10 35] .ret)))))
@[simp] def UT:List bu:=[.tmp 10]
def Ou:C:=(aa [cW 4 0,cr 8 0,cr 9 0] (.seq (aa [aP 10 0 1 4,aB 11 1 10,I 12 2,I 13 1,gw 14 11 [.t 12,.t 13]] (a8 14 (aa [I 15 3,eB 16 15,aB 17 1 16,aW 18 .add 17 1,eB 19 15,bG 1 19 18] (aa [I 20 2,I 21 1,I 8 20,I 9 21] .ret)) .skip)) (aa [I 22 1,I 23 2,I 8 22,I 9 23] .ret)))
@[simp] def Lf:List bu:=[.tmp 8,.tmp 9]
def mT:List (Nat×du):=[
 (3,⟨1,8,.int .i64,.int .i64 0⟩),
 (5,⟨1,1,.int .u8,.int .u8 0⟩),
 (9,⟨1,16,.str,.str []⟩),
 (160,⟨1,8,.other,.junk⟩),
 (163,⟨1,8,.int .u64,.int .u64 0⟩),
 (216,⟨1,8,.other,.junk⟩),
 (222,⟨2,16,.struct [(0,160),(1,216)],.agg [.junk,.junk]⟩),
 (254,⟨1,4,.int .u32,.int .u32 0⟩),
 (256,⟨1,8,.int .u64,.int .u64 0⟩),
 (265,⟨1,8,.int .u64,.int .u64 0⟩)]
theorem nx:fA az mT=true:=by kernel_rfl
theorem agq:cc mT Oh ah4 1 Tryz.f209=true:=by kernel_rfl
theorem Z2:az.funcs[(209:Nat)]? =some Tryz.f209:=Tryz.func209
theorem agD:cc mT Oy UW 4 Tryz.f210=true:=by kernel_rfl
theorem aaf:az.funcs[(210:Nat)]? =some Tryz.f210:=Tryz.func210
theorem agr:cc mT Oi zO 1 Tryz.f259=true:=by kernel_rfl
theorem Z3:az.funcs[(259:Nat)]? =some Tryz.f259:=Tryz.func259
theorem agv:cc mT On ah5 3 Tryz.f261=true:=by kernel_rfl
theorem Z7:az.funcs[(261:Nat)]? =some Tryz.f261:=Tryz.func261
theorem agt:cc mT Ol UR 3 Tryz.f262=true:=by kernel_rfl
theorem Z5:az.funcs[(262:Nat)]? =some Tryz.f262:=Tryz.func262
theorem agu:cc mT Om Le 3 Tryz.f263=true:=by kernel_rfl
theorem Z6:az.funcs[(263:Nat)]? =some Tryz.f263:=Tryz.func263
theorem agE:cc mT Oz ah7 3 Tryz.f264=true:=by kernel_rfl
theorem aag:az.funcs[(264:Nat)]? =some Tryz.f264:=Tryz.func264
theorem agA:cc mT Ov FY 3 Tryz.f265=true:=by kernel_rfl
theorem aac:az.funcs[(265:Nat)]? =some Tryz.f265:=Tryz.func265
theorem agB:cc mT Ow Lg 4 Tryz.f266=true:=by kernel_rfl
theorem aad:az.funcs[(266:Nat)]? =some Tryz.f266:=Tryz.func266
theorem agC:cc mT Ox Cw 4 Tryz.f267=true:=by kernel_rfl
theorem aae:az.funcs[(267:Nat)]? =some Tryz.f267:=Tryz.func267
theorem agG:cc mT OB ah9 4 Tryz.f278=true:=by kernel_rfl
theorem aai:az.funcs[(278:Nat)]? =some Tryz.f278:=Tryz.func278
theorem agy:cc mT Ot UU 1 Tryz.f279=true:=by kernel_rfl
theorem aaa:az.funcs[(279:Nat)]? =some Tryz.f279:=Tryz.func279
theorem agK:cc mT OF UY 1 Tryz.f280=true:=by kernel_rfl
theorem aam:az.funcs[(280:Nat)]? =some Tryz.f280:=Tryz.func280
theorem agw:cc mT Oo US 3 Tryz.f281=true:=by kernel_rfl
theorem Z8:az.funcs[(281:Nat)]? =some Tryz.f281:=Tryz.func281
theorem agx:cc mT Oq UT 5 Tryz.f282=true:=by kernel_rfl
theorem Z9:az.funcs[(282:Nat)]? =some Tryz.f282:=Tryz.func282
theorem agz:cc mT Ou Lf 4 Tryz.f285=true:=by kernel_rfl
theorem aab:az.funcs[(285:Nat)]? =some Tryz.f285:=Tryz.func285
end Go.Proofs.YtohaalphocaebaaGreat
namespace Go.Proofs.YtohaalphocaebaaGreat
open Go Go.Pv
variable {α:Type} [Inhabited α] {S:List α→cF} {n g b5:Nat} {lc bZ:List ai} {lt:α→α→Bool}
theorem QD(H:eV S n g b5 lc bZ lt)(d:Array α)(aK:d.size=n)(lo hi first:Nat)(J:first+hi≤n)(U:2≤n)(ao:lo≤n):
  bB az 278 [eP g b5 lc bZ,.int .i64 lo,.int .i64 hi,.int .i64 first] (S d.toList) fun r ah=>r= .tuple []∧∃cj,ah=S cj.toList∧cj=Sort.siftDown lt hi first lo d∧cj.size=n:=by
 have af:=H.ok d.toList;have aq:d.toList.length=n:=by simpa using aK
 have ar:∀l m,Pv.look (.loc m) (S l).b=none:=fun l=>(H.ok l).obj.1;have hu:∀l m cs,ct (.loc m) cs (S l).b=(S l).b++[(.loc m,cs)]:=fun l m cs=>jR (ar l m);have au:∀m,aH.loc m∉cR (S d.toList):=jL af.obj;have hle:=H.le;refine bB.mk mixed nx aai agG (by simp) af.obj fun aU cH=>?_;unfold OB;simp[eP,hu,au,cE,ar];refine H.loopA aq [2,3,4] (fun(x:Nat×Array α)=>[(8,.int .i64 x.1)]) (·.2) (fun x=>hi-x.1) (fun x=>x.2.size=n∧x.1≤n∧Sort.siftDown lt hi first x.1 x.2=Sort.siftDown lt hi first lo d) (lo,d) aK ⟨aK,ao,rfl⟩ (by simp[cE,ar]) aE aE (by simp[aF]) ?_;rintro⟨root,cf⟩ ⟨aR,be,bN⟩;simp only at aR be bN;have ak:((first:Int)+(2*root+1))=(first+(2*root+1):Nat):=by omega
 have aA:(((first+(2*root+1):Nat):Int)+1)=(first+(2*root+1)+1:Nat):=by omega
 have bs:((first:Int)+root)=(first+root:Nat):=by omega
 have dq:((first:Int)+(2*root+1+1))=(first+(2*root+2):Nat):=by omega
 simp[Pv.look,H.slc,H.ssc];(with_reducible repeat' first|((first|apply bI|apply bK|apply bJ)<;>intro h<;>try simp at h)|refine aj ?_|simp[Pv.look,H.slc,H.ssc])
 ·rw[Sort.siftDown,dif_pos (by omega)]at bN;exact H.retA aq aR (.inr rfl) ⟨rfl,cf,rfl,bN,aR⟩
 ·rw[Sort.siftDown,dif_neg (by omega)]at bN;rw[ak,aA];refine H.lessA aR _ _ (by omega) (by omega) fun o=>?_;have av:decide (2*root+1+1<hi)=true:=by simp;omega
  cases ad:lt cf[first+(2*root+1)]! cf[first+(2*root+1)+1]! with
  |true=>
   rw[if_pos (by rw[av,ad];rfl)]at bN;simp;(with_reducible repeat' first|refine aj ?_|simp[Pv.look,H.slc,H.ssc]);rw[bs,dq];refine H.lessA aR _ _ (by omega) (by omega) fun o=>?_;cases aG:lt cf[first+root]! cf[first+(2*root+2)]! with
   |true=>rw[if_neg (by simp[aG]),dif_pos (by omega)]at bN;simp;(with_reducible repeat' first|refine aj ?_|simp[Pv.look,H.slc,H.ssc]);rw[bs,dq];refine H.swapA aR U _ _ (by omega) (by omega) fun o=>?_;simp;(with_reducible repeat' first|refine aj ?_|simp);refine bT.whl (2*root+2,Sort.swp cf (first+root) (first+(2*root+2))) (by simp;omega) ⟨by rw[gA,aR],by simp;omega,bN⟩ (H.weakC aq (by simp[gA,aR]) (by simp[aF];omega))
   |false=>rw[if_pos (by simp[aG])]at bN;simp;(with_reducible repeat' first|refine aj ?_|simp);all_goals exact H.retA aq aR (.inl rfl) ⟨rfl,cf,rfl,bN,aR⟩
  |false=>
   rw[if_neg (by simp[ad])]at bN;simp;(with_reducible repeat' first|refine aj ?_|simp[Pv.look,H.slc,H.ssc]);rw[bs,ak];refine H.lessA aR _ _ (by omega) (by omega) fun o=>?_;cases aG:lt cf[first+root]! cf[first+(2*root+1)]! with
   |true=>rw[if_neg (by simp[aG])]at bN;simp;(with_reducible repeat' first|refine aj ?_|simp[Pv.look,H.slc,H.ssc]);rw[bs,ak];refine H.swapA aR U _ _ (by omega) (by omega) fun o=>?_;simp;(with_reducible repeat' first|refine aj ?_|simp);refine bT.whl (2*root+1,Sort.swp cf (first+root) (first+(2*root+1))) (by simp;omega) ⟨by rw[gA,aR],by simp;omega,bN⟩ (H.weakC aq (by simp[gA,aR]) (by simp[aF]))
   |false=>rw[if_pos (by simp[aG])]at bN;simp;(with_reducible repeat' first|refine aj ?_|simp);all_goals exact H.retA aq aR (.inl rfl) ⟨rfl,cf,rfl,bN,aR⟩
 ·rw[Sort.siftDown,dif_neg (by omega)]at bN;have av:decide (2*root+1+1<hi)=false:=by simp;omega
  rw[if_neg (by rw[av];simp)]at bN;rw[bs,ak];refine H.lessA aR _ _ (by omega) (by omega) fun o=>?_;cases aG:lt cf[first+root]! cf[first+(2*root+1)]! with
  |true=>rw[if_neg (by simp[aG])]at bN;simp;(with_reducible repeat' first|refine aj ?_|simp[Pv.look,H.slc,H.ssc]);rw[bs,ak];refine H.swapA aR U _ _ (by omega) (by omega) fun o=>?_;simp;(with_reducible repeat' first|refine aj ?_|simp);refine bT.whl (2*root+1,Sort.swp cf (first+root) (first+(2*root+1))) (by simp;omega) ⟨by rw[gA,aR],by simp;omega,bN⟩ (H.weakC aq (by simp[gA,aR]) (by simp[aF]))
  |false=>rw[if_pos (by simp[aG])]at bN;simp;(with_reducible repeat' first|refine aj ?_|simp);all_goals exact H.retA aq aR (.inl rfl) ⟨rfl,cf,rfl,bN,aR⟩
theorem abK(H:eV S n g b5 lc bZ lt)(d:Array α)(aK:d.size=n)(a b:Nat)(mz:a<b)(ae:b≤n)(U:2≤n):
  bB az 264 [eP g b5 lc bZ,.int .i64 a,.int .i64 b] (S d.toList) fun r ah=>r= .tuple []∧∃cj,ah=S cj.toList∧cj=Sort.reverseRange d a b∧cj.size=n:=by
 have af:=H.ok d.toList;have aq:d.toList.length=n:=by simpa using aK
 have ar:∀l m,Pv.look (.loc m) (S l).b=none:=fun l=>(H.ok l).obj.1;have hu:∀l m cs,ct (.loc m) cs (S l).b=(S l).b++[(.loc m,cs)]:=fun l m cs=>jR (ar l m);have au:∀m,aH.loc m∉cR (S d.toList):=jL af.obj;have hle:=H.le;refine bB.mk mixed nx aag agE (by simp) af.obj fun aU cH=>?_;unfold Oz;simp[eP,hu,au,cE,ar];have pg:((b:Int)-1)=(b-1:Nat):=by omega
 (with_reducible repeat' first|refine aj ?_|simp[hu,au,cE,ar]);rw[pg];refine H.loopA aq [3] (fun(x:(Nat×Nat)×Array α)=>[(6,.int .i64 x.1.1),(7,.int .i64 x.1.2)]) (·.2) (fun x=>x.1.2+1-x.1.1) (fun x=>x.2.size=n∧x.1.2<n∧Sort.reverseLoop x.1.1 x.1.2 x.2=Sort.reverseRange d a b) ((a,b-1),d) aK ⟨aK,by simp;omega,rfl⟩ (by simp[cE,ar]) aE aE (by simp[aF]) ?_;rintro⟨⟨i,j⟩,cf⟩ ⟨aR,be,bN⟩;simp only at aR be bN;rw[Sort.reverseLoop]at bN;simp[Pv.look,H.slc,H.ssc];(with_reducible repeat' first|((first|apply bI|apply bK|apply bJ)<;>intro h<;>try simp at h)|refine aj ?_|simp[Pv.look,H.slc,H.ssc])
 ·rw[if_pos (by omega)]at bN;refine H.swapA aR U _ _ (by omega) (by omega) fun o=>?_;have ak:((i:Int)+1)=(i+1:Nat):=by omega
  have aA:((j:Int)-1)=(j-1:Nat):=by omega
  simp;((with_reducible repeat' first|refine aj ?_|simp|((first|apply bI|apply bK|apply bJ)<;>intro h<;>try simp at h))<;>(try exact cm));rw[ak,aA];refine bT.whl ((i+1,j-1),Sort.swp cf i j) (by simp;omega) ⟨by rw[gA,aR],by simp;omega,bN⟩ (H.weakC aq (by simp[gA,aR]) (by simp[aF]))
 ·rw[if_neg (by omega)]at bN;exact H.retA aq aR (.inr rfl) ⟨rfl,cf,rfl,bN,aR⟩
theorem abt(H:eV S n g b5 lc bZ lt)(d:Array α)(aK:d.size=n)(a b:Nat)(mz:a≤b)(ae:b≤n)(U:2≤n):
  bB az 261 [eP g b5 lc bZ,.int .i64 a,.int .i64 b] (S d.toList) fun r ah=>r= .tuple []∧∃cj,ah=S cj.toList∧cj=Sort.heapSort lt d a b∧cj.size=n:=by
 have af:=H.ok d.toList;have aq:d.toList.length=n:=by simpa using aK
 have ar:∀l m,Pv.look (.loc m) (S l).b=none:=fun l=>(H.ok l).obj.1;have hu:∀l m cs,ct (.loc m) cs (S l).b=(S l).b++[(.loc m,cs)]:=fun l m cs=>jR (ar l m);have au:∀m,aH.loc m∉cR (S d.toList):=jL af.obj;have hle:=H.le;refine bB.mk mixed nx Z7 agv (by simp) af.obj fun aU cH=>?_;unfold On;simp[eP,hu,au,cE,ar];(with_reducible repeat' first|refine aj ?_|simp[hu,au,cE,ar]);have pg:mi.wrap (((b:Int)-a-1).tdiv 2)=(((b-a-1)/2+1:Nat):Int)-1:=by
  have e:((b:Int)-a-1).tdiv 2=(((b-a-1)/2+1:Nat):Int)-1:=by
   rcases Nat.eq_or_lt_of_le mz with h|h
   ·subst h;simp
   ·rw[show((b:Int)-a-1)=((b-a-1:Nat):Int) by omega,Int.tdiv_eq_ediv_of_nonneg (by omega)];omega
  rw[e,lR _ (by omega)]
 rw[pg];refine H.loopA aq [3,6,7,8] (fun(x:Nat×Array α)=>[(9,.int .i64 ((x.1:Int)-1))]) (·.2) (fun x=>x.1) (fun x=>x.2.size=n∧x.1≤n∧Sort.heapBuild lt (b-a) a x.1 x.2=Sort.heapBuild lt (b-a) a ((b-a-1)/2+1) d) ((b-a-1)/2+1,d) aK ⟨aK,by simp;omega,rfl⟩ (by simp[cE,ar]) aE aE (by simp[aF]) ?_;rintro⟨k,cf⟩ ⟨aR,be,bN⟩;simp only at aR be bN;have Yi:((b:Int)-a)=(b-a:Nat):=by omega
 simp[Pv.look,H.slc,H.ssc];(with_reducible repeat' first|((first|apply bI|apply bK|apply bJ)<;>intro h<;>try simp at h)|refine aj ?_|simp[Pv.look,H.slc,H.ssc])
 ·obtain⟨k,rfl⟩:∃bD,k=bD+1:=⟨k-1,by omega⟩;have H3:(((k+1:Nat):Int)-1)=(k:Nat):=by omega
  rw[Sort.heapBuild]at bN;simp only[h3 H,H.slc,H.ssc,hT,H3,Yi];refine H.doFn (lk:=cf.toList) (by simpa using aR) (R:=fun aX=> ∃cj,aX=cj.toList∧cj=Sort.siftDown lt (b-a) a k cf∧cj.size=n) ((QD H cf aR k (b-a) a (by omega) U (by omega)).mono fun r ah ⟨a1,cj,bt,b2,c2⟩=>⟨a1,cj.toList,bt,cj,rfl,b2,c2⟩) (by rintro aX ⟨cj,rfl,_,q⟩;simpa using q) (by simp[aO,aF,H.kdata (lk:=cf.toList) (by simpa using aR)]) ?_;rintro aX ⟨cj,rfl,a1,bt⟩;simp;((with_reducible repeat' first|refine aj ?_|simp|((first|apply bI|apply bK|apply bJ)<;>intro h<;>try simp at h))<;>(try exact cm));refine bT.whl (k,cj) (by simp) ⟨bt,by simp;omega,by rw[←bN,a1]⟩ (H.weakC aq (by simpa using bt) (by simp[aF]))
 ·obtain rfl:k=0:=by omega
  rw[Sort.heapBuild]at bN;have amk:cf.size=n:=aR;refine H.loopA aq [3,6,7] (fun(x:Nat×Array α)=>[(10,.int .i64 ((x.1:Int)-1))]) (·.2) (fun x=>x.1) (fun x=>x.2.size=n∧x.1≤b-a∧Sort.heapPop lt a x.1 x.2=Sort.heapPop lt a (b-a) cf) (b-a,cf) aR ⟨aR,by simp,rfl⟩ (by simp[Pv.look]) aE aE (by simp[aF];omega) ?_;rintro⟨k,fC⟩ ⟨gX,vk,gM⟩;simp only at gX vk gM;simp[Pv.look,H.slc,H.ssc];(with_reducible repeat' first|((first|apply bI|apply bK|apply bJ)<;>intro h<;>try simp at h)|refine aj ?_|simp[Pv.look,H.slc,H.ssc])
  ·obtain⟨k,rfl⟩:∃bD,k=bD+1:=⟨k-1,by omega⟩;have H3:(((k+1:Nat):Int)-1)=(k:Nat):=by omega
   have Yh:((a:Int)+k)=(a+k:Nat):=by omega
   rw[Sort.heapPop]at gM;simp only[H3,Yh];refine H.swapA gX U _ _ (by omega) (by omega) fun o=>?_;have JU:(Sort.swp fC a (a+k)).size=n:=by rw[gA,gX]
   simp;simp only[h3 H,H.slc,H.ssc,hT];refine H.doFn (lk:=(Sort.swp fC a (a+k)).toList) (by simpa using JU) (R:=fun aX=> ∃cj,aX=cj.toList∧cj=Sort.siftDown lt k a 0 (Sort.swp fC a (a+k))∧cj.size=n) ((QD H (Sort.swp fC a (a+k)) JU 0 k a (by omega) U (by omega)).mono fun r ah ⟨a1,cj,bt,b2,c2⟩=>⟨a1,cj.toList,bt,cj,rfl,b2,c2⟩) (by rintro aX ⟨cj,rfl,_,q⟩;simpa using q) (by simp[aO,aF,H.kdata (lk:=(Sort.swp fC a (a+k)).toList) (by simpa using JU)]) ?_;rintro aX ⟨cj,rfl,a1,bt⟩;simp;((with_reducible repeat' first|refine aj ?_|simp|((first|apply bI|apply bK|apply bJ)<;>intro h<;>try simp at h))<;>(try exact cm));refine bT.whl (k,cj) (by simp) ⟨bt,by simp;omega,by rw[←gM,a1]⟩ (H.weakC aq (by simpa using bt) (by simp[aF]))
  ·obtain rfl:k=0:=by omega
   rw[Sort.heapPop]at gM;refine H.retA aq gX (.inr rfl) ⟨rfl,fC,rfl,?_,gX⟩;rw[Sort.heapSort,←bN,←gM]
theorem abu(H:eV S n g b5 lc bZ lt)(d:Array α)(aK:d.size=n)(a b:Nat)(mz:a≤b)(ae:b≤n):
  bB az 260 [eP g b5 lc bZ,.int .i64 a,.int .i64 b] (S d.toList) fun r ah=>r= .tuple []∧∃cj,ah=S cj.toList∧cj=Sort.insertionSort lt d a b∧cj.size=n:=by
 have af:=H.ok d.toList;have aq:d.toList.length=n:=by simpa using aK
 have ar:∀l m,Pv.look (.loc m) (S l).b=none:=fun l=>(H.ok l).obj.1;have hu:∀l m cs,ct (.loc m) cs (S l).b=(S l).b++[(.loc m,cs)]:=fun l m cs=>jR (ar l m);have au:∀m,aH.loc m∉cR (S d.toList):=jL af.obj;have hle:=H.le;refine bB.mk mixed Ac Qa T4 (by simp) af.obj fun aU cH=>?_;unfold HE;simp[eP,hu,au,cE,ar];have pg:((a:Int)+1)=(a+1:Nat):=by omega
 (with_reducible repeat' first|refine aj ?_|simp[hu,au,cE,ar]);rw[pg];refine H.loopA aq [1,2,3] (fun(x:Nat×Array α)=>[(6,.int .i64 x.1)]) (·.2) (fun x=>b+1-x.1) (fun x=>x.2.size=n∧x.1≤b+1∧Sort.insOuter lt a b x.1 x.2=Sort.insertionSort lt d a b) (a+1,d) aK ⟨aK,by simp;omega,rfl⟩ (by simp[cE,ar]) aE aE (by simp[aF]) ?_;rintro⟨i,cf⟩ ⟨aR,be,bN⟩;simp only at aR be bN;rw[Sort.insOuter]at bN;simp;(with_reducible repeat' first|((first|apply bI|apply bK|apply bJ)<;>intro h<;>try simp at h)|refine aj ?_|simp)
 ·rw[if_pos (by omega)]at bN;refine H.loopA aq [1,2,3,6] (fun(x:Nat×Array α)=>[(7,.int .i64 x.1)]) (·.2) (fun x=>x.1) (fun x=>x.2.size=n∧x.1≤i∧Sort.insInner lt a x.1 x.2=Sort.insInner lt a i cf) (i,cf) aR ⟨aR,by simp,rfl⟩ (by simp[Pv.look]) aE aE (by simp[aF]) ?_;rintro⟨j,fC⟩ ⟨gX,vk,gM⟩;simp only at gX vk gM;simp[Pv.look,H.slc,H.ssc];(with_reducible repeat' first|((first|apply bI|apply bK|apply bJ)<;>intro h<;>try simp at h)|refine aj ?_|simp[Pv.look,H.slc,H.ssc])
  ·obtain⟨j,rfl⟩:∃dx,j=dx+1:=⟨j-1,by omega⟩;have nM:(((j+1:Nat):Int)-1)=(j:Nat):=by omega
   have oJ:((i:Int)+1)=(i+1:Nat):=by omega
   have Yk:((j:Int)+1)=(j+1:Nat):=by omega
   rw[Sort.insInner]at gM;have av:decide (j+1>a)=true:=by simp;omega
   rw[nM];refine H.lessA gX _ _ (by omega) (by omega) fun o=>?_;cases ad:lt fC[j+1]! fC[j]! with
   |true=>rw[if_pos (by rw[av,ad];rfl)]at gM;simp;(with_reducible repeat' first|refine aj ?_|simp[Pv.look,H.slc,H.ssc]);rw[Yk];refine H.swapA gX (by omega) _ _ (by omega) (by omega) fun o=>?_;simp;(with_reducible repeat' first|refine aj ?_|simp);refine bT.whl (j,Sort.swp fC (j+1) j) (by simp) ⟨by rw[gA,gX],by simp;omega,gM⟩ (H.weakC aq (by simp[gA,gX]) (by simp[aF]))
   |false=>rw[if_neg (by simp[ad])]at gM;simp;((with_reducible repeat' first|refine aj ?_|simp|((first|apply bI|apply bK|apply bJ)<;>intro h<;>try simp at h))<;>(try exact cm));rw[oJ];refine bT.whl (i+1,fC) (by simp;omega) ⟨gX,by simp;omega,by rw[←bN,←gM]⟩ (H.weakC aq (by simpa using gX) (by simp[aF]))
  ·have oJ:((i:Int)+1)=(i+1:Nat):=by omega
   have w7:Sort.insInner lt a j fC=fC:=by
    cases j with
    |zero=>rfl
    |succ j=>rw[Sort.insInner,if_neg (by simp;omega)]
   rw[oJ];refine bT.whl (i+1,fC) (by simp;omega) ⟨gX,by simp;omega,by rw[←bN,←gM,w7]⟩ (H.weakC aq (by simpa using gX) (by simp[aF]))
 ·rw[if_neg (by omega)]at bN;exact H.retA aq aR (.inr rfl) ⟨rfl,cf,rfl,bN,aR⟩
end Go.Proofs.YtohaalphocaebaaGreat
namespace Go.Proofs.YtohaalphocaebaaGreat
open Go Go.Pv
variable {α:Type} [Inhabited α] {S:List α→cF} {n g b5:Nat} {lc bZ:List ai} {lt:α→α→Bool}
theorem uz{p:α→Bool}{d:Array α}{i j:Nat}(h:¬(i≤j∧p d[j]! =true)):Sort.scanDown p d i j=j:=by
 cases j with
 |zero=>rfl
 |succ j=>rw[Sort.scanDown,if_neg (by simpa using h)]
theorem zX{p:α→Bool}{d:Array α}{i j:Nat}(h:¬(i≤j∧p d[i]! =true)):Sort.scanUp p d j i=i:=by rw[Sort.scanUp,if_neg (by simpa using h)]
theorem LR{p:α→Bool}{d:Array α}{i j:Nat}(J:i≤j)(U:p d[i]! =true):Sort.scanUp p d j i=Sort.scanUp p d j (i+1):=by rw[Sort.scanUp,if_pos (by simp[J,U])]
theorem LQ{p:α→Bool}{d:Array α}{i j:Nat}(J:i≤j+1)(U:p d[j+1]! =true):Sort.scanDown p d i (j+1)=Sort.scanDown p d i j:=by rw[Sort.scanDown,if_pos (by simp[J,U])]
theorem abE(H:eV S n g b5 lc bZ lt)(d:Array α)(aK:d.size=n)(a b pivot:Nat)(q4:a≤pivot)(adt:pivot<b)(mz:a+1<b)(ae:b≤n):
  bB az 267 [eP g b5 lc bZ,.int .i64 a,.int .i64 b,.int .i64 pivot] (S d.toList) fun r ah=>r= .tuple [.int .i64 (Sort.partition lt d a b pivot).1,.bool (Sort.partition lt d a b pivot).2.1]∧∃cj,ah=S cj.toList∧cj=(Sort.partition lt d a b pivot).2.2∧cj.size=n:=by
 obtain⟨R,b4⟩:∃R,R=Sort.partition lt d a b pivot:=⟨_,rfl⟩;rw[←b4];unfold Sort.partition at b4;have af:=H.ok d.toList;have aq:d.toList.length=n:=by simpa using aK
 have ar:∀l m,Pv.look (.loc m) (S l).b=none:=fun l=>(H.ok l).obj.1;have hu:∀l m cs,ct (.loc m) cs (S l).b=(S l).b++[(.loc m,cs)]:=fun l m cs=>jR (ar l m);have au:∀m,aH.loc m∉cR (S d.toList):=jL af.obj;have hle:=H.le;refine bB.mk mixed nx aae agC (by simp) af.obj fun aU cH=>?_;unfold Ox;simp[eP,hu,au,cE,ar];rw[H.ssc];refine H.swapA0 aK (by omega) a pivot (by omega) (by omega) fun o=>?_;obtain⟨d1,e9⟩:∃d1,d1=Sort.swp d a pivot:=⟨_,rfl⟩;have s1:d1.size=n:=by rw[e9,gA,aK]
 rw[←e9];simp only[←e9]at b4;have ak:((a:Int)+1)=(a+1:Nat):=by omega
 have aA:((b:Int)-1)=(b-1:Nat):=by omega
 simp;(with_reducible repeat' first|refine aj ?_|simp);rw[ak,aA];refine H.loopA aq [1,4,11] (fun(i:Nat)=>[(10,.int .i64 i)]) (fun _=>d1) (fun i=>b+1-i) (fun i=>a+1≤i∧i≤b∧Sort.scanUp (fun x=>lt x d1[a]!) d1 (b-1) i=Sort.scanUp (fun x=>lt x d1[a]!) d1 (b-1) (a+1)) (a+1) s1 ⟨by omega,by omega,rfl⟩ (by simp[Pv.look]) aE aE (by simp[aF]) ?_;rintro i ⟨i1,i2,i3⟩;simp[Pv.look,H.slc];((with_reducible repeat' first|refine aj ?_|simp[Pv.look,H.slc]|((first|apply bI|apply bK|apply bJ)<;>intro h<;>try simp at h))<;>(try exact cm));refine H.lessA s1 i a (by omega) (by omega) fun o=>?_;cases ad:lt d1[i]! d1[a]!;rotate_left
 ·have oJ:((i:Int)+1)=(i+1:Nat):=by omega
  simp;(with_reducible repeat' first|refine aj ?_|simp);rw[oJ];refine bT.whl (i+1) (by omega) ⟨by omega,by omega,by rw[←i3];exact(LR (p:=fun x=>lt x d1[a]!) (by omega) ad).symm⟩ (H.weakC aq (by simpa using s1) (by simp[aF]))
 rotate_left
 ·have i4:Sort.scanUp (fun x=>lt x d1[a]!) d1 (b-1) i=i:=zX (by simp[ad]);rw[i4]at i3;rw[←i3]at b4;simp;refine H.loopA aq [1,4,10] (fun(j:Nat)=>[(11,.int .i64 j)]) (fun _=>d1) (fun j=>j) (fun j=>i≤j+1∧j≤b-1∧Sort.scanDown (fun x=> !lt x d1[a]!) d1 i j=Sort.scanDown (fun x=> !lt x d1[a]!) d1 i (b-1)) (b-1) s1 ⟨by omega,by omega,rfl⟩ (by simp[Pv.look]) aE aE (by simp[aF]) ?_;rintro j ⟨gX,vk,gM⟩;simp[Pv.look,H.slc];((with_reducible repeat' first|refine aj ?_|simp[Pv.look,H.slc,H.ssc]|((first|apply bI|apply bK|apply bJ)<;>intro h<;>try simp at h))<;>(try exact cm))
  ·refine H.lessA s1 j a (by omega) (by omega) fun o=>?_;cases aG:lt d1[j]! d1[a]!
   ·obtain⟨j,rfl⟩:∃dx,j=dx+1:=⟨j-1,by omega⟩;have nM:(((j+1:Nat):Int)-1)=(j:Nat):=by omega
    simp;(with_reducible repeat' first|refine aj ?_|simp);try rw[nM]
    refine bT.whl j (by omega) ⟨by omega,by omega,by rw[←gM];exact(LQ (p:=fun x=> !lt x d1[a]!) (by omega) (by simp[aG])).symm⟩ (H.weakC aq (by simpa using s1) (by simp[aF]))
   ·have w7:Sort.scanDown (fun x=> !lt x d1[a]!) d1 i j=j:=uz (by simp[aG]);have cC:i≠j:=fun e=>by subst e;rw[ad]at aG;cases aG
    rw[w7]at gM;rw[←gM,if_neg (by omega)]at b4;simp;((with_reducible repeat' first|refine aj ?_|simp[Pv.look,H.slc,H.ssc]|((first|apply bI|apply bK|apply bJ)<;>intro h<;>try simp at h))<;>(try exact cm));refine H.swapA s1 (by omega) i j (by omega) (by omega) fun o=>?_;obtain⟨d2,eI⟩:∃d2,d2=Sort.swp d1 i j:=⟨_,rfl⟩;have s2:d2.size=n:=by rw[eI,gA,s1]
    rw[←eI];rw[←eI]at b4;have bs:((i:Int)+1)=(i+1:Nat):=by omega
    have dq:((j:Int)-1)=(j-1:Nat):=by omega
    simp;(with_reducible repeat' first|refine aj ?_|simp);rw[bs,dq];refine H.loopA aq [1,4] (fun(x:(Nat×Nat)×Array α)=>[(10,.int .i64 x.1.1),(11,.int .i64 x.1.2)]) (·.2) (fun x=>x.1.2+1-x.1.1) (fun x=>x.2.size=n∧(a+1≤x.1.1∧x.1.1≤x.1.2+1∧x.1.2≤b-1)∧Sort.partLoop lt a x.1.1 x.1.2 x.2=Sort.partLoop lt a (i+1) (j-1) d2) ((i+1,j-1),d2) s2 ⟨s2,⟨by simp;omega,by simp;omega,by simp;omega⟩,rfl⟩ (by simp[Pv.look]) aE aE (by simp[aF]) ?_;rintro⟨⟨vj,dx⟩,cf⟩ ⟨aR,⟨be,bN,dB⟩,c7⟩;simp only at aR be bN dB c7;rw[Sort.partLoop]at c7;generalize hd:Sort.partLoop lt a (i+1) (j-1) d2=G at c7 b4;simp;refine H.loopA aq [1,4,11] (fun(x:Nat)=>[(10,.int .i64 x)]) (fun _=>cf) (fun x=>b+1-x) (fun x=>vj≤x∧x≤dx+1∧Sort.scanUp (fun x=>lt x cf[a]!) cf dx x=Sort.scanUp (fun x=>lt x cf[a]!) cf dx vj) vj aR ⟨by omega,by omega,rfl⟩ (by simp[Pv.look]) aE aE (by simp[aF]) ?_;rintro p ⟨cQ,dm,iF⟩;simp[Pv.look,H.slc];((with_reducible repeat' first|refine aj ?_|simp[Pv.look,H.slc]|((first|apply bI|apply bK|apply bJ)<;>intro h<;>try simp at h))<;>(try exact cm))
    ·refine H.lessA aR p a (by omega) (by omega) fun o=>?_;cases hY:lt cf[p]! cf[a]!;rotate_left
     ·have oJ:((p:Int)+1)=(p+1:Nat):=by omega
      simp;(with_reducible repeat' first|refine aj ?_|simp);rw[oJ];refine bT.whl (p+1) (by omega) ⟨by omega,by omega,by rw[←iF];exact(LR (p:=fun x=>lt x cf[a]!) (by omega) hY).symm⟩ (H.weakC aq (by simpa using aR) (by simp[aF]))
     ·have uh:Sort.scanUp (fun x=>lt x cf[a]!) cf dx p=p:=zX (by simp[hY]);rw[uh]at iF;simp only[←iF]at c7;simp;refine H.loopA aq [1,4,10] (fun(x:Nat)=>[(11,.int .i64 x)]) (fun _=>cf) (fun x=>x) (fun x=>p≤x+1∧x≤dx∧Sort.scanDown (fun x=> !lt x cf[a]!) cf p x=Sort.scanDown (fun x=> !lt x cf[a]!) cf p dx) dx aR ⟨by omega,by omega,rfl⟩ (by simp[Pv.look]) aE aE (by simp[aF]) ?_;rintro q ⟨a1,bt,b2⟩;simp[Pv.look,H.slc];((with_reducible repeat' first|refine aj ?_|simp[Pv.look,H.slc,H.ssc]|((first|apply bI|apply bK|apply bJ)<;>intro h<;>try simp at h))<;>(try exact cm))
      ·refine H.lessA aR q a (by omega) (by omega) fun o=>?_;cases rn:lt cf[q]! cf[a]!
       ·obtain⟨q,rfl⟩:∃dx,q=dx+1:=⟨q-1,by omega⟩;have nM:(((q+1:Nat):Int)-1)=(q:Nat):=by omega
        simp;(with_reducible repeat' first|refine aj ?_|simp);try rw[nM]
        refine bT.whl q (by omega) ⟨by omega,by omega,by rw[←b2];exact(LQ (p:=fun x=> !lt x cf[a]!) (by omega) (by simp[rn])).symm⟩ (H.weakC aq (by simpa using aR) (by simp[aF]))
       ·have c2:Sort.scanDown (fun x=> !lt x cf[a]!) cf p q=q:=uz (by simp[rn]);have cC:p≠q:=fun e=>by subst e;rw[hY]at rn;cases rn
        rw[c2]at b2;simp only[←b2]at c7;rw[if_neg (by omega),dif_pos (by omega)]at c7;simp;((with_reducible repeat' first|refine aj ?_|simp[Pv.look,H.slc,H.ssc]|((first|apply bI|apply bK|apply bJ)<;>intro h<;>try simp at h))<;>(try exact cm));refine H.swapA aR (by omega) p q (by omega) (by omega) fun o=>?_;have ht:((p:Int)+1)=(p+1:Nat):=by omega
        have hv:((q:Int)-1)=(q-1:Nat):=by omega
        simp;(with_reducible repeat' first|((first|apply bI|apply bK|apply bJ)<;>intro h<;>try simp at h)|refine aj ?_|simp);rw[ht,hv];refine bT.whl ((p+1,q-1),Sort.swp cf p q) (by simp;omega) ⟨by rw[gA,aR],⟨by simp;omega,by simp;omega,by simp;omega⟩,c7⟩ (H.weakC aq (by simp[gA,aR]) (by simp[aF]))
      ·have c2:Sort.scanDown (fun x=> !lt x cf[a]!) cf p q=q:=uz (by omega);rw[c2]at b2;simp only[←b2]at c7;rw[if_pos (by omega)]at c7;rw[←c7]at b4;refine H.swapA aR (by omega) q a (by omega) (by omega) fun o=>?_;simp;refine H.retR aq (d:=Sort.swp cf q a) (by rw[gA,aR]) (.inl rfl) ?_;simp[cM,Cw,aV,aY,aT];rw[b4];exact⟨⟨rfl,rfl⟩,_,rfl,rfl,by rw[gA,aR]⟩
    ·have uh:Sort.scanUp (fun x=>lt x cf[a]!) cf dx p=p:=zX (by omega);rw[uh]at iF;simp only[←iF]at c7;have c2:Sort.scanDown (fun x=> !lt x cf[a]!) cf p dx=dx:=uz (by omega);rw[c2,if_pos (by omega)]at c7;rw[←c7]at b4;refine H.loopA aq [1,4,10] (fun(x:Nat)=>[(11,.int .i64 x)]) (fun _=>cf) (fun x=>x) (fun x=>x=dx) dx aR rfl (by simp[Pv.look]) aE aE (by simp[aF]) ?_;rintro q rfl;simp[Pv.look,H.slc];((with_reducible repeat' first|refine aj ?_|simp[Pv.look,H.slc,H.ssc]|((first|apply bI|apply bK|apply bJ)<;>intro h<;>try simp at h))<;>(try exact cm));refine H.swapA aR (by omega) q a (by omega) (by omega) fun o=>?_;simp;refine H.retR aq (d:=Sort.swp cf q a) (by rw[gA,aR]) (.inl rfl) ?_;simp[cM,Cw,aV,aY,aT];rw[b4];exact⟨⟨rfl,rfl⟩,_,rfl,rfl,by rw[gA,aR]⟩
  ·have w7:Sort.scanDown (fun x=> !lt x d1[a]!) d1 i j=j:=uz (by omega);rw[w7]at gM;rw[←gM,if_pos (by omega)]at b4;refine H.swapA s1 (by omega) j a (by omega) (by omega) fun o=>?_;simp;refine H.retR aq (d:=Sort.swp d1 j a) (by rw[gA,s1]) (.inl rfl) ?_;simp[cM,Cw,aV,aY,aT];rw[b4];exact⟨⟨rfl,rfl⟩,_,rfl,rfl,by rw[gA,s1]⟩
 ·have i4:Sort.scanUp (fun x=>lt x d1[a]!) d1 (b-1) i=i:=zX (by omega);rw[i4]at i3;have w7:Sort.scanDown (fun x=> !lt x d1[a]!) d1 i (b-1)=b-1:=uz (by omega);rw[←i3,w7,if_pos (by omega)]at b4;refine H.loopA aq [1,4,10] (fun(j:Nat)=>[(11,.int .i64 j)]) (fun _=>d1) (fun j=>j) (fun j=>j=b-1) (b-1) s1 rfl (by simp[Pv.look]) aE aE (by simp[aF]) ?_;rintro j rfl;simp[Pv.look,H.slc];((with_reducible repeat' first|refine aj ?_|simp[Pv.look,H.slc,H.ssc]|((first|apply bI|apply bK|apply bJ)<;>intro h<;>try simp at h))<;>(try exact cm));refine H.swapA s1 (by omega) (b-1) a (by omega) (by omega) fun o=>?_;simp;refine H.retR aq (d:=Sort.swp d1 (b-1) a) (by rw[gA,s1]) (.inl rfl) ?_;simp[cM,Cw,aV,aY,aT];rw[b4];exact⟨⟨rfl,rfl⟩,_,rfl,rfl,by rw[gA,s1]⟩
end Go.Proofs.YtohaalphocaebaaGreat
namespace Go.Proofs.YtohaalphocaebaaGreat
open Go Go.Pv
variable {α:Type} [Inhabited α] {S:List α→cF} {n g b5:Nat} {lc bZ:List ai} {lt:α→α→Bool}
theorem abF(H:eV S n g b5 lc bZ lt)(d:Array α)(aK:d.size=n)(a b pivot:Nat)(q4:a≤pivot)(adt:pivot<b)(mz:a+1<b)(ae:b≤n):
  bB az 266 [eP g b5 lc bZ,.int .i64 a,.int .i64 b,.int .i64 pivot] (S d.toList) fun r ah=>r= .int .i64 (Sort.partitionEqual lt d a b pivot).1∧∃cj,ah=S cj.toList∧cj=(Sort.partitionEqual lt d a b pivot).2∧cj.size=n:=by
 obtain⟨R,b4⟩:∃R,R=Sort.partitionEqual lt d a b pivot:=⟨_,rfl⟩;rw[←b4];unfold Sort.partitionEqual at b4;have af:=H.ok d.toList;have aq:d.toList.length=n:=by simpa using aK
 have ar:∀l m,Pv.look (.loc m) (S l).b=none:=fun l=>(H.ok l).obj.1;have hu:∀l m cs,ct (.loc m) cs (S l).b=(S l).b++[(.loc m,cs)]:=fun l m cs=>jR (ar l m);have au:∀m,aH.loc m∉cR (S d.toList):=jL af.obj;have hle:=H.le;refine bB.mk mixed nx aad agB (by simp) af.obj fun aU cH=>?_;unfold Ow;simp[eP,hu,au,cE,ar];rw[H.ssc];refine H.swapA0 aK (by omega) a pivot (by omega) (by omega) fun o=>?_;obtain⟨d1,e9⟩:∃d1,d1=Sort.swp d a pivot:=⟨_,rfl⟩;have s1:d1.size=n:=by rw[e9,gA,aK]
 rw[←e9];rw[←e9]at b4;have ak:((a:Int)+1)=(a+1:Nat):=by omega
 have aA:((b:Int)-1)=(b-1:Nat):=by omega
 simp;(with_reducible repeat' first|refine aj ?_|simp);rw[ak,aA];refine H.loopA aq [1,4] (fun(x:(Nat×Nat)×Array α)=>[(9,.int .i64 x.1.1),(10,.int .i64 x.1.2)]) (·.2) (fun x=>x.1.2+1-x.1.1) (fun x=>x.2.size=n∧(a+1≤x.1.1∧x.1.1≤x.1.2+1∧x.1.2≤b-1)∧Sort.partEqLoop lt a x.1.1 x.1.2 x.2=R) ((a+1,b-1),d1) s1 ⟨s1,⟨by simp,by simp;omega,by simp⟩,b4.symm⟩ (by simp[Pv.look]) aE aE (by simp[aF]) ?_;rintro⟨⟨vj,dx⟩,cf⟩ ⟨aR,⟨be,bN,dB⟩,c7⟩;simp only at aR be bN dB c7;rw[Sort.partEqLoop]at c7;simp;refine H.loopA aq [1,4,10] (fun(x:Nat)=>[(9,.int .i64 x)]) (fun _=>cf) (fun x=>b+1-x) (fun x=>vj≤x∧x≤dx+1∧Sort.scanUp (fun x=> !lt cf[a]! x) cf dx x=Sort.scanUp (fun x=> !lt cf[a]! x) cf dx vj) vj aR ⟨by omega,by omega,rfl⟩ (by simp[Pv.look]) aE aE (by simp[aF]) ?_;rintro p ⟨cQ,dm,iF⟩;simp[Pv.look,H.slc];((with_reducible repeat' first|refine aj ?_|simp[Pv.look,H.slc]|((first|apply bI|apply bK|apply bJ)<;>intro h<;>try simp at h))<;>(try exact cm))
 ·refine H.lessA aR a p (by omega) (by omega) fun o=>?_;cases hY:lt cf[a]! cf[p]!
  ·have oJ:((p:Int)+1)=(p+1:Nat):=by omega
   simp;(with_reducible repeat' first|refine aj ?_|simp);rw[oJ];refine bT.whl (p+1) (by omega) ⟨by omega,by omega,by rw[←iF];exact(LR (p:=fun x=> !lt cf[a]! x) (by omega) (by simp[hY])).symm⟩ (H.weakC aq (by simpa using aR) (by simp[aF]))
  ·have uh:Sort.scanUp (fun x=> !lt cf[a]! x) cf dx p=p:=zX (by simp[hY]);rw[uh]at iF;simp only[←iF]at c7;simp;refine H.loopA aq [1,4,9] (fun(x:Nat)=>[(10,.int .i64 x)]) (fun _=>cf) (fun x=>x) (fun x=>p≤x+1∧x≤dx∧Sort.scanDown (fun x=>lt cf[a]! x) cf p x=Sort.scanDown (fun x=>lt cf[a]! x) cf p dx) dx aR ⟨by omega,by omega,rfl⟩ (by simp[Pv.look]) aE aE (by simp[aF]) ?_;rintro q ⟨a1,bt,b2⟩;simp[Pv.look,H.slc];((with_reducible repeat' first|refine aj ?_|simp[Pv.look,H.slc,H.ssc]|((first|apply bI|apply bK|apply bJ)<;>intro h<;>try simp at h))<;>(try exact cm))
   ·refine H.lessA aR a q (by omega) (by omega) fun o=>?_;cases rn:lt cf[a]! cf[q]!;rotate_left
    ·obtain⟨q,rfl⟩:∃dx,q=dx+1:=⟨q-1,by omega⟩;have nM:(((q+1:Nat):Int)-1)=(q:Nat):=by omega
     simp;(with_reducible repeat' first|refine aj ?_|simp);try rw[nM]
     refine bT.whl q (by omega) ⟨by omega,by omega,by rw[←b2];exact(LQ (p:=fun x=>lt cf[a]! x) (by omega) (by simp[rn])).symm⟩ (H.weakC aq (by simpa using aR) (by simp[aF]))
    ·have c2:Sort.scanDown (fun x=>lt cf[a]! x) cf p q=q:=uz (by simp[rn]);have cC:p≠q:=fun e=>by subst e;rw[hY]at rn;cases rn
     rw[c2]at b2;simp only[←b2]at c7;rw[if_neg (by omega),dif_pos (by omega)]at c7;simp;((with_reducible repeat' first|refine aj ?_|simp[Pv.look,H.slc,H.ssc]|((first|apply bI|apply bK|apply bJ)<;>intro h<;>try simp at h))<;>(try exact cm));refine H.swapA aR (by omega) p q (by omega) (by omega) fun o=>?_;have ht:((p:Int)+1)=(p+1:Nat):=by omega
     have hv:((q:Int)-1)=(q-1:Nat):=by omega
     simp;(with_reducible repeat' first|((first|apply bI|apply bK|apply bJ)<;>intro h<;>try simp at h)|refine aj ?_|simp);rw[ht,hv];refine bT.whl ((p+1,q-1),Sort.swp cf p q) (by simp;omega) ⟨by rw[gA,aR],⟨by simp;omega,by simp;omega,by simp;omega⟩,c7⟩ (H.weakC aq (by simp[gA,aR]) (by simp[aF]))
   ·have c2:Sort.scanDown (fun x=>lt cf[a]! x) cf p q=q:=uz (by omega);rw[c2]at b2;simp only[←b2]at c7;rw[if_pos (by omega)]at c7;refine H.retR aq (d:=cf) aR (.inl rfl) ?_;simp[cM,Lg,aV,aY,aT];rw[←c7];exact⟨rfl,_,rfl,rfl,aR⟩
 ·have uh:Sort.scanUp (fun x=> !lt cf[a]! x) cf dx p=p:=zX (by omega);rw[uh]at iF;simp only[←iF]at c7;have c2:Sort.scanDown (fun x=>lt cf[a]! x) cf p dx=dx:=uz (by omega);rw[c2,if_pos (by omega)]at c7;refine H.loopA aq [1,4,9] (fun(x:Nat)=>[(10,.int .i64 x)]) (fun _=>cf) (fun x=>x) (fun x=>x=dx) dx aR rfl (by simp[Pv.look]) aE aE (by simp[aF]) ?_;rintro q rfl;simp[Pv.look,H.slc];((with_reducible repeat' first|refine aj ?_|simp[Pv.look,H.slc,H.ssc]|((first|apply bI|apply bK|apply bJ)<;>intro h<;>try simp at h))<;>(try exact cm));refine H.retR aq (d:=cf) aR (.inl rfl) ?_;simp[cM,Lg,aV,aY,aT];rw[←c7];exact⟨rfl,_,rfl,rfl,aR⟩
end Go.Proofs.YtohaalphocaebaaGreat
namespace Go.Proofs.YtohaalphocaebaaGreat
open Go Go.Pv
variable {α:Type} [Inhabited α] {S:List α→cF} {n g b5:Nat} {lc bZ:List ai} {lt:α→α→Bool}
theorem abD(H:eV S n g b5 lc bZ lt)(d:Array α)(aK:d.size=n)(a b:Nat)(mz:a<b)(ae:b≤n)(U:2≤n):
  bB az 265 [eP g b5 lc bZ,.int .i64 a,.int .i64 b] (S d.toList) fun r ah=>r= .bool (Sort.partialInsertionSort lt d a b).2∧∃cj,ah=S cj.toList∧cj=(Sort.partialInsertionSort lt d a b).1∧cj.size=n:=by
 obtain⟨R,b4⟩:∃R,R=Sort.partialInsertionSort lt d a b:=⟨_,rfl⟩;rw[←b4];unfold Sort.partialInsertionSort at b4;have af:=H.ok d.toList;have aq:d.toList.length=n:=by simpa using aK
 have ar:∀l m,Pv.look (.loc m) (S l).b=none:=fun l=>(H.ok l).obj.1;have hu:∀l m cs,ct (.loc m) cs (S l).b=(S l).b++[(.loc m,cs)]:=fun l m cs=>jR (ar l m);have au:∀m,aH.loc m∉cR (S d.toList):=jL af.obj;have hle:=H.le;refine bB.mk mixed nx aac agA (by simp) af.obj fun aU cH=>?_;unfold Ov;simp[eP,hu,au,cE,ar];have ak:((a:Int)+1)=(a+1:Nat):=by omega
 (with_reducible repeat' first|refine aj ?_|simp);rw[ak];refine H.loopA aq [1,2,3] (fun(x:(Nat×Nat)×Array α)=>[(7,.int .i64 x.1.1),(8,.int .i64 x.1.2)]) (·.2) (fun x=>5-x.1.2) (fun x=>x.2.size=n∧(a+1≤x.1.1∧x.1.1≤b∧x.1.2≤5)∧Sort.partialIns lt a b (5-x.1.2) x.1.1 x.2=R) ((a+1,0),d) aK ⟨aK,⟨by simp,by simp;omega,by simp⟩,b4.symm⟩ (by simp[cE,ar]) aE aE (by simp[aF]) ?_;rintro⟨⟨i0,s⟩,cf⟩ ⟨aR,⟨be,bN,dB⟩,c7⟩;simp only at aR be bN dB c7;simp;((with_reducible repeat' first|refine aj ?_|simp|((first|apply bI|apply bK|apply bJ)<;>intro h<;>try simp at h))<;>(try exact cm))
 ·obtain⟨m,hm⟩:∃m,5-s=m+1:=⟨5-s-1,by omega⟩;rw[hm,Sort.partialIns]at c7;refine H.loopA aq [1,2,3,8] (fun(x:Nat)=>[(7,.int .i64 x)]) (fun _=>cf) (fun x=>b-x) (fun x=>i0≤x∧x≤b∧Sort.scanSorted lt cf b x=Sort.scanSorted lt cf b i0) i0 aR ⟨by omega,by omega,rfl⟩ (by simp[Pv.look]) aE aE (by simp[aF]) ?_;rintro i ⟨i1,i2,i3⟩;rw[Sort.scanSorted]at i3;have oJ:((i:Int)+1)=(i+1:Nat):=by omega
  have D0:((i:Int)-1)=(i-1:Nat):=by omega
  have es:((s:Int)+1)=(s+1:Nat):=by omega
  have em:5-(s+1)=m:=by omega
  simp[Pv.look,H.slc];((with_reducible repeat' first|refine aj ?_|simp[Pv.look,H.slc]|((first|apply bI|apply bK|apply bJ)<;>intro h<;>try simp at h))<;>(try exact cm))
  ·rw[D0];refine H.lessA aR i (i-1) (by omega) (by omega) fun o=>?_;cases ad:lt cf[i]! cf[i-1]!
   ·rw[if_pos (by simp[ad];omega)]at i3;simp;(with_reducible repeat' first|refine aj ?_|simp);rw[oJ];refine bT.whl (i+1) (by omega) ⟨by omega,by omega,i3⟩ (H.weakC aq (by simpa using aR) (by simp[aF]))
   ·rw[if_neg (by simp[ad])]at i3;simp only[←i3]at c7;rw[if_neg (by omega)]at c7;have yK:(i:Int)≠b:=by omega
    have acR:((i:Int)==b)=false:=by simp;omega
    simp;((with_reducible repeat' first|refine aj ?_|simp[yK,acR,Pv.look,H.slc,H.ssc]|((first|apply bI|apply bK|apply bJ)<;>intro h<;>try simp at h))<;>(try exact cm))
    ·rw[if_pos (by omega)]at c7;refine H.retR aq (d:=cf) aR (.inl rfl) ?_;simp[cM,FY,aV,aY,aT];rw[←c7];exact⟨rfl,_,rfl,rfl,aR⟩
    ·rw[if_neg (by omega)]at c7;rw[D0];refine H.swapA aR U i (i-1) (by omega) (by omega) fun o=>?_;obtain⟨d2,eI⟩:∃d2,d2=Sort.swp cf i (i-1):=⟨_,rfl⟩;have s2:d2.size=n:=by rw[eI,gA,aR]
     rw[←eI];simp only[←eI]at c7;by_cases ll:2≤b-i
     ·rw[if_pos ll]at c7;have sv:(2:Int)≤(b:Int)-i:=by omega
      by_cases Bi:2≤i-a
      ·rw[if_pos Bi]at c7;have wP:(2:Int)≤(i:Int)-a:=by omega
       simp;(with_reducible repeat' first|refine aj ?_|simp[wP]);rw[D0];refine H.loopA aq [1,2,3,7,8] (fun(x:Nat×Array α)=>[(9,.int .i64 x.1)]) (·.2) (fun x=>x.1) (fun x=>x.2.size=n∧x.1≤i-1∧Sort.shiftDown lt x.1 x.2=Sort.shiftDown lt (i-1) d2) (i-1,d2) s2 ⟨s2,by simp,rfl⟩ (by simp[Pv.look]) aE aE (by simp[aF]) ?_;rintro⟨j,fC⟩ ⟨gX,vk,gM⟩;simp only at gX vk gM;simp[Pv.look,H.slc,H.ssc];((with_reducible repeat' first|refine aj ?_|simp[Pv.look,H.slc,H.ssc,sv]|((first|apply bI|apply bK|apply bJ)<;>intro h<;>try simp at h))<;>(try exact cm))
       ·obtain⟨j,rfl⟩:∃dx,j=dx+1:=⟨j-1,by omega⟩;have nM:(((j+1:Nat):Int)-1)=(j:Nat):=by omega
        rw[Sort.shiftDown]at gM;try rw[nM]
        refine H.lessA gX (j+1) j (by omega) (by omega) fun o=>?_;cases aG:lt fC[j+1]! fC[j]!
        ·rw[if_pos (by simp[aG])]at gM;rw[←gM]at c7;try simp
         try(with_reducible repeat' first|refine aj ?_|simp[Pv.look,H.slc,H.ssc,sv])
         rw[oJ];refine H.loopA aq [1,2,3,7,8] (fun(x:Nat×Array α)=>[(10,.int .i64 x.1)]) (·.2) (fun x=>b-x.1) (fun x=>x.2.size=n∧(i+1≤x.1∧x.1≤b)∧Sort.shiftUp lt b x.1 x.2=Sort.shiftUp lt b (i+1) fC) (i+1,fC) gX ⟨gX,⟨by simp,by simp;omega⟩,rfl⟩ (by simp[Pv.look]) aE aE (by simp[aF]) ?_;rintro⟨q,mr⟩ ⟨a1,⟨bt,xt⟩,b2⟩;simp only at a1 bt xt b2;rw[Sort.shiftUp]at b2;have eq:((q:Int)-1)=(q-1:Nat):=by omega
         have AR:((q:Int)+1)=(q+1:Nat):=by omega
         simp[Pv.look,H.slc,H.ssc];((with_reducible repeat' first|refine aj ?_|simp[Pv.look,H.slc,H.ssc]|((first|apply bI|apply bK|apply bJ)<;>intro h<;>try simp at h))<;>(try exact cm))
         ·rw[if_pos (by omega)]at b2;rw[eq];refine H.lessA a1 q (q-1) (by omega) (by omega) fun o=>?_;cases bf:lt mr[q]! mr[q-1]!
          ·rw[if_pos (by simp[bf])]at b2;rw[←b2]at c7;simp;(with_reducible repeat' first|refine aj ?_|simp);rw[es];refine bT.whl ((i,s+1),mr) (by simp;omega) ⟨a1,⟨by simp;omega,by simp;omega,by simp;omega⟩,by simp only[em];exact c7⟩ (H.weakC aq (by simpa using a1) (by simp[aF]))
          ·rw[if_neg (by simp[bf])]at b2;simp;(with_reducible repeat' first|refine aj ?_|simp[Pv.look,H.slc,H.ssc]);rw[eq];refine H.swapA a1 (by omega) q (q-1) (by omega) (by omega) fun o=>?_;simp;((with_reducible repeat' first|refine aj ?_|simp|((first|apply bI|apply bK|apply bJ)<;>intro h<;>try simp at h))<;>(try exact cm));rw[AR];refine bT.whl (q+1,Sort.swp mr q (q-1)) (by simp;omega) ⟨by rw[gA,a1],⟨by simp;omega,by simp;omega⟩,b2⟩ (H.weakC aq (by simp[gA,a1]) (by simp[aF]))
         ·rw[if_neg (by omega)]at b2;rw[←b2]at c7;rw[es];refine bT.whl ((i,s+1),mr) (by simp;omega) ⟨a1,⟨by simp;omega,by simp;omega,by simp;omega⟩,by simp only[em];exact c7⟩ (H.weakC aq (by simpa using a1) (by simp[aF]))
        ·rw[if_neg (by simp[aG])]at gM;simp;(with_reducible repeat' first|refine aj ?_|simp[Pv.look,H.slc,H.ssc]);try rw[nM]
         refine H.swapA gX U (j+1) j (by omega) (by omega) fun o=>?_;simp;((with_reducible repeat' first|refine aj ?_|simp|((first|apply bI|apply bK|apply bJ)<;>intro h<;>try simp at h))<;>(try exact cm));try rw[nM]
         refine bT.whl (j,Sort.swp fC (j+1) j) (by simp) ⟨by rw[gA,gX],by simp;omega,gM⟩ (H.weakC aq (by simp[gA,gX]) (by simp[aF]))
       ·obtain rfl:j=0:=by omega
        rw[Sort.shiftDown]at gM;rw[←gM]at c7;try simp
        try(with_reducible repeat' first|refine aj ?_|simp[Pv.look,H.slc,H.ssc,sv])
        rw[oJ];refine H.loopA aq [1,2,3,7,8] (fun(x:Nat×Array α)=>[(10,.int .i64 x.1)]) (·.2) (fun x=>b-x.1) (fun x=>x.2.size=n∧(i+1≤x.1∧x.1≤b)∧Sort.shiftUp lt b x.1 x.2=Sort.shiftUp lt b (i+1) fC) (i+1,fC) gX ⟨gX,⟨by simp,by simp;omega⟩,rfl⟩ (by simp[Pv.look]) aE aE (by simp[aF]) ?_;rintro⟨q,mr⟩ ⟨a1,⟨bt,xt⟩,b2⟩;simp only at a1 bt xt b2;rw[Sort.shiftUp]at b2;have eq:((q:Int)-1)=(q-1:Nat):=by omega
        have AR:((q:Int)+1)=(q+1:Nat):=by omega
        simp[Pv.look,H.slc,H.ssc];((with_reducible repeat' first|refine aj ?_|simp[Pv.look,H.slc,H.ssc]|((first|apply bI|apply bK|apply bJ)<;>intro h<;>try simp at h))<;>(try exact cm))
        ·rw[if_pos (by omega)]at b2;rw[eq];refine H.lessA a1 q (q-1) (by omega) (by omega) fun o=>?_;cases bf:lt mr[q]! mr[q-1]!
         ·rw[if_pos (by simp[bf])]at b2;rw[←b2]at c7;simp;(with_reducible repeat' first|refine aj ?_|simp);rw[es];refine bT.whl ((i,s+1),mr) (by simp;omega) ⟨a1,⟨by simp;omega,by simp;omega,by simp;omega⟩,by simp only[em];exact c7⟩ (H.weakC aq (by simpa using a1) (by simp[aF]))
         ·rw[if_neg (by simp[bf])]at b2;simp;(with_reducible repeat' first|refine aj ?_|simp[Pv.look,H.slc,H.ssc]);rw[eq];refine H.swapA a1 (by omega) q (q-1) (by omega) (by omega) fun o=>?_;simp;((with_reducible repeat' first|refine aj ?_|simp|((first|apply bI|apply bK|apply bJ)<;>intro h<;>try simp at h))<;>(try exact cm));rw[AR];refine bT.whl (q+1,Sort.swp mr q (q-1)) (by simp;omega) ⟨by rw[gA,a1],⟨by simp;omega,by simp;omega⟩,b2⟩ (H.weakC aq (by simp[gA,a1]) (by simp[aF]))
        ·rw[if_neg (by omega)]at b2;rw[←b2]at c7;rw[es];refine bT.whl ((i,s+1),mr) (by simp;omega) ⟨a1,⟨by simp;omega,by simp;omega,by simp;omega⟩,by simp only[em];exact c7⟩ (H.weakC aq (by simpa using a1) (by simp[aF]))
      ·rw[if_neg Bi]at c7;have wP:¬(2:Int)≤(i:Int)-a:=by omega
       simp;(with_reducible repeat' first|refine aj ?_|simp[wP,sv]);try simp
       try(with_reducible repeat' first|refine aj ?_|simp[Pv.look,H.slc,H.ssc,sv])
       rw[oJ];refine H.loopA aq [1,2,3,7,8] (fun(x:Nat×Array α)=>[(10,.int .i64 x.1)]) (·.2) (fun x=>b-x.1) (fun x=>x.2.size=n∧(i+1≤x.1∧x.1≤b)∧Sort.shiftUp lt b x.1 x.2=Sort.shiftUp lt b (i+1) d2) (i+1,d2) s2 ⟨s2,⟨by simp,by simp;omega⟩,rfl⟩ (by simp[Pv.look]) aE aE (by simp[aF]) ?_;rintro⟨q,mr⟩ ⟨a1,⟨bt,xt⟩,b2⟩;simp only at a1 bt xt b2;rw[Sort.shiftUp]at b2;have eq:((q:Int)-1)=(q-1:Nat):=by omega
       have AR:((q:Int)+1)=(q+1:Nat):=by omega
       simp[Pv.look,H.slc,H.ssc];((with_reducible repeat' first|refine aj ?_|simp[Pv.look,H.slc,H.ssc]|((first|apply bI|apply bK|apply bJ)<;>intro h<;>try simp at h))<;>(try exact cm))
       ·rw[if_pos (by omega)]at b2;rw[eq];refine H.lessA a1 q (q-1) (by omega) (by omega) fun o=>?_;cases bf:lt mr[q]! mr[q-1]!
        ·rw[if_pos (by simp[bf])]at b2;rw[←b2]at c7;simp;(with_reducible repeat' first|refine aj ?_|simp);rw[es];refine bT.whl ((i,s+1),mr) (by simp;omega) ⟨a1,⟨by simp;omega,by simp;omega,by simp;omega⟩,by simp only[em];exact c7⟩ (H.weakC aq (by simpa using a1) (by simp[aF]))
        ·rw[if_neg (by simp[bf])]at b2;simp;(with_reducible repeat' first|refine aj ?_|simp[Pv.look,H.slc,H.ssc]);rw[eq];refine H.swapA a1 (by omega) q (q-1) (by omega) (by omega) fun o=>?_;simp;((with_reducible repeat' first|refine aj ?_|simp|((first|apply bI|apply bK|apply bJ)<;>intro h<;>try simp at h))<;>(try exact cm));rw[AR];refine bT.whl (q+1,Sort.swp mr q (q-1)) (by simp;omega) ⟨by rw[gA,a1],⟨by simp;omega,by simp;omega⟩,b2⟩ (H.weakC aq (by simp[gA,a1]) (by simp[aF]))
       ·rw[if_neg (by omega)]at b2;rw[←b2]at c7;rw[es];refine bT.whl ((i,s+1),mr) (by simp;omega) ⟨a1,⟨by simp;omega,by simp;omega,by simp;omega⟩,by simp only[em];exact c7⟩ (H.weakC aq (by simpa using a1) (by simp[aF]))
     ·rw[if_neg ll]at c7;have sv:¬(2:Int)≤(b:Int)-i:=by omega
      by_cases Bi:2≤i-a
      ·rw[if_pos Bi]at c7;have wP:(2:Int)≤(i:Int)-a:=by omega
       simp;(with_reducible repeat' first|refine aj ?_|simp[wP]);rw[D0];refine H.loopA aq [1,2,3,7,8] (fun(x:Nat×Array α)=>[(9,.int .i64 x.1)]) (·.2) (fun x=>x.1) (fun x=>x.2.size=n∧x.1≤i-1∧Sort.shiftDown lt x.1 x.2=Sort.shiftDown lt (i-1) d2) (i-1,d2) s2 ⟨s2,by simp,rfl⟩ (by simp[Pv.look]) aE aE (by simp[aF]) ?_;rintro⟨j,fC⟩ ⟨gX,vk,gM⟩;simp only at gX vk gM;simp[Pv.look,H.slc,H.ssc];((with_reducible repeat' first|refine aj ?_|simp[Pv.look,H.slc,H.ssc,sv]|((first|apply bI|apply bK|apply bJ)<;>intro h<;>try simp at h))<;>(try exact cm))
       ·obtain⟨j,rfl⟩:∃dx,j=dx+1:=⟨j-1,by omega⟩;have nM:(((j+1:Nat):Int)-1)=(j:Nat):=by omega
        rw[Sort.shiftDown]at gM;try rw[nM]
        refine H.lessA gX (j+1) j (by omega) (by omega) fun o=>?_;cases aG:lt fC[j+1]! fC[j]!
        ·rw[if_pos (by simp[aG])]at gM;rw[←gM]at c7;try simp
         try(with_reducible repeat' first|refine aj ?_|simp[Pv.look,H.slc,H.ssc,sv])
         rw[es];refine bT.whl ((i,s+1),fC) (by simp;omega) ⟨gX,⟨by simp;omega,by simp;omega,by simp;omega⟩,by simp only[em];exact c7⟩ (H.weakC aq (by simpa using gX) (by simp[aF]))
        ·rw[if_neg (by simp[aG])]at gM;simp;(with_reducible repeat' first|refine aj ?_|simp[Pv.look,H.slc,H.ssc]);try rw[nM]
         refine H.swapA gX U (j+1) j (by omega) (by omega) fun o=>?_;simp;((with_reducible repeat' first|refine aj ?_|simp|((first|apply bI|apply bK|apply bJ)<;>intro h<;>try simp at h))<;>(try exact cm));try rw[nM]
         refine bT.whl (j,Sort.swp fC (j+1) j) (by simp) ⟨by rw[gA,gX],by simp;omega,gM⟩ (H.weakC aq (by simp[gA,gX]) (by simp[aF]))
       ·obtain rfl:j=0:=by omega
        rw[Sort.shiftDown]at gM;rw[←gM]at c7;try simp
        try(with_reducible repeat' first|refine aj ?_|simp[Pv.look,H.slc,H.ssc,sv])
        rw[es];refine bT.whl ((i,s+1),fC) (by simp;omega) ⟨gX,⟨by simp;omega,by simp;omega,by simp;omega⟩,by simp only[em];exact c7⟩ (H.weakC aq (by simpa using gX) (by simp[aF]))
      ·rw[if_neg Bi]at c7;have wP:¬(2:Int)≤(i:Int)-a:=by omega
       simp;((with_reducible repeat' first|refine aj ?_|simp[wP,sv]|((first|apply bI|apply bK|apply bJ)<;>intro h<;>try simp at h))<;>(try exact cm));done
  ·rw[if_neg (by simp;omega)]at i3;simp only[←i3]at c7;rw[if_pos (by omega)]at c7;refine H.retR aq (d:=cf) aR (.inl rfl) ?_;simp[cM,FY,aV,aY,aT];rw[←c7];exact⟨rfl,_,rfl,rfl,aR⟩
 ·have:5-s=0:=by omega
  rw[this,Sort.partialIns]at c7;refine H.retR aq (d:=cf) aR (.inl rfl) ?_;simp[cM,FY,aV,aY,aT];rw[←c7];exact⟨rfl,_,rfl,rfl,aR⟩
end Go.Proofs.YtohaalphocaebaaGreat
namespace Go.Proofs.YtohaalphocaebaaGreat
open Go Go.Pv
variable {α:Type} [Inhabited α] {S:List α→cF} {n g b5:Nat} {lc bZ:List ai} {lt:α→α→Bool}
def e3(S:List α→cF)(d:Array α)(v:Nat):cF:=⟨(.obj 901,[.int .i64 v])::(S d.toList).b,(S d.toList).e⟩
def rA(S:List α→cF)(m:Nat):Prop:= ∀l,Pv.look (.obj m) (S l).b=none∧Pv.look (.obj m) (S l).e=none
theorem mZ(H:eV S n g b5 lc bZ lt)(d:Array α)(v:Nat):dG (e3 S d v):=by
 have h:=H.ok d.toList;have iQ:∀k,inObs (S d.toList) k→inObs (e3 S d v) k:=fun k ab=>by
  rcases ab with ab|ab
  ·refine .inl ?_;simp only[e3,Pv.look];split
   ·rfl
   ·exact ab
  ·exact .inr ab
 refine⟨⟨fun m=>?_,h.obj.2⟩,fun k cs ab=>?_,fun k o au xs ad=>jI iQ _ (h.ke k o au xs ad)⟩
 ·simp[e3,Pv.look,h.obj.1 m]
 ·simp only[e3,Pv.look]at ab;split at ab
  ·cases ab;simp[aO,aF]
  ·exact jI iQ _ (h.kb k cs ab)
theorem rY(d:Array α)(v v':Nat):Same (e3 S d v) (e3 S d v'):=⟨fun k=>by simp only[e3,Pv.look];split<;>rfl,fun _=>rfl⟩
theorem IH(H:eV S n g b5 lc bZ lt)(ab:rA S 901)(d:Array α)(aK:d.size=n)(a b v:Nat)(br:a<n)(ae:b<n)(aJ:v≤1000):
  bB az 285 [eP g b5 lc bZ,.int .i64 a,.int .i64 b,.ptr (.obj 901) 0] (e3 S d v) fun r ah=>r= .tuple [.int .i64 (Sort.order2 lt d a b v).1,.int .i64 (Sort.order2 lt d a b v).2.1]∧ah=e3 S d (Sort.order2 lt d a b v).2.2:=by
 have af:=H.ok d.toList;have aq:d.toList.length=n:=by simpa using aK
 have ar:∀l m,Pv.look (.loc m) (S l).b=none:=fun l=>(H.ok l).obj.1;have hu:∀l m cs,ct (.loc m) cs (S l).b=(S l).b++[(.loc m,cs)]:=fun l m cs=>jR (ar l m);have au:∀m,aH.loc m∉cR (S d.toList):=jL af.obj;have gj:∀l,Pv.look (.obj 901) (S l).b=none:=fun l=>(ab l).1;have jX:∀l,Pv.look (.obj 901) (S l).e=none:=fun l=>(ab l).2;have hle:=H.le;have kh:=mZ H d v;obtain⟨R,b4⟩:∃R,R=Sort.order2 lt d a b v:=⟨_,rfl⟩;rw[←b4];unfold Sort.order2 at b4;refine bB.mk mixed nx aab agz (by simp) kh.obj fun aU cH=>?_;unfold Ou;have lf:aH.loc 0∉cR (e3 S d v):=jL kh.obj 0;generalize tL:cR (e3 S d v)=ob at lf⊢;unfold e3;simp[eP,hu,lf,cE,ar,Pv.look,ct];rw[H.slc];refine cD.ob (H.less d.toList aq b a _ _ (x7 (by omega)) (x7 (by omega))) (H.ok _) (fun k cs ad=>?_) (fun _ _ ad=>ad) (by simp[aF,aO,H.klc d.toList aq]) ?_
 ·simp only[Pv.look];split
  ·rename_i e;subst e;rw[gj]at ad;cases ad
  ·rw[cE,ad]
 rintro r ah ⟨rfl,rfl⟩;refine⟨Same.refl _,?_⟩;have hw:bR (S d.toList).b ((aH.obj 901,[ai.int .i64 v])::((S d.toList).b++[(aH.loc 0,[ai.func g lc,ai.func b5 bZ])]))=[(aH.obj 901,[ai.int .i64 v]),(aH.loc 0,[ai.func g lc,ai.func b5 bZ])]:=by simp only[bR,gj];rw[ig,gH];simp[bR,ar]
 rw[hw,gH];have dK:∀(t:List (Nat×ai)) (o:List aH) (v':Nat) (D:List ai) (x y:Nat),Pv.get 8 t= .int .i64 x→Pv.get 9 t= .int .i64 y→R=(x,y,v')→
   cG Lf (e3 S d v) (fun r ah=>r= .tuple [.int .i64 R.1,.int .i64 R.2.1]∧ah=e3 S d R.2.2) .ret ⟨t,(aH.obj 901,[.int .i64 v'])::(aH.loc 0,D)::(S d.toList).b,(S d.toList).e,1,o⟩:=by
  rintro t o v' D x y ad aG rfl;refine cG.at (e3 S d v') (.inl rfl) (mZ H d v') (rY _ _ _) (fun k cs av=>?_) (fun _ _ av=>av) ?_
  ·simp only[e3,Pv.look]at av⊢;split at av
   ·rename_i e;rw[if_pos e];exact av
   ·rename_i e;rw[if_neg e];split
    ·rename_i aA;subst aA;rw[ar]at av;cases av
    ·exact av
  ·simp[cM,Lf,aV,aY,aT,ad,aG]
 cases ad:lt d[b]! d[a]! with
 |true=>
  rw[if_pos ad]at b4;simp[Pv.look,ct];(with_reducible repeat' first|refine aj ?_|simp[Pv.look,ct]);have ak:((v:Int)+1)=(v+1:Nat):=by omega
  rw[ak];exact dK _ _ (v+1) _ b a rfl rfl b4
 |false=>rw[if_neg (by simp[ad])]at b4;simp[Pv.look,ct];exact dK _ _ v _ a b rfl rfl b4
theorem TP{s ah:cF}{f:Nat}{args:List ai}{r:ai}(aQ:bB az f args s fun eD dE=>eD=r∧dE=ah)(af:dG s)(e6:Same s ah)(ab:aO (inObs s) args){t:List (Nat×ai)}{D:List ai}{o:List aH}{d:Option Nat}{K:bj→Prop}
  (h:∀o,K ⟨eK d r t,(.loc 0,D)::ah.b,ah.e,1,o⟩):cD az f args ⟨t,s.b++[(.loc 0,D)],s.e,1,o⟩ d K:=by
 refine cD.ob aQ af (fun k cs ad=>by rw[cE,ad]) (fun _ _ ad=>ad) ab ?_;rintro r ah ⟨rfl,rfl⟩;refine⟨e6,?_⟩;have ak:bR s.b (s.b++[(.loc 0,D)])=[(.loc 0,D)]:=by rw[ig,gH];simp[bR,af.obj.1 0]
 have aA:bR s.e s.e=[]:=gH _;simp only[ak,aA];exact h _
theorem Cg{s ah:cF}{f:Nat}{args:List ai}{r:ai}(aQ:bB az f args s fun eD dE=>eD=r∧dE=ah)(af:dG s)(e6:Same s ah)(ab:aO (inObs s) args){t:List (Nat×ai)}{D:List ai}{o:List aH}{d:Option Nat}{K:bj→Prop}
  (h:∀o,K ⟨eK d r t,(.loc 0,D)::ah.b,ah.e,1,o⟩):cD az f args ⟨t,(.loc 0,D)::s.b,s.e,1,o⟩ d K:=by
 refine cD.ob aQ af (fun k cs ad=>?_) (fun _ _ ad=>ad) ab ?_
 ·cases k with
  |loc m=>rw[af.obj.1 m]at ad;cases ad
  |obj m=>simpa[Pv.look]using ad
 rintro r ah ⟨rfl,rfl⟩;refine⟨e6,?_⟩;have ak:bR s.b ((.loc 0,D)::s.b)=[(.loc 0,D)]:=by have:=ig s.b [(aH.loc 0,D)] s.b;rw[gH]at this;simpa[bR,af.obj.1 0]using this
 have aA:bR s.e s.e=[]:=gH _;simp only[ak,aA];exact h _
theorem zE{d:Array α}{a b v n:Nat}(br:a<n)(ae:b<n):(Sort.order2 lt d a b v).1<n∧(Sort.order2 lt d a b v).2.1<n∧(Sort.order2 lt d a b v).2.2≤v+1:=by unfold Sort.order2;split<;>simp<;>omega
theorem tV(H:eV S n g b5 lc bZ lt){d:Array α}(aK:d.size=n){v:Nat}:aF (inObs (e3 S d v)) (eP g b5 lc bZ)∧aF (inObs (e3 S d v)) (.ptr (.obj 901) 0):=by
 refine⟨vp (fun k ab=>?_) _ (H.kdata (lk:=d.toList) (by simpa using aK)),by simp[aF,inObs,e3,Pv.look]⟩;rcases ab with ab|ab
 ·refine .inl ?_;simp only[e3,Pv.look];split
  ·rfl
  ·exact ab
 ·exact .inr ab
theorem VB(H:eV S n g b5 lc bZ lt){d:Array α}{v v':Nat}{ez:List bu}{Q:ai→cF→Prop}{t:List (Nat×ai)}{D:List ai}{o:List aH}(h:cM ⟨t,(.loc 0,D)::(e3 S d v').b,(S d.toList).e,1,o⟩ ez fun r=>aF (inObs (e3 S d v')) r∧Q r (e3 S d v')):
  cG ez (e3 S d v) Q .ret ⟨t,(.loc 0,D)::(e3 S d v').b,(S d.toList).e,1,o⟩:=by
 refine cG.at (e3 S d v') (.inl rfl) (mZ H d v') (rY _ _ _) (fun k cs ad=>?_) (fun _ _ av=>av) h;cases k with
 |loc m=>rw[(mZ H d v').obj.1 m]at ad;cases ad
 |obj m=>simpa[Pv.look]using ad
theorem IE(H:eV S n g b5 lc bZ lt)(ab:rA S 901)(d:Array α)(aK:d.size=n)(a b c v:Nat)(br:a<n)(ae:b<n)(av:c<n)(aJ:v≤900):
  bB az 282 [eP g b5 lc bZ,.int .i64 a,.int .i64 b,.int .i64 c,.ptr (.obj 901) 0] (e3 S d v) fun r ah=>r= .int .i64 (Sort.median lt d a b c v).1∧ah=e3 S d (Sort.median lt d a b c v).2:=by
 have kh:=mZ H d v;have re:∀v m,Pv.look (.loc m) (e3 S d v).b=none:=fun v=>(mZ H d v).obj.1;have y2:∀v m cs,ct (.loc m) cs (e3 S d v).b=(e3 S d v).b++[(.loc m,cs)]:=fun v m cs=>jR (re v m);have lf:aH.loc 0∉cR (e3 S d v):=jL kh.obj 0;obtain⟨R,b4⟩:∃R,R=Sort.median lt d a b c v:=⟨_,rfl⟩;rw[←b4];unfold Sort.median at b4;have a1:=zE (lt:=lt) (d:=d) (v:=v) br ae;have aR:=IH H ab d aK a b v br ae (by omega);generalize Sort.order2 lt d a b v=ep at a1 aR b4;obtain⟨rR,kr,v1⟩:=ep;simp only at a1 aR b4;have bt:=zE (lt:=lt) (d:=d) (v:=v1) a1.2.1 av;have be:=IH H ab d aK kr c v1 a1.2.1 av (by omega);generalize Sort.order2 lt d kr c v1=fe at bt be b4;obtain⟨xT,oq,v2⟩:=fe;simp only at bt be b4;have b2:=zE (lt:=lt) (d:=d) (v:=v2) a1.1 bt.1;have bN:=IH H ab d aK rR xT v2 a1.1 bt.1 (by omega);generalize Sort.order2 lt d rR xT v2=mh at b2 bN b4;obtain⟨rS,GV,v3⟩:=mh;simp only at b2 bN b4;refine bB.mk mixed nx Z9 agx (by simp) kh.obj fun aU cH=>?_;unfold Oq;simp[eP,y2,lf,cE,re];simp only[h3 H,H.slc,H.ssc,hT];refine TP aR (mZ H d v) (rY _ _ _) (by simp[aF,aO,(tV H aK).1];exact(tV H aK).2) fun o=>?_;simp[Pv.look];simp only[h3 H,H.slc,H.ssc,hT];refine Cg be (mZ H d v1) (rY _ _ _) (by simp[aF,aO,(tV H aK).1];exact(tV H aK).2) fun o=>?_;simp[Pv.look];simp only[h3 H,H.slc,H.ssc,hT];refine Cg bN (mZ H d v2) (rY _ _ _) (by simp[aF,aO,(tV H aK).1];exact(tV H aK).2) fun o=>?_;simp;refine VB H ?_;simp[cM,UT,aV,aY,aT];rw[b4];exact⟨rfl,rfl⟩
theorem IF(H:eV S n g b5 lc bZ lt)(ab:rA S 901)(d:Array α)(aK:d.size=n)(a v:Nat)(br:a+1<n)(kT:1≤a)(aJ:v≤900):
  bB az 281 [eP g b5 lc bZ,.int .i64 a,.ptr (.obj 901) 0] (e3 S d v) fun r ah=>r= .int .i64 (Sort.medianAdjacent lt d a v).1∧ah=e3 S d (Sort.medianAdjacent lt d a v).2:=by
 have kh:=mZ H d v;have re:∀v m,Pv.look (.loc m) (e3 S d v).b=none:=fun v=>(mZ H d v).obj.1;have y2:∀v m cs,ct (.loc m) cs (e3 S d v).b=(e3 S d v).b++[(.loc m,cs)]:=fun v m cs=>jR (re v m);have lf:aH.loc 0∉cR (e3 S d v):=jL kh.obj 0;have hle:=H.le;have aR:=IE H ab d aK (a-1) a (a+1) v (by omega) (by omega) (by omega) aJ;unfold Sort.medianAdjacent;refine bB.mk mixed nx Z8 agw (by simp) kh.obj fun aU cH=>?_;unfold Oo;have ak:((a:Int)-1)=(a-1:Nat):=by omega
 have aA:((a:Int)+1)=(a+1:Nat):=by omega
 simp[eP,y2,lf,cE,re];(with_reducible repeat' first|refine aj ?_|simp);simp only[h3 H,H.slc,H.ssc,hT,ak,aA];refine TP aR (mZ H d v) (rY _ _ _) (by simp[aF,aO,(tV H aK).1];exact(tV H aK).2) fun o=>?_;simp;refine VB H ?_;simp[cM,US,aV,aY,aT]
theorem TQ{m:Nat}(h:rA S m)(l:List α):aH.obj m∉cR (S l):=fun hm=>by
 rcases Si hm with J|J
 ·rw[(h l).1]at J;cases J
 ·rw[(h l).2]at J;cases J
theorem B7{d:Array α}{a b c v n:Nat}(br:a<n)(ae:b<n)(av:c<n):(Sort.median lt d a b c v).1<n∧(Sort.median lt d a b c v).2≤v+3:=by have a1:=zE (lt:=lt) (d:=d) (v:=v) br ae;have bt:=zE (lt:=lt) (d:=d) (v:=(Sort.order2 lt d a b v).2.2) a1.2.1 av;have b2:=zE (lt:=lt) (d:=d) (v:=(Sort.order2 lt d (Sort.order2 lt d a b v).2.1 c (Sort.order2 lt d a b v).2.2).2.2) a1.1 bt.1;refine⟨b2.2.1,ji b2.2.2 ?_⟩;omega
def yM:Sort.Hint→Int
 | .unknown=>0
 | .increasing=>1
 | .decreasing=>2
theorem abp(H:eV S n g b5 lc bZ lt)(ab:rA S 901)(d:Array α)(aK:d.size=n)(a b:Nat)(mz:a<b)(ae:b≤n):
  bB az 263 [eP g b5 lc bZ,.int .i64 a,.int .i64 b] (S d.toList) fun r ah=>r= .tuple [.int .i64 (Sort.choosePivot lt d a b).1,.int .i64 (yM (Sort.choosePivot lt d a b).2)]∧ah=S d.toList:=by
 have af:=H.ok d.toList;have aq:d.toList.length=n:=by simpa using aK
 have ar:∀l m,Pv.look (.loc m) (S l).b=none:=fun l=>(H.ok l).obj.1;have hu:∀l m cs,ct (.loc m) cs (S l).b=(S l).b++[(.loc m,cs)]:=fun l m cs=>jR (ar l m);have au:∀m,aH.loc m∉cR (S d.toList):=jL af.obj;have gj:∀l,Pv.look (.obj 901) (S l).b=none:=fun l=>(ab l).1;have jX:∀l,Pv.look (.obj 901) (S l).e=none:=fun l=>(ab l).2;have hle:=H.le;have lf:=TQ ab d.toList;obtain⟨R,b4⟩:∃R,R=Sort.choosePivot lt d a b:=⟨_,rfl⟩;rw[←b4];unfold Sort.choosePivot at b4;refine bB.mk mixed nx Z6 agu (by simp) af.obj fun aU cH=>?_;unfold Om;have w2:∀l D cs,ct (.obj 901) cs ((S l).b++[(.loc 0,D)])=(S l).b++[(.loc 0,D),(.obj 901,cs)]:=fun l D cs=>by rw[Af (gj l)];rfl
 obtain⟨q,bn⟩:∃q,q=(b-a)/4:=⟨_,rfl⟩;have dq:mi.wrap (((b:Int)-a).tdiv 4)=(q:Nat):=by rw[show((b:Int)-a)=((b-a:Nat):Int) by omega,Int.tdiv_eq_ediv_of_nonneg (by omega),lR _ (by omega)];omega
 simp[eP,hu,w2,au,lf,cE,ar,gj,jX,Pv.look,ct];have dK:∀(t:List (Nat×ai)) (o:List aH) (b0:List (aH×List ai)) (x:Nat) (h:Sort.Hint),Pv.get 6 t= .int .i64 x→Pv.get 7 t= .int .i64 (yM h)→R=(x,h)→(∀k cs,Pv.look k (S d.toList).b=some cs→Pv.look k b0=some cs)→
   cG Le (S d.toList) (fun r ah=>r= .tuple [.int .i64 R.1,.int .i64 (yM R.2)]∧ah=S d.toList) .ret ⟨t,b0,(S d.toList).e,1,o⟩:=by
  rintro t o b0 x h ad aG rfl gz;refine cG.at (S d.toList) (.inl rfl) af (Same.refl _) gz (fun _ _ av=>av) ?_;simp[cM,Le,aV,aY,aT,ad,aG]
 have yC:∀(D:List ai) (v:Nat) k cs,Pv.look k (S d.toList).b=some cs→Pv.look k ((.loc 0,D)::(e3 S d v).b)=some cs:=fun D v k cs h=>by
  simp only[e3,Pv.look];split
  ·rename_i e;subst e;rw[ar]at h;cases h
  ·split
   ·rename_i e;subst e;rw[gj]at h;cases h
   ·exact h
 have Q8:∀{f:Nat} {args:List ai} {r:ai} {v:Nat},(bB az f args (e3 S d 0) fun eD dE=>eD=r∧dE=e3 S d v)→aO (inObs (e3 S d 0)) args→∀{t:List (Nat×ai)} {D:List ai} {o:List aH} {cj:Option Nat} {K:bj→Prop},(∀o,K ⟨eK cj r t,(.loc 0,D)::(e3 S d v).b,(S d.toList).e,1,o⟩)→
   cD az f args ⟨t,(S d.toList).b++[(.loc 0,D),(.obj 901,[.int .i64 0])],(S d.toList).e,1,o⟩ cj K:=by
  intro f args r v aQ gV t D o cj K h;refine cD.ob aQ (mZ H d 0) (fun k cs ad=>?_) (fun _ _ ad=>ad) gV ?_
  ·simp only[e3,Pv.look]at ad;rw[cE];split at ad
   ·rename_i e;subst e;rw[gj];simp[Pv.look];simpa using ad
   ·rw[ad]
  rintro r ah ⟨rfl,rfl⟩;refine⟨rY _ _ _,?_⟩;have ak:bR (e3 S d 0).b ((S d.toList).b++[(.loc 0,D),(.obj 901,[.int .i64 0])])=[(.loc 0,D)]:=by
   rw[ig];have:bR (e3 S d 0).b (S d.toList).b=[]:=ME _ _ fun k x hm=>by
    have:=ua hm;simp only[e3,Pv.look];split
    ·rfl
    ·exact this
   rw[this];simp[bR,e3,Pv.look,ar]
  have aA:bR (e3 S d 0).e (S d.toList).e=[]:=gH _;simp only[ak,aA];exact h _
 have gV:=fun(v:Nat)=>(tV H aK (v:=v));have f1:((a:Int)+q)=(a+q:Nat):=by omega
 have f2:((a:Int)+q*2)=(a+q*2:Nat):=by omega
 have f3:((a:Int)+q*3)=(a+q*3:Nat):=by omega
 dsimp only at b4;rw[←bn,Nat.mul_one]at b4;by_cases hy:b-a<8
 ·have Eg:¬(8:Int)≤(b:Int)-a:=by omega
  (with_reducible repeat' first|refine aj ?_|simp[Eg,dq,hu,w2,au,lf,cE,ar,gj,jX,Pv.look,ct]);rw[f2];refine dK _ _ _ (a+q*2) .increasing rfl rfl (by rw[b4,if_neg (by omega)];simp) (fun k cs h=>by rw[cE,h])
 ·have Eg:(8:Int)≤(b:Int)-a:=by omega
  by_cases ama:b-a<50
  ·have IN:¬(50:Int)≤(b:Int)-a:=by omega
   (with_reducible repeat' first|refine aj ?_|simp[Eg,IN,dq,hu,w2,au,lf,cE,ar,gj,jX,Pv.look,ct]);simp only[h3 H,H.slc,H.ssc,hT,f1,f2,f3];have aR:=IE H ab d aK (a+q) (a+q*2) (a+q*3) 0 (by omega) (by omega) (by omega) (by omega);have be:=B7 (lt:=lt) (d:=d) (a:=a+q) (b:=a+q*2) (c:=a+q*3) (v:=0) (n:=n) (by omega) (by omega) (by omega);rw[if_pos (by omega),if_neg (by omega)]at b4;generalize Sort.median lt d (a+q) (a+q*2) (a+q*3) 0=m at aR be b4;obtain⟨x,v⟩:=m;refine Q8 aR (by simp[aF,aO,(gV 0).1];exact(gV 0).2) fun o=>?_;have w3:((v:Int)==0)=decide (v=0):=by rw[pV];simp
   have BI:((v:Int)==12)=decide (v=12):=by rw[pV];simp;omega
   simp[Pv.look,e3];rcases(by omega:v=0∨v=12∨(v≠0∧v≠12))with bV|bV|bV
   ·have ad:((v:Int)==0)=true:=by rw[w3];simp[bV]
    (with_reducible repeat' first|refine aj ?_|simp[ad]);all_goals exact dK _ _ _ x .increasing rfl rfl (by rw[b4];simp[bV]) (yC _ v)
   ·have ad:((v:Int)==0)=false:=by rw[w3];simp[bV]
    have oT:((v:Int)==12)=true:=by rw[BI];simp[bV]
    (with_reducible repeat' first|refine aj ?_|simp[ad,oT]);all_goals exact dK _ _ _ x .decreasing rfl rfl (by rw[b4];simp[bV]) (yC _ v)
   ·have ad:((v:Int)==0)=false:=by rw[w3];simp[bV.1]
    have oT:((v:Int)==12)=false:=by rw[BI];simp[bV.2]
    (with_reducible repeat' first|refine aj ?_|simp[ad,oT]);all_goals exact dK _ _ _ x .unknown rfl rfl (by rw[b4];simp[bV]) (yC _ v)
  ·have IN:(50:Int)≤(b:Int)-a:=by omega
   (with_reducible repeat' first|refine aj ?_|simp[Eg,IN,dq,hu,w2,au,lf,cE,ar,gj,jX,Pv.look,ct]);simp only[h3 H,H.slc,H.ssc,hT,f1,f2,f3];rw[if_pos (by omega),if_pos (by omega)]at b4;have aR:=IF H ab d aK (a+q) 0 (by omega) (by omega) (by omega);have BS:=B7 (lt:=lt) (d:=d) (a:=a+q-1) (b:=a+q) (c:=a+q+1) (v:=0) (n:=n) (by omega) (by omega) (by omega);change (Sort.medianAdjacent lt d (a+q) 0).1<n∧(Sort.medianAdjacent lt d (a+q) 0).2≤0+3 at BS;generalize Sort.medianAdjacent lt d (a+q) 0=m1 at aR BS b4;obtain⟨rR,v1⟩:=m1;simp only at aR BS b4;have be:=IF H ab d aK (a+q*2) v1 (by omega) (by omega) (by omega);have BT:=B7 (lt:=lt) (d:=d) (a:=a+q*2-1) (b:=a+q*2) (c:=a+q*2+1) (v:=v1) (n:=n) (by omega) (by omega) (by omega);change (Sort.medianAdjacent lt d (a+q*2) v1).1<n∧(Sort.medianAdjacent lt d (a+q*2) v1).2≤v1+3 at BT;generalize Sort.medianAdjacent lt d (a+q*2) v1=m2 at be BT b4;obtain⟨xT,v2⟩:=m2;simp only at be BT b4;have bN:=IF H ab d aK (a+q*3) v2 (by omega) (by omega) (by omega);have BU:=B7 (lt:=lt) (d:=d) (a:=a+q*3-1) (b:=a+q*3) (c:=a+q*3+1) (v:=v2) (n:=n) (by omega) (by omega) (by omega);change (Sort.medianAdjacent lt d (a+q*3) v2).1<n∧(Sort.medianAdjacent lt d (a+q*3) v2).2≤v2+3 at BU;generalize Sort.medianAdjacent lt d (a+q*3) v2=m3 at bN BU b4;obtain⟨rS,v3⟩:=m3;simp only at bN BU b4;have dB:=IE H ab d aK rR xT rS v3 BS.1 BT.1 BU.1 (by omega);have SE:=B7 (lt:=lt) (d:=d) (v:=v3) BS.1 BT.1 BU.1;generalize Sort.median lt d rR xT rS v3=m4 at dB SE b4;obtain⟨x,v⟩:=m4;simp only at dB SE b4;refine Q8 aR (by simp[aF,aO,(gV 0).1];exact(gV 0).2) fun o=>?_;simp[Pv.look];simp only[h3 H,H.slc,H.ssc,hT,f1,f2,f3];refine Cg be (mZ H d v1) (rY _ _ _) (by simp[aF,aO,(gV v1).1];exact(gV v1).2) fun o=>?_;simp[Pv.look];simp only[h3 H,H.slc,H.ssc,hT,f1,f2,f3];refine Cg bN (mZ H d v2) (rY _ _ _) (by simp[aF,aO,(gV v2).1];exact(gV v2).2) fun o=>?_;simp[Pv.look];simp only[h3 H,H.slc,H.ssc,hT,f1,f2,f3];refine Cg dB (mZ H d v3) (rY _ _ _) (by simp[aF,aO,(gV v3).1];exact(gV v3).2) fun o=>?_;have w3:((v:Int)==0)=decide (v=0):=by rw[pV];simp
   have BI:((v:Int)==12)=decide (v=12):=by rw[pV];simp;omega
   simp[Pv.look,e3];rcases(by omega:v=0∨v=12∨(v≠0∧v≠12))with bV|bV|bV
   ·have ad:((v:Int)==0)=true:=by rw[w3];simp[bV]
    (with_reducible repeat' first|refine aj ?_|simp[ad]);all_goals exact dK _ _ _ x .increasing rfl rfl (by rw[b4];simp[bV]) (yC _ v)
   ·have ad:((v:Int)==0)=false:=by rw[w3];simp[bV]
    have oT:((v:Int)==12)=true:=by rw[BI];simp[bV]
    (with_reducible repeat' first|refine aj ?_|simp[ad,oT]);all_goals exact dK _ _ _ x .decreasing rfl rfl (by rw[b4];simp[bV]) (yC _ v)
   ·have ad:((v:Int)==0)=false:=by rw[w3];simp[bV.1]
    have oT:((v:Int)==12)=false:=by rw[BI];simp[bV.2]
    (with_reducible repeat' first|refine aj ?_|simp[ad,oT]);all_goals exact dK _ _ _ x .unknown rfl rfl (by rw[b4];simp[bV]) (yC _ v)
end Go.Proofs.YtohaalphocaebaaGreat
namespace Go.Proofs.YtohaalphocaebaaGreat
open Go Go.Pv
variable {α:Type} [Inhabited α] {S:List α→cF} {n g b5:Nat} {lc bZ:List ai} {lt:α→α→Bool}
theorem ajp:∀x:Nat,x<256→((([0,1,2,2,3,3,3,3,4,4,4,4,4,4,4,4,5,5,5,5,5,5,5,5,5,5,5,5,5,5,5,5,6,6,6,6,6,6,6,6,6,6,6,6,6,6,6,6,6,6,6,6,6,6,6,6,6,6,6,6,6,6,6,6,7,7,7,7,7,7,7,7,7,7,7,7,7,7,7,7,7,7,7,7,7,7,7,7,7,7,7,7,7,7,7,7,7,7,7,7,7,7,7,7,7,7,7,7,7,7,7,7,7,7,7,7,7,7,7,7,7,7,7,7,7,7,7,7,8,8,8,8,8,8,8,8,8,8,8,8,8,8,8,8,8,8,8,8,8,8,8,8,8,8,8,8,8,8,8,8,8,8,8,8,8,8,8,8,8,8,8,8,8,8,8,8,8,8,8,8,8,8,8,8,8,8,8,8,8,8,8,8,8,8,8,8,8,8,8,8,8,8,8,8,8,8,8,8,8,8,8,8,8,8,8,8,8,8,8,8,8,8,8,8,8,8,8,8,8,8,8,8,8,8,8,8,8,8,8,8,8,8,8,8,8,8,8,8,8,8,8,8,8,8,8,8]:List cV)[x]?).getD 0).toNat=Sort.bitsLen x:=by decide+kernel
theorem A0(x:Int):x.fdiv (2 ^ (min 32 gU.bits))=x/4294967296:=by rw[show(2:Int) ^ (min 32 gU.bits)=4294967296 from by decide,Int.fdiv_eq_ediv_of_nonneg _ (by omega)]
theorem AZ(x:Int):x.fdiv (2 ^ (min 16 gU.bits))=x/65536:=by rw[show(2:Int) ^ (min 16 gU.bits)=65536 from by decide,Int.fdiv_eq_ediv_of_nonneg _ (by omega)]
theorem A1(x:Int):x.fdiv (2 ^ (min 8 gU.bits))=x/256:=by rw[show(2:Int) ^ (min 8 gU.bits)=256 from by decide,Int.fdiv_eq_ediv_of_nonneg _ (by omega)]
theorem CX(x:Nat)(h:x<256):IntKind.u8.wrap (x:Int)=x:=by simp[rU,mW,qG];omega
theorem Ho(x k:Nat)(h:2 ^ k≤x):Sort.bitsLen x=Sort.bitsLen (x/2 ^ k)+k:=by
 have ad:x≠0:=by have:=Nat.two_pow_pos k;omega
 have bn:x/2 ^ k≠0:=by have:=Nat.div_pos h (Nat.two_pow_pos k);omega
 unfold Sort.bitsLen;rw[if_neg ad,if_neg bn];have aq:=Nat.log2_lt ad (k:=Nat.log2 (x/2 ^ k)+k+1);have J:Nat.log2 (x/2 ^ k)+k≤Nat.log2 x:=by
  rw[Nat.le_log2 ad,Nat.pow_add];have:=Nat.log2_self_le bn;calc 2 ^ (x/2 ^ k).log2*2 ^ k≤(x/2 ^ k)*2 ^ k:=Nat.mul_le_mul_right _ this
   _≤x:=Nat.div_mul_le_self x _
 have U:Nat.log2 x<Nat.log2 (x/2 ^ k)+k+1:=by rw[aq,show Nat.log2 (x/2 ^ k)+k+1=(Nat.log2 (x/2 ^ k)+1)+k by omega,Nat.pow_add];have:=Nat.lt_log2_self (n:=x/2 ^ k);exact(Nat.div_lt_iff_lt_mul (Nat.two_pow_pos k)).1 this
 omega
set_option maxRecDepth 20000 in
theorem ajN(x:Nat)(ad:x<1099511627776):b7 az 259 [.int .u64 x] (.int .i64 (Sort.bitsLen x)):=by
 refine b7.mk mixed nx Z3 agr (by simp) (by simp[aF]) fun aU=>?_;unfold Oi;have aN:=ajp;generalize QY:([0,1,2,2,3,3,3,3,4,4,4,4,4,4,4,4,5,5,5,5,5,5,5,5,5,5,5,5,5,5,5,5,6,6,6,6,6,6,6,6,6,6,6,6,6,6,6,6,6,6,6,6,6,6,6,6,6,6,6,6,6,6,6,6,7,7,7,7,7,7,7,7,7,7,7,7,7,7,7,7,7,7,7,7,7,7,7,7,7,7,7,7,7,7,7,7,7,7,7,7,7,7,7,7,7,7,7,7,7,7,7,7,7,7,7,7,7,7,7,7,7,7,7,7,7,7,7,7,8,8,8,8,8,8,8,8,8,8,8,8,8,8,8,8,8,8,8,8,8,8,8,8,8,8,8,8,8,8,8,8,8,8,8,8,8,8,8,8,8,8,8,8,8,8,8,8,8,8,8,8,8,8,8,8,8,8,8,8,8,8,8,8,8,8,8,8,8,8,8,8,8,8,8,8,8,8,8,8,8,8,8,8,8,8,8,8,8,8,8,8,8,8,8,8,8,8,8,8,8,8,8,8,8,8,8,8,8,8,8,8,8,8,8,8,8,8,8,8,8,8,8,8,8,8,8,8]:List cV)=tab at aN⊢;have yB:tab.length=256:=by rw[←QY];rfl
 clear QY;simp[yB];have ae:∀y:Nat,y<256→Sort.bitsLen y≤8:=by decide+kernel
 have adB:4294967296≤x→Sort.bitsLen x=Sort.bitsLen (x/4294967296)+32:=fun h=>Ho x 32 h;have RX:∀y,65536≤y→Sort.bitsLen y=Sort.bitsLen (y/65536)+16:=fun y h=>Ho y 16 h;have R0:∀y,256≤y→Sort.bitsLen y=Sort.bitsLen (y/256)+8:=fun y h=>Ho y 8 h;by_cases J:4294967296≤x
 ·have oN:(4294967296:Int)≤x:=by omega
  have g1:¬(65536:Int)≤(x:Int)/4294967296:=by omega
  have g3:¬(256:Int)≤(x:Int)/4294967296:=by omega
  (with_reducible repeat' first|refine aj ?_|simp[oN,g1,g3,A0,AZ,A1,yB]);have aG:x/4294967296<256:=by omega
  have lb:=ae _ aG;have gl:(x:Int)/4294967296=((x/4294967296:Nat):Int):=by omega
  rw[gl,CX _ aG,Int.toNat_natCast];refine⟨by omega,?_⟩;have e:=aN _ aG;rw[e,lR _ (by omega)];refine⟨by unfold n7;omega,?_⟩;simp[bz,zO,aV,aY,aT];try((rw[adB J])<;>omega)
 ·have oN:¬(4294967296:Int)≤x:=by omega
  by_cases U:65536≤x
  ·have g2:(65536:Int)≤x:=by omega
   by_cases ao:256≤x/65536
   ·have g3:(256:Int)≤(x:Int)/65536:=by omega
    (with_reducible repeat' first|refine aj ?_|simp[oN,g2,g3,A0,AZ,A1,yB]);have aG:x/65536/256<256:=by omega
    have lb:=ae _ aG;have gl:(x:Int)/65536/256=((x/65536/256:Nat):Int):=by omega
    rw[gl,CX _ aG,Int.toNat_natCast];refine⟨by omega,?_⟩;have e:=aN _ aG;rw[e,lR _ (by omega)];refine⟨by unfold n7;omega,?_⟩;simp[bz,zO,aV,aY,aT];try((rw[RX x U,R0 _ ao])<;>omega)
   ·have g3:¬(256:Int)≤(x:Int)/65536:=by omega
    (with_reducible repeat' first|refine aj ?_|simp[oN,g2,g3,A0,AZ,A1,yB]);have aG:x/65536<256:=by omega
    have lb:=ae _ aG;have gl:(x:Int)/65536=((x/65536:Nat):Int):=by omega
    rw[gl,CX _ aG,Int.toNat_natCast];refine⟨by omega,?_⟩;have e:=aN _ aG;rw[e,lR _ (by omega)];refine⟨by unfold n7;omega,?_⟩;simp[bz,zO,aV,aY,aT];try((rw[RX x U])<;>omega)
  ·have g2:¬(65536:Int)≤x:=by omega
   by_cases ao:256≤x
   ·have g3:(256:Int)≤x:=by omega
    (with_reducible repeat' first|refine aj ?_|simp[oN,g2,g3,A0,AZ,A1,yB]);have aG:x/256<256:=by omega
    have lb:=ae _ aG;have gl:(x:Int)/256=((x/256:Nat):Int):=by omega
    rw[gl,CX _ aG,Int.toNat_natCast];refine⟨by omega,?_⟩;have e:=aN _ aG;rw[e,lR _ (by omega)];refine⟨by unfold n7;omega,?_⟩;simp[bz,zO,aV,aY,aT];try((rw[R0 x ao])<;>omega)
   ·have g3:¬(256:Int)≤x:=by omega
    (with_reducible repeat' first|refine aj ?_|simp[oN,g2,g3,A0,AZ,A1,yB]);have aG:x<256:=by omega
    have lb:=ae _ aG;have gl:(x:Int)=((x:Nat):Int):=by omega
    rw[gl,CX _ aG,Int.toNat_natCast];refine⟨by omega,?_⟩;have e:=aN _ aG;rw[e,lR _ (by omega)];refine⟨by unfold n7;omega,?_⟩;simp[bz,zO,aV,aY,aT];try((rw[show Sort.bitsLen x=Sort.bitsLen x from rfl])<;>omega)
theorem ajM(x:Nat)(ad:x<1099511627776):b7 az 209 [.int .u64 x] (.int .i64 (Sort.bitsLen x)):=by refine b7.mk mixed nx Z2 agq (by simp) (by simp[aF]) fun aU=>?_;unfold Oh;have aeN:=ajN x ad;exact cZ
theorem XS(x:Nat)(ad:x<1099511627776):Sort.bitsLen x≤40:=by
 unfold Sort.bitsLen;split
 ·omega
 ·rename_i h;have:=(Nat.log2_lt h (k:=40)).2 (by omega);omega
theorem ajw{x:Nat}(h:x≠0):2 ^ Sort.bitsLen x≤2*x∧x<2 ^ Sort.bitsLen x:=by unfold Sort.bitsLen;rw[if_neg h];have J:=Nat.log2_self_le h;have U:=Nat.lt_log2_self (n:=x);rw[Nat.pow_succ];rw[Nat.pow_succ]at U;omega
theorem akj(x:Nat)(ad:x<1099511627776):b7 az 279 [.int .i64 x] (.int .u64 (1<<<Sort.bitsLen x:Nat)):=by
 have ae:=XS x ad;have ak:gU.wrap ((x:Nat):Int)=x:=by simp[rU,mW,qG];omega
 have aA:gU.wrap ((Sort.bitsLen x:Nat):Int)=Sort.bitsLen x:=by simp[rU,mW,qG];omega
 refine b7.mk mixed nx aaa agy (by simp) (by simp[aF]) fun aU=>?_;unfold Ot;simp[ak];refine cD.val (by simp) (ajM x ad) ?_;simp[ak,aA];simp[bz,UU,aV,aY,aT];have hm:min (Sort.bitsLen x) gU.bits=Sort.bitsLen x:=by simp[mW];omega
 have bF:2 ^ Sort.bitsLen x≤2 ^ 40:=Nat.pow_le_pow_right (by omega) ae;rw[hm];have av:((2:Int) ^ Sort.bitsLen x)=((2 ^ Sort.bitsLen x:Nat):Int):=by simp
 have tD:((1<<<Sort.bitsLen x:Nat):Int)=((2 ^ Sort.bitsLen x:Nat):Int):=by rw[Nat.one_shiftLeft]
 have sf:gU.wrap ((2:Int) ^ Sort.bitsLen x)=((1<<<Sort.bitsLen x:Nat):Int):=by rw[av,tD];generalize 2 ^ Sort.bitsLen x=y at bF;simp[rU,mW,qG];omega
 simpa using sf
def mo(r:Nat):cF:=⟨[(.obj 902,[.int .u64 r])],[]⟩
theorem G8(r:Nat):dG (mo r):=by unfold mo;exact(dG.of ⟨by intro m;simp[Pv.look],by intro m;simp[Pv.look]⟩ (by simp[aO,aF,inObs,Pv.look]) (by simp[aO,aF,inObs,Pv.look]))
theorem MU(a b:Nat):Same (mo a) (mo b):=⟨fun k=>by simp only[mo,Pv.look];split<;>rfl,fun _=>rfl⟩
theorem Hq(a b:Nat)(br:a<18446744073709551616)(ae:b<18446744073709551616):gU.wrap ((lz gU.bits (a:Int) ^^^ lz gU.bits (b:Int)).toNat:Int)=(a ^^^ b:Nat):=by
 have ao:a ^^^ b<18446744073709551616:=Nat.xor_lt_two_pow (n:=64) br ae;have e:(lz gU.bits (a:Int) ^^^ lz gU.bits (b:Int)).toNat=a ^^^ b:=by
  rw[BitVec.toNat_xor,BitVec.toNat_ofInt,BitVec.toNat_ofInt];have ak:((a:Int)%(2 ^ gU.bits:Nat)).toNat=a:=by simp[mW];omega
  have aA:((b:Int)%(2 ^ gU.bits:Nat)).toNat=b:=by simp[mW];omega
  rw[ak,aA]
 rw[e];generalize a ^^^ b=c at ao;simp[rU,mW,qG];omega
theorem aiP(r:Nat):gU.wrap ((r:Int)*2 ^ (min 13 gU.bits))=(r*8192%18446744073709551616:Nat):=by simp[rU,mW,qG]
theorem aiQ(r:Nat):gU.wrap ((r:Int)*2 ^ (min 17 gU.bits))=(r*131072%18446744073709551616:Nat):=by simp[rU,mW,qG]
theorem aiR(r:Nat):((r:Int)).fdiv (2 ^ (min 7 gU.bits))=(r/128:Nat):=by rw[show(2:Int) ^ (min 7 gU.bits)=128 from by decide,Int.fdiv_eq_ediv_of_nonneg _ (by omega)];omega
theorem abj(r:Nat)(aI:r<18446744073709551616):bB az 280 [.ptr (.obj 902) 0] (mo r) fun eD ah=>eD= .int .u64 (Sort.xorNextN r)∧ah=mo (Sort.xorNextN r):=by
 have af:=G8 r;unfold mo at af⊢;refine bB.mk mixed nx aam agK (by simp) af.obj fun aU cH=>?_;unfold OF;obtain⟨m1,Je⟩:∃m,m=r*8192%18446744073709551616:=⟨_,rfl⟩;have s1:=aiP r;rw[←Je]at s1;have jJ:m1<18446744073709551616:=by omega
 obtain⟨bp,kT⟩:∃m,m=r ^^^ m1:=⟨_,rfl⟩;have t1:=Hq r m1 aI jJ;rw[←kT]at t1;have S5:bp<18446744073709551616:=by rw[kT];exact Nat.xor_lt_two_pow (n:=64) aI jJ
 obtain⟨m2,RD⟩:∃m,m=bp/128:=⟨_,rfl⟩;have s2:=aiR bp;rw[←RD]at s2;have gG:m2<18446744073709551616:=by omega
 obtain⟨a2,ps⟩:∃m,m=bp ^^^ m2:=⟨_,rfl⟩;have t2:=Hq bp m2 S5 gG;rw[←ps]at t2;have aeP:a2<18446744073709551616:=by rw[ps];exact Nat.xor_lt_two_pow (n:=64) S5 gG
 obtain⟨m3,RE⟩:∃m,m=a2*131072%18446744073709551616:=⟨_,rfl⟩;have s3:=aiQ a2;rw[←RE]at s3;have aeO:m3<18446744073709551616:=by omega
 obtain⟨a3,Ej⟩:∃m,m=a2 ^^^ m3:=⟨_,rfl⟩;have t3:=Hq a2 m3 aeP aeO;rw[←Ej]at t3;have b4:Sort.xorNextN r=a3:=by unfold Sort.xorNextN;simp only[←Je,←kT,←RD,←ps,←RE,←Ej]
 rw[b4];simp[-BitVec.toNat_xor,-BitVec.ofInt_natCast,s1,t1,s2,t2,s3,t3];have aZ:=G8 a3;have b1:=MU r a3;unfold mo at aZ b1;refine cG.at _ (.inl rfl) aZ b1 aE aE ?_;simp[cM,UY,aV,aY,aT]
end Go.Proofs.YtohaalphocaebaaGreat
namespace Go.Proofs.YtohaalphocaebaaGreat
open Go Go.Pv
variable {α:Type} [Inhabited α] {S:List α→cF} {n g b5:Nat} {lc bZ:List ai} {lt:α→α→Bool}
theorem XN(a b:Nat)(br:a<18446744073709551616)(ae:b<18446744073709551616):gU.wrap ((lz gU.bits (a:Int)&&& lz gU.bits (b:Int)).toNat:Int)=(a&&& b:Nat):=by
 have ao:a&&& b<18446744073709551616:=Nat.lt_of_le_of_lt Nat.and_le_left br;have e:(lz gU.bits (a:Int)&&& lz gU.bits (b:Int)).toNat=a&&& b:=by
  rw[BitVec.toNat_and,BitVec.toNat_ofInt,BitVec.toNat_ofInt];have ak:((a:Int)%(2 ^ gU.bits:Nat)).toNat=a:=by simp[mW];omega
  have aA:((b:Int)%(2 ^ gU.bits:Nat)).toNat=b:=by simp[mW];omega
  rw[ak,aA]
 rw[e];generalize a&&& b=c at ao;simp[rU,mW,qG];omega
def x9(a len M i0:Nat)(d:Array α):Nat→UInt64×Array α
 |0=>(UInt64.ofNat len,d)
 |k+1=>Sort.breakStep a len M (x9 a len M i0 d k) (i0+k)
theorem XV(d:Array α)(a b:Nat)(h:8≤b-a):Sort.breakPatterns d a b=(x9 a (b-a) (1<<<Sort.bitsLen (b-a)) (a+(b-a)/4*2-1) d 3).2:=by unfold Sort.breakPatterns;simp only[if_pos h,x9];rfl
theorem WR{ob O:List aH}{ah:cF}(fw:dG ah)(de:∀k,inObs ah k→k∈O)(tL:∀k∈ob,k∈O){st:bj}{dE:List (Nat×ai)}{L:List (aH×List ai)}{n:Nat}(aN:∀x∈dE,Pv.get x.1 st.t=x.2∧aF (lM ah n) x.2)(hz:∀x∈L,Pv.look x.1 st.b=some x.2∧lM ah n x.1∧aO (lM ah n) x.2)
  (ae:∀k cs,Pv.look k ah.b=some cs→Pv.look k st.b=some cs) (he:∀k o,Pv.look k ah.e=some o→Pv.look k st.e=some o):im ob st ⟨dE,L++ah.b,ah.e,n,O⟩:=by
 have lF:∀{k},lM ah n k→¬fresh n O k:=by
  rintro k (h|⟨m,hm,rfl⟩)
  ·exact fun aQ=>aQ.2 (de k h)
  ·intro aQ;have:=aQ.1;simp at this;omega
 refine⟨fun x ad=>⟨(aN x ad).1,vp (fun k ab=>lF ab) _ (aN x ad).2⟩,fun k cs ab=>?_,fun k o au=>?_,tL⟩
 ·simp only at ab;rw[cE]at ab;cases aq:Pv.look k L with
  |some x=>rw[aq]at ab;simp only[dt]at ab;subst ab;obtain⟨J,U,ao⟩:=hz _ (sD aq);exact⟨J,lF U,jI (fun k ab=>lF ab) _ ao⟩
  |none=>rw[aq]at ab;exact⟨ae k cs ab,lF (.inl (.inl (by simp[ab]))),jI (fun k ab=>lF (.inl ab)) _ (fw.kb k cs ab)⟩
 ·exact⟨he k o au,lF (.inl (.inr (by simp at au;simp[au]))),fun xs ad=>jI (fun k ab=>lF (.inl ab)) _ (fw.ke k o au xs ad)⟩
theorem MC{akC β:Type}(s:List (aH×β)):∀(l:List (aH×akC)),(∀k x,(k,x)∈l→Pv.look k s=none)→bR s l=l
 |[],_=>rfl
 |(k,x)::r,h=>by have J:=h k x (by simp);simp only[bR,J];rw[MC s r fun k x ad=>h k x (by simp[ad])]
def jb(S:List α→cF)(d:Array α)(r:Nat):cF:=⟨(.obj 902,[.int .u64 r])::(S d.toList).b,(S d.toList).e⟩
theorem Dl(H:eV S n g b5 lc bZ lt)(d:Array α)(v:Nat):dG (jb S d v):=by
 have h:=H.ok d.toList;have iQ:∀k,inObs (S d.toList) k→inObs (jb S d v) k:=fun k ab=>by
  rcases ab with ab|ab
  ·refine .inl ?_;simp only[jb,Pv.look];split
   ·rfl
   ·exact ab
  ·exact .inr ab
 refine⟨⟨fun m=>?_,h.obj.2⟩,fun k cs ab=>?_,fun k o au xs ad=>jI iQ _ (h.ke k o au xs ad)⟩
 ·simp[jb,Pv.look,h.obj.1 m]
 ·simp only[jb,Pv.look]at ab;split at ab
  ·cases ab;simp[aO,aF]
  ·exact jI iQ _ (h.kb k cs ab)
theorem WQ{ob O:List aH}{d2:Array α}{y:Nat}{D:List ai}(fw:dG (jb S d2 y))(de:∀k,inObs (jb S d2 y) k→k∈O)(tL:∀k∈ob,k∈O){st:bj}{dE:List (Nat×ai)}(aN:∀x∈dE,Pv.get x.1 st.t=x.2∧aF (lM (jb S d2 y) 1) x.2)(bV:Pv.look (.loc 0) st.b=some D)(wK:aO (lM (jb S d2 y) 1) D)
  (ae:∀k cs,Pv.look k (jb S d2 y).b=some cs→Pv.look k st.b=some cs) (he:∀k o,Pv.look k (jb S d2 y).e=some o→Pv.look k st.e=some o):im ob st ⟨dE,(.loc 0,D)::(.obj 902,[.int .u64 y])::(S d2.toList).b,(S d2.toList).e,1,O⟩:=
 WR (L:=[(.loc 0,D)]) fw de tL aN (fun x ad=>by simp only[rW]at ad;subst ad;exact⟨bV,TO _ _ _ (by omega),wK⟩) ae he
theorem abo(H:eV S n g b5 lc bZ lt)(ab:rA S 902)(d:Array α)(aK:d.size=n)(a b:Nat)(mz:a≤b)(ae:b≤n)(hy:8≤b-a):
  bB az 262 [eP g b5 lc bZ,.int .i64 a,.int .i64 b] (S d.toList) fun r ah=>r= .tuple []∧∃cj,ah=S cj.toList∧cj=Sort.breakPatterns d a b∧cj.size=n:=by
 have af:=H.ok d.toList;have aq:d.toList.length=n:=by simpa using aK
 have ar:∀l m,Pv.look (.loc m) (S l).b=none:=fun l=>(H.ok l).obj.1;have hu:∀l m cs,ct (.loc m) cs (S l).b=(S l).b++[(.loc m,cs)]:=fun l m cs=>jR (ar l m);have au:∀m,aH.loc m∉cR (S d.toList):=jL af.obj;have gj:∀l,Pv.look (.obj 902) (S l).b=none:=fun l=>(ab l).1;have jX:∀l,Pv.look (.obj 902) (S l).e=none:=fun l=>(ab l).2;have hle:=H.le;have lf:=TQ ab d.toList;rw[XV d a b hy];obtain⟨len,hlen⟩:∃len,len=b-a:=⟨_,rfl⟩;rw[←hlen];obtain⟨M,gK⟩:∃M,M=1<<<Sort.bitsLen len:=⟨_,rfl⟩;rw[←gK];have amb:len<M∧M≤2*len:=by have:=ajw (x:=len) (by omega);rw[gK,Nat.one_shiftLeft];omega
 obtain⟨q,bn⟩:∃q,q=len/4:=⟨_,rfl⟩;rw[←bn];have w2:∀l D cs,ct (.obj 902) cs ((S l).b++[(.loc 0,D)])=(S l).b++[(.loc 0,D),(.obj 902,cs)]:=fun l D cs=>by rw[Af (gj l)];rfl
 have R8:∀l D x y,ct (.obj 902) y ((S l).b++[(.loc 0,D),(.obj 902,x)])=(S l).b++[(.loc 0,D),(.obj 902,y)]:=fun l D x y=>by rw[Af (gj l)];simp[ct]
 have el:((b:Int)-a)=(len:Nat):=by omega
 have dq:mi.wrap ((len:Int).tdiv 4)=(q:Nat):=by rw[Int.tdiv_eq_ediv_of_nonneg (by omega),lR _ (by omega)];omega
 have ew:gU.wrap (len:Int)=len:=by simp[rU,mW,qG];omega
 refine bB.mk mixed nx Z5 agt (by simp) af.obj fun aU cH=>?_;unfold Ol;have kS:=akj len (by omega);rw[←gK]at kS;simp[eP,hu,w2,R8,au,lf,cE,ar,gj,jX,Pv.look,ct,el,ew];have ht:mi.wrap ((len:Int)/4)=(q:Nat):=by rw[lR _ (by omega)];omega
 ((with_reducible repeat' first|refine aj ?_|refine aC kS ?_|refine aD kS ?_|simp[el,ew,dq,ht,hu,w2,R8,au,lf,cE,ar,gj,jX,Pv.look,ct]|((first|apply bI|apply bK|apply bJ)<;>intro h<;>try simp at h))<;>(try exact cm));obtain⟨i0,Bq⟩:∃i0,i0=a+q*2-1:=⟨_,rfl⟩;rw[←Bq];have Yj:((a:Int)+q*2-1)=(i0:Nat):=by omega
 rw[Yj];have de:∀(cf:Array α) r k,inObs (jb S cf r) k→cf.size=n→k∈aH.obj 902::cR (S d.toList):=fun cf r k h eS=>by
  have ev:=H.same d.toList cf.toList aq (by simpa using eS);rcases h with h|h
  ·simp only[jb,Pv.look]at h;split at h
   ·rename_i e;subst e;simp
   ·exact mX _ (sK (.inl (by rw[ev.b];exact h)))
  ·exact mX _ (sK (.inr (by rw[ev.e];exact h)))
 have wT:∀(cf:Array α) r,cf.size=n→aO (lM (jb S cf r) 1) [.func g lc,.func b5 bZ]:=fun cf r eS=>by
  have J:=H.kdata (lk:=cf.toList) (by simpa using eS);have U:aO (inObs (S cf.toList)) [.func g lc,.func b5 bZ]:=by simpa[eP,aF,aO]using J
  refine jI (fun k ab=>.inl ?_) _ U;rcases ab with ab|ab
  ·refine .inl ?_;simp only[jb,Pv.look];split
   ·rfl
   ·exact ab
  ·exact .inr ab
 have amt:∀(cf:Array α) r D k cs,Pv.look k (jb S cf r).b=some cs→Pv.look k ((.loc 0,D)::(jb S cf r).b)=some cs:=fun cf r D k cs h=>by
  cases k with
  |loc m=>rw[(Dl H cf r).obj.1 m]at h;cases h
  |obj m=>simpa[Pv.look]using h
 refine nN (fun(x:Nat×UInt64×Array α)=>⟨[(1,.int .i64 a),(3,.ptr (.loc 0) 0),(6,.int .i64 len),(7,.ptr (.obj 902) 0),(8,.int .u64 M),(9,.int .i64 ((i0+x.1:Nat):Int))],[(.loc 0,[.func g lc,.func b5 bZ])]++(jb S x.2.2 x.2.1.toNat).b,(jb S x.2.2 x.2.1.toNat).e,1,aH.obj 902::cR (S d.toList)⟩) (fun x=>3-x.1)
  (fun x=>x.1≤3∧x.2.2.size=n∧x9 a len M i0 d x.1=x.2) (0,UInt64.ofNat len,d) ?_ ⟨by simp,aK,rfl⟩ ?_
 ·refine WR (Dl H d _) (fun k h=>de d _ k h aK) (fun k h=>mX _ h) (by simp[aF,inObs,jb,Pv.look,lM]) ?_ ?_ aE
  ·intro x ad;simp only[rW]at ad;subst ad;exact⟨by simp[cE,ar,Pv.look],TO _ _ _ (by omega),wT d _ aK⟩
  ·intro k cs h;simp only[jb,Pv.look]at h;rw[cE];split at h
   ·rename_i e;subst e;rw[gj];have:(UInt64.ofNat len).toNat=len:=by simp;omega
    rw[this]at h;simpa[Pv.look]using h
   ·rw[h]
 rintro⟨k,r,cf⟩ ⟨aR,be,bN⟩ _;simp only at aR be bN;have aI:=r.toNat_lt;obtain⟨x,ad⟩:∃x,x=r.toNat:=⟨_,rfl⟩;rw[←ad]at aI⊢;have iz:Sort.xorNextN x<18446744073709551616:=Sort.xorNextN_lt x (by omega);have Jk:(Sort.xorNext r).toNat=Sort.xorNextN x:=by rw[Sort.xorNext_toNat,←ad]
 obtain⟨y,aG⟩:∃y,y=Sort.xorNextN x:=⟨_,rfl⟩;have Ye:gU.wrap ((M:Int)-1)=(M-1:Nat):=by simp[rU,mW,qG];omega
 have wM:=XN y (M-1) (by omega) (by omega);obtain⟨z,bf⟩:∃z,z=y&&& (M-1):=⟨_,rfl⟩;rw[←bf]at wM;have amD:z≤M-1:=by rw[bf];exact Nat.and_le_right
 have nk:mi.wrap (z:Int)=z:=by rw[lR _ (by omega)]
 by_cases acZ:k=3
 ·subst acZ;simp[jb,Pv.look,ht];((with_reducible repeat' first|refine aj ?_|simp[ht]|((first|apply bI|apply bK|apply bJ)<;>intro h<;>try simp at h))<;>(try exact cm));refine cG.at (S cf.toList) (.inr rfl) (H.ok _) (H.same _ _ aq (by simpa using be)) (fun k cs h=>?_) (fun _ _ h=>h) ?_
  ·simp only[Pv.look];split
   ·rename_i e;subst e;rw[ar]at h;cases h
   ·split
    ·rename_i e;subst e;rw[gj]at h;cases h
    ·exact h
  ·simp[cM,UR,aV,aY,aT];exact⟨cf,rfl,by rw[bN],be⟩
 ·have Ey:((i0+k:Nat):Int)≤(a:Int)+q*2+1:=by omega
  have Ry:((i0:Int)+k)≤(a:Int)+q*2+1:=by omega
  simp[jb,Pv.look,ht,Ry,Ey];(with_reducible repeat' first|refine aj ?_|simp[ht,Ry,Ey,Pv.look]);have amA:=H.same d.toList cf.toList aq (by simpa using be);have adT:∀(fC:Array α) (v:List ai),bR [(aH.obj 902,v)] (S fC.toList).b=(S fC.toList).b:=fun fC v=>MC _ _ fun k x hm=>by
   have:=ua hm;simp only[Pv.look];split
   ·rename_i e;subst e;rw[gj]at this;cases this
   ·rfl
  refine cD.ob (abj x (by omega)) (G8 x) (fun k cs h=>?_) (fun k o h=>by simp[mo,Pv.look]at h) (by simp[aF,aO,inObs,mo,Pv.look]) ?_
  ·simp only[mo,Pv.look]at h⊢;split at h
   ·rename_i e;subst e;simpa using h
   ·cases h
  rintro eD ah ⟨rfl,rfl⟩;refine⟨MU _ _,?_⟩;rw[←aG];have Ze:bR (mo x).b ((aH.loc 0,[ai.func g lc,ai.func b5 bZ])::(aH.obj 902,[ai.int .u64 x])::(S cf.toList).b)=(aH.loc 0,[ai.func g lc,ai.func b5 bZ])::(S cf.toList).b:=by simp[mo,bR,Pv.look,adT]
  have Zf:bR (mo x).e (S cf.toList).e=(S cf.toList).e:=MC _ _ fun _ _ _=>rfl;rw[Ze,Zf,show(mo y).b=[(aH.obj 902,[ai.int .u64 y])]from rfl,show(mo y).e=[]from rfl,List.append_nil];have al9:∀(v:List ai),Pv.look (.obj 902) ((aH.loc 0,[ai.func g lc,ai.func b5 bZ])::((S cf.toList).b++[(aH.obj 902,v)]))=some v:=fun v=>by simp[Pv.look,cE,gj]
  have Nl:∀o',o'<len→o'=(if z≥len then z-len else z)→Sort.breakStep a len M (r,cf) (i0+k)=(Sort.xorNext r,Sort.swp cf (i0+k) (a+o')):=fun o' J U=>by unfold Sort.breakStep;simp only[Jk,←aG,←bf,←U]
  have PJ:((i0:Int)+k)=((i0+k:Nat):Int):=by omega
  simp only[eK,aH.obj.injEq];simp[-BitVec.toNat_and,-BitVec.ofInt_natCast,Ye,wM,nk,Pv.look,H.ssc];by_cases amE:len≤z
  ·have JJ:(len:Int)≤z:=by omega
   have H6:((a:Int)+(z-len))=((a+(z-len):Nat):Int):=by omega
   ((with_reducible repeat' first|refine aj ?_|simp[JJ,Pv.look,H.ssc]|((first|apply bI|apply bK|apply bJ)<;>intro h<;>try simp at h))<;>(try exact cm));rw[H6,PJ];refine cD.ob (H.swap cf.toList (by simpa using be) (by omega) (i0+k) (a+(z-len)) (by omega) (by omega)) (H.ok _) (fun bD cs h=>?_) (fun _ _ h=>h) (by simp[aF,aO,H.ksc cf.toList (by simpa using be)]) ?_
   ·simp only[Pv.look];split
    ·rename_i e;subst e;rw[ar]at h;cases h
    ·rw[cE,h]
   rintro eD ah ⟨rfl,rfl⟩;refine⟨H.same _ _ (by simpa using be) (by simpa using be),?_⟩;rw[Fp cf (by omega) (by omega)];obtain⟨d2,eI⟩:∃d2,d2=Sort.swp cf (i0+k) (a+(z-len)):=⟨_,rfl⟩;have s2:d2.size=n:=by rw[eI,gA,be]
   rw[←eI];have Ia:∀v:List ai,bR (S cf.toList).b ((aH.loc 0,[ai.func g lc,ai.func b5 bZ])::((S cf.toList).b++[(aH.obj 902,v)]))=[(aH.loc 0,[ai.func g lc,ai.func b5 bZ]),(aH.obj 902,v)]:=fun v=>by simp only[bR,ar];rw[ig,gH];simp[bR,gj]
   dsimp only;rw[Ia,gH];simp;(with_reducible repeat' first|refine aj ?_|simp);have H2:((i0:Int)+k+1)=((i0+(k+1):Nat):Int):=by omega
   rw[H2];refine bT.whl (k+1,Sort.xorNext r,d2) (by simp;omega) ⟨by simp;omega,s2,by simp only[x9,bN];rw[Nl (z-len) (by omega) (by rw[if_pos (by omega)]),eI]⟩ ?_;rw[Jk,←aG];refine WQ (Dl H d2 y) (fun k h=>de d2 _ k h s2) (fun k h=>mX _ h) (by simp[aF,inObs,jb,Pv.look,lM]) (by simp[Pv.look]) (wT d2 _ s2) ?_ (fun _ _ h=>h);intro k cs h;simp only[jb,Pv.look]at h⊢;split at h
   ·rename_i e;subst e;simpa using h
   ·rename_i e;split
    ·rename_i aA;subst aA;rw[ar]at h;cases h
    ·exact h
  ·have JJ:¬(len:Int)≤z:=by omega
   have H6:((a:Int)+z)=((a+z:Nat):Int):=by omega
   ((with_reducible repeat' first|refine aj ?_|simp[JJ,Pv.look,H.ssc]|((first|apply bI|apply bK|apply bJ)<;>intro h<;>try simp at h))<;>(try exact cm));rw[H6,PJ];refine cD.ob (H.swap cf.toList (by simpa using be) (by omega) (i0+k) (a+z) (by omega) (by omega)) (H.ok _) (fun bD cs h=>?_) (fun _ _ h=>h) (by simp[aF,aO,H.ksc cf.toList (by simpa using be)]) ?_
   ·simp only[Pv.look];split
    ·rename_i e;subst e;rw[ar]at h;cases h
    ·rw[cE,h]
   rintro eD ah ⟨rfl,rfl⟩;refine⟨H.same _ _ (by simpa using be) (by simpa using be),?_⟩;rw[Fp cf (by omega) (by omega)];obtain⟨d2,eI⟩:∃d2,d2=Sort.swp cf (i0+k) (a+z):=⟨_,rfl⟩;have s2:d2.size=n:=by rw[eI,gA,be]
   rw[←eI];have Ia:∀v:List ai,bR (S cf.toList).b ((aH.loc 0,[ai.func g lc,ai.func b5 bZ])::((S cf.toList).b++[(aH.obj 902,v)]))=[(aH.loc 0,[ai.func g lc,ai.func b5 bZ]),(aH.obj 902,v)]:=fun v=>by simp only[bR,ar];rw[ig,gH];simp[bR,gj]
   dsimp only;rw[Ia,gH];simp;(with_reducible repeat' first|refine aj ?_|simp);have H2:((i0:Int)+k+1)=((i0+(k+1):Nat):Int):=by omega
   rw[H2];refine bT.whl (k+1,Sort.xorNext r,d2) (by simp;omega) ⟨by simp;omega,s2,by simp only[x9,bN];rw[Nl z (by omega) (by rw[if_neg (by omega)]),eI]⟩ ?_;rw[Jk,←aG];refine WQ (Dl H d2 y) (fun k h=>de d2 _ k h s2) (fun k h=>mX _ h) (by simp[aF,inObs,jb,Pv.look,lM]) (by simp[Pv.look]) (wT d2 _ s2) ?_ (fun _ _ h=>h);intro k cs h;simp only[jb,Pv.look]at h⊢;split at h
   ·rename_i e;subst e;simpa using h
   ·rename_i e;split
    ·rename_i aA;subst aA;rw[ar]at h;cases h
    ·exact h
end Go.Proofs.YtohaalphocaebaaGreat
namespace Go.Proofs.YtohaalphocaebaaGreat
open Go Go.Pv
variable {α:Type} [Inhabited α] {S:List α→cF} {n g b5:Nat} {lc bZ:List ai} {lt:α→α→Bool}
theorem eV.fnD{d d2:Array α}(H:eV S n g b5 lc bZ lt)(J:d.size=n){f:Nat}{args:List ai}{r:ai}(aQ:bB az f args (S d.toList) fun eD ah=>eD=r∧∃cj,ah=S cj.toList∧cj=d2∧cj.size=n)(ab:aO (inObs (S d.toList)) args){t:List (Nat×ai)}{D:List ai}{o:List aH}{cj:Option Nat}{K:bj→Prop}
  (h:d2.size=n→∀o,K ⟨eK cj r t,(.loc 0,D)::(S d2.toList).b,(S d2.toList).e,1,o⟩):cD az f args ⟨t,(.loc 0,D)::(S d.toList).b,(S d.toList).e,1,o⟩ cj K:=
 H.call (by simpa using J) (R:=fun eD aX=>eD=r∧aX=d2.toList∧d2.size=n) (aQ.mono fun r ah ⟨ak,cj,aA,bs,dq⟩=>⟨cj.toList,aA,ak,by rw[bs],by rw[←bs];exact dq⟩) (fun r aX ⟨_,e,h⟩=>by rw[e];simpa using h) ab (by rintro eD aX ⟨rfl,rfl,U⟩;exact h U _)
attribute [local simp] oM
def Aw(S:List α→cF)(n g b5:Nat)(lc bZ:List ai)(lt:α→α→Bool)(m:Nat):Prop:=
 ∀k,k<m→∀(d:Array α),d.size=n→∀a b vt:Nat,b-a≤k→a≤b→b≤n→vt≤1000→Sort.Below lt a b d→
  bB az 210 [eP g b5 lc bZ,.int .i64 a,.int .i64 b,.int .i64 vt] (S d.toList) fun r ah=>r= .tuple []∧∃cj,ah=S cj.toList∧Sort.PermIn a b d cj∧Sort.SortedIn lt a b cj
structure we (S:List α→cF) (n g b5:Nat) (lc bZ:List ai) (lt:α→α→Bool) (bh b0 lim:Nat) (d:Array α) (Q:Exit→bj→Prop):Prop where
 k:∀e,e= .normal∨e= .exit 1→∀(a2 b3:Nat) (w v:Bool) (L:Array α) (t:List (Nat×ai)) (o:List aH),L.size=n→a2≤b3→b3≤n→b3-a2<b0-bh→Sort.Below lt a2 b3 L→(∀R,Sort.PermIn a2 b3 L R→Sort.SortedIn lt a2 b3 R→Sort.PermIn bh b0 d R∧Sort.SortedIn lt bh b0 R)→
  Pv.get 1 t= .int .i64 a2→Pv.get 2 t= .int .i64 b3→Pv.get 3 t= .int .i64 lim→Pv.get 4 t= .ptr (.loc 0) 0→Pv.get 8 t= .bool w→Pv.get 9 t= .bool v→Q e ⟨t,(.loc 0,[.func g lc,.func b5 bZ])::(S L.toList).b,(S L.toList).e,1,o⟩
 r:∀(R:Array α) t o,Sort.PermIn bh b0 d R→Sort.SortedIn lt bh b0 R→Q .ret ⟨t,(.loc 0,[.func g lc,.func b5 bZ])::(S R.toList).b,(S R.toList).e,1,o⟩
theorem we.mono{bh b0 lim:Nat}{d cj:Array α}{Q:Exit→bj→Prop}(h:we S n g b5 lc bZ lt bh b0 lim d Q)(p:Sort.PermIn bh b0 d cj):we S n g b5 lc bZ lt bh b0 lim cj Q:=⟨fun e he a2 b3 w v L t o ak aA bs dq ht hv=>h.k e he a2 b3 w v L t o ak aA bs dq ht fun R ep fe=>⟨Sort.permIn_trans _ _ _ bh b0 p (hv R ep fe).1,(hv R ep fe).2⟩,fun R t o ep fe=>h.r R t o (Sort.permIn_trans _ _ _ bh b0 p ep) fe⟩
structure x1 (t:List (Nat×ai)) (bh b0 lim:Nat):Prop where
 t1:Pv.get 1 t= .int .i64 bh
 t2:Pv.get 2 t= .int .i64 b0
 t3:Pv.get 3 t= .int .i64 lim
 t4:Pv.get 4 t= .ptr (.loc 0) 0
 t10:Pv.get 10 t= .int .i64 ((b0:Int)-bh)
section
variable {bh b0 lim:Nat} {cB:Array α} {t:List (Nat×ai)} {o:List aH} {ob:List aH} {Q:Exit→bj→Prop}
theorem Ui(H:eV S n g b5 lc bZ lt)(bq:Sort.SWO lt)(bW:Aw S n g b5 lc bZ lt (b0-bh)){pv:Nat}(T:x1 t bh b0 lim)(t11:Pv.get 11 t= .int .i64 pv)(rb:lim≤1000)(oh:cB.size=n)(pA:bh≤pv∧pv<b0)(bN:b0≤n)(sc:12<b0-bh)(s8:Sort.Below lt bh b0 cB)(hM:we S n g b5 lc bZ lt bh b0 lim cB Q):
  cT az ob HF Q ⟨t,(.loc 0,[.func g lc,.func b5 bZ])::(S cB.toList).b,(S cB.toList).e,1,o⟩:=by
 obtain⟨t1,t2,t3,t4,t10⟩:=T;have sp:∀fC:Array α,fC.size=n→aF (inObs (S fC.toList)) (eP g b5 lc bZ):=fun fC h=>H.kdata (lk:=fC.toList) (by simpa using h);have hle:=H.le;unfold HF;simp[t1,t2,t4,t11,Pv.look,H.slc,H.ssc];simp only[h3 H,H.slc,H.ssc,hT];have qt:=abE H cB oh bh b0 pv pA.1 pA.2 (by omega) bN;have bn:Sort.partition lt cB bh b0 pv=((Sort.partition lt cB bh b0 pv).1,(Sort.partition lt cB bh b0 pv).2.1,(Sort.partition lt cB bh b0 pv).2.2):=rfl;generalize (Sort.partition lt cB bh b0 pv).1=mid at qt bn;generalize (Sort.partition lt cB bh b0 pv).2.1=ap at qt bn;generalize (Sort.partition lt cB bh b0 pv).2.2=d4 at qt bn;obtain⟨g1,g2,g3,g4,g5,g6,g7⟩:=Sort.round_part bq (Sort.partition_holds lt) pA.1 pA.2 (by omega) s8 bn;refine H.fnD oh qt (by simp[aF,aO,sp cB oh]) fun s4 o=>?_;have em:((mid:Int)+1)=(mid+1:Nat):=by omega
 simp[t1,t2,t3,t4,t10];by_cases amu:mid-bh<b0-mid
 ·have Jc:(mid:Int)-bh<b0-mid:=by omega
  (with_reducible repeat' first|refine aj ?_|simp[Jc,Pv.look,t1,t2,t3,t4,t10]);simp only[h3 H,H.slc,H.ssc,hT];refine H.doFn (lk:=d4.toList) (by simpa using s4) (R:=fun aX=> ∃L:Array α,aX=L.toList∧Sort.PermIn bh mid d4 L∧Sort.SortedIn lt bh mid L) ((bW (mid-bh) (by omega) d4 s4 bh mid lim (e1 _) g1 (by omega) rb g4).mono fun r ah ⟨a1,cj,bt,b2,c2⟩=>⟨a1,cj.toList,bt,cj,rfl,b2,c2⟩) (by rintro aX ⟨L,rfl,q,_⟩;simpa using q.1.trans s4) (by simp[aO,aF,sp d4 s4]) ?_;rintro aX ⟨L,rfl,cQ,dm⟩;obtain⟨kr,oq⟩:=g6 L cQ dm;simp;(with_reducible repeat' first|refine aj ?_|simp[t1,t2,t3,t4]);rw[em];exact hM.k _ (.inl rfl) (mid+1) b0 _ ap L _ _ (cQ.1.trans s4) (by omega) bN (by omega) kr oq (by simp) (by simp[t2]) (by simp[t3]) (by simp[t4]) (by simp;rfl) (by simp)
 ·have Jc:¬(mid:Int)-bh<b0-mid:=by omega
  (with_reducible repeat' first|refine aj ?_|simp[Jc,Pv.look,t1,t2,t3,t4,t10]);simp only[h3 H,H.slc,H.ssc,hT];rw[em];refine H.doFn (lk:=d4.toList) (by simpa using s4) (R:=fun aX=> ∃L:Array α,aX=L.toList∧Sort.PermIn (mid+1) b0 d4 L∧Sort.SortedIn lt (mid+1) b0 L) ((bW (b0-(mid+1)) (by omega) d4 s4 (mid+1) b0 lim (e1 _) (by omega) bN rb g5).mono fun r ah ⟨a1,cj,bt,b2,c2⟩=>⟨a1,cj.toList,bt,cj,rfl,b2,c2⟩) (by rintro aX ⟨L,rfl,q,_⟩;simpa using q.1.trans s4) (by simp[aO,aF,sp d4 s4]) ?_;rintro aX ⟨L,rfl,cQ,dm⟩;obtain⟨kr,oq⟩:=g7 L cQ dm;simp;(with_reducible repeat' first|refine aj ?_|simp[t1,t2,t3,t4]);exact hM.k _ (.inl rfl) bh mid _ ap L _ _ (cQ.1.trans s4) g1 (by omega) (by omega) kr oq (by simp[t1]) (by simp) (by simp[t3]) (by simp[t4]) (by simp;rfl) (by simp)
theorem ahv(H:eV S n g b5 lc bZ lt)(bq:Sort.SWO lt)(bW:Aw S n g b5 lc bZ lt (b0-bh)){pv:Nat}(T:x1 t bh b0 lim)(t11:Pv.get 11 t= .int .i64 pv){w v:Bool}(t8:Pv.get 8 t= .bool w)(t9:Pv.get 9 t= .bool v)(rb:lim≤1000)(oh:cB.size=n)(pA:bh≤pv∧pv<b0)(bN:b0≤n)(sc:12<b0-bh)(s8:Sort.Below lt bh b0 cB)(hM:we S n g b5 lc bZ lt bh b0 lim cB Q):
  cT az ob AK Q ⟨t,(.loc 0,[.func g lc,.func b5 bZ])::(S cB.toList).b,(S cB.toList).e,1,o⟩:=by
 obtain⟨t1,t2,t3,t4,t10⟩:=id T;have hle:=H.le;unfold AK;by_cases se:0<bh
 ·have IT:(0:Int)<bh:=by omega
  simp[t1,t2,t4,t11,se,IT,Pv.look,H.slc,H.ssc];(with_reducible repeat' first|refine aj ?_|simp[t1,t2,t4,t11,se,IT,Pv.look,H.slc,H.ssc]);rw[show((bh:Int)-1)=((bh-1:Nat):Int) by omega];refine H.lessA oh (bh-1) pv (by omega) (by omega) fun o=>?_;cases jv:lt cB[bh-1]! cB[pv]!
  ·simp;(with_reducible repeat' first|refine aj ?_|simp[Pv.look,H.slc,H.ssc,t1,t2,t4,t11]);simp only[h3 H,H.slc,H.ssc,hT];have qt:=abF H cB oh bh b0 pv pA.1 pA.2 (by omega) bN;have bn:Sort.partitionEqual lt cB bh b0 pv=((Sort.partitionEqual lt cB bh b0 pv).1,(Sort.partitionEqual lt cB bh b0 pv).2):=rfl;generalize (Sort.partitionEqual lt cB bh b0 pv).1=mid at qt bn;generalize (Sort.partitionEqual lt cB bh b0 pv).2=d4 at qt bn;obtain⟨g1,g2,g3,g4,g5⟩:=Sort.round_eq bq (Sort.partitionEqual_holds lt) se pA.1 pA.2 (by omega) s8 jv bn;refine H.fnD oh qt (by simp[aF,aO,H.kdata (lk:=cB.toList) (by simpa using oh)]) fun s4 o=>?_;simp[t1,t2,t3,t4];exact hM.k _ (.inr rfl) mid b0 w v d4 _ _ s4 g2 bN (by omega) g4 g5 (by simp) (by simp[t2]) (by simp[t3]) (by simp[t4]) (by simp[t8]) (by simp[t9])
  ·simp;exact Ui H bq bW ⟨by simp[t1],by simp[t2],by simp[t3],by simp[t4],by simp[t10]⟩ (by simp[t11]) rb oh pA bN sc s8 hM
 ·have IT:¬(0:Int)<bh:=by omega
  simp[t1,se];exact Ui H bq bW ⟨by simp[t1],by simp[t2],by simp[t3],by simp[t4],by simp[t10]⟩ (by simp[t11]) rb oh pA bN sc s8 hM
theorem KY(H:eV S n g b5 lc bZ lt)(bq:Sort.SWO lt)(bW:Aw S n g b5 lc bZ lt (b0-bh)){pv:Nat}(T:x1 t bh b0 lim)(t11:Pv.get 11 t= .int .i64 pv){h:Nat}(t12:Pv.get 12 t= .int .i64 h){w v:Bool}(t8:Pv.get 8 t= .bool w)(t9:Pv.get 9 t= .bool v)(rb:lim≤1000)(oh:cB.size=n)(pA:bh≤pv∧pv<b0)(bN:b0≤n)(sc:12<b0-bh)(s8:Sort.Below lt bh b0 cB)(hM:we S n g b5 lc bZ lt bh b0 lim cB Q):
  cT az ob HG Q ⟨t,(.loc 0,[.func g lc,.func b5 bZ])::(S cB.toList).b,(S cB.toList).e,1,o⟩:=by
 obtain⟨t1,t2,t3,t4,t10⟩:=id T;have hle:=H.le;unfold HG;have next:∀{d5:Array α} {t o},x1 t bh b0 lim→Pv.get 11 t= .int .i64 pv→Pv.get 8 t= .bool w→Pv.get 9 t= .bool v→d5.size=n→Sort.Below lt bh b0 d5→Sort.PermIn bh b0 cB d5→cT az ob AK Q ⟨t,(.loc 0,[.func g lc,.func b5 bZ])::(S d5.toList).b,(S d5.toList).e,1,o⟩:=fun ak aA bs dq ht hv qR=>ahv H bq bW ak aA bs dq rb ht pA bN sc hv (hM.mono qR)
 have skip:∀{t o},x1 t bh b0 lim→Pv.get 11 t= .int .i64 pv→Pv.get 8 t= .bool w→Pv.get 9 t= .bool v→cT az ob AK Q ⟨t,(.loc 0,[.func g lc,.func b5 bZ])::(S cB.toList).b,(S cB.toList).e,1,o⟩:=fun ak aA bs dq=>next ak aA bs dq oh s8 (Sort.permIn_refl _ _ _)
 by_cases av:(w=true∧v=true)∧h=1
 ·obtain⟨⟨rfl,rfl⟩,rfl⟩:=av;simp[t1,t2,t4,t8,t9,t12,Pv.look,H.slc,H.ssc];simp only[h3 H,H.slc,H.ssc,hT];have qt:=abD H cB oh bh b0 (by omega) bN (by omega);have bn:=Sort.partialInsertionSort_holds bq cB bh b0 (by omega) (by omega) s8;generalize (Sort.partialInsertionSort lt cB bh b0).1=d5 at qt bn;generalize (Sort.partialInsertionSort lt cB bh b0).2=ok at qt bn;refine H.fnD oh qt (by simp[aF,aO,H.kdata (lk:=cB.toList) (by simpa using oh)]) fun aiD o=>?_;cases ok
  ·simp;exact next ⟨by simp[t1],by simp[t2],by simp[t3],by simp[t4],by simp[t10]⟩ (by simp[t11]) (by simp[t8]) (by simp[t9]) aiD (s8.perm (by omega) bn.1) bn.1
  ·simp;exact hM.r _ _ _ bn.1 (bn.2 rfl)
 ·cases w
  ·simp[t8,t9,t12];exact skip ⟨by simp[t1],by simp[t2],by simp[t3],by simp[t4],by simp[t10]⟩ (by simp[t11]) (by simp[t8]) (by simp[t9])
  ·cases v
   ·simp[t8,t9,t12];exact skip ⟨by simp[t1],by simp[t2],by simp[t3],by simp[t4],by simp[t10]⟩ (by simp[t11]) (by simp[t8]) (by simp[t9])
   ·have J:((h:Int)==1)=false:=by simp at av⊢;omega
    simp[t8,t9,t12,J];exact skip ⟨by simp[t1],by simp[t2],by simp[t3],by simp[t4],by simp[t10]⟩ (by simp[t11]) (by simp[t8]) (by simp[t9])
theorem Uj(H:eV S n g b5 lc bZ lt)(gj:rA S 901)(bq:Sort.SWO lt)(bW:Aw S n g b5 lc bZ lt (b0-bh))(T:x1 t bh b0 lim){w v:Bool}(t8:Pv.get 8 t= .bool w)(t9:Pv.get 9 t= .bool v)(rb:lim≤1000)(s1:cB.size=n)(bN:b0≤n)(sc:12<b0-bh)(GZ:Sort.Below lt bh b0 cB)(hM:we S n g b5 lc bZ lt bh b0 lim cB Q):
  cT az ob HH Q ⟨t,(.loc 0,[.func g lc,.func b5 bZ])::(S cB.toList).b,(S cB.toList).e,1,o⟩:=by
 obtain⟨t1,t2,t3,t4,t10⟩:=id T;have hle:=H.le;have sp:∀fC:Array α,fC.size=n→aF (inObs (S fC.toList)) (eP g b5 lc bZ):=fun fC h=>H.kdata (lk:=fC.toList) (by simpa using h);unfold HH;simp[t1,t2,t4,Pv.look,H.slc,H.ssc];simp only[h3 H,H.slc,H.ssc,hT];have tC:=Sort.choosePivot_holds lt cB bh b0 (by omega);have JX:=abp H gj cB s1 bh b0 (by omega) bN;generalize Sort.choosePivot lt cB bh b0=HS at JX tC;obtain⟨p,hint⟩:=HS;simp only at JX tC;refine H.fnA s1 s1 JX (by simp[aF,aO,sp cB s1]) fun o=>?_;cases hint
 ·simp[yM];exact KY H bq bW ⟨by simp[t1],by simp[t2],by simp[t3],by simp[t4],by simp[t10]⟩ (pv:=p) (by simp) (h:=0) (by simp) (w:=w) (v:=v) (by simp[t8]) (by simp[t9]) rb s1 tC bN sc GZ hM
 ·simp[yM];exact KY H bq bW ⟨by simp[t1],by simp[t2],by simp[t3],by simp[t4],by simp[t10]⟩ (pv:=p) (by simp) (h:=1) (by simp) (w:=w) (v:=v) (by simp[t8]) (by simp[t9]) rb s1 tC bN sc GZ hM
 ·simp[yM,t1,t2,t4,Pv.look,H.slc,H.ssc];simp only[h3 H,H.slc,H.ssc,hT];refine H.fnD s1 (abK H cB s1 bh b0 (by omega) bN (by omega)) (by simp[aF,aO,sp cB s1]) fun s2 o=>?_;have aI:=Sort.reverseRange_holds cB bh b0 (by omega) (by omega);have PN:((b0:Int)-1-(p-bh))=((b0-1)-(p-bh):Nat):=by omega
  simp[t1,t2,PN];(with_reducible repeat' first|refine aj ?_|simp[PN,t1,t2]);exact KY H bq bW ⟨by simp[t1],by simp[t2],by simp[t3],by simp[t4],by simp[t10]⟩ (pv:=(b0-1)-(p-bh)) (by simp) (h:=1) (by simp) (w:=w) (v:=v) (by simp[t8]) (by simp[t9]) rb s2 (by omega) bN sc (GZ.perm (by omega) aI) (hM.mono aI)
end
theorem abG(H:eV S n g b5 lc bZ lt)(gj:rA S 901)(jX:rA S 902)(bq:Sort.SWO lt)(m:Nat):∀(d:Array α) (aK:d.size=n) (a b vt:Nat) (hm:b-a≤m) (mz:a≤b) (ae:b≤n) (ib:vt≤1000) (Bg:Sort.Below lt a b d),
  bB az 210 [eP g b5 lc bZ,.int .i64 a,.int .i64 b,.int .i64 vt] (S d.toList) fun r ah=>r= .tuple []∧∃cj,ah=S cj.toList∧Sort.PermIn a b d cj∧Sort.SortedIn lt a b cj:=by
 induction m using qI with
 |ind m bW=>
 intro d aK a b vt hm mz ae ib Bg;have af:=H.ok d.toList;have aq:d.toList.length=n:=by simpa using aK
 have ar:∀l m,Pv.look (.loc m) (S l).b=none:=fun l=>(H.ok l).obj.1;have hu:∀l m cs,ct (.loc m) cs (S l).b=(S l).b++[(.loc m,cs)]:=fun l m cs=>jR (ar l m);have au:∀m,aH.loc m∉cR (S d.toList):=jL af.obj;have hle:=H.le;refine bB.mk mixed nx aaf agD (by simp) af.obj fun aU cH=>?_;unfold Oy;simp[eP,hu,au,cE,ar];refine H.loopA aq [4] (fun(x:((Nat×Nat×Nat)×Bool×Bool)×Array α)=>[(1,.int .i64 x.1.1.1),(2,.int .i64 x.1.1.2.1),(3,.int .i64 x.1.1.2.2),(8,.bool x.1.2.1),(9,.bool x.1.2.2)]) (·.2) (fun x=>x.1.1.2.1-x.1.1.1) (fun x=>x.2.size=n∧(x.1.1.1≤x.1.1.2.1∧x.1.1.2.1≤n∧x.1.1.2.1-x.1.1.1≤m∧x.1.1.2.2≤1000)∧Sort.Below lt x.1.1.1 x.1.1.2.1 x.2∧∀R,Sort.PermIn x.1.1.1 x.1.1.2.1 x.2 R→Sort.SortedIn lt x.1.1.1 x.1.1.2.1 R→Sort.PermIn a b d R∧Sort.SortedIn lt a b R)
  (((a,b,vt),true,true),d) aK ⟨aK,⟨mz,ae,hm,ib⟩,Bg,fun R J U=>⟨J,U⟩⟩ (by simp[cE,ar]) aE aE (by simp[aF]) ?_
 rintro⟨⟨⟨bh,b0,tZ⟩,aks,wp⟩,cf⟩ ⟨aR,⟨be,bN,dB,c7⟩,JV,E8⟩;simp only at aR be bN dB c7 JV E8;have sp:∀fC:Array α,fC.size=n→aF (inObs (S fC.toList)) (eP g b5 lc bZ):=fun fC h=>H.kdata (lk:=fC.toList) (by simpa using h);have Gl:∀(R:Array α) t o,Sort.PermIn bh b0 cf R→Sort.SortedIn lt bh b0 R→cG UW (S d.toList) (fun r ah=>r= .tuple []∧∃cj,ah=S cj.toList∧Sort.PermIn a b d cj∧Sort.SortedIn lt a b cj) .ret ⟨t,(.loc 0,[.func g lc,.func b5 bZ])::(S R.toList).b,(S R.toList).e,1,o⟩:=fun R t o J U=>by refine H.retA aq (by rw[J.1];exact aR) (.inl rfl) ⟨rfl,R,rfl,E8 R J U⟩
 simp;by_cases sc:b0-bh≤12
 ·have A7:(b0:Int)-bh≤12:=by omega
  (with_reducible repeat' first|refine aj ?_|simp[A7,Pv.look,H.slc,H.ssc]);simp only[h3 H,H.slc,H.ssc,hT];refine H.fnD aR (abu H cf aR bh b0 be bN) (by simp[aF,aO,sp cf aR]) fun s2 o=>?_;obtain⟨a1,bt⟩:=Sort.insertionSort_holds bq cf bh b0 be (by omega);simp;exact Gl _ _ _ a1 bt
 have A7:¬(b0:Int)-bh≤12:=by omega
 by_cases yP:tZ=0
 ·have EA:(((tZ:Nat):Int)==0)=true:=by simp[yP]
  (with_reducible repeat' first|refine aj ?_|simp[A7,EA,Pv.look,H.slc,H.ssc]);simp only[h3 H,H.slc,H.ssc,hT];refine H.fnD aR (abt H cf aR bh b0 be bN (by omega)) (by simp[aF,aO,sp cf aR]) fun s2 o=>?_;obtain⟨a1,bt⟩:=Sort.heapSort_holds bq cf bh b0 be (by omega);simp;exact Gl _ _ _ a1 bt
 have EA:(((tZ:Nat):Int)==0)=false:=by simp[yP]
 have BM:Aw S n g b5 lc bZ lt (b0-bh):=fun k ab=>bW k (by omega);cases aks
 ·(with_reducible repeat' first|refine aj ?_|simp[A7,EA,Pv.look,H.slc,H.ssc]);simp only[h3 H,H.slc,H.ssc,hT];refine H.fnD aR (abo H jX cf aR bh b0 be bN (by omega)) (by simp[aF,aO,sp cf aR]) fun s1 o=>?_;have Dg:=Sort.breakPatterns_holds cf bh b0 be (by omega);generalize Sort.breakPatterns cf bh b0=d1 at s1 Dg;have el:((tZ:Int)-1)=(tZ-1:Nat):=by omega
  simp[el];(with_reducible repeat' first|refine aj ?_|simp[el,Pv.look]);refine Uj (lim:=tZ-1) H gj bq BM ⟨by simp,by simp,by simp,by simp,by simp⟩ (w:=false) (v:=wp) (by simp) (by simp) (by omega) s1 bN (by omega) (JV.perm (by omega) Dg) ⟨?_,fun R t o ep fe=>?_⟩
  ·rintro e he a2 b3 w v L t o ak aA bs dq ht hv t1 t2 t3 t4 t8 t9;rcases he with rfl|rfl<;>simp<;>exact bT.whl (((a2,b3,tZ-1),w,v),L) (by simp;omega) ⟨ak,⟨aA,bs,by simp;omega,by simp;omega⟩,ht,fun R ep fe=>E8 R (Sort.permIn_trans _ _ _ bh b0 Dg (hv R ep fe).1) (hv R ep fe).2⟩ (H.weakC aq (by simpa using ak) (by simp[aF,t1,t2,t3,t4,t8,t9]))
  ·simpa using Gl R t o (Sort.permIn_trans _ _ _ bh b0 Dg ep) fe
 ·(with_reducible repeat' first|refine aj ?_|simp[A7,EA,Pv.look,H.slc,H.ssc]);refine Uj (lim:=tZ) H gj bq BM ⟨by simp,by simp,by simp,by simp,by simp⟩ (w:=true) (v:=wp) (by simp) (by simp) c7 aR bN (by omega) JV ⟨?_,fun R t o ep fe=>?_⟩
  ·rintro e he a2 b3 w v L t o ak aA bs dq ht hv t1 t2 t3 t4 t8 t9;rcases he with rfl|rfl<;>simp<;>exact bT.whl (((a2,b3,tZ),w,v),L) (by simp;omega) ⟨ak,⟨aA,bs,by simp;omega,c7⟩,ht,fun R ep fe=>E8 R (hv R ep fe).1 (hv R ep fe).2⟩ (H.weakC aq (by simpa using ak) (by simp[aF,t1,t2,t3,t4,t8,t9]))
  ·simpa using Gl R t o ep fe
end Go.Proofs.YtohaalphocaebaaGreat
namespace Go.Proofs.YtohaalphocaebaaGreat
open Go Go.Pv
variable {α:Type} {S:List α→cF} {n g b5:Nat} {lc bZ:List ai} {lt:α→α→Bool}
theorem afb(bq:pY lt){l lk:List α}{a b i:Nat}(mA:a+1≤i)(yK:i≤b)(ae:b≤l.length)(af:e4 lt (a+1) b l){z:α}(bf:l[a]? =some z)(Bt:∀h x,a+1≤h→h<i→l[h]? =some x→lt x z=true)(Bp:∀h x,i≤h→h<b→l[h]? =some x→lt x z=false)
  (aI:∀k,lk[k]? =l[hG a (a+1) i k]?):e4 lt a b lk:=by
 intro p q x y bF kf bn ad aG;rw[aI]at ad aG;simp only[hG]at ad aG;rw[if_neg (by omega)]at ad aG;by_cases a1:q<i-1
 ·rw[if_pos (by omega)]at ad aG;exact af _ _ _ _ (by omega) (by omega) (by omega) ad aG
 ·rw[if_neg (by omega)]at aG;by_cases bt:q<i
  ·rw[if_pos bt,show q-(i-(a+1))=a by omega,bf]at aG;cases aG;rw[if_pos (by omega)]at ad;exact bq.asym _ _ (Bt _ _ (by omega) (by omega) ad)
  ·rw[if_neg bt]at aG;by_cases cQ:p<i-1
   ·rw[if_pos (by omega)]at ad;exact af _ _ _ _ (by omega) (by omega) (by omega) ad aG
   ·rw[if_neg (by omega)]at ad;by_cases dm:p<i
    ·rw[if_pos dm,show p-(i-(a+1))=a by omega,bf]at ad;cases ad;exact Bp _ _ (by omega) bn aG
    ·rw[if_neg dm]at ad;exact af _ _ _ _ (by omega) (by omega) bn ad aG
theorem afc(bq:pY lt){l lk:List α}{a m i:Nat}(mA:a≤i)(amo:i≤m)(ae:m+1≤l.length)(af:e4 lt a m l){z:α}(bf:l[m]? =some z)(Bt:∀h x,a≤h→h<i→l[h]? =some x→lt z x=false)(Bp:∀h x,i≤h→h<m→l[h]? =some x→lt z x=true)
  (aI:∀k,lk[k]? =l[hG i m (m+1) k]?):e4 lt a (m+1) lk:=by
 intro p q x y bF kf bn ad aG;rw[aI]at ad aG;simp only[hG]at ad aG;by_cases a1:q<i
 ·rw[if_pos (by omega)]at ad aG;exact af _ _ _ _ bF kf (by omega) ad aG
 ·rw[if_neg a1]at aG;by_cases bt:q=i
  ·rw[if_pos (by omega),show q+(m-i)=m by omega,bf]at aG;cases aG;rw[if_pos (by omega)]at ad;exact Bt _ _ bF (by omega) ad
  ·rw[if_neg (by omega),if_pos (by omega)]at aG;by_cases cQ:p<i
   ·rw[if_pos cQ]at ad;exact af _ _ _ _ bF (by omega) (by omega) ad aG
   ·rw[if_neg cQ]at ad;by_cases dm:p=i
    ·rw[if_pos (by omega),show p+(m-i)=m by omega,bf]at ad;cases ad;exact bq.asym _ _ (Bp _ _ (by omega) (by omega) aG)
    ·rw[if_neg (by omega),if_pos (by omega)]at ad;exact af _ _ _ _ (by omega) (by omega) (by omega) ad aG
structure Df (lt:α→α→Bool) (a s m e b mid:Nat) (lk:List α):Prop where
 s1:e4 lt a s lk
 s2:e4 lt s mid lk
 s3:e4 lt mid e lk
 s4:e4 lt e b lk
 cross:∀p q x y,a≤p→p<mid→mid≤q→q<b→lk[p]? =some x→lk[q]? =some y→lt y x=false
theorem e4.le(bq:pY lt){a b:Nat}{l:List α}(h:e4 lt a b l){i j:Nat}{x y:α}(J:a≤i)(U:i≤j)(ao:j<b)(ad:l[i]? =some x)(aG:l[j]? =some y):lt y x=false:=by
 by_cases e:i=j
 ·subst e;rw[ad]at aG;cases aG;cases Se:lt x x with
  |false=>rfl
  |true=>have:=bq.asym _ _ Se;rw[Se]at this;exact this
 ·exact h _ _ _ _ J (by omega) ao ad aG
theorem afi(bq:pY lt){l lk:List α}{a m b mid s e:Nat}(has:a≤s)(ev:s≤m)(amw:m≤e)(aml:e≤b)(ae:b≤l.length)(n1:s+e=mid+m)(J:e4 lt a m l)(U:e4 lt m b l)
  (bL:s=a∨e=b∨ ∃x y,l[s-1]? =some x∧l[e]? =some y∧lt y x=false) (cn:s=m∨e=m∨ ∃x y,l[s]? =some x∧l[e-1]? =some y∧lt y x=true) (aI:∀k,lk[k]? =l[hG s m e k]?):Df lt a s m e b mid lk:=by
 have g1:∀p,p<s→lk[p]? =l[p]?:=fun p bF=>by rw[aI];simp[hG,bF]
 have g2:∀p,s≤p→p<mid→lk[p]? =l[p+(m-s)]?:=fun p ao aZ=>by rw[aI];simp only[hG];rw[if_neg (by omega),if_pos (by omega)]
 have g3:∀p,mid≤p→p<e→lk[p]? =l[p-(e-m)]?:=fun p ao aZ=>by rw[aI];simp only[hG];rw[if_neg (by omega),if_neg (by omega),if_pos (by omega)]
 have g4:∀p,e≤p→lk[p]? =l[p]?:=fun p ao=>by
  rw[aI];simp only[hG];rw[if_neg (by omega)];by_cases b1:p<s+(e-m)
  ·omega
  ·rw[if_neg b1,if_neg (by omega)]
 refine⟨fun p q x y bF kf bn ad aG=>?_,fun p q x y bF kf bn ad aG=>?_,fun p q x y bF kf bn ad aG=>?_,fun p q x y bF kf bn ad aG=>?_,fun p q x y bF adu bn Jo ad aG=>?_⟩
 ·rw[g1 _ (by omega)]at ad aG;exact J _ _ _ _ bF kf (by omega) ad aG
 ·rw[g2 _ (by omega) (by omega)]at ad aG;exact U _ _ _ _ (by omega) (by omega) (by omega) ad aG
 ·rw[g3 _ (by omega) (by omega)]at ad aG;exact J _ _ _ _ (by omega) (by omega) (by omega) ad aG
 ·rw[g4 _ (by omega)]at ad aG;exact U _ _ _ _ (by omega) (by omega) (by omega) ad aG
 ·by_cases cQ:p<s
  ·rw[g1 _ cQ]at ad;by_cases a1:q<e
   ·rw[g3 _ bn a1]at aG;exact J _ _ _ _ bF (by omega) (by omega) ad aG
   ·rw[g4 _ (by omega)]at aG;rcases bL with bL|bL|⟨u,v,aR,be,bN⟩
    ·omega
    ·omega
    ·exact bq.ntr _ _ _ (bq.ntr _ _ _ (e4.le bq J bF (by omega) (by omega) ad aR) bN) (e4.le bq U (by omega) (by omega) Jo be aG)
  ·rw[g2 _ (by omega) adu]at ad;by_cases a1:q<e
   ·rw[g3 _ bn a1]at aG;rcases cn with cn|cn|⟨u,v,aR,be,bN⟩
    ·omega
    ·omega
    ·exact bq.ntr _ _ _ (bq.ntr _ _ _ (e4.le bq U (by omega) (by omega) (by omega) ad be) (bq.asym _ _ bN)) (e4.le bq J (by omega) (by omega) (by omega) aR aG)
   ·rw[g4 _ (by omega)]at aG;exact U _ _ _ _ (by omega) (by omega) Jo ad aG
theorem afj{a mid b:Nat}(Bf:a≤mid){lk jJ gG:List α}(J:gg a mid lk jJ)(s1:e4 lt a mid jJ)(U:gg mid b jJ gG)(s2:e4 lt mid b gG)(X4:∀p q x y,a≤p→p<mid→mid≤q→q<b→lk[p]? =some x→lk[q]? =some y→lt y x=false):e4 lt a b gG:=by
 intro p q x y bF kf bn ad aG;by_cases ao:q<mid
 ·rw[U.out _ (.inl (by omega))]at ad;rw[U.out _ (.inl (by omega))]at aG;exact s1 _ _ _ _ bF kf ao ad aG
 ·by_cases aZ:mid≤p
  ·exact s2 _ _ _ _ aZ kf bn ad aG
  ·rw[U.out _ (.inl (by omega))]at ad;refine U.all (fun y=>lt y x=false) (fun k y gj jX aG=>?_) q y (by omega) bn aG;rw[J.out _ (.inr gj)]at aG;exact J.all (fun x=>lt y x=false) (fun bD x acX acY ad=>X4 bD k x y acX acY gj jX ad aG) p x bF (by omega) ad
end Go.Proofs.YtohaalphocaebaaGreat
namespace Go.Proofs.YtohaalphocaebaaGreat
open Go Go.Pv
variable {α:Type} {S:List α→cF} {n g b5:Nat} {lc bZ:List ai} {lt:α→α→Bool}
def ajn(lt:α→α→Bool)(l:List α)(mid m s0 r0:Nat)(x:Nat×Nat):Prop:=s0≤x.1∧x.1≤x.2∧x.2≤r0∧(x.1=s0∨ ∃u v,l[x.1-1]? =some u∧l[mid+m-x.1]? =some v∧lt v u=false)∧(x.2=r0∨ ∃u v,l[x.2]? =some u∧l[mid+m-x.2-1]? =some v∧lt v u=true)
attribute [local simp] oM
def Dm(S:List α→cF)(n g b5:Nat)(lc bZ:List ai)(lt:α→α→Bool)(d:Nat):Prop:=
 ∀(l:List α) (a m b:Nat),l.length=n→b-a≤d→a<m→m<b→b≤n→e4 lt a m l→e4 lt m b l→
  bB az 277 [eP g b5 lc bZ,.int .i64 a,.int .i64 m,.int .i64 b] (S l) fun r ah=>r= .tuple []∧∃aX,ah=S aX∧gg a b l aX∧e4 lt a b aX
def Dn(S:List α→cF)(g b5:Nat)(lc bZ:List ai)(lt:α→α→Bool)(a b:Nat)(l:List α)(Q:Exit→bj→Prop):Prop:=∀gG t o,gg a b l gG→e4 lt a b gG→Q .normal ⟨t,(.loc 0,[.func g lc,.func b5 bZ])::(S gG).b,(S gG).e,1,o⟩
section
variable {a m b mid i e d:Nat} {l:List α} {t:List (Nat×ai)} {o:List aH} {ob:List aH} {Q:Exit→bj→Prop}
theorem ai1(H:eV S n g b5 lc bZ lt)(bW:Dm S n g b5 lc bZ lt d)(t3:Pv.get 3 t= .int .i64 b)(t4:Pv.get 4 t= .ptr (.loc 0) 0)(t16:Pv.get 16 t= .int .i64 mid)(t22:Pv.get 22 t= .int .i64 e)(aq:l.length=n)(J:mid≤e)(U:e≤b)(ae:b≤n)(aK:b-mid≤d)(RY:e4 lt mid e l)(RZ:e4 lt e b l)(hM:Dn S g b5 lc bZ lt mid b l Q):
  cT az ob DK Q ⟨t,(.loc 0,[.func g lc,.func b5 bZ])::(S l).b,(S l).e,1,o⟩:=by
 unfold DK;by_cases lb:mid<e∧e<b
 ·simp[t3,t4,t16,t22,lb.1,lb.2,Pv.look];simp only[h3 H,H.slc,H.ssc,hT];refine H.doFn aq (bW l mid e b aq aK lb.1 lb.2 ae RY RZ) (fun aX h=>by rw[h.1.length];exact aq) (by simp[aO,aF,H.kdata aq]) ?_;rintro gG ⟨kL,z2⟩;simp;exact hM _ _ _ kL z2
 ·have pB:e4 lt mid b l:=by
   by_cases nQ:mid<e
   ·rwa[show e=b by omega]at RY
   ·rwa[show e=mid by omega]at RZ
  by_cases nQ:mid<e
  ·have acp:¬e<b:=by omega
   simp[t3,t16,t22,nQ,acp];exact hM _ _ _ (.refl _) pB
  ·simp[t16,t22,nQ];exact hM _ _ _ (.refl _) pB
theorem ai2(H:eV S n g b5 lc bZ lt)(bW:Dm S n g b5 lc bZ lt d)(t1:Pv.get 1 t= .int .i64 a)(t3:Pv.get 3 t= .int .i64 b)(t4:Pv.get 4 t= .ptr (.loc 0) 0)(t16:Pv.get 16 t= .int .i64 mid)(t18:Pv.get 18 t= .int .i64 i)(t22:Pv.get 22 t= .int .i64 e)(aq:l.length=n)(bV:a≤i∧i≤mid∧a≤m)(J:mid≤e)(U:e≤b)(ae:b≤n)(aK:b-mid≤d)(kU:mid-a≤d)(gK:Df lt a i m e b mid l)(hM:Dn S g b5 lc bZ lt a b l Q):
  cT az ob DL Q ⟨t,(.loc 0,[.func g lc,.func b5 bZ])::(S l).b,(S l).e,1,o⟩:=by
 unfold DL;have next:∀{jJ t o},Pv.get 3 t= .int .i64 b→Pv.get 4 t= .ptr (.loc 0) 0→Pv.get 16 t= .int .i64 mid→Pv.get 22 t= .int .i64 e→jJ.length=n→gg a mid l jJ→e4 lt a mid jJ→cT az ob DK Q ⟨t,(.loc 0,[.func g lc,.func b5 bZ])::(S jJ).b,(S jJ).e,1,o⟩:=fun ak aA bs dq wU cQ dm=>by
  refine ai1 H bW ak aA bs dq wU J U ae aK (fun p q x y J U ao ad aG=>?_) (fun p q x y J U ao ad aG=>?_) fun gG t o a1 bt=>?_
  ·rw[cQ.out _ (.inr J)]at ad;rw[cQ.out _ (.inr (by omega))]at aG;exact gK.s3 p q x y J U ao ad aG
  ·rw[cQ.out _ (.inr (by omega))]at ad;rw[cQ.out _ (.inr (by omega))]at aG;exact gK.s4 p q x y J U ao ad aG
  ·exact hM gG t o ((cQ.mono (by omega) (by omega)).trans (a1.mono (by omega) (by omega))) (afj (by omega) cQ dm a1 bt gK.cross)
 by_cases kT:a<i∧i<mid
 ·simp[t1,t4,t16,t18,kT.1,kT.2,Pv.look];simp only[h3 H,H.slc,H.ssc,hT];refine H.doFn aq (bW l a i mid aq kU kT.1 kT.2 (by omega) gK.s1 gK.s2) (fun aX h=>by rw[h.1.length];exact aq) (by simp[aO,aF,H.kdata aq]) ?_;rintro jJ ⟨cQ,dm⟩;simp;exact next (by simp[t3]) (by simp[t4]) (by simp[t16]) (by simp[t22]) (by rw[cQ.length];exact aq) cQ dm
 ·have dm:e4 lt a mid l:=by
   by_cases ps:a<i
   ·have:=gK.s1;rwa[show i=mid by omega]at this
   ·have:=gK.s2;rwa[show i=a by omega]at this
  by_cases ps:a<i
  ·have Ej:¬i<mid:=by omega
   simp[t1,t16,t18,ps,Ej];exact next (by simp[t3]) (by simp[t4]) (by simp[t16]) (by simp[t22]) aq (.refl _) dm
  ·simp[t1,t18,ps];exact next (by simp[t3]) (by simp[t4]) (by simp[t16]) (by simp[t22]) aq (.refl _) dm
theorem ai3(H:eV S n g b5 lc bZ lt)(bW:Dm S n g b5 lc bZ lt d)(t1:Pv.get 1 t= .int .i64 a)(t2:Pv.get 2 t= .int .i64 m)(t3:Pv.get 3 t= .int .i64 b)(t4:Pv.get 4 t= .ptr (.loc 0) 0)(t16:Pv.get 16 t= .int .i64 mid)(t18:Pv.get 18 t= .int .i64 i)(t22:Pv.get 22 t= .int .i64 e)(aq:l.length=n)(bV:a≤i∧i≤mid∧a≤m)(J:mid≤e)(U:e≤b)(ae:b≤n)(aK:b-mid≤d)(kU:mid-a≤d)(RF:∀lk:List α,(∀k,lk[k]? =l[hG i m e k]?)→Df lt a i m e b mid lk)(hM:Dn S g b5 lc bZ lt a b l Q):
  cT az ob HI Q ⟨t,(.loc 0,[.func g lc,.func b5 bZ])::(S l).b,(S l).e,1,o⟩:=by
 unfold HI;have next:∀{lk t o},Pv.get 1 t= .int .i64 a→Pv.get 3 t= .int .i64 b→Pv.get 4 t= .ptr (.loc 0) 0→Pv.get 16 t= .int .i64 mid→Pv.get 18 t= .int .i64 i→Pv.get 22 t= .int .i64 e→lk.length=n→Df lt a i m e b mid lk→gg a b l lk→cT az ob DL Q ⟨t,(.loc 0,[.func g lc,.func b5 bZ])::(S lk).b,(S lk).e,1,o⟩:=fun ak aA bs dq ht hv hk gK acm=>ai2 H bW ak aA bs dq ht hv hk bV J U ae aK kU gK fun gG t o a1 bt=>hM gG t o (acm.trans a1) bt
 by_cases EN:i<m∧m<e
 ·simp[t2,t4,t18,t22,EN.1,EN.2,Pv.look];simp only[h3 H,H.slc,H.ssc,hT];refine H.doFn aq (abL H l aq i m e EN.1 EN.2 (by omega)) (fun aX h=>by rw[h.1.length];exact aq) (by simp[aO,aF,H.kdata aq]) ?_;rintro lk ⟨a1,bt⟩;simp;exact next (by simp[t1]) (by simp[t3]) (by simp[t4]) (by simp[t16]) (by simp[t18]) (by simp[t22]) (by rw[a1.length];exact aq) (RF lk bt) (a1.mono (by omega) (by omega))
 ·have gK:=RF l (fun k=>by
   congr 1;simp only[hG];repeat' split
   all_goals omega)
  by_cases l5:i<m
  ·have adx:¬m<e:=by omega
   simp[t2,t18,t22,l5,adx];exact next (by simp[t1]) (by simp[t3]) (by simp[t4]) (by simp[t16]) (by simp[t18]) (by simp[t22]) aq gK (.refl _)
  ·simp[t2,t18,l5];exact next (by simp[t1]) (by simp[t3]) (by simp[t4]) (by simp[t16]) (by simp[t18]) (by simp[t22]) aq gK (.refl _)
theorem VM{bb:List (aH×List ai)}(H:eV S n g b5 lc bZ lt)(q5:Pv.look (.loc 0) bb=some [.func g lc,.func b5 bZ])(cH:∀k cs,Pv.look k (S l).b=some cs→Pv.look k bb=some cs)(bq:pY lt)(bW:Dm S n g b5 lc bZ lt d){s0 r0:Nat}(t1:Pv.get 1 t= .int .i64 a)(t2:Pv.get 2 t= .int .i64 m)(t3:Pv.get 3 t= .int .i64 b)(t4:Pv.get 4 t= .ptr (.loc 0) 0)(t16:Pv.get 16 t= .int .i64 mid)(t17:Pv.get 17 t= .int .i64 ((mid:Int)+m))(t18:Pv.get 18 t= .int .i64 s0)(t19:Pv.get 19 t= .int .i64 r0)(aq:l.length=n)(bV:a<m∧m<b∧mid=(a+b)/2)(J:mid<m∧s0=mid+m-b∧r0=mid∨m≤mid∧s0=a∧r0=m)(ae:b≤n)(aK:b-a≤d+1)(kh:e4 lt a m l)(oQ:e4 lt m b l)(hM:Dn S g b5 lc bZ lt a b l Q):
  cT az (cR (S l)) HJ Q ⟨t,bb,(S l).e,1,o⟩:=by
 have hle:=H.le;unfold HJ;simp[t17];(with_reducible repeat' first|refine aj ?_|simp[t17]);refine nN (fun(x:Nat×Nat)=>⟨[(1,.int .i64 a),(2,.int .i64 m),(3,.int .i64 b),(4,.ptr (.loc 0) 0),(16,.int .i64 mid),(17,.int .i64 (mid+m)),(20,.int .i64 (mid+m-1)),(18,.int .i64 x.1),(19,.int .i64 x.2)],(.loc 0,[.func g lc,.func b5 bZ])::(S l).b,(S l).e,1,cR (S l)⟩) (fun x=>x.2-x.1)
  (ajn lt l mid m s0 r0) (s0,r0) (H.weak aq aq (by simp[aF,t1,t2,t3,t4,t16,t17,t18,t19]) q5 cH fun _ _ h=>h) ⟨by simp,by simp;omega,by simp,.inl rfl,.inl rfl⟩ ?_
 rintro⟨i,j⟩ ⟨aR,be,bN,dB,c7⟩ _;simp only at aR be bN dB c7;have n5:=El i j (by omega);by_cases lH:i<j
 ·simp[lH];(with_reducible repeat' first|refine aj ?_|simp[Pv.look]);obtain⟨c,av⟩:∃c,c=(i+j)/2:=⟨_,rfl⟩;rw[←av]at n5;simp only[n5];(with_reducible repeat' first|refine aj ?_|simp[Pv.look]);obtain⟨u,JD⟩:∃u,l[c]? =some u:=⟨_,cv (by omega)⟩;obtain⟨v,JE⟩:∃v,l[mid+m-1-c]? =some v:=⟨_,cv (by omega)⟩;have dq:((mid:Int)+m-1-c)=(mid+m-1-c:Nat):=by omega
  simp only[H.slc,dq];refine H.doLess aq (mid+m-1-c) c JE JD ?_;simp;cases rp:lt v u with
  |false=>simp;(with_reducible repeat' first|refine aj ?_|simp);refine bT.whl (c+1,j) (by simp;omega) ⟨by simp;omega,by simp;omega,bN,.inr ⟨u,v,by simpa using JD,?_,rp⟩,c7⟩ (H.weakC aq aq (by simp[aF]));simp only;rw[show mid+m-(c+1)=mid+m-1-c by omega];exact JE
  |true=>simp;(with_reducible repeat' first|refine aj ?_|simp);refine bT.whl (i,c) (by simp;omega) ⟨aR,by simp;omega,by simp;omega,dB,.inr ⟨u,v,JD,?_,rp⟩⟩ (H.weakC aq aq (by simp[aF]));simp only;rw[show mid+m-c-1=mid+m-1-c by omega];exact JE
 ·obtain rfl:i=j:=by omega
  obtain⟨e,he⟩:∃e,e=mid+m-i:=⟨_,rfl⟩;have ht:((mid:Int)+m-i)=(e:Nat):=by omega
  have bL:i=a∨e=b∨ ∃x y,l[i-1]? =some x∧l[e]? =some y∧lt y x=false:=by
   rcases dB with dB|⟨u,v,a1,bt,b2⟩
   ·omega
   ·exact .inr (.inr ⟨u,v,a1,by rw[he];exact bt,b2⟩)
  have cn:i=m∨e=m∨ ∃x y,l[i]? =some x∧l[e-1]? =some y∧lt y x=true:=by
   rcases c7 with c7|⟨u,v,a1,bt,b2⟩
   ·omega
   ·exact .inr (.inr ⟨u,v,a1,by rw[he];exact bt,b2⟩)
  simp[lH];(with_reducible repeat' first|refine aj ?_|simp);rw[ht];exact ai3 H bW (a:=a) (m:=m) (b:=b) (mid:=mid) (i:=i) (e:=e) (by simp) (by simp) (by simp) (by simp) (by simp) (by simp) (by simp) aq (by omega) (by omega) (by omega) ae (by omega) (by omega) (fun lk aI=>afi bq (by omega) (by omega) (by omega) (by omega) (by omega) (by omega) kh oQ bL cn aI) hM
end
theorem QH(H:eV S n g b5 lc bZ lt)(bq:pY lt)(d:Nat):∀(l:List α) (a m b:Nat),l.length=n→b-a≤d→a<m→m<b→b≤n→e4 lt a m l→e4 lt m b l→
  bB az 277 [eP g b5 lc bZ,.int .i64 a,.int .i64 m,.int .i64 b] (S l) fun r ah=>r= .tuple []∧∃aX,ah=S aX∧gg a b l aX∧e4 lt a b aX:=by
 induction d with
 |zero=>intro l a m b aq aK Bf va;omega
 |succ d bW=>
 intro l a m b aq aK Bf va ae kh oQ;have af:=H.ok l;have ar:∀l m,Pv.look (.loc m) (S l).b=none:=fun l=>(H.ok l).obj.1;have hu:∀l m cs,ct (.loc m) cs (S l).b=(S l).b++[(.loc m,cs)]:=fun l m cs=>jR (ar l m);have au:∀m,aH.loc m∉cR (S l):=jL af.obj;have hle:=H.le;refine bB.mk mixed Ac aal agJ (by simp) af.obj fun aU cH=>?_;unfold OE;simp[eP,hu,au,cE,ar];(with_reducible repeat' first|((first|apply bI|apply bK|apply bJ)<;>intro h<;>try simp at h)|refine aj ?_|simp[hu,au,cE,ar])
 ·obtain rfl:m=a+1:=by omega
  have Js:∀k,hG a (a+1) (a+1) k=k:=by
   intro k;simp only[hG];repeat' split
   all_goals omega
  obtain⟨z,bf⟩:∃z,l[a]? =some z:=⟨_,cv (by omega)⟩;refine nN (fun(x:Nat×Nat)=>⟨[(1,.int .i64 a),(4,.ptr (.loc 0) 0),(8,.int .i64 x.1),(9,.int .i64 x.2)],(.loc 0,[.func g lc,.func b5 bZ])::(S l).b,(S l).e,1,cR (S l)⟩) (fun x=>x.2-x.1)
   (fun x=>a+1≤x.1∧x.1≤x.2∧x.2≤b∧(∀h y,a+1≤h→h<x.1→l[h]? =some y→lt y z=true)∧(∀h y,x.2≤h→h<b→l[h]? =some y→lt y z=false)) (a+1,b)
   (H.weak aq aq (by simp[aF]) (by simp[cE,ar]) aE aE) ⟨by simp,by simp;omega,by simp,fun h y J U=>by simp at U;omega,fun h y J U=>by simp at J;omega⟩ ?_
  rintro⟨i,j⟩ ⟨aR,be,bN,dB,c7⟩ _;simp only at aR be bN dB c7;have hw:=El i j (by omega);simp[Pv.look];(with_reducible repeat' first|((first|apply bI|apply bK|apply bJ)<;>intro h<;>try simp at h)|refine aj ?_|simp[Pv.look])
  ·obtain⟨c,av⟩:∃c,c=(i+j)/2:=⟨_,rfl⟩;rw[←av]at hw;obtain⟨y,aG⟩:∃y,l[c]? =some y:=⟨_,cv (by omega)⟩;simp only[hw,H.slc];refine H.doLess aq c a aG bf ?_;simp;cases rp:lt y z with
   |true=>
    simp;(with_reducible repeat' first|refine aj ?_|simp);refine bT.whl (c+1,j) (by simp;omega) ⟨by simp;omega,by simp;omega,bN,fun h u J U hu=>?_,c7⟩ (H.weakC aq aq (by simp[aF]));cases e:lt u z with
    |true=>rfl
    |false=>simp only at U;have:=bq.ntr _ _ _ e (e4.le bq oQ J (by omega) (by omega) hu aG);rw[rp]at this;cases this
   |false=>simp;(with_reducible repeat' first|refine aj ?_|simp);refine bT.whl (i,c) (by simp;omega) ⟨aR,by simp;omega,by simp;omega,dB,fun h u J U hu=>?_⟩ (H.weakC aq aq (by simp[aF]));exact bq.ntr _ _ _ rp (e4.le bq oQ (by omega) J U aG hu)
  ·obtain rfl:i=j:=by omega
   refine nN (fun(x:Nat×List α)=>⟨[(4,.ptr (.loc 0) 0),(8,.int .i64 i),(11,.int .i64 x.1)],(.loc 0,[.func g lc,.func b5 bZ])::(S x.2).b,(S x.2).e,1,cR (S l)⟩) (fun x=>i-x.1)
    (fun x=>x.2.length=n∧a≤x.1∧x.1<i∧gg a b l x.2∧∀k,x.2[k]? =l[hG a (a+1) (x.1+1) k]?) (a,l)
    (H.weakC aq aq (by simp[aF])) ⟨aq,by simp,by simp;omega,.refl _,fun k=>by simp[Js]⟩ ?_
   rintro⟨k,lk⟩ ⟨a1,bt,b2,c2,c8⟩ _;simp only at a1 bt b2 c2 c8;simp[Pv.look];((with_reducible repeat' first|refine aj ?_|simp[Pv.look]|((first|apply bI|apply bK|apply bJ)<;>intro h<;>try simp at h))<;>(try exact cm))
   ·have bs:((k:Int)+1)=(k+1:Nat):=by omega
    rw[H.ssc,bs];refine H.doSwap a1 k (k+1) (by omega) (by omega) (by omega) ?_;simp;(with_reducible repeat' first|((first|apply bI|apply bK|apply bJ)<;>intro h<;>try simp at h)|refine aj ?_|simp);refine bT.whl (k+1,gP lk k (k+1)) (by simp;omega) ⟨by simp[a1],by simp;omega,by simp;omega,.step c2 (by omega) (by omega) (by omega) (by omega) (by omega) (by omega),fun t=>?_⟩ (H.weakC aq (by simp[a1]) (by simp[aF]));rw[zm _ _ _ _ (by omega) (by omega),c8,c8,c8];have:hG a (a+1) (k+1+1) t=if t=k then hG a (a+1) (k+1) (k+1)else if t=k+1 then hG a (a+1) (k+1) k else hG a (a+1) (k+1) t:=by
     simp only[hG];repeat' split
     all_goals omega
    rw[this];split
    ·rfl
    ·split<;>rfl
   ·obtain rfl:i=k+1:=by omega
    refine H.ret aq a1 (.inl rfl) ⟨rfl,lk,rfl,c2,afb bq (by omega) bN (by omega) oQ bf dB c7 c8⟩
 ·obtain rfl:b=m+1:=by omega
  have Js:∀k,hG m m (m+1) k=k:=by
   intro k;simp only[hG];repeat' split
   all_goals omega
  obtain⟨z,bf⟩:∃z,l[m]? =some z:=⟨_,cv (by omega)⟩;refine nN (fun(x:Nat×Nat)=>⟨[(2,.int .i64 m),(4,.ptr (.loc 0) 0),(12,.int .i64 x.1),(13,.int .i64 x.2)],(.loc 0,[.func g lc,.func b5 bZ])::(S l).b,(S l).e,1,cR (S l)⟩) (fun x=>x.2-x.1)
   (fun x=>a≤x.1∧x.1≤x.2∧x.2≤m∧(∀h y,a≤h→h<x.1→l[h]? =some y→lt z y=false)∧(∀h y,x.2≤h→h<m→l[h]? =some y→lt z y=true)) (a,m)
   (H.weak aq aq (by simp[aF]) (by simp[cE,ar]) aE aE) ⟨by simp,by simp;omega,by simp,fun h y J U=>by simp at U;omega,fun h y J U=>by simp at J;omega⟩ ?_
  rintro⟨i,j⟩ ⟨aR,be,bN,dB,c7⟩ _;simp only at aR be bN dB c7;have hw:=El i j (by omega);simp[Pv.look];(with_reducible repeat' first|((first|apply bI|apply bK|apply bJ)<;>intro h<;>try simp at h)|refine aj ?_|simp[Pv.look])
  ·obtain⟨c,av⟩:∃c,c=(i+j)/2:=⟨_,rfl⟩;rw[←av]at hw;obtain⟨y,aG⟩:∃y,l[c]? =some y:=⟨_,cv (by omega)⟩;simp only[hw,H.slc];refine H.doLess aq m c bf aG ?_;simp;cases rp:lt z y with
   |false=>simp;((with_reducible repeat' first|refine aj ?_|simp|((first|apply bI|apply bK|apply bJ)<;>intro h<;>try simp at h))<;>(try exact cm));refine bT.whl (c+1,j) (by simp;omega) ⟨by simp;omega,by simp;omega,bN,fun h u J U hu=>?_,c7⟩ (H.weakC aq aq (by simp[aF]));simp only at U;exact bq.ntr _ _ _ (e4.le bq kh J (by omega) (by omega) hu aG) rp
   |true=>
    simp;((with_reducible repeat' first|refine aj ?_|simp|((first|apply bI|apply bK|apply bJ)<;>intro h<;>try simp at h))<;>(try exact cm));refine bT.whl (i,c) (by simp;omega) ⟨aR,by simp;omega,by simp;omega,dB,fun h u J U hu=>?_⟩ (H.weakC aq aq (by simp[aF]));cases e:lt z u with
    |true=>rfl
    |false=>have:=bq.ntr _ _ _ (e4.le bq kh (by omega) J U aG hu) e;rw[rp]at this;cases this
  ·obtain rfl:i=j:=by omega
   refine nN (fun(x:Nat×List α)=>⟨[(4,.ptr (.loc 0) 0),(12,.int .i64 i),(15,.int .i64 x.1)],(.loc 0,[.func g lc,.func b5 bZ])::(S x.2).b,(S x.2).e,1,cR (S l)⟩) (fun x=>x.1)
    (fun x=>x.2.length=n∧i≤x.1∧x.1≤m∧gg a (m+1) l x.2∧∀k,x.2[k]? =l[hG x.1 m (m+1) k]?) (m,l)
    (H.weakC aq aq (by simp[aF])) ⟨aq,by simp;omega,by simp,.refl _,fun k=>by simp[Js]⟩ ?_
   rintro⟨k,lk⟩ ⟨a1,bt,b2,c2,c8⟩ _;simp only at a1 bt b2 c2 c8;simp[Pv.look];((with_reducible repeat' first|refine aj ?_|simp[Pv.look]|((first|apply bI|apply bK|apply bJ)<;>intro h<;>try simp at h))<;>(try exact cm))
   ·have bs:((k:Int)-1)=(k-1:Nat):=by omega
    rw[H.ssc,bs];refine H.doSwap a1 k (k-1) (by omega) (by omega) (by omega) ?_;simp;(with_reducible repeat' first|refine aj ?_|simp);refine bT.whl (k-1,gP lk k (k-1)) (by simp;omega) ⟨by simp[a1],by simp;omega,by simp;omega,.step c2 (by omega) (by omega) (by omega) (by omega) (by omega) (by omega),fun t=>?_⟩ (H.weakC aq (by simp[a1]) (by simp[aF];omega));rw[zm _ _ _ _ (by omega) (by omega),c8,c8,c8];have:hG (k-1) m (m+1) t=if t=k then hG k m (m+1) (k-1)else if t=k-1 then hG k m (m+1) k else hG k m (m+1) t:=by
     simp only[hG];repeat' split
     all_goals omega
    rw[this];split
    ·rfl
    ·split<;>rfl
   ·obtain rfl:i=k:=by omega
    refine H.ret aq a1 (.inl rfl) ⟨rfl,lk,rfl,c2,afc bq (by omega) bN (by omega) kh bf dB c7 c8⟩
 ·obtain⟨mid,Jg⟩:∃mid,mid=(a+b)/2:=⟨_,rfl⟩;have hw:=El a b (by omega);rw[←Jg]at hw;simp only[hw];(with_reducible repeat' first|((first|apply bI|apply bK|apply bJ)<;>intro h<;>try simp at h)|refine aj ?_|simp[hu,au,cE,ar])
  ·exact VM (s0:=mid+m-b) (r0:=mid) H (by simp[cE,ar]) aE bq bW (a:=a) (m:=m) (b:=b) (mid:=mid) (by simp) (by simp) (by simp) (by simp) (by simp) (by simp) (by simp;omega) (by simp) aq ⟨Bf,va,Jg⟩ (by omega) ae aK kh oQ fun gG t o a1 bt=>H.ret aq (by rw[a1.length];exact aq) (.inr rfl) ⟨rfl,gG,rfl,a1,bt⟩
  ·exact VM (s0:=a) (r0:=m) H (by simp[cE,ar]) aE bq bW (a:=a) (m:=m) (b:=b) (mid:=mid) (by simp) (by simp) (by simp) (by simp) (by simp) (by simp) (by simp) (by simp) aq ⟨Bf,va,Jg⟩ (by omega) ae aK kh oQ fun gG t o a1 bt=>H.ret aq (by rw[a1.length];exact aq) (.inr rfl) ⟨rfl,gG,rfl,a1,bt⟩
end Go.Proofs.YtohaalphocaebaaGreat
namespace Go.Proofs.YtohaalphocaebaaGreat
open Go Go.Pv
variable {α:Type} {S:List α→cF} {n g b5:Nat} {lc bZ:List ai} {lt:α→α→Bool}
def oz(lt:α→α→Bool)(z a b:Nat)(l:List α):Prop:= ∀i j x y,a≤i→i<j→j<b→i/z=j/z→l[i]? =some x→l[j]? =some y→lt y x=false
theorem oz.snoc{z q:Nat}(bf:0<z){l aX:List α}(h:oz lt z 0 (q*z) l){b:Nat}(af:gg (q*z) b l aX)(U:e4 lt (q*z) b aX):oz lt z 0 b aX:=by
 intro i j x y hi lH ag aK ad aG;by_cases Rv:j<q*z
 ·rw[af.out _ (.inl (by omega))]at ad;rw[af.out _ (.inl Rv)]at aG;exact h i j x y hi lH Rv aK ad aG
 ·have ao:q≤j/z:=(Nat.le_div_iff_mul_le bf).2 (by omega);have aZ:q*z≤i:=(Nat.le_div_iff_mul_le bf).1 (by omega);exact U i j x y aZ lH ag ad aG
theorem oz.srt{z q:Nat}(bf:0<z){l:List α}{a b:Nat}(h:oz lt z a b l){c:Nat}(ame:a≤q*z)(av:c≤(q+1)*z)(Ra:c≤b):e4 lt (q*z) c l:=by intro i j x y hi lH ag ad aG;have hj:i/z=q:=Nat.div_eq_of_lt_le hi (by omega);have nV:j/z=q:=Nat.div_eq_of_lt_le (by omega) (by omega);exact h i j x y (by omega) lH (by omega) (by omega) ad aG
theorem oz.after{z a b bh b0:Nat}{l aX:List α}(h:oz lt z a b l)(af:gg a bh l aX)(br:a≤bh)(ae:b0≤b):oz lt z bh b0 aX:=by intro i j x y hi lH ag aK ad aG;rw[af.out _ (.inr (by omega))]at ad;rw[af.out _ (.inr (by omega))]at aG;exact h i j x y (by omega) lH (by omega) aK ad aG
theorem IJ(H:eV S n g b5 lc bZ lt)(bq:pY lt)(l:List α)(aq:l.length=n):
  bB az 248 [eP g b5 lc bZ,.int .i64 n] (S l) fun r ah=>r= .tuple []∧∃aX,ah=S aX∧gg 0 n l aX∧e4 lt 0 n aX:=by
 have af:=H.ok l;have ar:∀l m,Pv.look (.loc m) (S l).b=none:=fun l=>(H.ok l).obj.1;have hu:∀l m cs,ct (.loc m) cs (S l).b=(S l).b++[(.loc m,cs)]:=fun l m cs=>jR (ar l m);have au:∀m,aH.loc m∉cR (S l):=jL af.obj;have hle:=H.le;refine bB.mk mixed Ac aaj agH (by simp) af.obj fun aU cH=>?_;unfold OC;simp[eP,hu,au,cE,ar];refine nN (fun(x:Nat×List α)=>⟨[(1,.int .i64 n),(2,.ptr (.loc 0) 0),(4,.int .i64 20),(5,.int .i64 (x.1*20)),(6,.int .i64 (x.1*20+20))],(.loc 0,[.func g lc,.func b5 bZ])::(S x.2).b,(S x.2).e,1,cR (S l)⟩) (fun x=>n+20-x.1*20)
  (fun x=>x.2.length=n∧x.1*20≤n∧gg 0 n l x.2∧oz lt 20 0 (x.1*20) x.2) (0,l)
  (H.weak aq aq (by simp[aF]) (by simp[cE,ar]) aE aE) ⟨aq,by simp,.refl _,fun i j x y J U ao=>by simp at ao⟩ ?_
 rintro⟨q,lk⟩ ⟨J,U,ao,aZ⟩ _;simp only at J U ao aZ;simp[Pv.look];((with_reducible repeat' first|refine aj ?_|simp[Pv.look]|((first|apply bI|apply bK|apply bJ)<;>intro h<;>try simp at h))<;>(try exact cm))
 ·have ak:((q:Int)*20)=(q*20:Nat):=by omega
  have aA:((q:Int)*20+20)=(q*20+20:Nat):=by omega
  simp only[h3 H,H.slc,H.ssc,hT,aA];simp only[ak];refine H.doFn J (QA H bq lk J (q*20) (q*20+20) (by omega) (by omega)) (fun aX h=>by rw[h.1.length];exact J) (by simp[aO,aF,H.kdata J]) ?_;rintro aX ⟨cQ,dm⟩;have sq:aX.length=n:=by rw[cQ.length];exact J
  simp;((with_reducible repeat' first|refine aj ?_|simp|((first|apply bI|apply bK|apply bJ)<;>intro h<;>try simp at h))<;>(try exact cm));refine bT.whl (q+1,aX) (by simp;omega) ⟨sq,by simp;omega,ao.trans (cQ.mono (by omega) (by omega)),?_⟩ (H.weakC aq sq (by simp[aF];omega));have:=aZ.snoc (by omega) cQ dm;rwa[show q*20+20=(q+1)*20 by omega]at this
 ·have ak:((q:Int)*20)=(q*20:Nat):=by omega
  simp only[h3 H,H.slc,H.ssc,hT,ak];refine H.doFn J (QA H bq lk J (q*20) n (by omega) (by omega)) (fun aX h=>by rw[h.1.length];exact J) (by simp[aO,aF,H.kdata J]) ?_;rintro aX ⟨cQ,dm⟩;have sq:aX.length=n:=by rw[cQ.length];exact J
  have fp:=aZ.snoc (by omega) cQ dm;simp;refine nN (fun(x:Nat×List α)=>⟨[(1,.int .i64 n),(2,.ptr (.loc 0) 0),(4,.int .i64 x.1)],(.loc 0,[.func g lc,.func b5 bZ])::(S x.2).b,(S x.2).e,1,cR (S l)⟩) (fun x=>1099511627776-x.1)
   (fun x=>x.2.length=n∧20≤x.1∧x.1≤2*n+20∧gg 0 n l x.2∧oz lt x.1 0 n x.2) (20,aX)
   (H.weakC aq sq (by simp[aF])) ⟨sq,by simp,by simp,ao.trans (cQ.mono (by omega) (by omega)),fp⟩ ?_
  rintro⟨z,Ti⟩ ⟨kL,z2,z3,z4,z5⟩ _;simp only at kL z2 z3 z4 z5;simp[Pv.look];((with_reducible repeat' first|refine aj ?_|simp[Pv.look]|((first|apply bI|apply bK|apply bJ)<;>intro h<;>try simp at h))<;>(try exact cm))
  ·refine nN (fun(x:Nat×List α)=>⟨[(1,.int .i64 n),(2,.ptr (.loc 0) 0),(4,.int .i64 z),(5,.int .i64 (x.1*(2*z):Nat)),(6,.int .i64 (x.1*(2*z)+2*z:Nat))],(.loc 0,[.func g lc,.func b5 bZ])::(S x.2).b,(S x.2).e,1,cR (S l)⟩) (fun x=>n+2*z-x.1*(2*z))
    (fun x=>x.2.length=n∧x.1*(2*z)≤n∧gg 0 n l x.2∧oz lt (2*z) 0 (x.1*(2*z)) x.2∧oz lt z (x.1*(2*z)) n x.2) (0,Ti)
    (H.weakC aq kL (by simp[aF])) ⟨kL,by simp,z4,fun i j x y J U ao=>by simp at ao,by simpa using z5⟩ ?_
   rintro⟨p,B2⟩ ⟨fH,dL,C8,uI,s5⟩ _;simp only at fH dL C8 uI s5;obtain⟨A,bd⟩:∃A,A=p*(2*z):=⟨_,rfl⟩;have Eh:A=(2*p)*z:=by rw[bd,Nat.mul_comm 2 p,Nat.mul_assoc]
   have IP:(2*p+1)*z=A+z:=by rw[pc,←Eh,Nat.one_mul]
   have ab5:(2*p+2)*z=A+2*z:=by rw[pc,←Eh]
   have yA:(p+1)*(2*z)=A+2*z:=by rw[pc,←bd,Nat.one_mul]
   have kh:∀c,c≤A+z→c≤n→e4 lt A c B2:=fun c av yG=>by have:=oz.srt (q:=2*p) (by omega) s5 (c:=c) (by rw[←Eh,bd];omega) (by rw[IP];exact av) yG;rwa[←Eh]at this
   have oQ:∀c,c≤A+2*z→c≤n→e4 lt (A+z) c B2:=fun c av yG=>by have:=oz.srt (q:=2*p+1) (by omega) s5 (c:=c) (by rw[IP,bd];omega) (by rw[ab5];exact av) yG;rwa[IP]at this
   rw[←bd]at dL uI s5;simp only[←bd];simp[Pv.look];((with_reducible repeat' first|refine aj ?_|simp[Pv.look]|((first|apply bI|apply bK|apply bJ)<;>intro h<;>try simp at h))<;>(try exact cm))
   ·have bs:((A:Int)+z)=(A+z:Nat):=by omega
    have dq:((A:Int)+2*z)=(A+2*z:Nat):=by omega
    simp only[h3 H,H.slc,H.ssc,hT,bs,dq];refine H.doFn fH (QH H bq (A+2*z-A) B2 A (A+z) (A+2*z) fH (by omega) (by omega) (by omega) (by omega) (kh _ (by omega) (by omega)) (oQ _ (by omega) (by omega))) (fun aX h=>by rw[h.1.length];exact fH) (by simp[aO,aF,H.kdata fH]) ?_;rintro gG ⟨kr,oq⟩;have nW:gG.length=n:=by rw[kr.length];exact fH
    simp;(with_reducible repeat' first|refine aj ?_|simp);refine bT.whl (p+1,gG) (by simp only[yA,←bd];omega) ⟨nW,by simp only[yA];omega,C8.trans (kr.mono (by omega) (by omega)),?_,?_⟩ ?_
    ·simp only[yA];rw[bd]at uI kr oq;have:=uI.snoc (by omega) kr oq;rwa[←bd]at this
    ·simp only[yA];exact s5.after kr (by omega) (by omega)
    ·simp only[yA];have ab6:((p:Int)+1)*(2*(z:Int))=(A:Int)+2*z:=by have h:=eO (Nat.cast:Nat→Int) yA;push_cast at h;exact h
     exact H.weakC aq nW (by simp[aF,ab6])
   ·have bs:((A:Int)+z)=(A+z:Nat):=by omega
    simp only[h3 H,H.slc,H.ssc,hT,bs];refine H.doFn fH (QH H bq (n-A) B2 A (A+z) n fH (by omega) (by omega) (by omega) (by omega) (kh _ (by omega) (by omega)) (oQ _ (by omega) (by omega))) (fun aX h=>by rw[h.1.length];exact fH) (by simp[aO,aF,H.kdata fH]) ?_;rintro gG ⟨kr,oq⟩;have nW:gG.length=n:=by rw[kr.length];exact fH
    simp;((with_reducible repeat' first|refine aj ?_|simp|((first|apply bI|apply bK|apply bJ)<;>intro h<;>try simp at h))<;>(try exact cm));refine bT.whl (2*z,gG) (by simp;omega) ⟨nW,by simp;omega,by simp;omega,C8.trans (kr.mono (by omega) (by omega)),?_⟩ (H.weakC aq nW (by simp[aF];omega));rw[bd]at uI kr oq;exact uI.snoc (by omega) kr oq
   ·refine bT.whl (2*z,B2) (by simp;omega) ⟨fH,by simp;omega,by simp;omega,C8,?_⟩ (H.weakC aq fH (by simp[aF];omega));have b1:=kh n (by omega) (by omega);rw[bd]at uI b1;exact uI.snoc (by omega) (.refl _) b1
  ·refine H.ret aq kL (.inr rfl) ?_;refine⟨rfl,Ti,rfl,z4,fun i j x y J U ao=>z5 i j x y J U ao ?_⟩;rw[Nat.div_eq_of_lt (by omega),Nat.div_eq_of_lt (by omega)]
end Go.Proofs.YtohaalphocaebaaGreat
namespace Go.Proofs.YtohaalphocaebaaGreat
open Go Go.Pv Go.Sort Go.RowKit
theorem adq{w:World}{base:Nat}{e:gx}{sz:Nat}{v:Value}{n:Nat}{us:List Value}(h:w.ownsRow base e sz v n us)(aJ:v≠ .slice none 0 0):
  ∃g cap,v= .slice (some ⟨g,0,none⟩) n cap∧g<w.heap.size∧cap≤maxLen∧n≤cap∧us.length=n*sz∧Holds id w g 0 us.toArray:=by
 rcases h.2 with⟨pg,_⟩|⟨g,cap,cur,rfl,ae,aS,ar,hm,af,aN⟩
 ·exact absurd pg aJ
 ·have bq:g<w.heap.size:=by
   rcases Nat.lt_or_ge g w.heap.size with cA|cA
   ·exact cA
   ·rw[Array.getElem?_eq_none cA]at aS;cases aS
  refine⟨g,cap,rfl,bq,hm,ar,h.1,fun j ag=>?_⟩;have jG:j<us.length:=by simpa using ag
  have aq:=h.1;refine⟨?_,by simp[World.frozen?,aS]⟩;have ak:(cur.toList.take (n*sz))[j]? =us[j]?:=by rw[aN]
  rw[List.getElem?_take,if_pos (by omega),s6,cv jG]at ak;simp only[World.cell?,aS,Nat.zero_add];simp only[jl,gr,if_false];rw[ak];simp[getElem!_pos,jG]
theorem ahs{w:World}{base:Nat}{e:gx}{sz g n cap q:Nat}{us:List Value}{F:Array Value}(h:w.ownsRow base e sz (.slice (some ⟨g,0,none⟩) n cap) n us)(fW:F.size=n*sz):
  (putRow id (Sort.ahead w q) g 0 F).ownsRow base e sz (.slice (some ⟨g,0,none⟩) n cap) n F.toList:=by
 rcases h.2 with⟨pg,_⟩|⟨eX,AN,cur,pg,ae,aS,ar,hm,af,aN⟩
 ·cases pg
 ·injection pg with ak _ bs;injection ak with ak;injection ak with ak;subst ak;subst bs;refine⟨by simpa using fW,.inr ⟨g,cap,putCells id 0 F cur,rfl,ae,?_,ar,hm,by simpa[putCells]using af,?_⟩⟩
  ·simp[putRow,mapBlock,Sort.ahead,Array.getElem?_modify,aS,onCells]
  ·have hle:n*sz≤cur.size:=by rw[af];exact Nat.mul_le_mul_right _ ar
   apply List.ext_getElem?;intro j;rw[List.getElem?_take,s6,s6];by_cases ag:j<n*sz
   ·have acV:j<cur.size:=by omega
    simp only[if_pos ag,putCells,Array.getElem?_mapIdx,Array.getElem?_eq_getElem acV,nC];rw[if_pos (by omega)];simp[getElem!_pos,show j<F.size by omega]
   ·simp[ag];omega
end Go.Proofs.YtohaalphocaebaaGreat
namespace Go.Pv
open Go Go.RowKit Go.Lib Go.Sort Go.Proofs.YtohaalphocaebaaGreat
theorem SQ{S:aH→Prop}:∀{l:List ai},aO S l↔∀x∈l,aF S x
 |[]=>by simp[aO]
 |x::r=>by simp only[aO,SQ (l:=r),ga,forall_eq_or_imp]
theorem SJ{α:Type}{s:cF}{l:List (aH×α)}:kD s l↔∀k,(look k l).isSome→inObs s k:=by
 refine⟨fun h k ab=>ze h k ab,fun h=>?_⟩;have:∀aX:List (aH×α),(∀x∈aX,inObs s x.1)→kD s aX:=by
  intro aX;induction aX with
  |nil=>intro _;trivial
  |cons x r bW=>obtain⟨k,x⟩:=x;exact fun h=>⟨h (k,x) (by simp),bW fun y aG=>h y (by simp[aG])⟩
 exact this l fun x ad=>h x.1 (ua (x:=x.2) ad)
theorem LD{w:World}{ν:bc}{sz:Nat}:∀{xs:List ai} {us:List Value} {i:Nat} {p:ai},dw w ν sz xs us→xs[i]? =some p→∃u,(us.drop (i*sz)).take sz=u.cells.toList∧a6 w ν p u∧u.cells.size=sz∧∀c∈u.cells.toList,c.oneCell'=true
 |[],_,_,_,_,bF=>by simp at bF
 |x::xs,us,0,p,h,bF=>by simp only[dw]at h;obtain⟨u,b9,rfl,⟨J,U,ao⟩,_⟩:=h;simp at bF;subst bF;refine⟨u,?_,J,U,ao⟩;simp only[Nat.zero_mul,List.drop_zero];rw[List.take_append_of_le_length (by simp[U])];exact ha (by simp[U])
 |x::xs,us,i+1,p,h,bF=>by simp only[dw]at h;obtain⟨u,b9,rfl,⟨J,U,ao⟩,b1⟩:=h;obtain⟨v,ak,aA⟩:=LD (i:=i) b1 (by simpa using bF);refine⟨v,?_,aA⟩;rw[←ak,Nat.succ_mul,Nat.add_comm,←List.drop_drop];congr 2;rw[List.drop_append_of_le_length (by simp[U]),List.drop_of_length_le (by simp[U])];rfl
theorem LV:∀(a7:List Value) (s:Nat) (F:Array Value),s+a7.length≤F.size→(setMany F s a7).toList=F.toList.take s++a7++F.toList.drop (s+a7.length)
 |[],s,F,h=>by simp[setMany]
 |v::r,s,F,h=>by
  simp only[nB]at h;rw[setMany,LV r (s+1) _ (by simp;omega)];have bq:s<F.toList.length:=by simp;omega
  have ak:(F.setIfInBounds s v).toList=F.toList.set s v:=by simp
  rw[ak];have aA:(F.toList.set s v).take (s+1)=F.toList.take s++[v]:=by rw[List.take_succ,List.getElem?_set_self bq,List.take_set_of_le (e1 _)];simp
  have bs:(F.toList.set s v).drop (s+1+r.length)=F.toList.drop (s+(v::r).length):=by rw[List.drop_set_of_lt (by omega)];congr 1;simp;omega
  rw[aA,bs];simp
theorem Xx(w:World):Sort.ahead w 0=w:=by simp[Sort.ahead]
theorem QG{P:cy}(wH:Bool)(b5:Nat)(ad:∀args W,(callFunc b5 args).run P W=((Dd wH args).run P W).andThen fun v w'=>.ok (.value v) w')(e:gx)(ea:TypeInfo)(sn:P.info? e=some ea)(wL:(∀w,(Go.isAgg e).run P w= .ok true w)∨(ea.size=1∧∀w,(Go.isAgg e).run P w= .ok false w)){s:cF}(af:dG s){K n el sz:Nat}(ed:ea.size=sz){xs:List ai}(ab:look (.obj K) s.e=some ⟨n,el,sz,some xs⟩)
  (i j:Nat) (hi:i<n) (ag:j<n):bB P b5 [.int .i64 i,.int .i64 j,.row sz (.obj K) n,.cst (typeHandle P e)] s fun r ah=>r= .tuple []∧ah=⟨s.b,ct (.obj K) ⟨n,el,sz,some (gP xs i j)⟩ s.e⟩:=by
 subst ed;refine bB.sem af.obj fun w ν a7 kj aI=>?_;right;have s0:=aI.slot 0;have s1:=aI.slot 1;have s2:=aI.slot 2;have s3:=aI.slot 3;simp[jB,get,a6]at s0 s1 s2 s3;obtain⟨v,us,a1,bt,b2,c2⟩:=aI.good.own (.obj K) _ ab;obtain⟨c8,nr,um⟩:=c2 _ rfl;simp only at c8 nr a1 bt;obtain⟨⟨g0,XY,q5⟩,_,n',e0,ak,aA,bs⟩:=s2;rw[a1]at ak;simp only[dt,jm]at ak;obtain⟨rfl,rfl⟩:=ak;have aJ:=bs rfl;have cC:v≠ .slice none 0 0:=by rw[←aJ,q5];simp
 obtain⟨g,cap,rfl,qi,nU,acM,Bm,Ba⟩:=adq bt cC;have adQ:a7= #[.int .i64 i,.int .i64 j,.slice (some ⟨g,0,none⟩) n cap,typeHandle P e]:=by
  have J:a7.size=4:=by simpa using kj
  apply Array.ext (by simpa using J);intro t U ao;simp at ao;rcases(by omega:t=0∨t=1∨t=2∨t=3)with rfl|rfl|rfl|rfl
  ·simpa[Array.getD,J]using s0
  ·simpa[Array.getD,J]using s1
  ·simpa[Array.getD,J]using aJ
  ·simpa[Array.getD,J]using s3
 subst adQ;obtain⟨p,bF⟩:∃p,xs[i]? =some p:=⟨_,cv (by omega)⟩;obtain⟨q,bn⟩:∃q,xs[j]? =some q:=⟨_,cv (by omega)⟩;obtain⟨u,iH,jh,pS,xP⟩:=LD nr bF;obtain⟨x,rR,xT,rS,GU⟩:=LD nr bn;have RG:i*ea.size+ea.size≤n*ea.size:=by have:=Nat.mul_le_mul_right ea.size (show i+1≤n from hi);rwa[pc,Nat.one_mul]at this
 have RH:j*ea.size+ea.size≤n*ea.size:=by have:=Nat.mul_le_mul_right ea.size (show j+1≤n from ag);rwa[pc,Nat.one_mul]at this
 have cell:∀t v,us[t]? =some v→w.cell? ⟨g,t,none⟩=some v:=fun t v aN=>by obtain⟨J,U⟩:=fG.1 aN;have:=(Ba t (by simpa using J)).1;simp at this;rw[this];simp[getElem!_pos,J,U]
 have D9:∀t,t<n*ea.size→w.frozen? ⟨g,t,none⟩=false:=fun t aN=>by have:=(Ba t (by simpa[Bm]using aN)).2;simpa using this
 have run:(Dd wH #[.int .i64 i,.int .i64 j,.slice (some ⟨g,0,none⟩) n cap,typeHandle P e]).run P w= .ok (.tuple #[]) ((w.setCells g (0+i*ea.size) x.cells.toList).setCells g (0+j*ea.size) u.cells.toList):=by
  rcases wL with wL|⟨Ef,wL⟩
  ·exact run_swap_cells (P:=P) wH e ea sn wL g 0 n cap i j hi ag u.cells.toList x.cells.toList (by simp[pS]) (by simp[rS]) xP GU w
     (fun k v aJ=>by
      rw[←iH,List.getElem?_take]at aJ;split at aJ
      ·rw[List.getElem?_drop]at aJ;simpa using cell _ _ aJ
      ·cases aJ)
     (fun k v aJ=>by
      rw[←rR,List.getElem?_take]at aJ;split at aJ
      ·rw[List.getElem?_drop]at aJ;simpa using cell _ _ aJ
      ·cases aJ)
     (fun k ab=>by simpa using D9 (i*ea.size+k) (by omega)) (fun k ab=>by simpa using D9 (j*ea.size+k) (by omega))
  ·rw[Ef]at iH pS rR rS⊢;obtain⟨DU,IY⟩:∃c,u.cells.toList=[c]:=List.length_eq_one_iff.1 (by simpa using pS);obtain⟨oF,kA⟩:∃c,x.cells.toList=[c]:=List.length_eq_one_iff.1 (by simpa using rS);rw[IY]at iH xP⊢;rw[kA]at rR GU⊢;simp only[World.setCells,Nat.mul_one]at iH rR⊢;have QK:us[i]? =some DU:=by have:=eO (·[0]?) iH;simpa using this
   have QM:us[j]? =some oF:=by have:=eO (·[0]?) rR;simpa using this
   have:=run_swap_one (P:=P) wH e ea sn Ef wL g 0 n cap i j hi ag DU oF (xP DU (by simp)) (GU oF (by simp)) w (by simpa using cell i DU QK) (by simpa using cell j oF QM) (by simpa using D9 i (by rw[Ef];omega)) (by simpa using D9 j (by rw[Ef];omega));simpa using this
 have adS:putRow id w g 0 us.toArray=w:=putRow_self id w g 0 _ Ba;have adJ:us.toArray.size=n*ea.size:=by simpa using Bm
 have ET:w.setCells g (0+i*ea.size) x.cells.toList=putRow id w g 0 (setMany us.toArray (i*ea.size) x.cells.toList):=by have J:=setCells_putRow w g 0 x.cells.toList (i*ea.size) us.toArray (by simp[rS,Bm];exact RG);rw[adS]at J;exact J
 obtain⟨hR,mx⟩:∃hR,hR=setMany us.toArray (i*ea.size) x.cells.toList:=⟨_,rfl⟩;have ace:hR.toList=us.take (i*ea.size)++x.cells.toList++us.drop (i*ea.size+ea.size):=by rw[mx,LV _ _ _ (by simp[rS,Bm];exact RG)];simp[rS]
 have IQ:hR.size=n*ea.size:=by rw[mx,size_setMany];exact adJ
 have n5:(w.setCells g (0+i*ea.size) x.cells.toList).setCells g (0+j*ea.size) u.cells.toList=putRow id w g 0 (setMany hR (j*ea.size) u.cells.toList):=by rw[ET,←mx,setCells_putRow w g 0 u.cells.toList (j*ea.size) hR (by simp[pS,IQ];exact RH)]
 obtain⟨h6,A9⟩:∃h6,h6=setMany hR (j*ea.size) u.cells.toList:=⟨_,rfl⟩;have acf:h6.toList=hR.toList.take (j*ea.size)++u.cells.toList++hR.toList.drop (j*ea.size+ea.size):=by rw[A9,LV _ _ _ (by simp[pS,IQ];exact RH)];simp[pS]
 have acg:h6.size=n*ea.size:=by rw[A9,size_setMany];exact IQ
 have ep:=F8 nr bF xT rS GU;rw[←ace]at ep;have fe:=F8 (i:=j) (q:=q) ep (by rw[List.getElem?_set];split;(rename_i e;subst e;rw[if_pos (by omega)]);exact bn) jh pS xP;rw[←acf]at fe;have adI:(xs.set i q).set j p=gP xs i j:=by simp[gP,bF,bn]
 rw[adI]at fe;have hlen:(gP xs i j).length=n:=by simpa using c8
 have lg:=ahs (q:=0) (F:=h6) bt acg;rw[Xx]at lg;obtain⟨kr,oq,_⟩:=aI.setRowM (w':=putRow id w g 0 h6) ab rfl a1 (bl:=g) rfl (v':= .slice (some ⟨g,0,none⟩) n cap) rfl (xs':=gP xs i j) (us:=h6.toList) (.inl ⟨hlen,rfl⟩) rfl rfl rfl
  (fun t aN=>by simp[putRow,mapBlock,Array.getElem?_modify,kO aN]) (by simp[putRow,mapBlock]) (by rw[hlen];exact lg) fe
 refine⟨.tuple #[],putRow id w g 0 h6,?_,?_⟩
 ·rw[ad,run,n5,←A9];rfl
 ·have iQ:∀k,inObs ⟨s.b,ct (.obj K) ⟨n,el,ea.size,some (gP xs i j)⟩ s.e⟩ k↔inObs s k:=fun k=>by
   unfold inObs;simp only[iC];by_cases c1:aH.obj K=k
   ·subst c1;simp[ab]
   ·simp[c1]
  refine⟨_,_,_,_,.tuple [],⟨s.b,ct (.obj K) ⟨n,el,ea.size,some (gP xs i j)⟩ s.e⟩,rfl,kr,by simp[a6,cJ],SJ.2 fun k l4=>(iQ k).2 (.inl l4),SJ.2 fun k l4=>(iQ k).2 (.inr l4),fun k cs av=>⟨av,(iQ k).2 (.inl (by simp at av;simp[av])),jI (fun k h=>(iQ k).2 h) _ (af.kb k cs av)⟩,fun k o au=>⟨by simpa[hlen]using au,?_,fun ys aG=>?_⟩,⟨af.obj.1,fun m=>?_⟩,by simp[aF,aO],rfl,rfl⟩
  ·exact(.inr (by simp at au;simp[au]))
  ·simp only[iC]at au;split at au
   ·cases au;simp only[dt]at aG;subst aG;have RA:=af.ke _ _ ab xs rfl;refine jI (fun k h=>(iQ k).2 h) _ ?_;rw[SQ]at RA⊢;exact fun z bf=>RA z ((Th xs i j).mem_iff.1 bf)
   ·exact jI (fun k h=>(iQ k).2 h) _ (af.ke k o au ys aG)
  ·simp only[iC];simp[af.obj.2 m]
theorem QF{P:cy}(wH:Bool)(b5:Nat)(ad:∀args W,(callFunc b5 args).run P W=((Dd wH args).run P W).andThen fun v w'=>.ok (.value v) w')(e:gx)(ea:TypeInfo)(sn:P.info? e=some ea)(wL:∀w,(Go.isAgg e).run P w= .ok true w){s:cF}(af:dG s){K n el sz:Nat}(ed:ea.size=sz){xs:List ai}(ab:look (.obj K) s.e=some ⟨n,el,sz,some xs⟩)
  (i j:Nat) (hi:i<n) (ag:j<n):bB P b5 [.int .i64 i,.int .i64 j,.row sz (.obj K) n,.cst (typeHandle P e)] s fun r ah=>r= .tuple []∧ah=⟨s.b,ct (.obj K) ⟨n,el,sz,some (gP xs i j)⟩ s.e⟩:=QG wH b5 ad e ea sn (.inl wL) af ed ab i j hi ag
end Go.Pv
namespace Go.Proofs.YtohaalphocaebaaGreat
open Go Go.RowKit Go.Lib Go.Sort Go.Pv
set_option maxRecDepth 100000 in
theorem aiW(t e:gx)(i ea:TypeInfo)(hi:az.info? t=some i)(aK:i.desc= .slice e)(BA:az.packed t=false)(sn:az.info? e=some ea)(ke:Nat)(tI:∀w,(W0 e).run az w= .ok ke w)
  (p:Option Addr) (n c:Nat) (ar:n<4611686018427387904) (f:Nat) (aQ:az.funcs.findIdx? (·.name== "internal/reflectlite" ++ ".Swapper$" ++toString (swapperK n ea ke))=some f) (Td:Fn) (J6 qu:Array Value) (w:World) (R:World→Prop)
  (bF:Calls az 248 #[.agg #[.func Td J6 qu,.func (.func f) #[] (sliceBound az e ea ke p n c)],.int .i64 n] ((w.alloc (.cells #[.slice p n c] t)).alloc (.cells #[typeHandle az t,.pointer (some ⟨w.heap.size,0,none⟩),.int .u64 151] 214)) fun e w'=>e= .returned (.tuple #[])∧R w'):
  Calls az 202 #[.iface t (.slice p n c),.func Td J6 qu] w fun e w'=>e= .returned (.tuple #[])∧R w':=by
 have aJ:=run_valueOf_slice (P:=az) t e i hi aK p n c w;have af:=fun w=>run_swapper_slice (P:=az) t e i ea hi aK sn ke tI p n c f aQ w;have aq:=fun a w br=>run_valueLen_slice (P:=az) t e i hi aK BA a p n c w br;unfold sliceBound at bF;generalize (if swapperK n ea ke≤2 then(#[]:Array Value)else #[.slice p n c,typeHandle az e])=B at af bF;have acQ:az.globals.size=0:=by kernel_rfl
 simp only[typeHandle,acQ]at aJ aq bF;have DZ:∀args w,(callFunc 248 args).run az w= .ok (.enter 248 args) w:=enters_of Tryz.func248 (by kernel_rfl) rfl;go_enter Tryz.func202,Tryz.ntmps202;go_wp2;rw[run_callFunc_extern Tryz.func206 (by kernel_rfl) (by kernel_rfl) (by kernel_rfl) (e:=fun args=>akF (args.getD 0 (.tuple #[]))) (by kernel_rfl),
  show Sem.run az ((fun args:Array Value=>akF (args.getD 0 (.tuple #[]))) #[.iface t (.slice p n c)]) w=_ from aJ]
 simp only[Result.andThen];rw[Oper.upon_value];go_wp2;rw[run_callFunc_extern Tryz.func207 (by kernel_rfl) (by kernel_rfl) (by kernel_rfl) (e:=apP "internal/reflectlite" (akG "Swapper")) (by kernel_rfl),af];simp only[Result.andThen];rw[Oper.upon_value];go_wp2;rw[run_callFunc_extern Tryz.func208 (by kernel_rfl) (by kernel_rfl) (by kernel_rfl) (e:=apR (akG "reflectlite.Value.Len" 0) apQ) (by kernel_rfl),
  aq _ _ (by simp)]
 simp only[Result.andThen];rw[Oper.upon_value];go_wp2_with (go_at_fn 248;refine bF.mono ?_;rintro e w' ⟨rfl,b4⟩);go_end0;exact⟨rfl,b4⟩
theorem _root_.Go.Pv.Good.prMono{pr Cr:Nat→Prop}{w:World}{ν:bc}{b:List (aH×List ai)}{e:List (aH×fv)}(h:Pv.Good pr w ν b e)(bF:∀bl,pr bl→e8 ν ⟨b,e⟩ bl→Cr bl):Pv.Good Cr w ν b e:=by
 refine⟨h.alt,fun k cs ab=>?_,h.inj,fun g o aS=>?_,h.oinj,h.obx,h.one,h.otr⟩
 ·obtain⟨bl,us,el,f1,f2,f3⟩:=h.box k cs ab;exact⟨bl,us,el,f1,bF bl f2 (.inl ⟨k,by simp[ab],f1⟩),f3⟩
 ·obtain⟨v,us,f1,f2,f3,f4⟩:=h.own g o aS;exact⟨v,us,f1,f2,fun bl ae=>⟨bF bl (f3 bl ae).1 (.inr ⟨g,o.n,v,by simp[aS],f1,ae⟩),(f3 bl ae).2⟩,f4⟩
theorem QN(w:World)(gv gq:Obj):w.grownBy ((w.alloc gv).alloc gq) none:=by
 have J:w.heap.size≤(w.alloc gv).heap.size:=by simp
 have U:(w.alloc gv).heap.size≤((w.alloc gv).alloc gq).heap.size:=by simp
 exact⟨rfl,rfl,rfl,ji J U,fun k ab _=>(Below.heap_alloc _ gq k (Nat.lt_of_lt_of_le ab J)).trans (Below.heap_alloc w gv k ab)⟩
def dI{α:Type}(e:α→ai)(K B el sz:Nat)(l:List α):cF:=⟨[(.obj B,[.row sz (.obj K) l.length])],[(.obj K,⟨l.length,el,sz,some (l.map e)⟩)]⟩
section
variable {α:Type} {e:α→ai} (he:∀S x,aF S (e x)) {K B el sz:Nat}
include he
theorem aeD(S:aH→Prop)(l:List α):aO S (l.map e):=by
 induction l with
 |nil=>simp[aO]
 |cons x r bW=>simp only[gI,aO];exact⟨he S x,bW⟩
theorem wj(l:List α):dG (dI e K B el sz l):=by unfold dI;refine dG.of ⟨by intro m;simp[Pv.look],by intro m;simp[Pv.look]⟩ (by simp[aO,aF,inObs,Pv.look]) ?_;intro x ad xs gL;simp at ad;subst ad;simp at gL;subst gL;exact aeD he _ l
omit he in
theorem wk(l aX:List α):Same (dI e K B el sz l) (dI e K B el sz aX):=by
 refine⟨fun k=>?_,fun k=>?_⟩
 ·simp only[dI,Pv.look];split<;>rfl
 ·simp only[dI,Pv.look];split<;>rfl
theorem abl(t:gx)(i ea:TypeInfo)(hi:az.info? t=some i)(aK:i.desc= .slice el)(BA:az.packed t=false)(sn:az.info? el=some ea)(ke:Nat)(tI:∀w,(W0 el).run az w= .ok ke w)(pq:∀n,2≤n→swapperK n ea ke=9)
  (g:Nat) (lt:α→α→Bool) (bq:pY lt) (l:List α) (aq:l.length≤68719476736)
  (wV:∀aX:List α,aX.length=l.length→∀(i j:Nat) x y,aX[i]? =some x→aX[j]? =some y→bB az g [.int .i64 i,.int .i64 j,.ptr (.obj B) 0] (dI e K B el sz aX) fun r ah=>r= .bool (lt x y)∧ah=dI e K B el sz aX)
  (y0:∀aX:List α,aX.length=l.length→∀i j:Nat,i<l.length→j<l.length→bB az 257 [.int .i64 i,.int .i64 j,.row sz (.obj K) l.length,.cst (typeHandle az el)] (dI e K B el sz aX) fun r ah=>r= .tuple []∧ah=dI e K B el sz (gP aX i j)):
  bB az 202 [.iface t (.row sz (.obj K) l.length),.func g [.ptr (.obj B) 0]] (dI e K B el sz l) fun r ah=>r= .tuple []∧∃aX,ah=dI e K B el sz aX∧aX.Perm l∧aX.Pairwise fun x y=>lt y x=false:=by
 have Bj:az.funcs.findIdx? (·.name== "internal/reflectlite" ++ ".Swapper$" ++toString 1)=some 249:=by kernel_rfl
 have tF:az.funcs.findIdx? (·.name== "internal/reflectlite" ++ ".Swapper$" ++toString 2)=some 250:=by kernel_rfl
 have I2:az.funcs.findIdx? (·.name== "internal/reflectlite" ++ ".Swapper$" ++toString 9)=some 257:=by kernel_rfl
 have Jy:∃f bZ,az.funcs.findIdx? (·.name== "internal/reflectlite" ++ ".Swapper$" ++toString (swapperK l.length ea ke))=some f∧(bZ=(if swapperK l.length ea ke≤2 then []else [ai.row sz (.obj K) l.length,.cst (typeHandle az el)]))∧
   bB az 248 [eP g f [.ptr (.obj B) 0] bZ,.int .i64 l.length] (dI e K B el sz l) fun r ah=>r= .tuple []∧∃aX,ah=dI e K B el sz aX∧gg 0 l.length l aX∧e4 lt 0 l.length aX:=by
  have eu:=fun aX=>wj (K:=K) (B:=B) (el:=el) (sz:=sz) he aX;rcases(by omega:l.length=0∨l.length=1∨2≤l.length)with bV|J|U
  ·refine⟨249,[],by rw[bV];exact Bj,by rw[bV];rfl,IJ (lt:=lt) ⟨eu,fun jJ gG _ _=>wk jJ gG,fun aX _=>by simp[aO,aF,inObs,dI,Pv.look],fun aX _=>by simp[aO],by simp[dO,df],rfl,aq,fun aX h=>wV aX h,fun aX _ U i j hi=>by omega⟩ bq l rfl⟩
  ·refine⟨250,[],by rw[J];exact tF,by rw[J];rfl,IJ (lt:=lt) ⟨eu,fun jJ gG _ _=>wk jJ gG,fun aX _=>by simp[aO,aF,inObs,dI,Pv.look],fun aX _=>by simp[aO],by simp[dO,df],rfl,aq,fun aX h=>wV aX h,fun aX _ U i j hi ag=>by omega⟩ bq l rfl⟩
  ·refine⟨257,_,by rw[pq _ U];exact I2,rfl,?_⟩;rw[pq _ U];simp only[show¬((9:Nat)≤2)from by decide,if_false];exact IJ (lt:=lt) ⟨eu,fun jJ gG _ _=>wk jJ gG,fun aX _=>by simp[aO,aF,inObs,dI,Pv.look],fun aX _=>by simp[aO,aF,inObs,dI,Pv.look],by simp[dO,df],by simp[dO,df],aq,fun aX h=>wV aX h,fun aX h _ i j hi ag=>y0 aX h i j hi ag⟩ bq l rfl
 obtain⟨f,bZ,aQ,Ju,dh⟩:=Jy;intro w ν a7 aS ad aI;have nZ:=cO.start (wj he l).obj aS ad aI;have Jp:=aI;simp only[cJ,a6]at aI;obtain⟨v0,vs1,hv0,⟨u,rfl,⟨b,cap,rfl⟩,ib,n',e0,ak,aA,bs⟩,v1,vs2,hv1,⟨qu,rfl,qk⟩,rfl⟩:=aI;have kj:a7= #[.iface t (.slice (some ⟨b,0,none⟩) l.length cap),.func (.func g) #[] qu]:=by apply Array.ext';rw[hv0,hv1]
 subst kj;have qg:∃fn,az.funcs[(202:Nat)]? =some fn∧fn.body.isSome=true∧(fn.name== "runtime.NumGoroutine")=false:=⟨_,Tryz.func202,by kernel_rfl,by kernel_rfl⟩;refine .inl ⟨qg,?_⟩;obtain⟨dL,n5⟩:∃dL,dL=(w.alloc (.cells #[.slice (some ⟨b,0,none⟩) l.length cap] t)).alloc (.cells #[typeHandle az t,.pointer (some ⟨w.heap.size,0,none⟩),.int .u64 151] 214):=⟨_,rfl⟩;have jE:w.grownBy dL none:=by rw[n5];exact QN _ _ _
 have Jq:=nZ.grown jE;have kC:k5 w ν dL ν:=⟨fun b o bd=>⟨bd,DR jE (aS.alt b o bd)⟩,fun _ _ _ h=>h,fun _ n u _ h=>⟨n,u,h,.inl ⟨rfl,rfl⟩⟩,fun b o bd=>vO (jE.block b (aS.alt b o bd) (by simp)),fun _ _ _ _ h=>h⟩;have nU:Pv.Good (e8 ν (dI e K B el sz l)) dL ν (dI e K B el sz l).b (dI e K B el sz l).e:=Jq.good.prMono fun bl _ h=>h;have oP:=Gc kC Jp;simp only[cJ]at oP;obtain⟨a0,XH,se,BC,bp,XI,kT,ady,rfl⟩:=oP;simp at se;obtain⟨rfl,rfl⟩:=se;simp at kT;subst kT;have Jt:a6 dL ν (.row sz (.obj K) l.length) (.slice (some ⟨b,0,none⟩) l.length cap):=by simp only[a6]at BC;obtain⟨u,hu,h⟩:=BC;simp at hu;obtain⟨_,rfl⟩:=hu;simp only[a6];exact h
 have ql:cJ dL ν bZ (sliceBound az el ea ke (some ⟨b,0,none⟩) l.length cap).toList:=by
  unfold sliceBound;rw[Ju];split
  ·simp[cJ]
  ·simp only[cJ];exact⟨_,_,rfl,Jt,_,_,rfl,by simp[a6],rfl⟩
 have tB:cJ dL ν [eP g f [.ptr (.obj B) 0] bZ,.int .i64 l.length] (#[.agg #[.func (.func g) #[] qu,.func (.func f) #[] (sliceBound az el ea ke (some ⟨b,0,none⟩) l.length cap)],.int .i64 l.length]:Array Value).toList:=by simp only[cJ,eP];refine⟨_,_,rfl,?_,_,_,rfl,by simp[a6],rfl⟩;simp only[a6,dd];exact⟨_,rfl,_,_,rfl,⟨⟨qu,rfl,Gc kC qk⟩,rfl⟩,_,_,rfl,⟨⟨_,rfl,ql⟩,rfl⟩,rfl⟩
 have IZ:=dh dL ν _ nU ad tB;have DZ:∀args w,(callFunc 248 args).run az w= .ok (.enter 248 args) w:=enters_of Tryz.func248 (by kernel_rfl) rfl;rcases IZ with⟨_,av⟩|⟨v,w',av,_⟩
 ·have Jf:=aiW t el i ea hi aK BA sn ke tI (some ⟨b,0,none⟩) l.length cap (by omega) f aQ (.func g) #[] qu w
   (fun w'=> ∃ah bg,(∃aX,ah=dI e K B el sz aX∧gg 0 l.length l aX∧e4 lt 0 l.length aX)∧Pv.Good (fun bl=>e8 ν (dI e K B el sz l) bl∨dL.heap.size≤bl) w' bg ah.b ah.e∧nO bg ah∧ic ah∧pd ⟨dL,ν,e8 ν (dI e K B el sz l),0,cR (dI e K B el sz l)⟩ w' bg) (by
    rw[←n5];refine av.mono ?_;rintro e w' ⟨v,r,ah,bg,rfl,⟨rfl,bn⟩,vd,aZ,b1,c6,dP⟩;simp only[a6,cJ]at vd;obtain⟨us,rfl,qo⟩:=vd;have:us= #[]:=by apply Array.ext';simpa using qo
    subst this;exact⟨rfl,ah,bg,bn,aZ,b1,c6,dP⟩)
  refine Jf.mono ?_;rintro e w' ⟨rfl,ah,bg,⟨aX,rfl,ER,yZ⟩,aZ,b1,c6,dP⟩;refine⟨.tuple #[],.tuple [],_,bg,rfl,⟨rfl,aX,rfl,ER.perm,?_⟩,by simp[a6,cJ],aZ.prMono fun bl h _=>?_,b1,c6,⟨dP.os.trans jE.os,dP.tape.trans jE.tape,dP.output.trans jE.output,ji jE.size dP.size,fun k ab hm=>?_,fun b o bd=>?_,fun b o bd=>?_,dP.obj,dP.obn,dP.row,dP.obr,dP.trd,fun k j b ae=>⟨(dP.trb k j b ae).1.imp id (fun h=>ji jE.size h),(dP.trb k j b ae).2⟩,dP.trn,fun b o bd=>(dP.sh b o bd).trans (kC.sh b o bd)⟩⟩
  ·have wW:=ER.length;rw[←wW]at yZ;exact yZ.pairwise
  ·rcases h with h|h
   ·exact .inl h
   ·exact .inr (ji jE.size h)
  ·rw[dP.block k (Nat.lt_of_lt_of_le ab jE.size) hm];exact jE.block k ab (by simp)
  ·obtain⟨aR,be⟩:=dP.keep b o bd;exact⟨aR,be.trans (kC.A b o bd).2⟩
  ·rcases dP.fresh b o bd with h|h|h
   ·exact .inl h
   ·exact .inr (.inl h)
   ·exact .inr (.inr (ji jE.size h))
 ·rw[DZ]at av;cases av
end
end Go.Proofs.YtohaalphocaebaaGreat
namespace Go.Proofs
open Go.Shelf
def Tryz.lays6_ren:Go.Shelf.Ren:=⟨fun|6=>126|10=>206|11=>207|12=>208|13=>209|14=>210|24=>258|25=>259|26=>260|27=>261|28=>262|29=>263|30=>264|31=>265|32=>266|33=>267|34=>278|35=>279|36=>280|37=>281|38=>282|39=>285|n=>n,fun|20=>20|26=>160|35=>214|0=>0|37=>216|3=>3|41=>163|44=>222|49=>254|51=>256|4=>4|54=>259|53=>258|58=>246|5=>5|9=>9|60=>265|64=>269|66=>272|67=>273|17=>17|32=>211|33=>212|82=>300|12=>12|75=>293|76=>294|77=>295|78=>296|79=>297|80=>298|n=>n,fun|n=>n⟩
theorem Tryz.lays6:Go.Proofs.LaysGg.n6 az Tryz.lays6_ren:={
 mixed:=by kernel_rfl
 f6:=Tryz.func126.trans (eO some (by kernel_rfl))
 f10:=Tryz.func206.trans (eO some (by kernel_rfl))
 f11:=Tryz.func207.trans (eO some (by kernel_rfl))
 f12:=Tryz.func208.trans (eO some (by kernel_rfl))
 f13:=Tryz.func209.trans (eO some (by kernel_rfl))
 f14:=Tryz.func210.trans (eO some (by kernel_rfl))
 f24:=Tryz.func258.trans (eO some (by kernel_rfl))
 f25:=Tryz.func259.trans (eO some (by kernel_rfl))
 f26:=Tryz.func260.trans (eO some (by kernel_rfl))
 f27:=Tryz.func261.trans (eO some (by kernel_rfl))
 f28:=Tryz.func262.trans (eO some (by kernel_rfl))
 f29:=Tryz.func263.trans (eO some (by kernel_rfl))
 f30:=Tryz.func264.trans (eO some (by kernel_rfl))
 f31:=Tryz.func265.trans (eO some (by kernel_rfl))
 f32:=Tryz.func266.trans (eO some (by kernel_rfl))
 f33:=Tryz.func267.trans (eO some (by kernel_rfl))
 f34:=Tryz.func278.trans (eO some (by kernel_rfl))
 f35:=Tryz.func279.trans (eO some (by kernel_rfl))
 f36:=Tryz.func280.trans (eO some (by kernel_rfl))
 f37:=Tryz.func281.trans (eO some (by kernel_rfl))
 f38:=Tryz.func282.trans (eO some (by kernel_rfl))
 f39:=Tryz.func285.trans (eO some (by kernel_rfl))
 t0:=Tryz.underlying0
 a0:=Tryz.isAgg0
 z0:=Tryz.sizeOf0
 v0:=Tryz.zeroValue0
 i0:=by kernel_rfl
 t3:=Tryz.underlying3
 a3:=Tryz.isAgg3
 z3:=Tryz.sizeOf3
 v3:=Tryz.zeroValue3
 i3:=by kernel_rfl
 t4:=Tryz.underlying4
 a4:=Tryz.isAgg4
 z4:=Tryz.sizeOf4
 v4:=Tryz.zeroValue4
 i4:=by kernel_rfl
 t5:=Tryz.underlying5
 a5:=Tryz.isAgg5
 z5:=Tryz.sizeOf5
 v5:=Tryz.zeroValue5
 i5:=by kernel_rfl
 t9:=Tryz.underlying9
 a9:=Tryz.isAgg9
 z9:=Tryz.sizeOf9
 v9:=Tryz.zeroValue9
 i9:=by kernel_rfl
 t12:=Tryz.underlying12
 a12:=Tryz.isAgg12
 z12:=Tryz.sizeOf12
 v12:=Tryz.zeroValue12
 i12:=by kernel_rfl
 t17:=Tryz.underlying17
 a17:=Tryz.isAgg17
 z17:=Tryz.sizeOf17
 v17:=Tryz.zeroValue17
 i17:=by kernel_rfl
 t20:=Tryz.underlying20
 a20:=Tryz.isAgg20
 z20:=Tryz.sizeOf20
 v20:=Tryz.zeroValue20
 i20:=by kernel_rfl
 t26:=Tryz.underlying160
 a26:=Tryz.isAgg160
 z26:=Tryz.sizeOf160
 v26:=Tryz.zeroValue160
 i26:=by kernel_rfl
 t32:=Tryz.underlying211
 a32:=Tryz.isAgg211
 z32:=Tryz.sizeOf211
 v32:=Tryz.zeroValue211
 i32:=by kernel_rfl
 t33:=Tryz.underlying212
 a33:=Tryz.isAgg212
 z33:=Tryz.sizeOf212
 v33:=Tryz.zeroValue212
 i33:=by kernel_rfl
 t35:=Tryz.underlying214
 a35:=Tryz.isAgg214
 z35:=Tryz.sizeOf214
 v35:=Tryz.zeroValue214
 i35:=by kernel_rfl
 t37:=Tryz.underlying216
 a37:=Tryz.isAgg216
 z37:=Tryz.sizeOf216
 v37:=Tryz.zeroValue216
 i37:=by kernel_rfl
 t41:=Tryz.underlying163
 a41:=Tryz.isAgg163
 z41:=Tryz.sizeOf163
 v41:=Tryz.zeroValue163
 i41:=by kernel_rfl
 t44:=Tryz.underlying222
 a44:=Tryz.isAgg222
 z44:=Tryz.sizeOf222
 v44:=Tryz.zeroValue222
 i44:=by kernel_rfl
 t49:=Tryz.underlying254
 a49:=Tryz.isAgg254
 z49:=Tryz.sizeOf254
 v49:=Tryz.zeroValue254
 i49:=by kernel_rfl
 t51:=Tryz.underlying256
 a51:=Tryz.isAgg256
 z51:=Tryz.sizeOf256
 v51:=Tryz.zeroValue256
 i51:=by kernel_rfl
 t53:=Tryz.underlying258
 a53:=Tryz.isAgg258
 z53:=Tryz.sizeOf258
 v53:=Tryz.zeroValue258
 i53:=by kernel_rfl
 t54:=Tryz.underlying259
 a54:=Tryz.isAgg259
 z54:=Tryz.sizeOf259
 v54:=Tryz.zeroValue259
 i54:=by kernel_rfl
 t58:=Tryz.underlying246
 a58:=Tryz.isAgg246
 z58:=Tryz.sizeOf246
 v58:=Tryz.zeroValue246
 i58:=by kernel_rfl
 t60:=Tryz.underlying265
 a60:=Tryz.isAgg265
 z60:=Tryz.sizeOf265
 v60:=Tryz.zeroValue265
 i60:=by kernel_rfl
 t64:=Tryz.underlying269
 a64:=Tryz.isAgg269
 z64:=Tryz.sizeOf269
 v64:=Tryz.zeroValue269
 i64:=by kernel_rfl
 t66:=Tryz.underlying272
 a66:=Tryz.isAgg272
 z66:=Tryz.sizeOf272
 v66:=Tryz.zeroValue272
 i66:=by kernel_rfl
 t67:=Tryz.underlying273
 a67:=Tryz.isAgg273
 z67:=Tryz.sizeOf273
 v67:=Tryz.zeroValue273
 i67:=by kernel_rfl
 t75:=Tryz.underlying293
 a75:=Tryz.isAgg293
 z75:=Tryz.sizeOf293
 v75:=Tryz.zeroValue293
 i75:=by kernel_rfl
 t76:=Tryz.underlying294
 a76:=Tryz.isAgg294
 z76:=Tryz.sizeOf294
 v76:=Tryz.zeroValue294
 i76:=by kernel_rfl
 t77:=Tryz.underlying295
 a77:=Tryz.isAgg295
 z77:=Tryz.sizeOf295
 v77:=Tryz.zeroValue295
 i77:=by kernel_rfl
 t78:=Tryz.underlying296
 a78:=Tryz.isAgg296
 z78:=Tryz.sizeOf296
 v78:=Tryz.zeroValue296
 i78:=by kernel_rfl
 t79:=Tryz.underlying297
 a79:=Tryz.isAgg297
 z79:=Tryz.sizeOf297
 v79:=Tryz.zeroValue297
 i79:=by kernel_rfl
 t80:=Tryz.underlying298
 a80:=Tryz.isAgg298
 z80:=Tryz.sizeOf298
 v80:=Tryz.zeroValue298
 i80:=by kernel_rfl
 t82:=Tryz.underlying300
 a82:=Tryz.isAgg300
 z82:=Tryz.sizeOf300
 v82:=Tryz.zeroValue300
 i82:=by kernel_rfl}
end Go.Proofs
namespace Go.Proofs.YtohaalphocaebaaGreat
open Go Go.RowKit Go.Lib Go.Pv Go.Proofs
theorem XR(n:Nat)(h:n<1099511627776):Lib.bitLen n≤1000:=by
 have:∀f x,bitLenAux f x≤f:=by
  intro f;induction f with
  |zero=>intro x;simp[bitLenAux]
  |succ f bW=>
   intro x;rw[bitLenAux];split
   ·omega
   ·have:=bW (x/2);omega
 have:=this 64 n;unfold Lib.bitLen;omega
theorem ahw{α:Type}[Inhabited α]{lt:α→α→Bool}{l:List α}{cj:Array α}(h:Sort.PermIn 0 l.length l.toArray cj)(af:Sort.SortedIn lt 0 l.length cj):cj.toList.Perm l∧cj.toList.Pairwise fun x y=>lt y x=false:=by
 obtain⟨kL,_,z3⟩:=h;have ed:cj.size=l.length:=by simpa using kL
 have ak:cj.extract 0 l.length=cj:=by rw[←ed];simp
 have aA:l.toArray.extract 0 l.length=l.toArray:=by simp
 rw[ak,aA]at z3;refine⟨by simpa using z3,?_⟩;rw[pb];intro i j hi ag lH;have J:=af i j (by omega) lH (by simpa[ed]using ag);have sl:i<cj.size:=by simpa using hi
 have jG:j<cj.size:=by simpa using ag
 rw[getElem!_pos cj i sl,getElem!_pos cj j jG]at J;simpa using J
section
variable {α:Type} {e:α→ai} (he:∀S x,aF S (e x)) {K B el sz:Nat}
include he
theorem Qw[Inhabited α](QU:K≠901∧K≠902)(QS:B≠901∧B≠902)(t:gx)(i ea:TypeInfo)(hi:az.info? t=some i)(aK:i.desc= .slice el)(BA:az.packed t=false)(sn:az.info? el=some ea)(ke:Nat)(tI:∀w,(W0 el).run az w= .ok ke w)(pq:∀n,2≤n→swapperK n ea ke=9)
  (g:Nat) (lt:α→α→Bool) (bq:Sort.SWO lt) (l:List α) (aq:l.length≤68719476736)
  (wV:∀aX:List α,aX.length=l.length→∀(i j:Nat) x y,aX[i]? =some x→aX[j]? =some y→bB az g [.int .i64 i,.int .i64 j,.ptr (.obj B) 0] (dI e K B el sz aX) fun r ah=>r= .bool (lt x y)∧ah=dI e K B el sz aX)
  (y0:∀aX:List α,aX.length=l.length→∀i j:Nat,i<l.length→j<l.length→bB az 257 [.int .i64 i,.int .i64 j,.row sz (.obj K) l.length,.cst (typeHandle az el)] (dI e K B el sz aX) fun r ah=>r= .tuple []∧ah=dI e K B el sz (gP aX i j)):
  bB az 126 [.iface t (.row sz (.obj K) l.length),.func g [.ptr (.obj B) 0]] (dI e K B el sz l) fun r ah=>r= .tuple []∧∃aX,ah=dI e K B el sz aX∧aX.Perm l∧aX.Pairwise fun x y=>lt y x=false:=by
 have Bj:az.funcs.findIdx? (·.name== "internal/reflectlite" ++ ".Swapper$" ++toString 1)=some 249:=by kernel_rfl
 have tF:az.funcs.findIdx? (·.name== "internal/reflectlite" ++ ".Swapper$" ++toString 2)=some 250:=by kernel_rfl
 have I2:az.funcs.findIdx? (·.name== "internal/reflectlite" ++ ".Swapper$" ++toString 9)=some 257:=by kernel_rfl
 have EE:rA (dI e K B el sz) 901:=fun l=>⟨by simp[dI,Pv.look,QS.1],by simp[dI,Pv.look,QU.1]⟩;have EF:rA (dI e K B el sz) 902:=fun l=>⟨by simp[dI,Pv.look,QS.2],by simp[dI,Pv.look,QU.2]⟩;have fp:=XR l.length (by omega);have Jy:∃f bZ,az.funcs.findIdx? (·.name== "internal/reflectlite" ++ ".Swapper$" ++toString (swapperK l.length ea ke))=some f∧(bZ=(if swapperK l.length ea ke≤2 then []else [ai.row sz (.obj K) l.length,.cst (typeHandle az el)]))∧
   bB az 210 [eP g f [.ptr (.obj B) 0] bZ,.int .i64 0,.int .i64 l.length,.int .i64 (Lib.bitLen l.length)] (dI e K B el sz l) fun r ah=>r= .tuple []∧∃aX,ah=dI e K B el sz aX∧aX.Perm l∧aX.Pairwise fun x y=>lt y x=false:=by
  have eu:=fun aX=>wj (K:=K) (B:=B) (el:=el) (sz:=sz) he aX;have key:∀{b5:Nat} {bZ:List ai},eV (dI e K B el sz) l.length g b5 [.ptr (.obj B) 0] bZ lt→bB az 210 [eP g b5 [.ptr (.obj B) 0] bZ,.int .i64 0,.int .i64 l.length,.int .i64 (Lib.bitLen l.length)] (dI e K B el sz l) fun r ah=>r= .tuple []∧∃aX,ah=dI e K B el sz aX∧aX.Perm l∧aX.Pairwise fun x y=>lt y x=false:=by intro b5 bZ H;have:=abG H EE EF bq l.length l.toArray (by simp) 0 l.length (Lib.bitLen l.length) (by omega) (by omega) (e1 _) (by omega) (.inl rfl);simp only[Int.ofNat_zero,Int.natCast_zero,Int.cast_ofNat_Int]at this;refine bB.mono this ?_;rintro r ah ⟨a1,cj,bt,b2,c2⟩;obtain⟨cQ,dm⟩:=ahw b2 c2;exact⟨a1,cj.toList,bt,cQ,dm⟩
  rcases(by omega:l.length=0∨l.length=1∨2≤l.length)with bV|J|U
  ·refine⟨249,[],by rw[bV];exact Bj,by rw[bV];rfl,key ⟨eu,fun jJ gG _ _=>wk jJ gG,fun aX _=>by simp[aO,aF,inObs,dI,Pv.look],fun aX _=>by simp[aO],by simp[dO,df],rfl,aq,fun aX h=>wV aX h,fun aX _ U i j hi=>by omega⟩⟩
  ·refine⟨250,[],by rw[J];exact tF,by rw[J];rfl,key ⟨eu,fun jJ gG _ _=>wk jJ gG,fun aX _=>by simp[aO,aF,inObs,dI,Pv.look],fun aX _=>by simp[aO],by simp[dO,df],rfl,aq,fun aX h=>wV aX h,fun aX _ U i j hi ag=>by omega⟩⟩
  ·refine⟨257,_,by rw[pq _ U];exact I2,rfl,?_⟩;rw[pq _ U];simp only[show¬((9:Nat)≤2)from by decide,if_false];exact key ⟨eu,fun jJ gG _ _=>wk jJ gG,fun aX _=>by simp[aO,aF,inObs,dI,Pv.look],fun aX _=>by simp[aO,aF,inObs,dI,Pv.look],by simp[dO,df],by simp[dO,df],aq,fun aX h=>wV aX h,fun aX h _ i j hi ag=>y0 aX h i j hi ag⟩
 obtain⟨f,bZ,aQ,Ju,dh⟩:=Jy;intro w ν a7 aS ad aI;have nZ:=cO.start (wj he l).obj aS ad aI;have Jp:=aI;simp only[cJ,a6]at aI;obtain⟨v0,vs1,hv0,⟨u,rfl,⟨b,cap,rfl⟩,ib,n',e0,ak,aA,bs⟩,v1,vs2,hv1,⟨qu,rfl,qk⟩,rfl⟩:=aI;have kj:a7= #[.iface t (.slice (some ⟨b,0,none⟩) l.length cap),.func (.func g) #[] qu]:=by apply Array.ext';rw[hv0,hv1]
 subst kj;have qg:∃fn,az.funcs[(126:Nat)]? =some fn∧fn.body.isSome=true∧(fn.name== "runtime.NumGoroutine")=false:=⟨_,Tryz.func126,by kernel_rfl,by kernel_rfl⟩;refine .inl ⟨qg,?_⟩;obtain⟨dL,n5⟩:∃dL,dL=sliceWorld az Tryz.lays6_ren t (some ⟨b,0,none⟩) l.length cap w:=⟨_,rfl⟩;have jE:w.grownBy dL none:=by rw[n5];unfold sliceWorld;exact QN _ _ _
 have Jq:=nZ.grown jE;have kC:k5 w ν dL ν:=⟨fun b o bd=>⟨bd,DR jE (aS.alt b o bd)⟩,fun _ _ _ h=>h,fun _ n u _ h=>⟨n,u,h,.inl ⟨rfl,rfl⟩⟩,fun b o bd=>vO (jE.block b (aS.alt b o bd) (by simp)),fun _ _ _ _ h=>h⟩;have nU:Pv.Good (e8 ν (dI e K B el sz l)) dL ν (dI e K B el sz l).b (dI e K B el sz l).e:=Jq.good.prMono fun bl _ h=>h;have oP:=Gc kC Jp;simp only[cJ]at oP;obtain⟨a0,XH,se,BC,bp,XI,kT,ady,rfl⟩:=oP;simp at se;obtain⟨rfl,rfl⟩:=se;simp at kT;subst kT;have Jt:a6 dL ν (.row sz (.obj K) l.length) (.slice (some ⟨b,0,none⟩) l.length cap):=by simp only[a6]at BC;obtain⟨u,hu,h⟩:=BC;simp at hu;obtain⟨_,rfl⟩:=hu;simp only[a6];exact h
 have ql:cJ dL ν bZ (sliceBound az el ea ke (some ⟨b,0,none⟩) l.length cap).toList:=by
  unfold sliceBound;rw[Ju];split
  ·simp[cJ]
  ·simp only[cJ];exact⟨_,_,rfl,Jt,_,_,rfl,by simp[a6],rfl⟩
 have tB:cJ dL ν [eP g f [.ptr (.obj B) 0] bZ,.int .i64 0,.int .i64 l.length,.int .i64 (Lib.bitLen l.length)] (#[.agg #[.func (.func g) #[] qu,.func (.func f) #[] (sliceBound az el ea ke (some ⟨b,0,none⟩) l.length cap)],.int .i64 0,.int .i64 l.length,.int .i64 (Lib.bitLen l.length)]:Array Value).toList:=by simp only[cJ,eP];refine⟨_,_,rfl,?_,_,_,rfl,by simp[a6],_,_,rfl,by simp[a6],_,_,rfl,by simp[a6],rfl⟩;simp only[a6,dd];exact⟨_,rfl,_,_,rfl,⟨⟨qu,rfl,Gc kC qk⟩,rfl⟩,_,_,rfl,⟨⟨_,rfl,ql⟩,rfl⟩,rfl⟩
 have IZ:=dh dL ν _ nU ad tB;have DZ:∀args w,(callFunc 210 args).run az w= .ok (.enter 210 args) w:=enters_of Tryz.func210 (by kernel_rfl) rfl;rcases IZ with⟨_,av⟩|⟨v,w',av,_⟩
 ·have Jf:=Any.sort_Slice_of_pdq Tryz.lays6 t el i ea hi aK BA sn ke tI (some ⟨b,0,none⟩) l.length cap (by omega) f aQ (.func g) #[] qu w
   (fun w'=> ∃ah bg,(∃aX,ah=dI e K B el sz aX∧aX.Perm l∧aX.Pairwise fun x y=>lt y x=false)∧Pv.Good (fun bl=>e8 ν (dI e K B el sz l) bl∨dL.heap.size≤bl) w' bg ah.b ah.e∧nO bg ah∧ic ah∧pd ⟨dL,ν,e8 ν (dI e K B el sz l),0,cR (dI e K B el sz l)⟩ w' bg) (by
    rw[←n5];refine av.mono ?_;rintro e w' ⟨v,r,ah,bg,rfl,⟨rfl,bn⟩,vd,aZ,b1,c6,dP⟩;simp only[a6,cJ]at vd;obtain⟨us,rfl,qo⟩:=vd;have:us= #[]:=by apply Array.ext';simpa using qo
    subst this;exact⟨rfl,ah,bg,bn,aZ,b1,c6,dP⟩)
  refine Jf.mono ?_;rintro e w' ⟨rfl,ah,bg,⟨aX,rfl,ER,yZ⟩,aZ,b1,c6,dP⟩;refine⟨.tuple #[],.tuple [],_,bg,rfl,⟨rfl,aX,rfl,ER,yZ⟩,by simp[a6,cJ],aZ.prMono fun bl h _=>?_,b1,c6,⟨dP.os.trans jE.os,dP.tape.trans jE.tape,dP.output.trans jE.output,ji jE.size dP.size,fun k ab hm=>?_,fun b o bd=>?_,fun b o bd=>?_,dP.obj,dP.obn,dP.row,dP.obr,dP.trd,fun k j b ae=>⟨(dP.trb k j b ae).1.imp id (fun h=>ji jE.size h),(dP.trb k j b ae).2⟩,dP.trn,fun b o bd=>(dP.sh b o bd).trans (kC.sh b o bd)⟩⟩
  ·rcases h with h|h
   ·exact .inl h
   ·exact .inr (ji jE.size h)
  ·rw[dP.block k (Nat.lt_of_lt_of_le ab jE.size) hm];exact jE.block k ab (by simp)
  ·obtain⟨aR,be⟩:=dP.keep b o bd;exact⟨aR,be.trans (kC.A b o bd).2⟩
  ·rcases dP.fresh b o bd with h|h|h
   ·exact .inl h
   ·exact .inr (.inl h)
   ·exact .inr (.inr (ji jE.size h))
 ·rw[DZ]at av;cases av
end
end Go.Proofs.YtohaalphocaebaaGreat
namespace Go.Proofs.YtohaalphocaebaaGreat
open Go Go.Pv Go.Lib
abbrev wi(l:List bk):cF:=dI bk.e 814 815 106 2 l
theorem TH:∀(S:aH→Prop) (x:bk),aF S x.e:=fun S x=>by simp
theorem G6(l:List bk):dG (wi l):=wj TH l
theorem aeZ:Sort.SWO (iD fj):=by
 refine⟨fun x=>?_,fun x y z J U=>?_,fun x y z J U=>?_⟩
 ·simp only[iD,j4];have:=lv.refl x;omega
 ·simp only[iD,fI]at*;exact lv.ltr J (by omega)
 ·simp only[iD,j4]at*;have ak:=lv.neg x y;have aA:=lv.neg y z;have bs:=lv.neg x z;have:=lv.tr z y x (by omega) (by omega);omega
theorem abg(l:List bk)(i j:Nat)(x y:bk)(aq:l.length≤68719476736)(hi:l[i]? =some x)(ag:l[j]? =some y):bB az 131 [.int .i64 i,.int .i64 j,.ptr (.obj 815) 0] (wi l) fun r ah=>r= .bool (iD fj x y)∧ah=wi l:=by have af:=G6 l;obtain⟨lG,hj⟩:=fG.1 hi;obtain⟨dS,nV⟩:=fG.1 ag;unfold wi dI at af⊢;refine bB.mk mixed jP Zk afH (by simp) af.obj fun aU cH=>?_;unfold Nx;simp[lG,dS,hj,nV];(with_reducible repeat' first|refine aj ?_|refine aC (Ag _ _) ?_|refine aD (Ag _ _) ?_|simp[lG,dS,hj,nV]);refine cG.at _ (.inl rfl) af (Same.refl _) aE aE ?_;simp[cM,Up,aV,aY,aT]
noncomputable def Tryz.maT:TypeInfo:=(az.info? 26).get (by kernel_rfl)
noncomputable def Tryz.maE:TypeInfo:=(az.info? 106).get (by kernel_rfl)
theorem Tryz.maK(n:Nat)(U:2≤n):Lib.swapperK n Tryz.maE 25=9:=by
 have a:Tryz.maE.hasPointers=true:=by kernel_rfl
 have b:Tryz.maE.bytes=24:=by kernel_rfl
 have c:(n==0)=false:=by simp;omega
 have d:(n==1)=false:=by simp;omega
 simp[Lib.swapperK,a,b,c,d]
theorem Tg{α β:Type}(f:α→β)(l:List α)(i j:Nat):(gP l i j).map f=gP (l.map f) i j:=by
 unfold gP;simp only[List.getElem?_map];cases l[i]? with
 |none=>simp
 |some x=>
  cases l[j]? with
  |none=>simp
  |some y=>simp[List.map_set]
theorem abS(l:List bk)(aq:l.length≤68719476736):bB az 126 [.iface 26 (.row 2 (.obj 814) l.length),.func 131 [.ptr (.obj 815) 0]] (wi l) fun r ah=>r= .tuple []∧ah=wi (nv fj l):=by
 refine(Qw TH (K:=814) (B:=815) (sz:=2) (by decide) (by decide) 26 Tryz.maT Tryz.maE (by kernel_rfl) (by kernel_rfl) (by kernel_rfl) (by kernel_rfl) 25 (fun _=>by kernel_rfl) Tryz.maK 131 (iD fj) aeZ l aq (fun aX h i j x y hi ag=>abg aX i j x y (by omega) hi ag) (fun aX h i j hi ag=>?_)).mono ?_
 ·have:=QF (P:=az) false 257 (fun args W=>run_callFunc_extern Tryz.func257 (by kernel_rfl) (by kernel_rfl) (by kernel_rfl) (e:=Dd false) (by kernel_rfl) args W)
   106 Tryz.maE (by kernel_rfl) (fun _=>by kernel_rfl) (G6 aX) (K:=814) (n:=l.length) (el:=106) (sz:=2) (by kernel_rfl) (xs:=aX.map bk.e) (by simp[dI,Pv.look,h]) i j hi ag
  refine this.mono ?_;rintro r ah ⟨rfl,rfl⟩;refine⟨rfl,?_⟩;simp[dI,ct,Tg,h]
 ·rintro r ah ⟨rfl,aX,rfl,J,U⟩;exact⟨rfl,by rw[VS lv J U]⟩
def np(l:List bk):List ai:= .hdm l.length (List.range l.length)::l.flatMap fun m=>[m.e,.bool true]
def kP(m:bk)(l:List bk):List bk:=if m∈l then l else l++[m]
theorem aez(a b:bk):sA (.a [false,true]) a.e b.e=some (decide (a=b)):=by simp only[bk.e,sA,jV,if_true,nC];congr 1;rw[pV];cases a;cases b;simp
theorem aeA(a:bk):tS (.a [false,true]) a.e=true:=by simp[bk.e,tS,jV,-Hh]
theorem TM(m:bk):∀l:List bk,ue (.a [false,true]) m.e (.bool true) (l.flatMap fun m=>[m.e,.bool true])=some (if m∈l then some (l.flatMap fun m=>[m.e,.bool true])else none)
 |[]=>rfl
 |a::l=>by
  simp only[List.flatMap_cons,bO,bS,ue,aez];by_cases h:m=a
  ·subst h;simp
  ·have cA:decide (m=a)=false:=by simp[h]
   rw[cA];simp only[TM m l];by_cases hm:m∈l
   ·simp[hm]
   ·simp[hm,h]
@[simp] theorem anS(m:bk)(l:List bk):oc (.a [false,true]) m.e (.bool true) (np l)=some (np (kP m l)):=by
 simp only[np,oc,aeA,Bool.true_eq_false,reduceCtorEq,if_false,TM,kP];by_cases h:m∈l
 ·simp[h]
 ·simp[h,List.range_succ]
end Go.Proofs.YtohaalphocaebaaGreat
namespace Go.Proofs.YtohaalphocaebaaGreat
open Go Go.Pv
@[simp] theorem zh(S:aH→Prop)(l:List bk):aO S (np l)=True:=by
 refine eq_true ?_;unfold np;have:∀l:List bk,aO S (l.flatMap fun m=>[m.e,ai.bool true]):=fun l=>by
  induction l with
  |nil=>simp[aO]
  |cons x r bW=>simp only[List.flatMap_cons,bO,bS,aO,aeE,aF,true_and];exact bW
 simp only[aO,aF,true_and];exact this l
@[simp] theorem anA:[ai.hdm 0 []]=np []:=rfl
def nG(tag:List cV)(l:List bk):cF:=⟨[(.obj 811,[.str tag]),(.obj 812,np l),(.obj 813,[.gmap (.obj 812)])],[]⟩
theorem Dk(tag:List cV)(l:List bk):dG (nG tag l):=by unfold nG;refine dG.of ⟨by intro m;simp[Pv.look],by intro m;simp[Pv.look]⟩ (by simp[aO,aF,inObs,Pv.look]) (by simp)
theorem G7(tag:List cV)(l aX:List bk):Same (nG tag l) (nG tag aX):=Same.keys (by simp[nG]) (by simp[nG])
theorem abf(tag:List cV)(v:Int)(l:List bk):bB az 130 [.int .i64 v,.ptr (.obj 813) 0,.ptr (.obj 811) 0] (nG tag l) fun r ah=>r= .tuple []∧ah=nG tag (kP ⟨v,tag⟩ l):=by have af:=Dk tag l;have fw:=Dk tag (kP ⟨v,tag⟩ l);have ev:=G7 tag l (kP ⟨v,tag⟩ l);unfold nG at af fw ev⊢;refine bB.mk mixed jP Zj afG (by simp) af.obj fun aU cH=>?_;unfold Nw;simp;refine cG.at _ (.inr rfl) fw ev aE aE ?_;simp[cM,Uo,aV,aY,aT]
end Go.Proofs.YtohaalphocaebaaGreat
namespace Go.Proofs.YtohaalphocaebaaGreat
open Go Go.Pv Go.Lib
abbrev uK(l:List b6):cF:=dI b6.e 803 804 104 2 l
theorem SG:∀(S:aH→Prop) (x:b6),aF S x.e:=fun S x=>by simp
theorem Di(l:List b6):dG (uK l):=wj SG l
def vu(x y:b6):Bool:=decide (x.v<y.v)
theorem aeY:Sort.SWO vu:=⟨fun x=>by simp[vu],fun x y z J U=>by simp[vu]at*;omega,fun x y z J U=>by simp[vu]at*;omega⟩
theorem abh(l:List b6)(i j:Nat)(x y:b6)(aq:l.length≤68719476736)(hi:l[i]? =some x)(ag:l[j]? =some y):bB az 127 [.int .i64 i,.int .i64 j,.ptr (.obj 804) 0] (uK l) fun r ah=>r= .bool (vu x y)∧ah=uK l:=by have af:=Di l;obtain⟨lG,hj⟩:=fG.1 hi;obtain⟨dS,nV⟩:=fG.1 ag;unfold uK dI at af⊢;refine bB.mk mixed jP Zl afI (by simp) af.obj fun aU cH=>?_;unfold Ny;simp[lG,dS,hj,nV];(with_reducible repeat' first|refine aj ?_|simp);refine cG.at _ (.inl rfl) af (Same.refl _) aE aE ?_;simp[cM,Uq,aV,aY,aT,vu]
noncomputable def Tryz.vkT:TypeInfo:=(az.info? 25).get (by kernel_rfl)
noncomputable def Tryz.vkE:TypeInfo:=(az.info? 104).get (by kernel_rfl)
theorem Tryz.vkK(n:Nat)(U:2≤n):Lib.swapperK n Tryz.vkE 25=9:=by
 have a:Tryz.vkE.hasPointers=false:=by kernel_rfl
 have b:Tryz.vkE.bytes=16:=by kernel_rfl
 have c:(n==0)=false:=by simp;omega
 have d:(n==1)=false:=by simp;omega
 simp[Lib.swapperK,a,b,c,d]
theorem aeX{α β:Type}(f:α→β)(l:List α)(i j:Nat):(gP l i j).map f=gP (l.map f) i j:=by
 unfold gP;simp only[List.getElem?_map];cases l[i]? with
 |none=>simp
 |some x=>
  cases l[j]? with
  |none=>simp
  |some y=>simp[List.map_set]
theorem QE(l:List b6)(aq:l.length≤68719476736):bB az 126 [.iface 25 (.row 2 (.obj 803) l.length),.func 127 [.ptr (.obj 804) 0]] (uK l) fun r ah=>r= .tuple []∧∃aX,ah=uK aX∧aX.Perm l∧aX.Pairwise fun x y=>vu y x=false:=by
 refine(Qw SG (K:=803) (B:=804) (sz:=2) (by decide) (by decide) 25 Tryz.vkT Tryz.vkE (by kernel_rfl) (by kernel_rfl) (by kernel_rfl) (by kernel_rfl) 25 (fun _=>by kernel_rfl) Tryz.vkK 127 vu aeY l aq (fun aX h i j x y hi ag=>abh aX i j x y (by omega) hi ag) (fun aX h i j hi ag=>?_));have:=QF (P:=az) false 257 (fun args W=>run_callFunc_extern Tryz.func257 (by kernel_rfl) (by kernel_rfl) (by kernel_rfl) (e:=Dd false) (by kernel_rfl) args W)
  104 Tryz.vkE (by kernel_rfl) (fun _=>by kernel_rfl) (Di aX) (K:=803) (n:=l.length) (el:=104) (sz:=2) (by kernel_rfl) (xs:=aX.map b6.e) (by simp[dI,Pv.look,h]) i j hi ag
 refine this.mono ?_;rintro r ah ⟨rfl,rfl⟩;refine⟨rfl,?_⟩;simp[dI,ct,aeX,h]
end Go.Proofs.YtohaalphocaebaaGreat
namespace Go.Proofs.YtohaalphocaebaaGreat
open Go Go.Pv
def fy(o:Option (List b6)):ai:= .tuple [.slice 2 .no ((o.getD []).map b6.e),.bool o.isSome]
@[simp] theorem ani(S:aH→Prop)(o:Option (List b6)):aF S (fy o)=True:=by simp[fy]
theorem Wc{l:List b6}(h:jH l):b7 az 56 [.slice 2 .no (l.map b6.e)] (.bool true):=by have:=Wb l;simpa only[h,decide_true]using this
theorem xR{t:T}(h:t.fit=true):b7 az 117 [t.e] (.bool true):=by have:=ajT t;rwa[h]at this
set_option maxRecDepth 4000 in
theorem V9{s:List al}(af:en s){l:List b6}(aq:jH l)(t:T)(aN:t.fit=true)(k:Int):
  b7 az 52 [.slice 5 .no (s.map al.e),.slice 2 .no (l.map b6.e),t.e,.int .i64 k] (fy (if(k=2∨k=3)∧(t.ap (bP s)).size≤5000 then iq l (t.ap (bP s)) k else none)):=by
 have wW:=oX aq;have dC:=oo af;have dN:=xR aN;have cY:=Wc aq;have fc:=GQ s t af.len af.sol.asc af.fit;generalize ad:t.ap (bP s)=x at fc⊢;generalize de:(if(k=2∨k=3)∧x.size≤5000 then iq l x k else none)=O;by_cases ab:k=2∨k=3;rotate_left
 ·have gj:(k !=2)=true:=by simp;omega
  have jX:(k !=3)=true:=by simp;omega
  rw[if_neg (fun h=>ab h.1)]at de;rw[←de];refine bE jP qW rB fun aU=>?_;unfold p5;simp;(with_reducible repeat' first|refine aj ?_|refine aC dC ?_|refine aD dC ?_|refine aC dN ?_|refine aD dN ?_|refine aC cY ?_|refine aD cY ?_|simp[gj,jX]);simp[bz,jM,aV,aY,aT];simp[fy]
 by_cases bf:x.size≤5000;rotate_left
 ·rw[if_neg (fun h=>bf h.2)]at de;rw[←de];rw[if_neg bf,lS bf]at fc;refine bE jP qW rB fun aU=>?_;unfold p5;simp;rcases ab with rfl|rfl;all_goals(with_reducible repeat' first|refine aj ?_|refine aC dC ?_|refine aD dC ?_|refine aC dN ?_|refine aD dN ?_|refine aC cY ?_|refine aD cY ?_|refine aC fc ?_|refine aD fc ?_|simp)
  all_goals simp[bz,jM,aV,aY,aT]
  all_goals simp[fy]
 rw[if_pos ⟨ab,bf⟩]at de;rw[if_pos bf,lA bf]at fc;have Ey:(k !=2)=true→(k !=3)=false:=fun h=>by simp at h⊢;omega
 have tH:((k !=2)=false)∨((k !=2)=true∧(k !=3)=false):=by
  rcases ab with rfl|rfl
  ·left;rfl
  ·right;exact⟨rfl,rfl⟩
 clear Ey;cases x with
 |var n=>
  have dJ:O=match kW l n with|some bD=>if bD=k then some l else none|none=>some (ln ⟨n,k⟩ l):=by rw[←de];rfl
  refine bE jP qW rB fun aU=>?_;unfold p5;simp;rcases tH with bn|⟨bn,kg⟩
  ·(with_reducible repeat' first|refine aj ?_|refine aC dC ?_|refine aD dC ?_|refine aC dN ?_|refine aD dN ?_|refine aC cY ?_|refine aD cY ?_|refine aC fc ?_|refine aD fc ?_|simp[bn]);refine gh [3,10,12,55,56] (fun i (_:Unit)=>[(57,.int .i64 i)]) l.length (fun i _=> ∀j y,j<i→l[j]? =some y→y.v≠n) () cu (fun j y ag=>by omega) (fun _ ag _=>?_) (fun i _ hi ag _=>?_)
   ·have aS:kW l n=none:=xb.2 fun y aG=>by obtain⟨m,hm,e⟩:=ov aG;exact ag m y hm (by rw[cv hm,e])
    rw[aS]at dJ;simp only at dJ;simp;(with_reducible repeat' first|refine aj ?_|simp);all_goals first|(refine⟨by unfold lim;omega,?_⟩)|skip
    have key:=QE (l++[⟨n,k⟩]) (by simp;omega);have eu:=Di (l++[⟨n,k⟩]);have hlen:(l++[(⟨n,k⟩:b6)]).length=l.length+1:=by simp
    unfold uK dI at key eu;rw[hlen,List.map_append,gI,mj]at key eu;refine cD.ob key eu aE aE (by simp[inObs,Pv.look]) ?_;rintro r ah ⟨rfl,aX,rfl,J,U⟩;have sq:aX=ln ⟨n,k⟩ l:=SH (J.trans ((List.perm_append_comm (l₁:=l) (l₂:=[⟨n,k⟩])).trans (JP ⟨n,k⟩ l).symm)) (E0 aq.asc (xb.1 aS)) U;subst sq;refine⟨Same.keys (by simp) (by simp),?_⟩;rw[dJ];simp[bR];(with_reducible repeat' first|refine aj ?_|simp);simp[bz,jM,aV,aY,aT];simp[fy]
   ·obtain⟨b,ae,dk⟩:=fE hi;by_cases mC:b.v=n
    ·have aS:kW l n=some b.k:=by rw[←mC];exact Fa aq.asc (gb ae)
     rw[aS]at dJ;simp only at dJ;by_cases nS:b.k=k
     ·rw[if_pos nS]at dJ;rw[dJ];have wN:(b.k !=k)=false:=by simp[nS]
      have q6:(b.v==n)=true:=by simp[mC]
      simp[hi,dk];(with_reducible repeat' first|refine aj ?_|simp[dk,hi,wN,q6,nS,mC]);simp[bz,jM,aV,aY,aT];simp[fy]
     ·rw[if_neg nS]at dJ;rw[dJ];have wN:(b.k !=k)=true:=by simp[nS]
      have q6:(b.v==n)=true:=by simp[mC]
      simp[hi,dk];(with_reducible repeat' first|refine aj ?_|simp[dk,hi,wN,q6,nS,mC]);simp[bz,jM,aV,aY,aT];simp[fy]
    ·have q6:(b.v==n)=false:=by simp[mC]
     simp[hi,dk];(with_reducible repeat' first|refine aj ?_|simp[dk,hi,q6,mC]);exact bT.rng () hi (fun j y jG aG=>by
      rcases(by omega:j<i∨j=i)with h|rfl
      ·exact ag j y h aG
      ·rw[ae]at aG;cases aG;exact mC) cu
  ·(with_reducible repeat' first|refine aj ?_|refine aC dC ?_|refine aD dC ?_|refine aC dN ?_|refine aD dN ?_|refine aC cY ?_|refine aD cY ?_|refine aC fc ?_|refine aD fc ?_|simp[bn,kg]);refine gh [3,10,12,55,56] (fun i (_:Unit)=>[(57,.int .i64 i)]) l.length (fun i _=> ∀j y,j<i→l[j]? =some y→y.v≠n) () cu (fun j y ag=>by omega) (fun _ ag _=>?_) (fun i _ hi ag _=>?_)
   ·have aS:kW l n=none:=xb.2 fun y aG=>by obtain⟨m,hm,e⟩:=ov aG;exact ag m y hm (by rw[cv hm,e])
    rw[aS]at dJ;simp only at dJ;simp;(with_reducible repeat' first|refine aj ?_|simp);all_goals first|(refine⟨by unfold lim;omega,?_⟩)|skip
    have key:=QE (l++[⟨n,k⟩]) (by simp;omega);have eu:=Di (l++[⟨n,k⟩]);have hlen:(l++[(⟨n,k⟩:b6)]).length=l.length+1:=by simp
    unfold uK dI at key eu;rw[hlen,List.map_append,gI,mj]at key eu;refine cD.ob key eu aE aE (by simp[inObs,Pv.look]) ?_;rintro r ah ⟨rfl,aX,rfl,J,U⟩;have sq:aX=ln ⟨n,k⟩ l:=SH (J.trans ((List.perm_append_comm (l₁:=l) (l₂:=[⟨n,k⟩])).trans (JP ⟨n,k⟩ l).symm)) (E0 aq.asc (xb.1 aS)) U;subst sq;refine⟨Same.keys (by simp) (by simp),?_⟩;rw[dJ];simp[bR];(with_reducible repeat' first|refine aj ?_|simp);simp[bz,jM,aV,aY,aT];simp[fy]
   ·obtain⟨b,ae,dk⟩:=fE hi;by_cases mC:b.v=n
    ·have aS:kW l n=some b.k:=by rw[←mC];exact Fa aq.asc (gb ae)
     rw[aS]at dJ;simp only at dJ;by_cases nS:b.k=k
     ·rw[if_pos nS]at dJ;rw[dJ];have wN:(b.k !=k)=false:=by simp[nS]
      have q6:(b.v==n)=true:=by simp[mC]
      simp[hi,dk];(with_reducible repeat' first|refine aj ?_|simp[dk,hi,wN,q6,nS,mC]);simp[bz,jM,aV,aY,aT];simp[fy]
     ·rw[if_neg nS]at dJ;rw[dJ];have wN:(b.k !=k)=true:=by simp[nS]
      have q6:(b.v==n)=true:=by simp[mC]
      simp[hi,dk];(with_reducible repeat' first|refine aj ?_|simp[dk,hi,wN,q6,nS,mC]);simp[bz,jM,aV,aY,aT];simp[fy]
    ·have q6:(b.v==n)=false:=by simp[mC]
     simp[hi,dk];(with_reducible repeat' first|refine aj ?_|simp[dk,hi,q6,mC]);exact bT.rng () hi (fun j y jG aG=>by
      rcases(by omega:j<i∨j=i)with h|rfl
      ·exact ag j y h aG
      ·rw[ae]at aG;cases aG;exact mC) cu
 |nil=>
  have dJ:O=if T.nil.kind=k then some l else none:=by rw[←de];rfl
  by_cases gW:T.nil.kind=k
  ·rw[if_pos gW]at dJ;rw[dJ];refine bE jP qW rB fun aU=>?_;unfold p5;simp;simp at gW;rcases tH with bn|⟨bn,kg⟩
   ·((with_reducible repeat' first|refine aj ?_|refine aC dC ?_|refine aD dC ?_|refine aC dN ?_|refine aD dN ?_|refine aC cY ?_|refine aD cY ?_|refine aC fc ?_|refine aD fc ?_|simp[bn,gW]|((first|apply bI|apply bK|apply bJ)<;>intro h<;>try simp at h))<;>(try exact cm));all_goals simp[bz,jM,aV,aY,aT]
    all_goals simp[fy]
   ·((with_reducible repeat' first|refine aj ?_|refine aC dC ?_|refine aD dC ?_|refine aC dN ?_|refine aD dN ?_|refine aC cY ?_|refine aD cY ?_|refine aC fc ?_|refine aD fc ?_|simp[bn,kg,gW]|((first|apply bI|apply bK|apply bJ)<;>intro h<;>try simp at h))<;>(try exact cm));all_goals simp[bz,jM,aV,aY,aT]
    all_goals simp[fy]
  ·rw[if_neg gW]at dJ;rw[dJ];refine bE jP qW rB fun aU=>?_;unfold p5;simp;simp at gW;rcases tH with bn|⟨bn,kg⟩
   ·((with_reducible repeat' first|refine aj ?_|refine aC dC ?_|refine aD dC ?_|refine aC dN ?_|refine aD dN ?_|refine aC cY ?_|refine aD cY ?_|refine aC fc ?_|refine aD fc ?_|simp[bn,gW]|((first|apply bI|apply bK|apply bJ)<;>intro h<;>try simp at h))<;>(try exact cm));all_goals simp[bz,jM,aV,aY,aT]
    all_goals simp[fy]
   ·((with_reducible repeat' first|refine aj ?_|refine aC dC ?_|refine aD dC ?_|refine aC dN ?_|refine aD dN ?_|refine aC cY ?_|refine aD cY ?_|refine aC fc ?_|refine aD fc ?_|simp[bn,kg,gW]|((first|apply bI|apply bK|apply bJ)<;>intro h<;>try simp at h))<;>(try exact cm));all_goals simp[bz,jM,aV,aY,aT]
    all_goals simp[fy]
 |sym a=>
  have dJ:O=if(T.sym a).kind=k then some l else none:=by rw[←de];rfl
  by_cases gW:(T.sym a).kind=k
  ·rw[if_pos gW]at dJ;rw[dJ];refine bE jP qW rB fun aU=>?_;unfold p5;simp;simp at gW;rcases tH with bn|⟨bn,kg⟩
   ·((with_reducible repeat' first|refine aj ?_|refine aC dC ?_|refine aD dC ?_|refine aC dN ?_|refine aD dN ?_|refine aC cY ?_|refine aD cY ?_|refine aC fc ?_|refine aD fc ?_|simp[bn,gW]|((first|apply bI|apply bK|apply bJ)<;>intro h<;>try simp at h))<;>(try exact cm));all_goals simp[bz,jM,aV,aY,aT]
    all_goals simp[fy]
   ·((with_reducible repeat' first|refine aj ?_|refine aC dC ?_|refine aD dC ?_|refine aC dN ?_|refine aD dN ?_|refine aC cY ?_|refine aD cY ?_|refine aC fc ?_|refine aD fc ?_|simp[bn,kg,gW]|((first|apply bI|apply bK|apply bJ)<;>intro h<;>try simp at h))<;>(try exact cm));all_goals simp[bz,jM,aV,aY,aT]
    all_goals simp[fy]
  ·rw[if_neg gW]at dJ;rw[dJ];refine bE jP qW rB fun aU=>?_;unfold p5;simp;simp at gW;rcases tH with bn|⟨bn,kg⟩
   ·((with_reducible repeat' first|refine aj ?_|refine aC dC ?_|refine aD dC ?_|refine aC dN ?_|refine aD dN ?_|refine aC cY ?_|refine aD cY ?_|refine aC fc ?_|refine aD fc ?_|simp[bn,gW]|((first|apply bI|apply bK|apply bJ)<;>intro h<;>try simp at h))<;>(try exact cm));all_goals simp[bz,jM,aV,aY,aT]
    all_goals simp[fy]
   ·((with_reducible repeat' first|refine aj ?_|refine aC dC ?_|refine aD dC ?_|refine aC dN ?_|refine aD dN ?_|refine aC cY ?_|refine aD cY ?_|refine aC fc ?_|refine aD fc ?_|simp[bn,kg,gW]|((first|apply bI|apply bK|apply bJ)<;>intro h<;>try simp at h))<;>(try exact cm));all_goals simp[bz,jM,aV,aY,aT]
    all_goals simp[fy]
 |num a=>
  have dJ:O=if(T.num a).kind=k then some l else none:=by rw[←de];rfl
  by_cases gW:(T.num a).kind=k
  ·rw[if_pos gW]at dJ;rw[dJ];refine bE jP qW rB fun aU=>?_;unfold p5;simp;simp at gW;rcases tH with bn|⟨bn,kg⟩
   ·((with_reducible repeat' first|refine aj ?_|refine aC dC ?_|refine aD dC ?_|refine aC dN ?_|refine aD dN ?_|refine aC cY ?_|refine aD cY ?_|refine aC fc ?_|refine aD fc ?_|simp[bn,gW]|((first|apply bI|apply bK|apply bJ)<;>intro h<;>try simp at h))<;>(try exact cm));all_goals simp[bz,jM,aV,aY,aT]
    all_goals simp[fy]
   ·((with_reducible repeat' first|refine aj ?_|refine aC dC ?_|refine aD dC ?_|refine aC dN ?_|refine aD dN ?_|refine aC cY ?_|refine aD cY ?_|refine aC fc ?_|refine aD fc ?_|simp[bn,kg,gW]|((first|apply bI|apply bK|apply bJ)<;>intro h<;>try simp at h))<;>(try exact cm));all_goals simp[bz,jM,aV,aY,aT]
    all_goals simp[fy]
  ·rw[if_neg gW]at dJ;rw[dJ];refine bE jP qW rB fun aU=>?_;unfold p5;simp;simp at gW;rcases tH with bn|⟨bn,kg⟩
   ·((with_reducible repeat' first|refine aj ?_|refine aC dC ?_|refine aD dC ?_|refine aC dN ?_|refine aD dN ?_|refine aC cY ?_|refine aD cY ?_|refine aC fc ?_|refine aD fc ?_|simp[bn,gW]|((first|apply bI|apply bK|apply bJ)<;>intro h<;>try simp at h))<;>(try exact cm));all_goals simp[bz,jM,aV,aY,aT]
    all_goals simp[fy]
   ·((with_reducible repeat' first|refine aj ?_|refine aC dC ?_|refine aD dC ?_|refine aC dN ?_|refine aD dN ?_|refine aC cY ?_|refine aD cY ?_|refine aC fc ?_|refine aD fc ?_|simp[bn,kg,gW]|((first|apply bI|apply bK|apply bJ)<;>intro h<;>try simp at h))<;>(try exact cm));all_goals simp[bz,jM,aV,aY,aT]
    all_goals simp[fy]
 |pair a b=>
  have dJ:O=if(T.pair a b).kind=k then some l else none:=by rw[←de];rfl
  by_cases gW:(T.pair a b).kind=k
  ·rw[if_pos gW]at dJ;rw[dJ];refine bE jP qW rB fun aU=>?_;unfold p5;simp;simp at gW;rcases tH with bn|⟨bn,kg⟩
   ·((with_reducible repeat' first|refine aj ?_|refine aC dC ?_|refine aD dC ?_|refine aC dN ?_|refine aD dN ?_|refine aC cY ?_|refine aD cY ?_|refine aC fc ?_|refine aD fc ?_|simp[bn,gW]|((first|apply bI|apply bK|apply bJ)<;>intro h<;>try simp at h))<;>(try exact cm));all_goals simp[bz,jM,aV,aY,aT]
    all_goals simp[fy]
   ·((with_reducible repeat' first|refine aj ?_|refine aC dC ?_|refine aD dC ?_|refine aC dN ?_|refine aD dN ?_|refine aC cY ?_|refine aD cY ?_|refine aC fc ?_|refine aD fc ?_|simp[bn,kg,gW]|((first|apply bI|apply bK|apply bJ)<;>intro h<;>try simp at h))<;>(try exact cm));all_goals simp[bz,jM,aV,aY,aT]
    all_goals simp[fy]
  ·rw[if_neg gW]at dJ;rw[dJ];refine bE jP qW rB fun aU=>?_;unfold p5;simp;simp at gW;rcases tH with bn|⟨bn,kg⟩
   ·((with_reducible repeat' first|refine aj ?_|refine aC dC ?_|refine aD dC ?_|refine aC dN ?_|refine aD dN ?_|refine aC cY ?_|refine aD cY ?_|refine aC fc ?_|refine aD fc ?_|simp[bn,gW]|((first|apply bI|apply bK|apply bJ)<;>intro h<;>try simp at h))<;>(try exact cm));all_goals simp[bz,jM,aV,aY,aT]
    all_goals simp[fy]
   ·((with_reducible repeat' first|refine aj ?_|refine aC dC ?_|refine aD dC ?_|refine aC dN ?_|refine aD dN ?_|refine aC cY ?_|refine aD cY ?_|refine aC fc ?_|refine aD fc ?_|simp[bn,kg,gW]|((first|apply bI|apply bK|apply bJ)<;>intro h<;>try simp at h))<;>(try exact cm));all_goals simp[bz,jM,aV,aY,aT]
    all_goals simp[fy]
def hF(o:Option (List bk)):ai:= .tuple [.slice 2 .no ((o.getD []).map bk.e),.bool o.isSome]
@[simp] theorem ank(S:aH→Prop)(o:Option (List bk)):aF S (hF o)=True:=by simp[hF]
theorem Wf{l:List bk}(h:j0 l):b7 az 57 [.slice 2 .no (l.map bk.e)] (.bool true):=by have:=We l;simpa only[h,decide_true]using this
theorem ajJ{s:List cV}(h:iB s=true):b7 az 128 [.str s] (.bool true):=by have:=sW s;rwa[h]at this
def B4(l:List bk):List ai:=l.flatMap fun m=>[m.e,.bool true]
theorem Tj(l:List bk):np l= .hdm l.length (List.range l.length)::B4 l:=rfl
theorem Kl(b:Nat):∀(n:Nat) (l:List bk),mf b (List.range' n l.length) (B4 l)=(if n≤b then(l[b-n]?).map fun x=>.tuple [x.e,.bool true]else none)
 |n,[]=>by simp[mf,B4]
 |n,x::r=>by
  have e:B4 (x::r)=x.e:: .bool true::B4 r:=rfl;simp only[nB,List.range'_succ,e,mf];by_cases h:n=b
  ·subst h;simp
  ·rw[if_neg h,Kl b (n+1) r];by_cases U:n≤b
   ·rw[if_pos U,if_pos (by omega)];have:b-n=(b-(n+1))+1:=by omega
    rw[this];simp
   ·rw[if_neg U,if_neg (by omega)]
@[simp] theorem an5(l:List bk):hE (np l)=false:=rfl
@[simp] theorem aoW(m:aH)(l:List bk):vL m (np l)=some (cl l.length [] m):=rfl
theorem afa(f:aH→Option (List ai))(fb mk:aH)(n:Nat)(seen:List Nat)(b:Nat)(l:List bk)(x:bk)(hi:f fb=some (cl n (seen++[b]) mk))(hm:f mk=some (np l))(ar:n=l.length)(ad:l[b]? =some x):oY f (.ptr fb 0)=some (True,.tuple [x.e,.bool true]):=by subst ar;simp only[Tu,hi,hm,cl,Tj,List.getLast?_append,List.getLast?_singleton,Option.some_or,List.range_eq_range',Kl,Nat.zero_le,if_true,Nat.sub_zero,Option.map_map];simp[ad]
theorem Yt{st:bj}{d:Nat}{K:bj→Prop}{fb mk:aH}{n:Nat}{seen:List Nat}{l:List bk}(hi:Pv.look fb st.b=some (cl n seen mk))(hm:Pv.look mk st.b=some (np l))(ar:n=l.length)
  (J:(∀b,b<l.length→b∈seen)→K {st with t:=Pv.put d (.tuple [.bool false]) st.t}) (U:∀b x,l[b]? =some x→b∉seen→K {st with t:=Pv.put d (.tuple [.bool true,x.e,.bool true]) st.t,b:=ct fb (cl n (seen++[b]) mk) st.b}):
  sa st d (.ptr fb 0) K:=by
 subst ar;simp only[sa,hi,cl,hm,Tj,Ky,and_self,true_and];refine⟨fun h=>J fun b ae=>h b (by simpa using ae),fun b k v wY ae=>?_⟩;rw[List.range_eq_range',Kl]at wY;simp only[Nat.zero_le,if_true,Nat.sub_zero,gd,ai.tuple.injEq,xX,and_true]at wY;obtain⟨x,ak,aA,bs⟩:=wY;subst aA bs;exact U b x ak ae
theorem ae4{m x:bk}{l:List bk}:x∈kP m l↔x=m∨x∈l:=by
 unfold kP;split
 ·constructor
  ·exact .inr
  ·rintro(rfl|h)<;>assumption
 ·simp[or_comm]
theorem Xt{m:bk}{l:List bk}(h:l.Nodup):(kP m l).Nodup:=by
 unfold kP;split
 ·exact h
 ·rw[List.nodup_append];exact⟨h,by simp,fun a br b ae=>by simp at ae;subst ae;intro e;subst e;contradiction⟩
theorem Xs(m:bk)(l:List bk):(kP m l).length≤l.length+1:=by unfold kP;split<;>simp
theorem aa7(s:List cV)(t:T):∀l:List bk,(t.fold (fun v l=>kP ⟨v,s⟩ l) l).length≤l.length+t.size:=by
 induction t with
 |var n=>intro l;simp only[T.fold,T.size];exact Xs _ _
 |pair a b ee ef=>intro l;simp only[T.fold,T.size];have:=ee l;have:=ef (a.fold (fun v l=>kP ⟨v,s⟩ l) l);omega
 |_=>intro l;simp[T.fold,T.size]
theorem aa8(s:List cV)(t:T):∀{l:List bk},l.Nodup→(t.fold (fun v l=>kP ⟨v,s⟩ l) l).Nodup:=by
 induction t with
 |var n=>intro l h;exact Xt h
 |pair a b ee ef=>intro l h;exact ef (ee h)
 |_=>intro l h;exact h
theorem ae5(s:List cV)(t:T)(x:bk):∀{l:List bk},x∈t.fold (fun v l=>kP ⟨v,s⟩ l) l↔x∈l∨(x.s=s∧t.occ x.v=true):=by
 induction t with
 |var n=>
  intro l;simp only[T.fold,ae4,T.occ,dH];constructor
  ·rintro(rfl|h)
   ·exact .inr ⟨rfl,rfl⟩
   ·exact .inl h
  ·rintro(h|⟨J,U⟩)
   ·exact .inr h
   ·left;cases x;simp at J U;subst J U;rfl
 |pair a b ee ef=>
  intro l;simp only[T.fold,ef,ee,T.occ,lQ];constructor
  ·rintro((h|h)|h)
   ·exact .inl h
   ·exact .inr ⟨h.1,.inl h.2⟩
   ·exact .inr ⟨h.1,.inr h.2⟩
  ·rintro(h|⟨J,U|U⟩)
   ·exact .inl (.inl h)
   ·exact .inl (.inr ⟨J,U⟩)
   ·exact .inr ⟨J,U⟩
 |_=>intro l;simp[T.fold,T.occ]
def aei(M:List bk)(k:Nat)(st:bj):Prop:=∃(seen:List Nat) (xs:List bk),seen.Nodup∧(∀b∈seen,b<M.length)∧k=M.length-seen.length∧xs=seen.filterMap (fun b=>M[b]?)∧xs.length=seen.length∧st=⟨[(15,.ptr (.obj 815) 0),(63,.ptr (.loc 2) 0)],[(.obj 812,np M),(.loc 2,cl M.length seen (.obj 812)),(.obj 815,[.row 2 (.obj 814) xs.length])],[(.obj 814,⟨xs.length,106,2,some (xs.map bk.e)⟩)],3,[.obj 815,.obj 814,.obj 813,.obj 812,.obj 811]⟩
set_option maxRecDepth 4000 in
theorem V8{s:List al}(af:en s){l:List bk}(aq:j0 l)(wW:l.length≤68719470000)(t:T)(aN:t.fit=true){g:List cV}(aS:iB g=true):
  b7 az 54 [.slice 5 .no (s.map al.e),.slice 2 .no (l.map bk.e),t.e,.str g] (hF (if(t.ap (bP s)).size≤5000 then jr l (t.ap (bP s)) g else none)):=by
 have dC:=oo af;have dN:=xR aN;have eh:=Wf aq;have hD:=ajJ aS;have fc:=GQ s t af.len af.sol.asc af.fit;generalize ad:t.ap (bP s)=x at fc⊢;generalize de:(if x.size≤5000 then jr l x g else none)=O;by_cases bf:x.size≤5000;rotate_left
 ·rw[if_neg bf]at de;rw[←de];rw[if_neg bf,lS bf]at fc;refine bE jP Ib KE fun aU=>?_;unfold Dz;simp;(with_reducible repeat' first|refine aj ?_|refine aC dC ?_|refine aD dC ?_|refine aC dN ?_|refine aD dN ?_|refine aC eh ?_|refine aD eh ?_|refine aC hD ?_|refine aD hD ?_|refine aC fc ?_|refine aD fc ?_|simp);simp[bz,FN,aV,aY,aT];simp[hF]
 rw[if_pos bf]at de;rw[if_pos bf,lA bf]at fc;have zf:=ajX g x;cases cP:x.has g;rotate_left
 ·rw[cP]at zf;have dJ:O=none:=by rw[←de];unfold jr;rw[cP];rfl
  rw[dJ];refine bE jP Ib KE fun aU=>?_;unfold Dz;simp;(with_reducible repeat' first|refine aj ?_|refine aC dC ?_|refine aD dC ?_|refine aC dN ?_|refine aD dN ?_|refine aC eh ?_|refine aD eh ?_|refine aC hD ?_|refine aD hD ?_|refine aC fc ?_|refine aD fc ?_|refine aC zf ?_|refine aD zf ?_|simp);simp[bz,FN,aV,aY,aT];simp[hF]
 rw[cP]at zf;refine bE jP Ib KE fun aU=>?_;unfold Dz;simp;(with_reducible repeat' first|refine aj ?_|refine aC dC ?_|refine aD dC ?_|refine aC dN ?_|refine aD dN ?_|refine aC eh ?_|refine aD eh ?_|refine aC hD ?_|refine aD hD ?_|refine aC fc ?_|refine aD fc ?_|refine aC zf ?_|refine aD zf ?_|simp);have Bv:l.Nodup:=hb.nodup lv aq.asc;have gL:∀xs:List bk,xs.Perm (x.fold (fun v l=>kP ⟨v,g⟩ l) l)→O=some (nv fj xs):=fun xs bF=>by
  rw[←de];refine He cP ?_ fun y=>?_
  ·have J:=L3 lv xs;have U:(nv fj xs).Nodup:=(((vR fj xs).trans bF).nodup_iff).2 (aa8 g x Bv);exact(J.and U).imp fun{a b} h=>by have:=mt (lv.zero a b).1 h.2;omega
  ·rw[((vR fj xs).trans bF).mem_iff,ae5]
 have hlen:(x.fold (fun v l=>kP ⟨v,g⟩ l) l).length≤68719475000:=by have:=aa7 g x l;omega
 rw[show jx []=np []from rfl];refine ir (fun i (_:Unit)=>⟨[(7,.ptr (.obj 811) 0),(10,.ptr (.loc 1) 0),(12,.ptr (.obj 813) 0),(49,.slice 2 .no (l.map bk.e)),(50,.int .i64 l.length),(51,.int .i64 i)],[(.obj 811,[.str g]),(.loc 1,[.int .i64 x.kind,.int .i64 x.int,.str x.name,.slice 4 .no (x.args.map T.e)]),(.obj 812,np (l.take i)),(.obj 813,[.gmap (.obj 812)])],[],2,[.obj 813,.obj 812,.obj 811]⟩) l.length (fun _ _=>True) () cu trivial (fun _ _ _=>?_) (fun i _ hi _ _=>?_)
 ·rw[mY];simp;(with_reducible repeat' first|refine aj ?_|simp);have key:=Qx (nG g) (Dk g) (G7 g) 130 [.ptr (.obj 813) 0,.ptr (.obj 811) 0] (by intro a;simp[inObs,nG,Pv.look,aO,aF]) (by simp) (fun v l=>kP ⟨v,g⟩ l) (fun v a=>abf g v a) x l;refine cD.ob key (Dk g l) (by unfold nG;exact aE) (by unfold nG;exact aE) (by simp[inObs,nG,Pv.look]) ?_;rintro r ah ⟨rfl,rfl⟩;refine⟨G7 g _ _,?_⟩;unfold nG;generalize gK:x.fold (fun v l=>kP ⟨v,g⟩ l) l=M at gL hlen⊢;simp[bR];(with_reducible repeat' first|refine aj ?_|simp);refine nj (aei M) M.length _ ⟨by simp[fresh,aO,aF,cl,inObs,Pv.look,zh],eF (by simp[fresh,aO,aF,cl,inObs,Pv.look,zh]),eG (by simp[fresh,aO,aF,eb,inObs,Pv.look,zh]),by simp⟩ ⟨[],[],by simp,by simp,by simp,by simp,by simp,rfl⟩ ?_;rintro k st ⟨seen,xs,aK,bq,ab,Sd,oU,rfl⟩ js cH;clear js cH;have hle:=Gq aK bq;simp;refine Yt (mk:= .obj 812) (seen:=seen) (l:=M) (by simp) (by simp) rfl (fun la=>?_) (fun b y aG ae=>?_)
  ·have vb:=LS aK bq la;rw[←Sd]at vb;have dK:=gL xs vb;simp;(with_reducible repeat' first|refine aj ?_|simp);have key:=abS xs (by omega);have eu:=G6 xs;unfold wi dI at key eu;refine cD.ob key eu aE aE (by simp[inObs,Pv.look]) ?_;rintro r ah ⟨rfl,rfl⟩;refine⟨Same.keys (by simp) (by simp),?_⟩;rw[dK];simp[bR];(with_reducible repeat' first|refine aj ?_|simp);simp[bz,FN,aV,aY,aT];simp[hF]
  ·have yR:∀f:aH→Option (List ai),f (.loc 2)=some (cl M.length (seen++[b]) (.obj 812))→f (.obj 812)=some (np M)→oY f (.ptr (.loc 2) 0)=some (True,.tuple [y.e,.bool true]):=fun f J U=>afa f (.loc 2) (.obj 812) M.length seen b M y J U rfl aG;have fp:b<M.length:=(fG.1 aG).1;have pB:=LU aK bq fp ae;simp[yR];(with_reducible repeat' first|refine aj ?_|simp[yR]);all_goals first|(refine⟨by unfold lim;omega,?_⟩)|skip
   have wT:∀S:aH→Prop,aO S (xs.map bk.e++[y.e])=True:=fun S=>by
    have e:xs.map bk.e++[y.e]=(xs++[y]).map bk.e:=by simp
    rw[e];simp[-List.map_append]
   refine bT.next (M.length-(seen.length+1)) (by omega) ⟨seen++[b],xs++[y],KC aK ae,(by simp;intro c av;rcases av with av|rfl;exact bq c av;exact fp),by simp,by rw[List.filterMap_append,←Sd];simp[aG],by simp[oU],rfl⟩ ⟨by simp[fresh,aO,aF,cl,inObs,Pv.look,zh,wT],eF (by simp[fresh,aO,aF,cl,inObs,Pv.look,zh,wT]),eG (by simp[fresh,aO,aF,eb,inObs,Pv.look,zh,wT]),by simp⟩
 ·obtain⟨b,ae,dk⟩:=fE hi;have iR:kP b (l.take i)=l.take (i+1):=by
   have J:b∉l.take i:=fun h=>by
    obtain⟨j,ag,e⟩:=ov h;have jG:j<i:=by simp at ag;omega
    rw[List.getElem_take]at e;have:=(List.nodup_iff_pairwise_ne.1 Bv);exact(pb.1 this j i (by omega) hi jG) (by rw[e,dk])
   rw[List.take_succ,ae];simp[kP,J]
  exact ko
def NO:C:=(aa [bH 4 false] (.seq (aa [I 7 0,cS 8 7,cr 9 0] (fY 10 9 8 (.seq (.block 1 (aa [cN 11 5 7 9,ba 12 5 11,cU 6 kE,bG 5 6 12] (aa [aP 13 0 1 6,aB 14 1 13,I 15 1,bA 16 .geq 14 15,I 17 16,aw 17 false (iW 18 1 4 6),aw 17 false (ba 19 4 18),ys 17 false (.bsl 20 4 32 [.t 19]),aw 17 false (cL 21 116 20),bU 17 false 22 1,aw 17 false (bA 23 .gtr 21 22),dj 24 17 23] (a8 24 (aa [bH 4 false] .ret) .skip)))) (.region [aW 25 .add 9 1,I 9 25])))) (aa [bH 4 true] .ret)))
@[simp] def ahX:List bu:=[.tmp 4]
def NN:C:=(aa [cr 2 0] (.seq (aa [I 6 0,cL 7 68 6,cI 8 7] (a8 8 (aa [cr 2 (-1)] .ret) .skip)) (aa [c4 (.alloc 3 (some 831) (.int .i64 0)),c4 (.store 1 (.t 3) (et 0))] (.seq (aa [I 9 0,cS 10 9,cr 11 0] (fY 12 11 10 (.seq (.block 1 (aa [cN 13 4 9 11,ba 14 4 13,cU 5 dz,bG 4 5 14] (.region [ba 15 4 5,bX 16 (.mkf 193 [.t 3]),cw 17 129 15 16]))) (.region [aW 18 .add 11 1,I 11 18])))) (aa [aB 19 1 3,I 2 19] .ret)))))
@[simp] def ahV:List bu:=[.tmp 2]
def NI:C:=(aa [eC 4 2,bH 5 false] (.seq (aa [I 11 0,cL 12 55 11,cI 13 12,I 14 13,bU 14 false 15 1,aw 14 false (cL 16 56 15),aw 14 false (cI 17 16),dj 18 14 17] (a8 18 (aa [eC 4 2,bH 5 false] .ret) .skip)) (aa [dR 19 2 104 [],I 6 19] (.seq (.seq (.fg false 6 (.region [I 20 1,cS 21 20,cr 22 0])) (fY 23 22 21 (.seq (.block 1 (aa [cN 24 2 20 22,ba 25 2 24,c4 (.alloc 8 none (.agg [.int .i64 0,.int .i64 0])),bG 2 8 25] (.seq (.drawn true 42 [I 27 0,I 28 6,aP 29 0 1 8,aB 30 1 29,cL 31 96 30,aP 32 1 1 8,aB 33 1 32,cX 34 52 [.t 27,.t 28,.t 31,.t 33],I 26 34,cq 35 0 26,cq 36 1 26,I 9 35,I 10 36]) (.seq (aa [I 37 10,cI 38 37] (a8 38 (aa [eC 4 2,bH 5 false] .ret) .skip)) (.region [I 39 9,I 6 39]))))) (.region [aW 40 .add 22 1,I 22 40])))) (aa [I 41 6,I 4 41,bH 5 true] .ret)))))
@[simp] def K6:List bu:=[.tmp 4,.tmp 5]
def NJ:C:=(aa [eC 4 2,bH 5 false] (.seq (aa [I 11 0,cL 12 55 11,cI 13 12,I 14 13,bU 14 false 15 1,aw 14 false (cL 16 57 15),aw 14 false (cI 17 16),dj 18 14 17] (a8 18 (aa [eC 4 2,bH 5 false] .ret) .skip)) (aa [dR 19 2 106 [],I 6 19] (.seq (.seq (.fg false 6 (.region [I 20 1,cS 21 20,cr 22 0])) (fY 23 22 21 (.seq (.block 1 (aa [cN 24 2 20 22,ba 25 2 24,c4 (.alloc 8 none (.agg [.int .i64 0,.str []])),bG 2 8 25] (.seq (.drawn true 42 [I 27 0,I 28 6,aP 29 0 1 8,aB 30 1 29,cL 31 96 30,aP 32 1 1 8,aB 33 1 32,cX 34 54 [.t 27,.t 28,.t 31,.t 33],I 26 34,cq 35 0 26,cq 36 1 26,I 9 35,I 10 36]) (.seq (aa [I 37 10,cI 38 37] (a8 38 (aa [eC 4 2,bH 5 false] .ret) .skip)) (.region [I 39 9,I 6 39]))))) (.region [aW 40 .add 22 1,I 22 40])))) (aa [I 41 6,I 4 41,bH 5 true] .ret)))))
@[simp] def K7:List bu:=[.tmp 4,.tmp 5]
def NF:C:=(aa [eC 2 1] (.seq (aa [I 12 0,cS 13 12,cr 14 0] (fY 15 14 13 (.seq (.block 1 (aa [cN 16 1 12 14,aB 17 1 16,I 4 17] (aa [I 18 4,cL 19 55 18,cI 20 19] (a8 20 (aa [eC 2 1] .ret) .skip)))) (.region [aW 21 .add 14 1,I 14 21])))) (aa [c4 (.bslm 22 (some 821) 1 23 []),I 23 0,c4 (.appm 24 none 1 23 (.t 22) (.t 23)),c4 (.alloc 5 (some 822) (.slice 1 .nil [])),bG 1 5 24] (aa [aB 25 1 5,bX 26 (.mkif 24 (.t 25)),bX 27 (.mkf 203 [.t 5]),cw 28 202 26 27] (aa [dR 29 1 23 [],I 6 29] (.seq (aa [aB 30 1 5,cS 31 30,cr 32 0] (.block 2 (.loop (aa [bA 33 .lss 32 31] (.seq (a8 33 .skip (.exit 2)) (.seq (.block 3 (aa [I 34 32,cN 35 1 30 32,aB 36 1 35,I 7 34,I 8 36] (.seq (aa [I 37 7,aW 38 .gtr 37 0,I 39 38,aw 39 true (aB 40 1 5),bU 39 true 41 7,aw 39 true (aW 42 .sub 41 1),aw 39 true (cN 43 1 40 42),aw 39 true (aB 44 1 43),bU 39 true 45 8,aw 39 true (cw 46 204 44 45),aw 39 true (aW 47 .eql 46 0),dr 48 39 47] (a8 48 (.exit 3) .skip)) (aa [bH 9 true] (.seq (aa [aB 49 1 5,cS 50 49,cr 51 0] (.block 4 (.loop (aa [bA 52 .lss 51 50] (.seq (a8 52 .skip (.exit 4)) (.seq (.block 5 (aa [cN 53 1 49 51,aB 54 1 53,I 11 54] (aa [I 55 11,I 56 8,cw 57 204 55 56,aW 58 .neq 57 0,I 59 58,bU 59 true 60 11,bU 59 true 61 8,aw 59 true (cw 62 205 60 61),dr 63 59 62] (a8 63 (.region [bH 9 false]) .skip)))) (.region [aW 64 .add 51 1,I 51 64]))))))) (aa [I 65 9] (a8 65 (.region [I 66 6,I 67 8,cL 68 119 67,dR 69 1 23 [.t 68],gC 70 1 23 66 69,I 6 70]) .skip))))))) (.region [aW 71 .add 32 1,I 32 71]))))))) (aa [I 72 6,I 2 72] .ret)))))))
@[simp] def ahQ:List bu:=[.tmp 2]
def Hx:C:=(.region [aB 3 1 1,I 4 0,aW 5 .add 4 1,bX 6 (.max2 (.t 3) (.t 5)),bG 1 1 6])
@[simp] def K9:List bu:=[]
def NG:C:=(aa [bH 5 false] (.seq (.drawn true 16 [aB 6 1 2,I 7 0,cN 8 1 6 7,aB 9 1 8,aB 10 1 2,I 11 1,cN 12 1 10 11,aB 13 1 12,cw 14 204 9 13,aW 15 .lss 14 0,I 5 15]) .ret))
@[simp] def Uu:List bu:=[.tmp 5]
def vX:List (Nat×du):=[
 (3,⟨1,8,.int .i64,.int .i64 0⟩),
 (9,⟨1,16,.str,.str []⟩),
 (23,⟨1,24,.slice 61,.slice 5 .nil []⟩),
 (24,⟨1,24,.slice 23,.slice 1 .nil []⟩),
 (25,⟨1,24,.slice 104,.slice 2 .nil []⟩),
 (26,⟨1,24,.slice 106,.slice 2 .nil []⟩),
 (30,⟨1,24,.slice 32,.slice 4 .nil []⟩),
 (32,⟨4,56,.struct [(0,3),(1,3),(2,9),(3,30)],.agg [.int .i64 0,.int .i64 0,.str [],.slice 4 .nil []]⟩),
 (61,⟨5,64,.struct [(0,3),(1,32)],.agg [.int .i64 0,.int .i64 0,.int .i64 0,.str [],.slice 4 .nil []]⟩),
 (104,⟨2,16,.struct [(0,3),(1,3)],.agg [.int .i64 0,.int .i64 0]⟩),
 (106,⟨2,24,.struct [(0,3),(1,9)],.agg [.int .i64 0,.str []]⟩)]
theorem vY:fA az vX=true:=by kernel_rfl
theorem afX:cc vX NO ahX 2 Tryz.f58=true:=by kernel_rfl
theorem ZA:az.funcs[(58:Nat)]? =some Tryz.f58:=Tryz.func58
theorem afW:cc vX NN ahV 1 Tryz.f116=true:=by kernel_rfl
theorem Zz:az.funcs[(116:Nat)]? =some Tryz.f116:=Tryz.func116
theorem afR:cc vX NI K6 2 Tryz.f120=true:=by kernel_rfl
theorem Zu:az.funcs[(120:Nat)]? =some Tryz.f120:=Tryz.func120
theorem afS:cc vX NJ K7 2 Tryz.f121=true:=by kernel_rfl
theorem Zv:az.funcs[(121:Nat)]? =some Tryz.f121:=Tryz.func121
theorem afO:cc vX NF ahQ 1 Tryz.f124=true:=by kernel_rfl
theorem Zr:az.funcs[(124:Nat)]? =some Tryz.f124:=Tryz.func124
theorem TX:cc vX Hx K9 2 Tryz.f193=true:=by kernel_rfl
theorem P3:az.funcs[(193:Nat)]? =some Tryz.f193:=Tryz.func193
theorem afP:cc vX NG Uu 3 Tryz.f203=true:=by kernel_rfl
theorem Zs:az.funcs[(203:Nat)]? =some Tryz.f203:=Tryz.func203
def St(s:List al)(l:List b6)(i:Nat)(a:List b6):Prop:=jH a∧fF s (l.drop i) a=fF s l []
theorem Wh{s:List al}(af:en s){l:List b6}(aq:jH l):b7 az 120 [.slice 5 .no (s.map al.e),.slice 2 .no (l.map b6.e)] (fy (fF s l [])):=by
 have wW:=oX aq;have dC:=oo af;have cY:=Wc aq;refine bE vY Zu afR fun aU=>?_;unfold NI;simp;(with_reducible repeat' first|refine aj ?_|refine aC dC ?_|refine aD dC ?_|refine aC cY ?_|refine aD cY ?_|simp);refine gh [0,20,21] (fun i (a:List b6)=>[(6,.slice 2 .no (a.map b6.e)),(22,.int .i64 i)]) l.length (St s l) [] cu ⟨⟨by simp,by simp⟩,rfl⟩ (fun a ag _=>?_) (fun i a hi ag _=>?_)
 ·obtain⟨_,ag⟩:=ag;rw[List.drop_length]at ag;simp only[fF]at ag;rw[←ag];simp;(with_reducible repeat' first|refine aj ?_|simp);simp[bz,K6,aV,aY,aT];simp[fy]
 ·obtain⟨br,ag⟩:=ag;obtain⟨b,ae,dk⟩:=fE hi;have nR:=aq.at' b (gb ae);rw[kN hi,dk]at ag;simp only[fF]at ag;have fa:=V9 af br (.var b.v) (by simp[T.fit,T.ok,T.size,nR.1]) b.k;have bf:((T.var b.v).ap (bP s)).size≤5000:=CP af b.v;rw[if_pos ⟨nR.2,bf⟩,show(T.var b.v).ap (bP s)=bP s b.v from rfl]at fa;simp[hi,dk];cases dJ:iq a (bP s b.v) b.k with
  |none=>rw[dJ]at ag fa;simp only at ag;rw[←ag];simp only[fy]at fa;(with_reducible repeat' first|refine aj ?_|refine aC (kK _) ?_|refine aD (kK _) ?_|refine aC fa ?_|refine aD fa ?_|simp[dk,hi]);simp[bz,K6,aV,aY,aT];simp[fy]
  |some bh=>rw[dJ]at ag fa;simp only[fy]at fa;(with_reducible repeat' first|refine aj ?_|refine aC (kK _) ?_|refine aD (kK _) ?_|refine aC fa ?_|refine aD fa ?_|simp[dk,hi]);exact bT.rng bh hi ⟨Dr br (z1 af nR.1) nR.2 dJ,ag⟩ cu
def Su(s:List al)(G:List (List cV))(l:List bk)(i:Nat)(a:List bk):Prop:=j0 a∧kH G a∧fx s (l.drop i) a=fx s l []
theorem Wi{s:List al}(af:en s){l:List bk}(aq:j0 l){G:List (List cV)}(hd:G.length≤687000)(aS:kH G l):b7 az 121 [.slice 5 .no (s.map al.e),.slice 2 .no (l.map bk.e)] (hF (fx s l [])):=by
 have hlen:∀{a:List bk},j0 a→kH G a→a.length≤68719470000:=fun J U=>by have:=B6 J U;omega
 have wW:=hlen aq aS;have dC:=oo af;have cY:=Wf aq;refine bE vY Zv afS fun aU=>?_;unfold NJ;simp;(with_reducible repeat' first|refine aj ?_|refine aC dC ?_|refine aD dC ?_|refine aC cY ?_|refine aD cY ?_|simp);refine gh [0,20,21] (fun i (a:List bk)=>[(6,.slice 2 .no (a.map bk.e)),(22,.int .i64 i)]) l.length (Su s G l) [] cu ⟨⟨by simp,by simp[hb]⟩,fun x ad=>by simp at ad,rfl⟩ (fun a ag _=>?_) (fun i a hi ag _=>?_)
 ·obtain⟨_,_,ag⟩:=ag;rw[List.drop_length]at ag;simp only[fx]at ag;rw[←ag];simp;(with_reducible repeat' first|refine aj ?_|simp);simp[bz,K7,aV,aY,aT];simp[hF]
 ·obtain⟨br,BG,ag⟩:=ag;obtain⟨b,ae,dk⟩:=fE hi;have nR:=aq.at' b (gb ae);have IX:=aS b (gb ae);rw[kN hi,dk]at ag;simp only[fx]at ag;have fa:=V8 af br (hlen br BG) (.var b.v) (by simp[T.fit,T.ok,T.size,nR.1]) nR.2;have bf:((T.var b.v).ap (bP s)).size≤5000:=CP af b.v;rw[if_pos bf,show(T.var b.v).ap (bP s)=bP s b.v from rfl]at fa;simp[hi,dk];cases dJ:jr a (bP s b.v) b.s with
  |none=>rw[dJ]at ag fa;simp only at ag;rw[←ag];simp only[hF]at fa;(with_reducible repeat' first|refine aj ?_|refine aC (kK _) ?_|refine aD (kK _) ?_|refine aC fa ?_|refine aD fa ?_|simp[dk,hi]);simp[bz,K7,aV,aY,aT];simp[hF]
  |some bh=>rw[dJ]at ag fa;simp only[hF]at fa;(with_reducible repeat' first|refine aj ?_|refine aC (kK _) ?_|refine aD (kK _) ?_|refine aC fa ?_|refine aD fa ?_|simp[dk,hi]);exact bT.rng bh hi ⟨Ds br (z1 af nR.1) nR.2 dJ,AD BG IX dJ,ag⟩ cu
end Go.Proofs.YtohaalphocaebaaGreat
namespace Go.Proofs.YtohaalphocaebaaGreat
open Go Go.Pv Go.Lib
def cz(d:List al):ai:= .slice 5 .no (d.map al.e)
@[simp] theorem ana(S:aH→Prop)(d:List al):aF S (cz d)=True:=by simp[cz]
@[simp] theorem alp(d:List al):cells (cz d)=[cz d]:=rfl
@[simp] theorem ao9(d:List al):eE (cz d)=true:=rfl
@[simp] theorem apx(d:List al):dO (cz d)=cz d:=by simp[cz]
theorem Pz:∀(S:aH→Prop) (x:List al),aF S (cz x):=fun S x=>by simp
theorem J5(S:aH→Prop):∀l:List (List al),aO S (l.map cz)
 |[]=>by simp[aO]
 |x::xs=>by simp[aO,J5 S xs]
@[simp] theorem S0(S:aH→Prop)(l:List (List al)):aO S (l.map cz)=True:=eq_true (J5 S l)
@[simp] theorem L9:∀l:List (List al),df (l.map cz)=l.map cz
 |[]=>rfl
 |x::xs=>by simp[df,L9 xs]
def l0(d:List dU):ai:= .slice 5 .no (d.map dU.e)
@[simp] theorem alq(d:List dU):cells (l0 d)=[l0 d]:=rfl
@[simp] theorem apa(d:List dU):eE (l0 d)=true:=rfl
theorem HY(d:List al):l0 (d.map al.b)=cz d:=by simp only[l0,cz,zn]
theorem PH(l:List (List al)):(l.map fun d=>d.map al.b).map l0=l.map cz:=by rw[List.map_map];exact List.map_congr_left fun d _=>HY d
@[simp] theorem anb(S:aH→Prop)(d:List dU):aF S (l0 d)=True:=by simp[l0]
@[simp] theorem apy(d:List dU):dO (l0 d)=l0 d:=by simp[l0]
theorem S1(S:aH→Prop):∀l:List (List dU),aO S (l.map l0)
 |[]=>by simp[aO]
 |x::xs=>by simp[aO,S1 S xs]
@[simp] theorem am6(S:aH→Prop)(l:List (List dU)):aO S (l.map l0)=True:=eq_true (S1 S l)
abbrev te(l:List (List al)):cF:=dI cz 821 822 23 1 l
theorem G3(l:List (List al)):dG (te l):=wj Pz l
theorem abi(l:List (List al))(aq:l.length≤68719476736)(i j:Nat)(x y:List al)(hi:l[i]? =some x)(ag:l[j]? =some y):bB az 203 [.int .i64 i,.int .i64 j,.ptr (.obj 822) 0] (te l) fun r ah=>r= .bool (iD eM x y)∧ah=te l:=by have af:=G3 l;obtain⟨lG,hj⟩:=fG.1 hi;obtain⟨dS,nV⟩:=fG.1 ag;have aR:b7 az 204 [cz x,cz y] (.int .i64 (eM x y)):=GO x y;unfold te dI at af⊢;refine bB.mk mixed vY Zs afP (by simp) af.obj fun aU cH=>?_;unfold NG;simp[lG,dS,hj,nV];(with_reducible repeat' first|refine aj ?_|refine aC aR ?_|refine aD aR ?_|simp[lG,dS,hj,nV]);refine cG.at _ (.inl rfl) af (Same.refl _) aE aE ?_;simp[cM,Uu,aV,aY,aT,iD]
noncomputable def Tryz.dsT:TypeInfo:=(az.info? 24).get (by kernel_rfl)
noncomputable def Tryz.dsE:TypeInfo:=(az.info? 23).get (by kernel_rfl)
theorem Tryz.dsK(n:Nat)(U:2≤n):Lib.swapperK n Tryz.dsE 23=9:=by
 have a:Tryz.dsE.hasPointers=true:=by kernel_rfl
 have b:Tryz.dsE.bytes=24:=by kernel_rfl
 have c:(n==0)=false:=by simp;omega
 have d:(n==1)=false:=by simp;omega
 simp[Lib.swapperK,a,b,c,d]
theorem abQ(l:List (List al))(aq:l.length≤68719476736):bB az 202 [.iface 24 (.row 1 (.obj 821) l.length),.func 203 [.ptr (.obj 822) 0]] (te l) fun r ah=>r= .tuple []∧ah=te (nv eM l):=by
 refine(abl Pz (K:=821) (B:=822) (sz:=1) 24 Tryz.dsT Tryz.dsE (by kernel_rfl) (by kernel_rfl) (by kernel_rfl) (by kernel_rfl) 23 (fun _=>by kernel_rfl) Tryz.dsK 203 (iD eM) mN.ltOk l aq (fun aX h i j x y hi ag=>abi aX (by omega) i j x y hi ag) (fun aX h i j hi ag=>?_)).mono ?_
 ·have:=QG (P:=az) false 257 (fun args W=>run_callFunc_extern Tryz.func257 (by kernel_rfl) (by kernel_rfl) (by kernel_rfl) (e:=Dd false) (by kernel_rfl) args W)
   23 Tryz.dsE (by kernel_rfl) (.inr ⟨by kernel_rfl,fun _=>by kernel_rfl⟩) (G3 aX) (K:=821) (n:=l.length) (el:=23) (sz:=1) (by kernel_rfl) (xs:=aX.map cz) (by simp[dI,Pv.look,h]) i j hi ag
  refine this.mono ?_;rintro r ah ⟨rfl,rfl⟩;refine⟨rfl,?_⟩;simp[dI,ct,Tg,h]
 ·rintro r ah ⟨rfl,aX,rfl,J,U⟩;exact⟨rfl,by rw[VS mN J U]⟩
end Go.Proofs.YtohaalphocaebaaGreat
namespace Go.Proofs.YtohaalphocaebaaGreat
open Go Go.Pv
theorem zl{α:Type}{s:List α}{i:Nat}{t:α}(h:s[i]? =some t):s.drop i=t::s.drop (i+1):=by obtain⟨hi,e⟩:=fG.1 h;rw[kN hi,e]
def pO(L:List (List al))(a:List (List al))(e:List al):List (List al):=if hP L e=true then jY eM e a else a
theorem Ku{L:List (List al)}:∀(xs:List (List al)) {a:List (List al)},hb eM a→hb eM (xs.foldl (pO L) a)
 |[],_,h=>h
 |x::xs,a,h=>Ku xs (a:=pO L a x) (by unfold pO;split<;>first|exact JM mN h|exact h)
theorem TD{L:List (List al)}{x:List al}:∀(xs:List (List al)) {a:List (List al)},x∈xs.foldl (pO L) a↔x∈a∨(x∈xs∧hP L x=true)
 |[],a=>by simp
 |y::xs,a=>by
  rw[List.foldl_cons,TD xs,ga];unfold pO;by_cases ab:hP L y=true
  ·rw[if_pos ab,Ft mN];constructor
   ·rintro((rfl|h)|h)
    ·exact .inr ⟨.inl rfl,ab⟩
    ·exact .inl h
    ·exact .inr ⟨.inr h.1,h.2⟩
   ·rintro(h|⟨rfl|J,U⟩)
    ·exact .inl (.inr h)
    ·exact .inl (.inl rfl)
    ·exact .inr ⟨J,U⟩
  ·rw[if_neg ab];constructor
   ·rintro(h|h)
    ·exact .inl h
    ·exact .inr ⟨.inr h.1,h.2⟩
   ·rintro(h|⟨rfl|J,U⟩)
    ·exact .inl h
    ·exact absurd U ab
    ·exact .inr ⟨J,U⟩
theorem TC{L:List (List al)}:∀(xs a:List (List al)),(xs.foldl (pO L) a).length≤a.length+xs.length
 |[],a=>by simp
 |y::xs,a=>by
  have J:=TC (L:=L) xs (pO L a y);have U:(pO L a y).length≤a.length+1:=by
   unfold pO;split
   ·exact JO _ _
   ·omega
  simp only[List.foldl_cons,nB];omega
theorem afm(L:List (List al)):iE L=L.foldl (pO L) []:=Tz (Ku L (by simp[hb])) fun x=>by rw[TD];simp
def w8(L:List (List al))(i:Nat)(a:List (List al)):Prop:=a=(L.take i).foldl (pO L) []
theorem w8.step{L:List (List al)}{i:Nat}{a:List (List al)}(h:w8 L i a){e:List al}(he:L[i]? =some e):w8 L (i+1) (pO L a e):=by rw[w8,oi he,List.foldl_append,h];rfl
def vq(e d:List al):Bool:=decide (d=e)|| !ls d e
def pD(L:List (List al))(e:List al)(j:Nat)(k:Bool):Prop:=k=(L.take j).all (vq e)
theorem pD.step{L:List (List al)}{e:List al}{j:Nat}{k:Bool}(h:pD L e j k){d:List al}(aK:L[j]? =some d):pD L e (j+1) (k&&vq e d):=by rw[pD,oi aK,List.all_append,h];simp
def E5(a:List (List al))(e:List al)(k:Nat):Prop:=k≤a.length∧∀c,a[k]? =some c→0≤eM c e
theorem E5.fin{a:List (List al)}{e:List al}{k:Nat}(h:E5 a e k)(br:hb eM a)(av:∀d,0<k→a[k-1]? =some d→eM d e<0):jY eM e a=if(match a[k]? with|some y=>decide (eM y e=0)|none=>false)=true then a else a.take k++e::a.drop k:=
 (JN mN e a k (fun i c hi iv=>by
  have ab:=h.1;obtain⟨d,aK⟩:∃d,a[k-1]? =some d:=⟨_,cv (by omega)⟩;have J:=av d (by omega) aK;rcases Nat.lt_or_ge i (k-1)with U|U
  ·have sl:=(fG.1 iv);have kU:=(fG.1 aK);have:=pb.1 br i (k-1) sl.1 kU.1 U;rw[sl.2,kU.2]at this;exact mN.ltr this (by omega)
  ·have:i=k-1:=by omega
   subst this;rw[aK]at iv;cases iv;exact J) h.2 h.1).trans (by cases a[k]?<;>rfl)
theorem SI(L:List (List al))(e:List al):hP L e=L.all (vq e):=rfl
theorem VR{l:List (List al)}{x:List al}:x∈nv eM l↔x∈l:=(vR eM l).mem_iff
theorem afl(l:List (List al)):iE l=(cB none (nv eM l)).filter (hP (nv eM l)):=by have h:hP l=hP (nv eM l):=funext fun e=>aey (fun x=>VR.symm) e;rw[iE,h];rfl
def l9(s:List (List al))(i:Nat)(acc:List (List al)):Prop:=acc++(cB (if i=0 then none else s[i-1]?) (s.drop i)).filter (hP s)=(cB none s).filter (hP s)
def fO:bM:=⟨0,[],[],[],[]⟩
noncomputable def sR(s:bM):bM:=match fF s.b s.k []with
 |none=>fO
 |some k=>match fx s.b s.m []with
  |none=>fO
  |some m=>match ey s.b k (m.filter (jf k)) s.d with
   |none=>fO
   |some L=>⟨s.n,s.b,iE L,k,m.filter (jf k)⟩
theorem LW{s ah:bM}(h:eU s=some ah):sR s=ah:=by
 unfold eU at h;unfold sR;cases J:fF s.b s.k []with
 |none=>rw[J]at h;cases h
 |some k=>
  rw[J]at h;simp only at h⊢;cases U:fx s.b s.m []with
  |none=>rw[U]at h;cases h
  |some m=>
   rw[U]at h;simp only at h⊢;cases ao:ey s.b k (m.filter (jf k)) s.d with
   |none=>rw[ao]at h;cases h
   |some L=>
    rw[ao]at h;simp only at h⊢;split at h
    ·cases h;rfl
    ·cases h
theorem Xr{k:List b6}(ab:jH k)(v:Int):(iq k (.var v) 2).isSome=(kW k v !=some 3):=by
 unfold iq;simp only;cases h:kW k v with
 |none=>simp
 |some x=>have:=(ab.at' _ (SP h)).2;simp only at this;rcases this with rfl|rfl<;>simp
theorem Xy{k:List b6}(br:k.Pairwise fun x y=>x.v<y.v)(v:Int):(k.any fun x=>x.v==v&&x.k==3)=(kW k v==some 3):=by
 rw[pV,List.any_eq_true,dH];constructor
 ·rintro⟨x,ad,h⟩;simp only[cx,dH]at h;have:=Fa br ad;rw[h.1,h.2]at this;exact this
 ·intro h;exact⟨_,SP h,by simp⟩
theorem J8{b:List al}{k:List b6}{m:List bk}{d:List al}{r:List (List al)}(h:mgu b (fN d)=none):ey b k m (d::r)=ey b k m r:=by rw[ey,h]
theorem Fi{b:List al}{k:List b6}{m:List bk}{d x:List al}{r:List (List al)}(h:mgu b (fN d)=some x)(ab:fF x k []=none∨fx x m []=none):ey b k m (d::r)=ey b k m r:=by rw[ey,h];simp only[if_pos ab]
theorem J7{b:List al}{k:List b6}{m:List bk}{d x:List al}{r:List (List al)}(h:mgu b (fN d)=some x)(ab:¬(fF x k []=none∨fx x m []=none))(ar:ds b x=[]):ey b k m (d::r)=none:=by rw[ey,h];simp only[if_neg ab,if_pos ar]
theorem Fj{b:List al}{k:List b6}{m:List bk}{d x:List al}{r:List (List al)}(h:mgu b (fN d)=some x)(ab:¬(fF x k []=none∨fx x m []=none))(ar:ds b x≠[]):ey b k m (d::r)=(ey b k m r).map (ds b x:: ·):=by rw[ey,h];simp only[if_neg ab,if_neg ar]
def pE(b:List al)(k:List b6)(m:List bk)(D:List (List al))(i:Nat)(a:List (List al)):Prop:=a.length≤i∧(∀x∈a,en x)∧(ey b k m (D.drop i)).map (a++ ·)=ey b k m D
def e5(n:Int):T→Bool
 | .var v=>decide (v<n)
 | .pair a b=>e5 n a&&e5 n b
 |_=>true
theorem wu{n:Int}:∀{t:T},e5 n t=true↔wq t n
 | .var v=>by simp[e5,wq,T.occ]
 | .pair a b=>by simp only[e5,cx,wu (t:=a),wu (t:=b),wq,T.occ,lQ];exact⟨fun h v aJ=>aJ.elim (h.1 v) (h.2 v),fun h=>⟨fun v aJ=>h v (.inl aJ),fun v aJ=>h v (.inr aJ)⟩⟩
 | .nil=>by simp[e5,wq,T.occ]
 | .sym _=>by simp[e5,wq,T.occ]
 | .num _=>by simp[e5,wq,T.occ]
def p4(n:Int)(b:al):Bool:=decide (b.v<n)&&e5 n b.t
theorem Dv{n:Int}{s:List al}:s.all (p4 n)=true↔pf s n:=by simp[jD,p4,pf,wu]
def qF(v m:Int):Int:=if m<v+1 then v+1 else m
theorem GS{n:Int}:∀(t:T) (m:Int),t.fold qF m≤n↔m≤n∧e5 n t=true
 | .var v,m=>by simp only[T.fold,qF,e5,fI];split<;>omega
 | .pair a b,m=>by simp only[T.fold,GS b,GS a,e5,cx,and_assoc]
 | .nil,m=>by simp[T.fold,e5]
 | .sym _,m=>by simp[T.fold,e5]
 | .num _,m=>by simp[T.fold,e5]
def C7(v m:Int):Option Int:=if 0≤v∧v≤100000 then some (qF v m)else none
theorem My:∀(t:T) (m:Int),t.ok=true→t.foldO C7 m=some (t.fold qF m)
 | .var v,m,h=>by
  have:0≤v∧v≤100000:=by simpa[T.ok]using h
  simp[T.foldO,T.fold,C7,this]
 | .pair a b,m,h=>by
  have J:a.ok=true∧b.ok=true:=by simpa[T.ok]using h
  simp[T.foldO,T.fold,My a m J.1,My b _ J.2]
 | .nil,m,_=>rfl
 | .sym _,m,_=>rfl
 | .num _,m,_=>rfl
theorem l9.fst{s:List (List al)}{t:List al}{acc:List (List al)}(h:l9 s 0 acc)(aN:s[0]? =some t):l9 s 1 (if hP s t=true then acc++[t]else acc):=by
 unfold l9 at*;rw[zl aN]at h;have e:(if(1:Nat)=0 then none else s[1-1]?)=some t:=by simpa using aN
 have cA:acc++(t::cB (some t) (s.drop 1)).filter (hP s)=(cB none s).filter (hP s):=by rw[←h];simp[cB]
 rw[e,←cA];by_cases ab:hP s t=true<;>simp[ab]
theorem l9.eq{s:List (List al)}{i:Nat}{t:List al}{acc:List (List al)}(h:l9 s i acc)(hi:i≠0)(bF:s[i-1]? =some t)(aN:s[i]? =some t):l9 s (i+1) acc:=by
 unfold l9 at*;rw[if_neg hi,bF,zl aN]at h;have e:(if i+1=0 then none else s[i+1-1]?)=some t:=by rw[if_neg (by omega)];exact aN
 rw[e,←h];simp[cB]
theorem l9.ne{s:List (List al)}{i:Nat}{p t:List al}{acc:List (List al)}(h:l9 s i acc)(hi:i≠0)(bF:s[i-1]? =some p)(aN:s[i]? =some t)(ar:¬p=t):l9 s (i+1) (if hP s t=true then acc++[t]else acc):=by
 unfold l9 at*;rw[if_neg hi,bF,zl aN]at h;have e:(if i+1=0 then none else s[i+1-1]?)=some t:=by rw[if_neg (by omega)];exact aN
 have aK:cB (some p) (t::s.drop (i+1))=t::cB (some t) (s.drop (i+1)):=by simp[cB,ar]
 rw[aK]at h;rw[e,←h];by_cases ab:hP s t=true<;>simp[ab]
theorem ajc(l:List (List al)):(nv eM l).length=l.length:=(vR eM l).length_eq
theorem xc(S:aH→Prop)(l:List (List al))(d:List al):aO S (l.map cz++[cz d])=True:=by have:=J5 S (l++[d]);rw[List.map_append]at this;exact eq_true this
set_option maxRecDepth 4000 in
theorem ajQ(l:List (List al))(hz:∀d∈l,en d):b7 az 124 [.slice 1 .no (l.map cz)] (.slice 1 .no ((iE l).map cz)):=by
 generalize b4:iE l=R;rw[afl]at b4;refine bE vY Zr afO fun aU=>?_;unfold NF;have ib:l.length≤68719476736:=by simp[h9,ho,hV,lim]at aU;omega
 simp;refine gh [0,12,13] (fun i (_:Unit)=>[(14,.int .i64 i)]) l.length (fun _ _=>True) () cu trivial (fun _ _ _=>?_) (fun i _ hi _ _=>?_);rotate_left
 ·obtain⟨e,he,I0⟩:=fE hi;have dC:b7 az 55 [cz e] (.bool true):=oo (hz e (gb he));exact ko
 simp;(with_reducible repeat' first|refine aj ?_|simp);all_goals first|(refine⟨by unfold lim;omega,?_⟩)|skip
 all_goals(with_reducible repeat' first|refine aj ?_|simp)
 refine cD.ob (abQ l ib) (G3 l) (by unfold te dI;exact aE) (by unfold te dI;exact aE) (by simp[inObs,dI,Pv.look]) ?_;rintro r ah ⟨rfl,rfl⟩;refine⟨wk _ _,?_⟩;obtain⟨s,BF⟩:∃s,s=nv eM l:=⟨_,rfl⟩;have pB:s.length=l.length:=by rw[BF];exact ajc l
 have af:∀d∈s,en d:=fun d aK=>hz d (by rw[BF,VR]at aK;exact aK);rw[←BF]at b4;rw[←BF];clear BF;simp[te,dI,bR];refine ir (fun i (acc:List (List al))=>⟨[(5,.ptr (.obj 822) 0),(6,.slice 1 (.own (.loc 0)) (acc.map cz)),(30,.row 1 (.obj 821) s.length),(31,.int .i64 s.length),(32,.int .i64 i)],[(.obj 822,[.row 1 (.obj 821) s.length])],[(.loc 0,⟨acc.length,23,1,none⟩),(.obj 821,⟨s.length,23,1,some (s.map cz)⟩)],1,[.obj 821,.obj 822]⟩) s.length (fun i acc=>acc.length≤i∧l9 s i acc) [] cu ⟨by simp,by simp[l9]⟩ (fun acc ag _=>?_) (fun i acc hi ag _=>?_)
 ·have ag:=ag.2;rw[l9,List.drop_length]at ag;have:acc=R:=by rw[←b4];simpa[cB]using ag
  subst this;exact cZ
 ·obtain⟨amd,ag⟩:=ag;have pt:acc.length≤68719476735:=by omega
  obtain⟨t,qn,aN⟩:=fE hi;have dh:=af t (gb qn);have hO:b7 az 119 [cz t] (cz t):=C1 t dh.len;have jw:(if hP s t=true then acc++[t]else acc).length≤acc.length+1:=by split<;>simp
  rcases Nat.eq_zero_or_pos i with rfl|fq
  ·have RL:=ag.fst qn;have fh:(if hP s t=true then acc++[t]else acc).length≤0+1∧l9 s (0+1) (if hP s t=true then acc++[t]else acc):=⟨ji jw (by omega),RL⟩;clear ag RL qn;simp[hi,aN];(with_reducible repeat' first|refine aj ?_|simp[hi,aN]);refine gh [5,6,8,30,31,32,49,50] (fun j (b:Bool)=>[(9,.bool b),(51,.int .i64 j)]) s.length (pD s t) true cu (by simp[pD]) (fun keep ag _=>?_) (fun j keep dS ag _=>?_)
   ·rw[pD,mY,←SI]at ag;rw[←ag]at fh;clear ag;cases keep with
    |false=>simp only[gr,if_false]at fh;simp;((with_reducible repeat' first|refine aj ?_|simp|((first|apply bI|apply bK|apply bJ)<;>intro h<;>try simp at h))<;>(try exact cm));all_goals exact bT.rng acc hi fh cu
    |true=>
     simp only[if_true]at fh;clear jw;simp;((with_reducible repeat' first|refine aj ?_|refine aC hO ?_|refine aD hO ?_|simp|((first|apply bI|apply bK|apply bJ)<;>intro h<;>try simp at h))<;>(try exact cm));all_goals first|(refine⟨by unfold lim;omega,?_⟩)|skip
     all_goals(with_reducible repeat' first|refine aj ?_|simp)
     all_goals exact bT.rng (acc++[t]) hi fh ⟨by simp[fresh,aO,aF,cl,inObs,Pv.look,xc],eF (by simp[fresh,aO,aF,cl,inObs,Pv.look,xc]),eG (by simp[fresh,aO,aF,eb,inObs,Pv.look,xc]),by simp⟩
   ·obtain⟨d,aK,hdi⟩:=fE dS;have ar:=ag.step aK;have ki:=af d (gb aK);have eh:b7 az 205 [cz d,cz t] (.bool (ls d t)):=WD d ki.len dh;have oa:b7 az 204 [cz d,cz t] (.int .i64 (eM d t)):=GO d t;clear ag aK fh;by_cases q:eM d t=0
    ·rw[vq,lA ((mN.zero _ _).1 q),Bool.true_or,Bool.and_true]at ar;rw[q]at oa;simp[dS,hdi];((with_reducible repeat' first|refine aj ?_|refine aC oa ?_|refine aD oa ?_|simp[dS,hdi]|((first|apply bI|apply bK|apply bJ)<;>intro h<;>try simp at h))<;>(try exact cm));all_goals exact bT.rng keep dS ar cu
    ·rw[vq,lS (fun h=>q ((mN.zero _ _).2 h)),Bool.false_or]at ar;have gm:(eM d t !=0)=true:=by simp[q]
     cases aS:ls d t
     ·rw[aS]at ar eh;simp only[Bool.not_false,Bool.and_true]at ar;simp[dS,hdi];((with_reducible repeat' first|refine aj ?_|refine aC oa ?_|refine aD oa ?_|refine aC eh ?_|refine aD eh ?_|simp[dS,hdi,q,gm]|((first|apply bI|apply bK|apply bJ)<;>intro h<;>try simp at h))<;>(try exact cm));all_goals exact bT.rng keep dS ar cu
     ·rw[aS]at ar eh;simp only[Bool.not_true,Bool.and_false]at ar;simp[dS,hdi];((with_reducible repeat' first|refine aj ?_|refine aC oa ?_|refine aD oa ?_|refine aC eh ?_|refine aD eh ?_|simp[dS,hdi,q,gm]|((first|apply bI|apply bK|apply bJ)<;>intro h<;>try simp at h))<;>(try exact cm));all_goals exact bT.rng false dS ar cu
  ·obtain⟨p,yW⟩:∃p,s[i-1]? =some p:=⟨_,cv (by omega)⟩;have ak:((i:Int)-1).toNat=i-1:=by omega
   have aA:∀h,(s[i-1]'h)=p:=fun h=>by rw[cv h]at yW;exact fP yW
   have bs:¬i=0:=by omega
   have dq:i-1<s.length:=by omega
   have iA:(0:Int)<i:=by omega
   have jH:b7 az 204 [cz p,cz t] (.int .i64 (eM p t)):=GO p t;by_cases EM:p=t
   ·have fh:acc.length≤i+1∧l9 s (i+1) acc:=⟨by omega,ag.eq bs (by rw[yW,EM]) qn⟩;rw[(mN.zero _ _).2 EM]at jH;clear ag qn yW;simp[hi,aN,ak,aA,dq,iA];((with_reducible repeat' first|refine aj ?_|refine aC jH ?_|refine aD jH ?_|simp[hi,aN,ak,aA,dq,fq,iA]|((first|apply bI|apply bK|apply bJ)<;>intro h<;>try simp at h))<;>(try exact cm));all_goals exact bT.rng acc hi fh cu
   ·have fh:(if hP s t=true then acc++[t]else acc).length≤i+1∧l9 s (i+1) (if hP s t=true then acc++[t]else acc):=⟨ji jw (by omega),ag.ne bs yW qn EM⟩;have rF:¬eM p t=0:=fun h=>EM ((mN.zero _ _).1 h);have ahI:(eM p t==0)=false:=by simp[rF]
    clear ag qn yW;simp[hi,aN,ak,aA,dq,iA];((with_reducible repeat' first|refine aj ?_|refine aC jH ?_|refine aD jH ?_|simp[hi,aN,ak,aA,dq,fq,iA,rF,ahI]|((first|apply bI|apply bK|apply bJ)<;>intro h<;>try simp at h))<;>(try exact cm));refine gh [5,6,8,30,31,32,49,50] (fun j (b:Bool)=>[(9,.bool b),(51,.int .i64 j)]) s.length (pD s t) true cu (by simp[pD]) (fun keep ag _=>?_) (fun j keep dS ag _=>?_)
    ·rw[pD,mY,←SI]at ag;rw[←ag]at fh;clear ag;cases keep with
     |false=>simp only[gr,if_false]at fh;simp;((with_reducible repeat' first|refine aj ?_|simp|((first|apply bI|apply bK|apply bJ)<;>intro h<;>try simp at h))<;>(try exact cm));all_goals exact bT.rng acc hi fh cu
     |true=>
      simp only[if_true]at fh;clear jw;simp;(with_reducible repeat' first|refine aj ?_|refine aC hO ?_|refine aD hO ?_|simp);all_goals first|(refine⟨by unfold lim;omega,?_⟩)|skip
      all_goals(with_reducible repeat' first|refine aj ?_|simp)
      all_goals exact bT.rng (acc++[t]) hi fh ⟨by simp[fresh,aO,aF,cl,inObs,Pv.look,xc],eF (by simp[fresh,aO,aF,cl,inObs,Pv.look,xc]),eG (by simp[fresh,aO,aF,eb,inObs,Pv.look,xc]),by simp⟩
    ·obtain⟨d,aK,hdi⟩:=fE dS;have ar:=ag.step aK;have ki:=af d (gb aK);have eh:b7 az 205 [cz d,cz t] (.bool (ls d t)):=WD d ki.len dh;have oa:b7 az 204 [cz d,cz t] (.int .i64 (eM d t)):=GO d t;clear ag aK fh;by_cases q:eM d t=0
     ·rw[vq,lA ((mN.zero _ _).1 q),Bool.true_or,Bool.and_true]at ar;rw[q]at oa;simp[dS,hdi];((with_reducible repeat' first|refine aj ?_|refine aC oa ?_|refine aD oa ?_|simp[dS,hdi]|((first|apply bI|apply bK|apply bJ)<;>intro h<;>try simp at h))<;>(try exact cm));all_goals exact bT.rng keep dS ar cu
     ·rw[vq,lS (fun h=>q ((mN.zero _ _).2 h)),Bool.false_or]at ar;have gm:(eM d t !=0)=true:=by simp[q]
      cases aS:ls d t
      ·rw[aS]at ar eh;simp only[Bool.not_false,Bool.and_true]at ar;simp[dS,hdi];((with_reducible repeat' first|refine aj ?_|refine aC oa ?_|refine aD oa ?_|refine aC eh ?_|refine aD eh ?_|simp[dS,hdi,q,gm]|((first|apply bI|apply bK|apply bJ)<;>intro h<;>try simp at h))<;>(try exact cm));all_goals exact bT.rng keep dS ar cu
      ·rw[aS]at ar eh;simp only[Bool.not_true,Bool.and_false]at ar;simp[dS,hdi];((with_reducible repeat' first|refine aj ?_|refine aC oa ?_|refine aD oa ?_|refine aC eh ?_|refine aD eh ?_|simp[dS,hdi,q,gm]|((first|apply bI|apply bK|apply bJ)<;>intro h<;>try simp at h))<;>(try exact cm));all_goals exact bT.rng false dS ar cu
theorem akq(l:List T)(h:∀t∈l,t.fit=true):b7 az 68 [.slice 4 .no (l.map T.e)] (.bool true):=by
 refine bE fs P8 T2 fun aU=>?_;unfold HC;have ib:l.length≤68719476736:=by simp[h9,ho,hV,lim]at aU;omega
 simp;refine gh [5,6] (fun i (_:Unit)=>[(7,.int .i64 i)]) l.length (fun _ _=>True) () cu trivial (fun _ _ _=>?_) (fun i _ hi _ _=>?_)
 ·exact cZ
 ·obtain⟨t,aN,qn⟩:=fE hi;have dN:=xR (h t (gb aN));clear aN;exact ko
def ij(m:Int):cF:=⟨[(.obj 831,[.int .i64 m])],[]⟩
theorem uL(m:Int):dG (ij m):=by unfold ij;exact dG.of ⟨by intro m;simp[Pv.look],by intro m;simp[Pv.look]⟩ (by simp) (by simp)
theorem Xh(a b:Int):Same (ij a) (ij b):=Same.keys (by simp[ij]) (by simp[ij])
theorem abn(v m km:Int)(h:C7 v m=some km):bB az 193 [.int .i64 v,.ptr (.obj 831) 0] (ij m) fun r ah=>r= .tuple []∧ah=ij km:=by
 unfold C7 at h;split at h;rotate_left
 ·cases h
 rename_i aJ;cases h;have af:=uL m;simp only[ij]at af⊢;by_cases hm:m<v+1
 ·rw[qF,if_pos hm];refine bB.mk mixed vY P3 TX (by simp) af.obj fun aU cH=>?_;unfold Hx;simp;(with_reducible repeat' first|refine aj ?_|simp[hm]);(refine cG.at (ij (v+1)) (by simp) (by first|exact uL _|exact uL ‹_› _) (Same.keys (by simp[ij]) (by simp[ij])) (by simp only[ij,bO,bS];exact aE) (by simp only[ij,bO,bS];exact aE) ?_;simp[cM,K9,aV,aY,aT,inObs,Pv.look,ij])
 ·rw[qF,if_neg hm];refine bB.mk mixed vY P3 TX (by simp) af.obj fun aU cH=>?_;unfold Hx;simp;(with_reducible repeat' first|refine aj ?_|simp[hm]);(refine cG.at (ij m) (by simp) (by first|exact uL _|exact uL ‹_› _) (Same.keys (by simp[ij]) (by simp[ij])) (by simp only[ij,bO,bS];exact aE) (by simp only[ij,bO,bS];exact aE) ?_;simp[cM,K9,aV,aY,aT,inObs,Pv.look,ij])
def v8(l:List T):Int:=l.foldl (fun m t=>t.fold qF m) 0
def E6(l:List T)(i:Nat)(m:Int):Prop:=m=v8 (l.take i)
theorem Wl(l:List T)(h:∀t∈l,t.fit=true):b7 az 116 [.slice 4 .no (l.map T.e)] (.int .i64 (v8 l)):=by
 have dN:=akq l h;generalize b4:v8 l=R;refine bE vY Zz afW fun aU=>?_;unfold NN;have ib:l.length≤68719476736:=by simp[h9,ho,hV,lim]at aU;omega
 simp;(with_reducible repeat' first|refine aj ?_|refine aC dN ?_|refine aD dN ?_|simp);refine ir (fun i (m:Int)=>⟨[(3,.ptr (.obj 831) 0),(9,.slice 4 .no (l.map T.e)),(10,.int .i64 l.length),(11,.int .i64 i)],[(.obj 831,[.int .i64 m])],[],0,[.obj 831]⟩) l.length (E6 l) 0 cu rfl (fun m ag _=>?_) (fun i m hi ag _=>?_)
 ·rw[E6,mY,b4]at ag;subst ag;exact cZ
 ·obtain⟨t,aN,qn⟩:=fE hi;have acL:t.ok=true:=by have:=h t (gb aN);simp only[T.fit,cx]at this;exact this.1
  have ar:E6 l (i+1) (t.fold qF m):=by rw[E6,oi aN,v8,List.foldl_append,ag];rfl
  have key:=IB ij uL Xh 193 [.ptr (.obj 831) 0] (fun a=>by simp[ij,inObs,Pv.look]) (by simp) C7 (fun v a bh h=>abn v a bh h) t m _ (My t m acL);clear ag aN;simp[hi,qn];(with_reducible repeat' first|refine aj ?_|simp[qn,hi]);(refine cD.ob (key) (by first|exact uL _|exact uL ‹_› _) (by simp only[ij,bO,bS];exact aE) (by simp only[ij,bO,bS];exact aE) (by simp[inObs,Pv.look,ij]) ?_;rintro r ah ⟨rfl,rfl⟩;refine⟨(Same.keys (by simp[ij]) (by simp[ij])),?_⟩;simp[bR,ij]);(with_reducible repeat' first|refine aj ?_|simp);refine bT.rng (t.fold qF m) hi ar ?_;exact cu
theorem Wm{s:List al}(af:en s){n:Int}(ar:0≤n):b7 az 58 [.slice 5 .no (s.map al.e),.int .i64 n] (.bool (s.all (p4 n))):=by
 have pB:=af.len;generalize b4:s.all (p4 n)=R;refine bE vY ZA afX fun aU=>?_;unfold NO;simp;refine gh [1,7,8] (fun i (_:Unit)=>[(9,.int .i64 i)]) s.length (qq (p4 n) s) () cu (fun k b ab=>by omega) (fun _ ag _=>?_) (fun i _ hi ag _=>?_)
 ·have:R=true:=by rw[←b4,jD];intro b ae;obtain⟨k,ab,e⟩:=ov ae;exact ag k b ab (by rw[cv ab,e])
  rw[this];exact cZ
 ·obtain⟨b,aJ,gk⟩:=fE hi;have hN:p4 n b=false→R=false:=fun h=>by rw[←b4,Bool.eq_false_iff];intro cA;rw[jD]at cA;rw[cA b (gb aJ)]at h;cases h
  have lp:=Wl [b.t] (fun t aN=>by simp at aN;subst aN;exact af.fit b (gb aJ));have hle:=GS (n:=n) b.t 0;rw[show v8 [b.t]=b.t.fold qF 0 from rfl]at lp;simp only[gI,mj]at lp;generalize b.t.fold qF 0=m at lp hle;by_cases J:b.v<n
  ·have oN:¬n≤b.v:=by omega
   cases U:e5 n b.t
   ·have ao:n<m:=by rw[U]at hle;simp at hle;omega
    rw[hN (by simp[p4,U])];clear ag aJ hle;exact cZ
   ·have ao:¬n<m:=by rw[U]at hle;simp[ar]at hle;omega
    have iz:=ag.step aJ (by simp[p4,J,U]);clear ag aJ hle;exact ko
  ·have oN:n≤b.v:=by omega
   rw[hN (by simp[p4,J])];clear ag aJ hle;exact cZ
def uM:C:=(aa [cW 1 0,bH 2 false] (.seq (aa [aP 11 0 1 1,aB 12 1 11,aW 13 .lss 12 0,I 14 13,aw 14 false (aP 15 0 1 1),aw 14 false (aB 16 1 15),aw 14 false (aW 17 .gtr 16 100000),dj 18 14 17,I 19 18,aw 19 false (aP 20 1 1 1),aw 19 false (aB 21 1 20),aw 19 false (cL 22 55 21),aw 19 false (cI 23 22),dj 24 19 23,I 25 24,aw 25 false (aP 26 3 1 1),aw 25 false (aB 27 1 26),aw 25 false (cL 28 56 27),aw 25 false (cI 29 28),dj 30 25 29,I 31 30,aw 31 false (aP 32 4 1 1),aw 31 false (aB 33 1 32),aw 31 false (cL 34 57 33),aw 31 false (cI 35 34),dj 36 31 35,I 37 36,aw 37 false (aP 38 1 1 1),aw 37 false (aB 39 1 38),aw 37 false (aP 40 0 1 1),aw 37 false (aB 41 1 40),aw 37 false (cw 42 58 39 41),aw 37 false (cI 43 42),dj 44 37 43] (a8 44 (aa [bH 2 false] .ret) .skip)) (.seq (aa [aP 45 2 1 1,aB 46 1 45,cS 47 46,cr 48 0] (fY 49 48 47 (.seq (.block 1 (aa [cN 50 1 46 48,aB 51 1 50,I 4 51] (aa [I 52 4,cL 53 55 52,cI 54 53,I 55 54,bU 55 false 56 4,aw 55 false (aP 57 0 1 1),aw 55 false (aB 58 1 57),aw 55 false (cw 59 58 56 58),aw 55 false (cI 60 59),dj 61 55 60] (a8 61 (aa [bH 2 false] .ret) .skip)))) (.region [aW 62 .add 48 1,I 48 62])))) (.seq (aa [aP 63 3 1 1,aB 64 1 63,cS 65 64,cr 66 0] (.block 2 (.loop (aa [bA 67 .lss 66 65] (.seq (a8 67 .skip (.exit 2)) (.seq (.block 3 (aa [cN 68 2 64 66,ba 69 2 68,c4 (.alloc 6 none (.agg [.int .i64 0,.int .i64 0])),bG 2 6 69] (aa [aP 70 0 1 6,aB 71 1 70,aP 72 0 1 1,aB 73 1 72,bA 74 .geq 71 73] (a8 74 (aa [bH 2 false] .ret) .skip)))) (.region [aW 75 .add 66 1,I 66 75]))))))) (.seq (aa [aP 76 4 1 1,aB 77 1 76,cS 78 77,cr 79 0] (.block 4 (.loop (aa [bA 80 .lss 79 78] (.seq (a8 80 .skip (.exit 4)) (.seq (.block 5 (aa [cN 81 2 77 79,ba 82 2 81,c4 (.alloc 8 none (.agg [.int .i64 0,.str []])),bG 2 8 82] (aa [aP 83 0 1 8,aB 84 1 83,aP 85 0 1 1,aB 86 1 85,bA 87 .geq 84 86] (a8 87 (aa [bH 2 false] .ret) .skip)))) (.region [aW 88 .add 79 1,I 79 88]))))))) (aa [ba 90 5 1,cL 91 50 90,I 89 91,cq 92 0 89,cq 93 1 89,cU 9 e7,bG 5 9 92,I 10 93] (aa [I 94 10,I 95 94,aw 95 true (ba 96 5 9),aw 95 true (ba 97 5 1),aw 95 true (cw 98 59 96 97),dr 99 95 98,I 2 99] .ret)))))))
@[simp] def ahS:List bu:=[.tmp 2]
def DJ:C:=(aa [cW 1 0,cU 2 e7,bH 3 false] (aa [aP 26 1 1 1,aB 27 1 26,aP 28 3 1 1,aB 29 1 28,cw 30 120 27 29,I 25 30,cq 31 0 25,cq 32 1 25,I 4 31,I 5 32] (aa [aP 34 1 1 1,aB 35 1 34,aP 36 4 1 1,aB 37 1 36,cw 38 121 35 37,I 33 38,cq 39 0 33,cq 40 1 33,I 6 39,I 7 40] (.seq (aa [I 41 5,cI 42 41,I 43 42,bU 43 false 44 7,aw 43 false (cI 45 44),dj 46 43 45] (a8 46 (aa [gB 47 e7 [],bG 5 2 47,bH 3 false] .ret) .skip)) (aa [c4 (.mkmap 48 none),I 8 48] (.seq (aa [I 49 4,cS 50 49,cr 51 0] (fY 52 51 50 (.seq (.block 1 (aa [cN 53 2 49 51,ba 54 2 53,c4 (.alloc 10 none (.agg [.int .i64 0,.int .i64 0])),bG 2 10 54] (aa [aP 55 1 1 10,aB 56 1 55,aW 57 .eql 56 3] (a8 57 (.region [I 58 8,aP 59 0 1 10,aB 60 1 59,c4 (.mput .i (.t 58) (.t 60) (.c (.bool true)))]) .skip)))) (.region [aW 61 .add 51 1,I 51 61])))) (aa [dR 62 2 106 [],I 11 62] (.seq (aa [I 63 6,cS 64 63,cr 65 0] (.block 2 (.loop (aa [bA 66 .lss 65 64] (.seq (a8 66 .skip (.exit 2)) (.seq (.block 3 (aa [cN 67 2 63 65,ba 68 2 67,c4 (.alloc 13 none (.agg [.int .i64 0,.str []])),bG 2 13 68] (aa [I 69 8,aP 70 0 1 13,aB 71 1 70,bX 72 (.mget .i (.bool false) false (.t 69) (.t 71)),cI 73 72] (a8 73 (.region [I 74 11,ba 75 2 13,dR 76 2 106 [.t 75],gC 77 2 106 74 76,I 11 77]) .skip)))) (.region [aW 78 .add 65 1,I 65 78]))))))) (aa [dR 79 1 23 [],I 14 79] (.seq (aa [aP 80 2 1 1,aB 81 1 80,cS 82 81,cr 83 0] (.block 4 (.loop (aa [bA 84 .lss 83 82] (.seq (a8 84 .skip (.exit 4)) (.seq (.block 5 (aa [cN 85 1 81 83,aB 86 1 85,I 16 86] (aa [aP 88 1 1 1,aB 89 1 88,I 90 16,cw 91 122 89 90,I 87 91,cq 92 0 87,cq 93 1 87,I 17 92,I 18 93] (.seq (aa [I 94 18,cI 95 94] (a8 95 (.exit 5) .skip)) (aa [I 97 17,I 98 4,cw 99 120 97 98,I 96 99,cq 100 0 96,cq 101 1 96,I 19 100,I 20 101] (aa [I 103 17,I 104 11,cw 105 121 103 104,I 102 105,cq 106 0 102,cq 107 1 102,I 21 106,I 22 107] (.seq (aa [I 108 20,cI 109 108,I 110 109,bU 110 false 111 22,aw 110 false (cI 112 111),dj 113 110 112] (a8 113 (.exit 5) .skip)) (aa [aP 114 1 1 1,aB 115 1 114,I 116 17,cw 117 123 115 116,I 23 117] (.seq (aa [I 118 23,cS 119 118,aW 120 .eql 119 0] (a8 120 (aa [gB 121 e7 [],bG 5 2 121,bH 3 false] .ret) .skip)) (.region [I 122 14,I 123 23,dR 124 1 23 [.t 123],gC 125 1 23 122 124,I 14 125])))))))))) (.region [aW 126 .add 83 1,I 83 126]))))))) (aa [I 127 14,cL 128 124 127,I 24 128] (.seq (aa [I 129 24,cS 130 129,aW 131 .gtr 130 30] (a8 131 (aa [gB 132 e7 [],bG 5 2 132,bH 3 false] .ret) .skip)) (.seq (.drawn true 142 [aP 133 0 1 1,aB 134 1 133,aP 135 1 1 1,aB 136 1 135,cL 137 119 136,I 138 24,I 139 4,I 140 11,gB 141 e7 [(0,1,(.t 134)),(1,1,(.t 137)),(2,1,(.t 138)),(3,1,(.t 139)),(4,1,(.t 140))],bG 5 2 141,bH 3 true]) .ret)))))))))))))
@[simp] def zN:List bu:=[.cell 2 true 5,.tmp 3]
def wz:C:=(aa [cW 2 0,cW 3 1,bH 4 false] (.seq (aa [aP 8 0 1 2,aB 9 1 8,aP 10 0 1 3,aB 11 1 10,bA 12 .neq 9 11,I 13 12,aw 13 false (aP 14 1 1 2),aw 13 false (aB 15 1 14),aw 13 false (aP 16 1 1 3),aw 13 false (aB 17 1 16),aw 13 false (cw 18 135 15 17),aw 13 false (cI 19 18),dj 20 13 19,I 21 20,aw 21 false (aP 22 2 1 2),aw 21 false (aB 23 1 22),aw 21 false (cS 24 23),aw 21 false (aP 25 2 1 3),aw 21 false (aB 26 1 25),aw 21 false (cS 27 26),aw 21 false (bA 28 .neq 24 27),dj 29 21 28,I 30 29,aw 30 false (aP 31 3 1 2),aw 30 false (aB 32 1 31),aw 30 false (cS 33 32),aw 30 false (aP 34 3 1 3),aw 30 false (aB 35 1 34),aw 30 false (cS 36 35),aw 30 false (bA 37 .neq 33 36),dj 38 30 37,I 39 38,aw 39 false (aP 40 4 1 2),aw 39 false (aB 41 1 40),aw 39 false (cS 42 41),aw 39 false (aP 43 4 1 3),aw 39 false (aB 44 1 43),aw 39 false (cS 45 44),aw 39 false (bA 46 .neq 42 45),dj 47 39 46] (a8 47 (aa [bH 4 false] .ret) .skip)) (.seq (aa [aP 48 2 1 2,aB 49 1 48,cS 50 49,cr 51 0] (fY 52 51 50 (.seq (.block 1 (aa [I 53 51,I 5 53] (.seq (.drawn true 103 [aP 54 2 1 2,aB 55 1 54,I 56 5,cN 57 1 55 56,aB 58 1 57,aP 59 2 1 3,aB 60 1 59,I 61 5,cN 62 1 60 61,aB 63 1 62,cw 64 135 58 63,cI 65 64]) (a8 65 (aa [bH 4 false] .ret) .skip)))) (.region [aW 66 .add 51 1,I 51 66])))) (.seq (aa [aP 67 3 1 2,aB 68 1 67,cS 69 68,cr 70 0] (.block 2 (.loop (aa [bA 71 .lss 70 69] (.seq (a8 71 .skip (.exit 2)) (.seq (.block 3 (aa [I 72 70,I 6 72] (.seq (.drawn true 103 [aP 73 3 1 2,aB 74 1 73,I 75 6,cN 76 2 74 75,ba 77 2 76,aP 78 3 1 3,aB 79 1 78,I 80 6,cN 81 2 79 80,ba 82 2 81,bX 83 (.beq true (some [false,false]) (.t 77) (.t 82))]) (a8 83 (aa [bH 4 false] .ret) .skip)))) (.region [aW 84 .add 70 1,I 70 84]))))))) (.seq (aa [aP 85 4 1 2,aB 86 1 85,cS 87 86,cr 88 0] (.block 4 (.loop (aa [bA 89 .lss 88 87] (.seq (a8 89 .skip (.exit 4)) (.seq (.block 5 (aa [I 90 88,I 7 90] (.seq (.drawn true 103 [aP 91 4 1 2,aB 92 1 91,I 93 7,cN 94 2 92 93,ba 95 2 94,aP 96 4 1 3,aB 97 1 96,I 98 7,cN 99 2 97 98,ba 100 2 99,bX 101 (.beq true (some [false,true]) (.t 95) (.t 100))]) (a8 101 (aa [bH 4 false] .ret) .skip)))) (.region [aW 102 .add 88 1,I 88 102]))))))) (aa [bH 4 true] .ret))))))
@[simp] def FX:List bu:=[.tmp 4]
def GD:List (Nat×du):=[
 (3,⟨1,8,.int .i64,.int .i64 0⟩),
 (4,⟨1,1,.bool,.bool false⟩),
 (9,⟨1,16,.str,.str []⟩),
 (23,⟨1,24,.slice 61,.slice 5 .nil []⟩),
 (24,⟨1,24,.slice 23,.slice 1 .nil []⟩),
 (25,⟨1,24,.slice 104,.slice 2 .nil []⟩),
 (26,⟨1,24,.slice 106,.slice 2 .nil []⟩),
 (28,⟨5,104,.struct [(0,3),(1,23),(2,24),(3,25),(4,26)],.agg [.int .i64 0,.slice 5 .nil [],.slice 1 .nil [],.slice 2 .nil [],.slice 2 .nil []]⟩),
 (104,⟨2,16,.struct [(0,3),(1,3)],.agg [.int .i64 0,.int .i64 0]⟩),
 (106,⟨2,24,.struct [(0,3),(1,9)],.agg [.int .i64 0,.str []]⟩),
 (154,⟨1,8,.map 3 4,.junk⟩)]
theorem ny:fA az GD=true:=by kernel_rfl
theorem xm:cc GD uM ahS 1 Tryz.f18=true:=by kernel_rfl
theorem wB:az.funcs[(18:Nat)]? =some Tryz.f18:=Tryz.func18
theorem KO:cc GD DJ zN 1 Tryz.f50=true:=by kernel_rfl
theorem Im:az.funcs[(50:Nat)]? =some Tryz.f50:=Tryz.func50
theorem zD:cc GD wz FX 2 Tryz.f59=true:=by kernel_rfl
theorem yq:az.funcs[(59:Nat)]? =some Tryz.f59:=Tryz.func59
end Go.Proofs.YtohaalphocaebaaGreat
