/- The laws' copying, counting and comparing of data, II. -/
import Derived.Lib.OwnBridge
import Derived.Shelf.GgSortMore.Stable
import Derived.Shelf.GgSortFunc.SmallK
import Derived.Shelf.GgSortFunc.Slice
import Derived.Ground.GgsProg
import Derived.Test.YtahlgcidhnjlbaaGreatProg
import Derived.ProofKit
import Derived.Carry
import Derived.WalkKit
import Derived.Deep.Slices
import Derived.Test.YtahlgcidhnjlbaaGreatH3
set_option linter.all false
set_option maxHeartbeats 4000000
open Array renaming getElem?_toList→tO
open BitVec renaming ofInt→qt
open Bool renaming eq_iff_iff→qu,false_eq_true→hb,or_eq_true→mT
open Go renaming Program→cF,TypeId→gm
open Go.DataW renaming trod→jt
open Go.Extern.ReflectliteSwapper renaming swap→Ej,swapper→at4
open Go.Extern.ReflectliteValue renaming len→at5,method→at6,unpack→aoP,valueError→aoQ
open Go.Extern.Rtype renaming kind→Y8
open Go.IntKind renaming bits→og,signed→sy,u64→hr,wrap→sA
open Go.IntWalk renaming i64_in→o8
open Go.Proofs.Tryz renaming prog→al
open Go.Value renaming cells→pR
open List renaming cons_append→bX,drop_eq_getElem_cons→lv,getElem?_eq_getElem→cl,getElem?_eq_some_iff→fV,getElem_of_mem→nN,length_append→pS,length_cons→pT,map_cons→gS,map_nil→mU,mem_cons→gf,mem_cons_of_mem→pa,mem_of_getElem?→dZ,nil_append→b3,pairwise_iff_getElem→pU,replicate→rj,take_length→mn,take_of_length_le→hD
open List.cons renaming injEq→qv
open Nat renaming add_mul→pV,le_refl→eY,le_trans→kc
open Ne renaming symm→k8
open Option renaming bind_eq_some_iff→kd,isSome_none→ht,map_eq_some_iff→gT,map_some→oi
open Option.some renaming injEq→dM
open Prod.mk renaming injEq→jF
open _root_ renaming False→eA,UInt8→dm,beq_iff_eq→dS,congrArg→ff,decide_eq_false→h6,decide_eq_false_iff_not→hR,decide_eq_true→gU,decide_eq_true_eq→fK
namespace Go.Proofs.YtahlgcidhnjlbaaGreat
open Go Go.Pv
variable {α:Type} [Inhabited α] {S:List α→cL} {n g cb:Nat} {lc b5:List ah} {lt:α→α→Bool}
theorem SH(H:e7 S n g cb lc b5 lt)(d:Array α)(aR:d.size=n)(lo hi first:Nat)(J:first+hi≤n)(U:2≤n)(ar:lo≤n):
  bV al 252 [e1 g cb lc b5,.int .i64 lo,.int .i64 hi,.int .i64 first] (S d.toList) fun r ai=>r= .tuple []∧∃ca,ai=S ca.toList∧ca=Sort.siftDown lt hi first lo d∧ca.size=n:=by
 have ag:=H.ok d.toList;have aw:d.toList.length=n:=by simpa using aR
 have au:∀l m,Pv.look (.loc m) (S l).b=none:=fun l=>(H.ok l).obj.1;have hu:∀l m cs,cB (.loc m) cs (S l).b=(S l).b++[(.loc m,cs)]:=fun l m cs=>j9 (au l m);have ax:∀m,aH.loc m∉cV (S d.toList):=j4 ag.obj;have hle:=H.le;refine bV.mk mixed oa ads ajX (by simp) ag.obj fun aN cT=>?_;unfold QD;simp[e1,hu,ax,cJ,au];refine H.loopA aw [2,3,4] (fun(x:Nat×Array α)=>[(8,.int .i64 x.1)]) (·.2) (fun x=>hi-x.1) (fun x=>x.2.size=n∧x.1≤n∧Sort.siftDown lt hi first x.1 x.2=Sort.siftDown lt hi first lo d) (lo,d) aR ⟨aR,ar,rfl⟩ (by simp[cJ,au]) aT aT (by simp[aF]) ?_;rintro⟨root,cr⟩ ⟨aP,a6,bR⟩;simp only at aP a6 bR;have ak:((first:Int)+(2*root+1))=(first+(2*root+1):Nat):=by omega
 have aC:(((first+(2*root+1):Nat):Int)+1)=(first+(2*root+1)+1:Nat):=by omega
 have bk:((first:Int)+root)=(first+root:Nat):=by omega
 have dg:((first:Int)+(2*root+1+1))=(first+(2*root+2):Nat):=by omega
 simp[Pv.look,H.slc,H.ssc];(with_reducible repeat' first|((first|apply bK|apply bM|apply bL)<;>intro h<;>try simp at h)|refine aj ?_|simp[Pv.look,H.slc,H.ssc])
 ·rw[Sort.siftDown,dif_pos (by omega)]at bR;exact H.retA aw aP (.inr rfl) ⟨rfl,cr,rfl,bR,aP⟩
 ·rw[Sort.siftDown,dif_neg (by omega)]at bR;rw[ak,aC];refine H.lessA aP _ _ (by omega) (by omega) fun o=>?_;have ay:decide (2*root+1+1<hi)=true:=by simp;omega
  cases ab:lt cr[first+(2*root+1)]! cr[first+(2*root+1)+1]! with
  |true=>
   rw[if_pos (by rw[ay,ab];rfl)]at bR;simp;(with_reducible repeat' first|refine aj ?_|simp[Pv.look,H.slc,H.ssc]);rw[bk,dg];refine H.lessA aP _ _ (by omega) (by omega) fun o=>?_;cases aG:lt cr[first+root]! cr[first+(2*root+2)]! with
   |true=>rw[if_neg (by simp[aG]),dif_pos (by omega)]at bR;simp;(with_reducible repeat' first|refine aj ?_|simp[Pv.look,H.slc,H.ssc]);rw[bk,dg];refine H.swapA aP U _ _ (by omega) (by omega) fun o=>?_;simp;(with_reducible repeat' first|refine aj ?_|simp);refine bT.whl (2*root+2,Sort.swp cr (first+root) (first+(2*root+2))) (by simp;omega) ⟨by rw[gO,aP],by simp;omega,bR⟩ (H.weakC aw (by simp[gO,aP]) (by simp[aF];omega))
   |false=>rw[if_pos (by simp[aG])]at bR;simp;(with_reducible repeat' first|refine aj ?_|simp);all_goals exact H.retA aw aP (.inl rfl) ⟨rfl,cr,rfl,bR,aP⟩
  |false=>
   rw[if_neg (by simp[ab])]at bR;simp;(with_reducible repeat' first|refine aj ?_|simp[Pv.look,H.slc,H.ssc]);rw[bk,ak];refine H.lessA aP _ _ (by omega) (by omega) fun o=>?_;cases aG:lt cr[first+root]! cr[first+(2*root+1)]! with
   |true=>rw[if_neg (by simp[aG])]at bR;simp;(with_reducible repeat' first|refine aj ?_|simp[Pv.look,H.slc,H.ssc]);rw[bk,ak];refine H.swapA aP U _ _ (by omega) (by omega) fun o=>?_;simp;(with_reducible repeat' first|refine aj ?_|simp);refine bT.whl (2*root+1,Sort.swp cr (first+root) (first+(2*root+1))) (by simp;omega) ⟨by rw[gO,aP],by simp;omega,bR⟩ (H.weakC aw (by simp[gO,aP]) (by simp[aF]))
   |false=>rw[if_pos (by simp[aG])]at bR;simp;(with_reducible repeat' first|refine aj ?_|simp);all_goals exact H.retA aw aP (.inl rfl) ⟨rfl,cr,rfl,bR,aP⟩
 ·rw[Sort.siftDown,dif_neg (by omega)]at bR;have ay:decide (2*root+1+1<hi)=false:=by simp;omega
  rw[if_neg (by rw[ay];simp)]at bR;rw[bk,ak];refine H.lessA aP _ _ (by omega) (by omega) fun o=>?_;cases aG:lt cr[first+root]! cr[first+(2*root+1)]! with
  |true=>rw[if_neg (by simp[aG])]at bR;simp;(with_reducible repeat' first|refine aj ?_|simp[Pv.look,H.slc,H.ssc]);rw[bk,ak];refine H.swapA aP U _ _ (by omega) (by omega) fun o=>?_;simp;(with_reducible repeat' first|refine aj ?_|simp);refine bT.whl (2*root+1,Sort.swp cr (first+root) (first+(2*root+1))) (by simp;omega) ⟨by rw[gO,aP],by simp;omega,bR⟩ (H.weakC aw (by simp[gO,aP]) (by simp[aF]))
  |false=>rw[if_pos (by simp[aG])]at bR;simp;(with_reducible repeat' first|refine aj ?_|simp);all_goals exact H.retA aw aP (.inl rfl) ⟨rfl,cr,rfl,bR,aP⟩
theorem aeJ(H:e7 S n g cb lc b5 lt)(d:Array α)(aR:d.size=n)(a b:Nat)(nn:a<b)(ae:b≤n)(U:2≤n):
  bV al 241 [e1 g cb lc b5,.int .i64 a,.int .i64 b] (S d.toList) fun r ai=>r= .tuple []∧∃ca,ai=S ca.toList∧ca=Sort.reverseRange d a b∧ca.size=n:=by
 have ag:=H.ok d.toList;have aw:d.toList.length=n:=by simpa using aR
 have au:∀l m,Pv.look (.loc m) (S l).b=none:=fun l=>(H.ok l).obj.1;have hu:∀l m cs,cB (.loc m) cs (S l).b=(S l).b++[(.loc m,cs)]:=fun l m cs=>j9 (au l m);have ax:∀m,aH.loc m∉cV (S d.toList):=j4 ag.obj;have hle:=H.le;refine bV.mk mixed oa adq ajV (by simp) ag.obj fun aN cT=>?_;unfold QB;simp[e1,hu,ax,cJ,au];have fv:((b:Int)-1)=(b-1:Nat):=by omega
 (with_reducible repeat' first|refine aj ?_|simp[hu,ax,cJ,au]);rw[fv];refine H.loopA aw [3] (fun(x:(Nat×Nat)×Array α)=>[(6,.int .i64 x.1.1),(7,.int .i64 x.1.2)]) (·.2) (fun x=>x.1.2+1-x.1.1) (fun x=>x.2.size=n∧x.1.2<n∧Sort.reverseLoop x.1.1 x.1.2 x.2=Sort.reverseRange d a b) ((a,b-1),d) aR ⟨aR,by simp;omega,rfl⟩ (by simp[cJ,au]) aT aT (by simp[aF]) ?_;rintro⟨⟨i,j⟩,cr⟩ ⟨aP,a6,bR⟩;simp only at aP a6 bR;rw[Sort.reverseLoop]at bR;simp[Pv.look,H.slc,H.ssc];(with_reducible repeat' first|((first|apply bK|apply bM|apply bL)<;>intro h<;>try simp at h)|refine aj ?_|simp[Pv.look,H.slc,H.ssc])
 ·rw[if_pos (by omega)]at bR;refine H.swapA aP U _ _ (by omega) (by omega) fun o=>?_;have ak:((i:Int)+1)=(i+1:Nat):=by omega
  have aC:((j:Int)-1)=(j-1:Nat):=by omega
  simp;((with_reducible repeat' first|refine aj ?_|simp|((first|apply bK|apply bM|apply bL)<;>intro h<;>try simp at h))<;>(try exact cc));rw[ak,aC];refine bT.whl ((i+1,j-1),Sort.swp cr i j) (by simp;omega) ⟨by rw[gO,aP],by simp;omega,bR⟩ (H.weakC aw (by simp[gO,aP]) (by simp[aF]))
 ·rw[if_neg (by omega)]at bR;exact H.retA aw aP (.inr rfl) ⟨rfl,cr,rfl,bR,aP⟩
theorem aew(H:e7 S n g cb lc b5 lt)(d:Array α)(aR:d.size=n)(a b:Nat)(nn:a≤b)(ae:b≤n)(U:2≤n):
  bV al 238 [e1 g cb lc b5,.int .i64 a,.int .i64 b] (S d.toList) fun r ai=>r= .tuple []∧∃ca,ai=S ca.toList∧ca=Sort.heapSort lt d a b∧ca.size=n:=by
 have ag:=H.ok d.toList;have aw:d.toList.length=n:=by simpa using aR
 have au:∀l m,Pv.look (.loc m) (S l).b=none:=fun l=>(H.ok l).obj.1;have hu:∀l m cs,cB (.loc m) cs (S l).b=(S l).b++[(.loc m,cs)]:=fun l m cs=>j9 (au l m);have ax:∀m,aH.loc m∉cV (S d.toList):=j4 ag.obj;have hle:=H.le;refine bV.mk mixed oa adh ajM (by simp) ag.obj fun aN cT=>?_;unfold Qs;simp[e1,hu,ax,cJ,au];(with_reducible repeat' first|refine aj ?_|simp[hu,ax,cJ,au]);have fv:IntKind.i64.wrap (((b:Int)-a-1).tdiv 2)=(((b-a-1)/2+1:Nat):Int)-1:=by
  have e:((b:Int)-a-1).tdiv 2=(((b-a-1)/2+1:Nat):Int)-1:=by
   rcases Nat.eq_or_lt_of_le nn with h|h
   ·subst h;simp
   ·rw[show((b:Int)-a-1)=((b-a-1:Nat):Int) by omega,Int.tdiv_eq_ediv_of_nonneg (by omega)];omega
  rw[e,o8 _ (by omega)]
 rw[fv];refine H.loopA aw [3,6,7,8] (fun(x:Nat×Array α)=>[(9,.int .i64 ((x.1:Int)-1))]) (·.2) (fun x=>x.1) (fun x=>x.2.size=n∧x.1≤n∧Sort.heapBuild lt (b-a) a x.1 x.2=Sort.heapBuild lt (b-a) a ((b-a-1)/2+1) d) ((b-a-1)/2+1,d) aR ⟨aR,by simp;omega,rfl⟩ (by simp[cJ,au]) aT aT (by simp[aF]) ?_;rintro⟨k,cr⟩ ⟨aP,a6,bR⟩;simp only at aP a6 bR;have aa1:((b:Int)-a)=(b-a:Nat):=by omega
 simp[Pv.look,H.slc,H.ssc];(with_reducible repeat' first|((first|apply bK|apply bM|apply bL)<;>intro h<;>try simp at h)|refine aj ?_|simp[Pv.look,H.slc,H.ssc])
 ·obtain⟨k,rfl⟩:∃bH,k=bH+1:=⟨k-1,by omega⟩;have Jv:(((k+1:Nat):Int)-1)=(k:Nat):=by omega
  rw[Sort.heapBuild]at bR;simp only[iy H,H.slc,H.ssc,im,Jv,aa1];refine H.doFn (lk:=cr.toList) (by simpa using aP) (R:=fun a1=> ∃ca,a1=ca.toList∧ca=Sort.siftDown lt (b-a) a k cr∧ca.size=n) ((SH H cr aP k (b-a) a (by omega) U (by omega)).mono fun r ai ⟨a7,ca,bF,b0,cZ⟩=>⟨a7,ca.toList,bF,ca,rfl,b0,cZ⟩) (by rintro a1 ⟨ca,rfl,_,q⟩;simpa using q) (by simp[aJ,aF,H.kdata (lk:=cr.toList) (by simpa using aP)]) ?_;rintro a1 ⟨ca,rfl,a7,bF⟩;simp;((with_reducible repeat' first|refine aj ?_|simp|((first|apply bK|apply bM|apply bL)<;>intro h<;>try simp at h))<;>(try exact cc));refine bT.whl (k,ca) (by simp) ⟨bF,by simp;omega,by rw[←bR,a7]⟩ (H.weakC aw (by simpa using bF) (by simp[aF]))
 ·obtain rfl:k=0:=by omega
  rw[Sort.heapBuild]at bR;have aqm:cr.size=n:=aP;refine H.loopA aw [3,6,7] (fun(x:Nat×Array α)=>[(10,.int .i64 ((x.1:Int)-1))]) (·.2) (fun x=>x.1) (fun x=>x.2.size=n∧x.1≤b-a∧Sort.heapPop lt a x.1 x.2=Sort.heapPop lt a (b-a) cr) (b-a,cr) aP ⟨aP,by simp,rfl⟩ (by simp[Pv.look]) aT aT (by simp[aF];omega) ?_;rintro⟨k,fS⟩ ⟨hB,wo,hk⟩;simp only at hB wo hk;simp[Pv.look,H.slc,H.ssc];(with_reducible repeat' first|((first|apply bK|apply bM|apply bL)<;>intro h<;>try simp at h)|refine aj ?_|simp[Pv.look,H.slc,H.ssc])
  ·obtain⟨k,rfl⟩:∃bH,k=bH+1:=⟨k-1,by omega⟩;have Jv:(((k+1:Nat):Int)-1)=(k:Nat):=by omega
   have aa0:((a:Int)+k)=(a+k:Nat):=by omega
   rw[Sort.heapPop]at hk;simp only[Jv,aa0];refine H.swapA hB U _ _ (by omega) (by omega) fun o=>?_;have Lm:(Sort.swp fS a (a+k)).size=n:=by rw[gO,hB]
   simp;simp only[iy H,H.slc,H.ssc,im];refine H.doFn (lk:=(Sort.swp fS a (a+k)).toList) (by simpa using Lm) (R:=fun a1=> ∃ca,a1=ca.toList∧ca=Sort.siftDown lt k a 0 (Sort.swp fS a (a+k))∧ca.size=n) ((SH H (Sort.swp fS a (a+k)) Lm 0 k a (by omega) U (by omega)).mono fun r ai ⟨a7,ca,bF,b0,cZ⟩=>⟨a7,ca.toList,bF,ca,rfl,b0,cZ⟩) (by rintro a1 ⟨ca,rfl,_,q⟩;simpa using q) (by simp[aJ,aF,H.kdata (lk:=(Sort.swp fS a (a+k)).toList) (by simpa using Lm)]) ?_;rintro a1 ⟨ca,rfl,a7,bF⟩;simp;((with_reducible repeat' first|refine aj ?_|simp|((first|apply bK|apply bM|apply bL)<;>intro h<;>try simp at h))<;>(try exact cc));refine bT.whl (k,ca) (by simp) ⟨bF,by simp;omega,by rw[←hk,a7]⟩ (H.weakC aw (by simpa using bF) (by simp[aF]))
  ·obtain rfl:k=0:=by omega
   rw[Sort.heapPop]at hk;refine H.retA aw hB (.inr rfl) ⟨rfl,fS,rfl,?_,hB⟩;rw[Sort.heapSort,←bR,←hk]
theorem aex(H:e7 S n g cb lc b5 lt)(d:Array α)(aR:d.size=n)(a b:Nat)(nn:a≤b)(ae:b≤n):
  bV al 231 [e1 g cb lc b5,.int .i64 a,.int .i64 b] (S d.toList) fun r ai=>r= .tuple []∧∃ca,ai=S ca.toList∧ca=Sort.insertionSort lt d a b∧ca.size=n:=by
 have ag:=H.ok d.toList;have aw:d.toList.length=n:=by simpa using aR
 have au:∀l m,Pv.look (.loc m) (S l).b=none:=fun l=>(H.ok l).obj.1;have hu:∀l m cs,cB (.loc m) cs (S l).b=(S l).b++[(.loc m,cs)]:=fun l m cs=>j9 (au l m);have ax:∀m,aH.loc m∉cV (S d.toList):=j4 ag.obj;have hle:=H.le;refine bV.mk mixed Bg Se V3 (by simp) ag.obj fun aN cT=>?_;unfold I8;simp[e1,hu,ax,cJ,au];have fv:((a:Int)+1)=(a+1:Nat):=by omega
 (with_reducible repeat' first|refine aj ?_|simp[hu,ax,cJ,au]);rw[fv];refine H.loopA aw [1,2,3] (fun(x:Nat×Array α)=>[(6,.int .i64 x.1)]) (·.2) (fun x=>b+1-x.1) (fun x=>x.2.size=n∧x.1≤b+1∧Sort.insOuter lt a b x.1 x.2=Sort.insertionSort lt d a b) (a+1,d) aR ⟨aR,by simp;omega,rfl⟩ (by simp[cJ,au]) aT aT (by simp[aF]) ?_;rintro⟨i,cr⟩ ⟨aP,a6,bR⟩;simp only at aP a6 bR;rw[Sort.insOuter]at bR;simp;(with_reducible repeat' first|((first|apply bK|apply bM|apply bL)<;>intro h<;>try simp at h)|refine aj ?_|simp)
 ·rw[if_pos (by omega)]at bR;refine H.loopA aw [1,2,3,6] (fun(x:Nat×Array α)=>[(7,.int .i64 x.1)]) (·.2) (fun x=>x.1) (fun x=>x.2.size=n∧x.1≤i∧Sort.insInner lt a x.1 x.2=Sort.insInner lt a i cr) (i,cr) aP ⟨aP,by simp,rfl⟩ (by simp[Pv.look]) aT aT (by simp[aF]) ?_;rintro⟨j,fS⟩ ⟨hB,wo,hk⟩;simp only at hB wo hk;simp[Pv.look,H.slc,H.ssc];(with_reducible repeat' first|((first|apply bK|apply bM|apply bL)<;>intro h<;>try simp at h)|refine aj ?_|simp[Pv.look,H.slc,H.ssc])
  ·obtain⟨j,rfl⟩:∃dJ,j=dJ+1:=⟨j-1,by omega⟩;have oB:(((j+1:Nat):Int)-1)=(j:Nat):=by omega
   have pt:((i:Int)+1)=(i+1:Nat):=by omega
   have aa3:((j:Int)+1)=(j+1:Nat):=by omega
   rw[Sort.insInner]at hk;have ay:decide (j+1>a)=true:=by simp;omega
   rw[oB];refine H.lessA hB _ _ (by omega) (by omega) fun o=>?_;cases ab:lt fS[j+1]! fS[j]! with
   |true=>rw[if_pos (by rw[ay,ab];rfl)]at hk;simp;(with_reducible repeat' first|refine aj ?_|simp[Pv.look,H.slc,H.ssc]);rw[aa3];refine H.swapA hB (by omega) _ _ (by omega) (by omega) fun o=>?_;simp;(with_reducible repeat' first|refine aj ?_|simp);refine bT.whl (j,Sort.swp fS (j+1) j) (by simp) ⟨by rw[gO,hB],by simp;omega,hk⟩ (H.weakC aw (by simp[gO,hB]) (by simp[aF]))
   |false=>rw[if_neg (by simp[ab])]at hk;simp;((with_reducible repeat' first|refine aj ?_|simp|((first|apply bK|apply bM|apply bL)<;>intro h<;>try simp at h))<;>(try exact cc));rw[pt];refine bT.whl (i+1,fS) (by simp;omega) ⟨hB,by simp;omega,by rw[←bR,←hk]⟩ (H.weakC aw (by simpa using hB) (by simp[aF]))
  ·have pt:((i:Int)+1)=(i+1:Nat):=by omega
   have ya:Sort.insInner lt a j fS=fS:=by
    cases j with
    |zero=>rfl
    |succ j=>rw[Sort.insInner,if_neg (by simp;omega)]
   rw[pt];refine bT.whl (i+1,fS) (by simp;omega) ⟨hB,by simp;omega,by rw[←bR,←hk,ya]⟩ (H.weakC aw (by simpa using hB) (by simp[aF]))
 ·rw[if_neg (by omega)]at bR;exact H.retA aw aP (.inr rfl) ⟨rfl,cr,rfl,bR,aP⟩
end Go.Proofs.YtahlgcidhnjlbaaGreat
namespace Go.Proofs.YtahlgcidhnjlbaaGreat
open Go Go.Pv
variable {α:Type} [Inhabited α] {S:List α→cL} {n g cb:Nat} {lc b5:List ah} {lt:α→α→Bool}
theorem vj{p:α→Bool}{d:Array α}{i j:Nat}(h:¬(i≤j∧p d[j]! =true)):Sort.scanDown p d i j=j:=by
 cases j with
 |zero=>rfl
 |succ j=>rw[Sort.scanDown,if_neg (by simpa using h)]
theorem A7{p:α→Bool}{d:Array α}{i j:Nat}(h:¬(i≤j∧p d[i]! =true)):Sort.scanUp p d j i=i:=by rw[Sort.scanUp,if_neg (by simpa using h)]
theorem Ns{p:α→Bool}{d:Array α}{i j:Nat}(J:i≤j)(U:p d[i]! =true):Sort.scanUp p d j i=Sort.scanUp p d j (i+1):=by rw[Sort.scanUp,if_pos (by simp[J,U])]
theorem Nr{p:α→Bool}{d:Array α}{i j:Nat}(J:i≤j+1)(U:p d[j+1]! =true):Sort.scanDown p d i (j+1)=Sort.scanDown p d i j:=by rw[Sort.scanDown,if_pos (by simp[J,U])]
theorem aeD(H:e7 S n g cb lc b5 lt)(d:Array α)(aR:d.size=n)(a b pivot:Nat)(rM:a≤pivot)(ago:pivot<b)(nn:a+1<b)(ae:b≤n):
  bV al 244 [e1 g cb lc b5,.int .i64 a,.int .i64 b,.int .i64 pivot] (S d.toList) fun r ai=>r= .tuple [.int .i64 (Sort.partition lt d a b pivot).1,.bool (Sort.partition lt d a b pivot).2.1]∧∃ca,ai=S ca.toList∧ca=(Sort.partition lt d a b pivot).2.2∧ca.size=n:=by
 obtain⟨R,bg⟩:∃R,R=Sort.partition lt d a b pivot:=⟨_,rfl⟩;rw[←bg];unfold Sort.partition at bg;have ag:=H.ok d.toList;have aw:d.toList.length=n:=by simpa using aR
 have au:∀l m,Pv.look (.loc m) (S l).b=none:=fun l=>(H.ok l).obj.1;have hu:∀l m cs,cB (.loc m) cs (S l).b=(S l).b++[(.loc m,cs)]:=fun l m cs=>j9 (au l m);have ax:∀m,aH.loc m∉cV (S d.toList):=j4 ag.obj;have hle:=H.le;refine bV.mk mixed oa ado ajT (by simp) ag.obj fun aN cT=>?_;unfold Qz;simp[e1,hu,ax,cJ,au];rw[H.ssc];refine H.swapA0 aR (by omega) a pivot (by omega) (by omega) fun o=>?_;obtain⟨d1,fw⟩:∃d1,d1=Sort.swp d a pivot:=⟨_,rfl⟩;have s1:d1.size=n:=by rw[fw,gO,aR]
 rw[←fw];simp only[←fw]at bg;have ak:((a:Int)+1)=(a+1:Nat):=by omega
 have aC:((b:Int)-1)=(b-1:Nat):=by omega
 simp;(with_reducible repeat' first|refine aj ?_|simp);rw[ak,aC];refine H.loopA aw [1,4,11] (fun(i:Nat)=>[(10,.int .i64 i)]) (fun _=>d1) (fun i=>b+1-i) (fun i=>a+1≤i∧i≤b∧Sort.scanUp (fun x=>lt x d1[a]!) d1 (b-1) i=Sort.scanUp (fun x=>lt x d1[a]!) d1 (b-1) (a+1)) (a+1) s1 ⟨by omega,by omega,rfl⟩ (by simp[Pv.look]) aT aT (by simp[aF]) ?_;rintro i ⟨i1,i2,i3⟩;simp[Pv.look,H.slc];((with_reducible repeat' first|refine aj ?_|simp[Pv.look,H.slc]|((first|apply bK|apply bM|apply bL)<;>intro h<;>try simp at h))<;>(try exact cc));refine H.lessA s1 i a (by omega) (by omega) fun o=>?_;cases ab:lt d1[i]! d1[a]!;rotate_left
 ·have pt:((i:Int)+1)=(i+1:Nat):=by omega
  simp;(with_reducible repeat' first|refine aj ?_|simp);rw[pt];refine bT.whl (i+1) (by omega) ⟨by omega,by omega,by rw[←i3];exact(Ns (p:=fun x=>lt x d1[a]!) (by omega) ab).symm⟩ (H.weakC aw (by simpa using s1) (by simp[aF]))
 rotate_left
 ·have i4:Sort.scanUp (fun x=>lt x d1[a]!) d1 (b-1) i=i:=A7 (by simp[ab]);rw[i4]at i3;rw[←i3]at bg;simp;refine H.loopA aw [1,4,10] (fun(j:Nat)=>[(11,.int .i64 j)]) (fun _=>d1) (fun j=>j) (fun j=>i≤j+1∧j≤b-1∧Sort.scanDown (fun x=> !lt x d1[a]!) d1 i j=Sort.scanDown (fun x=> !lt x d1[a]!) d1 i (b-1)) (b-1) s1 ⟨by omega,by omega,rfl⟩ (by simp[Pv.look]) aT aT (by simp[aF]) ?_;rintro j ⟨hB,wo,hk⟩;simp[Pv.look,H.slc];((with_reducible repeat' first|refine aj ?_|simp[Pv.look,H.slc,H.ssc]|((first|apply bK|apply bM|apply bL)<;>intro h<;>try simp at h))<;>(try exact cc))
  ·refine H.lessA s1 j a (by omega) (by omega) fun o=>?_;cases aG:lt d1[j]! d1[a]!
   ·obtain⟨j,rfl⟩:∃dJ,j=dJ+1:=⟨j-1,by omega⟩;have oB:(((j+1:Nat):Int)-1)=(j:Nat):=by omega
    simp;(with_reducible repeat' first|refine aj ?_|simp);try rw[oB]
    refine bT.whl j (by omega) ⟨by omega,by omega,by rw[←hk];exact(Nr (p:=fun x=> !lt x d1[a]!) (by omega) (by simp[aG])).symm⟩ (H.weakC aw (by simpa using s1) (by simp[aF]))
   ·have ya:Sort.scanDown (fun x=> !lt x d1[a]!) d1 i j=j:=vj (by simp[aG]);have cH:i≠j:=fun e=>by subst e;rw[ab]at aG;cases aG
    rw[ya]at hk;rw[←hk,if_neg (by omega)]at bg;simp;((with_reducible repeat' first|refine aj ?_|simp[Pv.look,H.slc,H.ssc]|((first|apply bK|apply bM|apply bL)<;>intro h<;>try simp at h))<;>(try exact cc));refine H.swapA s1 (by omega) i j (by omega) (by omega) fun o=>?_;obtain⟨d2,eU⟩:∃d2,d2=Sort.swp d1 i j:=⟨_,rfl⟩;have s2:d2.size=n:=by rw[eU,gO,s1]
    rw[←eU];rw[←eU]at bg;have bk:((i:Int)+1)=(i+1:Nat):=by omega
    have dg:((j:Int)-1)=(j-1:Nat):=by omega
    simp;(with_reducible repeat' first|refine aj ?_|simp);rw[bk,dg];refine H.loopA aw [1,4] (fun(x:(Nat×Nat)×Array α)=>[(10,.int .i64 x.1.1),(11,.int .i64 x.1.2)]) (·.2) (fun x=>x.1.2+1-x.1.1) (fun x=>x.2.size=n∧(a+1≤x.1.1∧x.1.1≤x.1.2+1∧x.1.2≤b-1)∧Sort.partLoop lt a x.1.1 x.1.2 x.2=Sort.partLoop lt a (i+1) (j-1) d2) ((i+1,j-1),d2) s2 ⟨s2,⟨by simp;omega,by simp;omega,by simp;omega⟩,rfl⟩ (by simp[Pv.look]) aT aT (by simp[aF]) ?_;rintro⟨⟨wk,dJ⟩,cr⟩ ⟨aP,⟨a6,bR,dq⟩,cS⟩;simp only at aP a6 bR dq cS;rw[Sort.partLoop]at cS;generalize hg:Sort.partLoop lt a (i+1) (j-1) d2=G at cS bg;simp;refine H.loopA aw [1,4,11] (fun(x:Nat)=>[(10,.int .i64 x)]) (fun _=>cr) (fun x=>b+1-x) (fun x=>wk≤x∧x≤dJ+1∧Sort.scanUp (fun x=>lt x cr[a]!) cr dJ x=Sort.scanUp (fun x=>lt x cr[a]!) cr dJ wk) wk aP ⟨by omega,by omega,rfl⟩ (by simp[Pv.look]) aT aT (by simp[aF]) ?_;rintro p ⟨cQ,dy,jd⟩;simp[Pv.look,H.slc];((with_reducible repeat' first|refine aj ?_|simp[Pv.look,H.slc]|((first|apply bK|apply bM|apply bL)<;>intro h<;>try simp at h))<;>(try exact cc))
    ·refine H.lessA aP p a (by omega) (by omega) fun o=>?_;cases iu:lt cr[p]! cr[a]!;rotate_left
     ·have pt:((p:Int)+1)=(p+1:Nat):=by omega
      simp;(with_reducible repeat' first|refine aj ?_|simp);rw[pt];refine bT.whl (p+1) (by omega) ⟨by omega,by omega,by rw[←jd];exact(Ns (p:=fun x=>lt x cr[a]!) (by omega) iu).symm⟩ (H.weakC aw (by simpa using aP) (by simp[aF]))
     ·have u5:Sort.scanUp (fun x=>lt x cr[a]!) cr dJ p=p:=A7 (by simp[iu]);rw[u5]at jd;simp only[←jd]at cS;simp;refine H.loopA aw [1,4,10] (fun(x:Nat)=>[(11,.int .i64 x)]) (fun _=>cr) (fun x=>x) (fun x=>p≤x+1∧x≤dJ∧Sort.scanDown (fun x=> !lt x cr[a]!) cr p x=Sort.scanDown (fun x=> !lt x cr[a]!) cr p dJ) dJ aP ⟨by omega,by omega,rfl⟩ (by simp[Pv.look]) aT aT (by simp[aF]) ?_;rintro q ⟨a7,bF,b0⟩;simp[Pv.look,H.slc];((with_reducible repeat' first|refine aj ?_|simp[Pv.look,H.slc,H.ssc]|((first|apply bK|apply bM|apply bL)<;>intro h<;>try simp at h))<;>(try exact cc))
      ·refine H.lessA aP q a (by omega) (by omega) fun o=>?_;cases rZ:lt cr[q]! cr[a]!
       ·obtain⟨q,rfl⟩:∃dJ,q=dJ+1:=⟨q-1,by omega⟩;have oB:(((q+1:Nat):Int)-1)=(q:Nat):=by omega
        simp;(with_reducible repeat' first|refine aj ?_|simp);try rw[oB]
        refine bT.whl q (by omega) ⟨by omega,by omega,by rw[←b0];exact(Nr (p:=fun x=> !lt x cr[a]!) (by omega) (by simp[rZ])).symm⟩ (H.weakC aw (by simpa using aP) (by simp[aF]))
       ·have cZ:Sort.scanDown (fun x=> !lt x cr[a]!) cr p q=q:=vj (by simp[rZ]);have cH:p≠q:=fun e=>by subst e;rw[iu]at rZ;cases rZ
        rw[cZ]at b0;simp only[←b0]at cS;rw[if_neg (by omega),dif_pos (by omega)]at cS;simp;((with_reducible repeat' first|refine aj ?_|simp[Pv.look,H.slc,H.ssc]|((first|apply bK|apply bM|apply bL)<;>intro h<;>try simp at h))<;>(try exact cc));refine H.swapA aP (by omega) p q (by omega) (by omega) fun o=>?_;have hf:((p:Int)+1)=(p+1:Nat):=by omega
        have hT:((q:Int)-1)=(q-1:Nat):=by omega
        simp;(with_reducible repeat' first|((first|apply bK|apply bM|apply bL)<;>intro h<;>try simp at h)|refine aj ?_|simp);rw[hf,hT];refine bT.whl ((p+1,q-1),Sort.swp cr p q) (by simp;omega) ⟨by rw[gO,aP],⟨by simp;omega,by simp;omega,by simp;omega⟩,cS⟩ (H.weakC aw (by simp[gO,aP]) (by simp[aF]))
      ·have cZ:Sort.scanDown (fun x=> !lt x cr[a]!) cr p q=q:=vj (by omega);rw[cZ]at b0;simp only[←b0]at cS;rw[if_pos (by omega)]at cS;rw[←cS]at bg;refine H.swapA aP (by omega) q a (by omega) (by omega) fun o=>?_;simp;refine H.retR aw (d:=Sort.swp cr q a) (by rw[gO,aP]) (.inl rfl) ?_;simp[c6,DB,aY,aZ,aW];rw[bg];exact⟨⟨rfl,rfl⟩,_,rfl,rfl,by rw[gO,aP]⟩
    ·have u5:Sort.scanUp (fun x=>lt x cr[a]!) cr dJ p=p:=A7 (by omega);rw[u5]at jd;simp only[←jd]at cS;have cZ:Sort.scanDown (fun x=> !lt x cr[a]!) cr p dJ=dJ:=vj (by omega);rw[cZ,if_pos (by omega)]at cS;rw[←cS]at bg;refine H.loopA aw [1,4,10] (fun(x:Nat)=>[(11,.int .i64 x)]) (fun _=>cr) (fun x=>x) (fun x=>x=dJ) dJ aP rfl (by simp[Pv.look]) aT aT (by simp[aF]) ?_;rintro q rfl;simp[Pv.look,H.slc];((with_reducible repeat' first|refine aj ?_|simp[Pv.look,H.slc,H.ssc]|((first|apply bK|apply bM|apply bL)<;>intro h<;>try simp at h))<;>(try exact cc));refine H.swapA aP (by omega) q a (by omega) (by omega) fun o=>?_;simp;refine H.retR aw (d:=Sort.swp cr q a) (by rw[gO,aP]) (.inl rfl) ?_;simp[c6,DB,aY,aZ,aW];rw[bg];exact⟨⟨rfl,rfl⟩,_,rfl,rfl,by rw[gO,aP]⟩
  ·have ya:Sort.scanDown (fun x=> !lt x d1[a]!) d1 i j=j:=vj (by omega);rw[ya]at hk;rw[←hk,if_pos (by omega)]at bg;refine H.swapA s1 (by omega) j a (by omega) (by omega) fun o=>?_;simp;refine H.retR aw (d:=Sort.swp d1 j a) (by rw[gO,s1]) (.inl rfl) ?_;simp[c6,DB,aY,aZ,aW];rw[bg];exact⟨⟨rfl,rfl⟩,_,rfl,rfl,by rw[gO,s1]⟩
 ·have i4:Sort.scanUp (fun x=>lt x d1[a]!) d1 (b-1) i=i:=A7 (by omega);rw[i4]at i3;have ya:Sort.scanDown (fun x=> !lt x d1[a]!) d1 i (b-1)=b-1:=vj (by omega);rw[←i3,ya,if_pos (by omega)]at bg;refine H.loopA aw [1,4,10] (fun(j:Nat)=>[(11,.int .i64 j)]) (fun _=>d1) (fun j=>j) (fun j=>j=b-1) (b-1) s1 rfl (by simp[Pv.look]) aT aT (by simp[aF]) ?_;rintro j rfl;simp[Pv.look,H.slc];((with_reducible repeat' first|refine aj ?_|simp[Pv.look,H.slc,H.ssc]|((first|apply bK|apply bM|apply bL)<;>intro h<;>try simp at h))<;>(try exact cc));refine H.swapA s1 (by omega) (b-1) a (by omega) (by omega) fun o=>?_;simp;refine H.retR aw (d:=Sort.swp d1 (b-1) a) (by rw[gO,s1]) (.inl rfl) ?_;simp[c6,DB,aY,aZ,aW];rw[bg];exact⟨⟨rfl,rfl⟩,_,rfl,rfl,by rw[gO,s1]⟩
end Go.Proofs.YtahlgcidhnjlbaaGreat
namespace Go.Proofs.YtahlgcidhnjlbaaGreat
open Go Go.Pv
variable {α:Type} [Inhabited α] {S:List α→cL} {n g cb:Nat} {lc b5:List ah} {lt:α→α→Bool}
theorem aeE(H:e7 S n g cb lc b5 lt)(d:Array α)(aR:d.size=n)(a b pivot:Nat)(rM:a≤pivot)(ago:pivot<b)(nn:a+1<b)(ae:b≤n):
  bV al 243 [e1 g cb lc b5,.int .i64 a,.int .i64 b,.int .i64 pivot] (S d.toList) fun r ai=>r= .int .i64 (Sort.partitionEqual lt d a b pivot).1∧∃ca,ai=S ca.toList∧ca=(Sort.partitionEqual lt d a b pivot).2∧ca.size=n:=by
 obtain⟨R,bg⟩:∃R,R=Sort.partitionEqual lt d a b pivot:=⟨_,rfl⟩;rw[←bg];unfold Sort.partitionEqual at bg;have ag:=H.ok d.toList;have aw:d.toList.length=n:=by simpa using aR
 have au:∀l m,Pv.look (.loc m) (S l).b=none:=fun l=>(H.ok l).obj.1;have hu:∀l m cs,cB (.loc m) cs (S l).b=(S l).b++[(.loc m,cs)]:=fun l m cs=>j9 (au l m);have ax:∀m,aH.loc m∉cV (S d.toList):=j4 ag.obj;have hle:=H.le;refine bV.mk mixed oa adn ajS (by simp) ag.obj fun aN cT=>?_;unfold Qy;simp[e1,hu,ax,cJ,au];rw[H.ssc];refine H.swapA0 aR (by omega) a pivot (by omega) (by omega) fun o=>?_;obtain⟨d1,fw⟩:∃d1,d1=Sort.swp d a pivot:=⟨_,rfl⟩;have s1:d1.size=n:=by rw[fw,gO,aR]
 rw[←fw];rw[←fw]at bg;have ak:((a:Int)+1)=(a+1:Nat):=by omega
 have aC:((b:Int)-1)=(b-1:Nat):=by omega
 simp;(with_reducible repeat' first|refine aj ?_|simp);rw[ak,aC];refine H.loopA aw [1,4] (fun(x:(Nat×Nat)×Array α)=>[(9,.int .i64 x.1.1),(10,.int .i64 x.1.2)]) (·.2) (fun x=>x.1.2+1-x.1.1) (fun x=>x.2.size=n∧(a+1≤x.1.1∧x.1.1≤x.1.2+1∧x.1.2≤b-1)∧Sort.partEqLoop lt a x.1.1 x.1.2 x.2=R) ((a+1,b-1),d1) s1 ⟨s1,⟨by simp,by simp;omega,by simp⟩,bg.symm⟩ (by simp[Pv.look]) aT aT (by simp[aF]) ?_;rintro⟨⟨wk,dJ⟩,cr⟩ ⟨aP,⟨a6,bR,dq⟩,cS⟩;simp only at aP a6 bR dq cS;rw[Sort.partEqLoop]at cS;simp;refine H.loopA aw [1,4,10] (fun(x:Nat)=>[(9,.int .i64 x)]) (fun _=>cr) (fun x=>b+1-x) (fun x=>wk≤x∧x≤dJ+1∧Sort.scanUp (fun x=> !lt cr[a]! x) cr dJ x=Sort.scanUp (fun x=> !lt cr[a]! x) cr dJ wk) wk aP ⟨by omega,by omega,rfl⟩ (by simp[Pv.look]) aT aT (by simp[aF]) ?_;rintro p ⟨cQ,dy,jd⟩;simp[Pv.look,H.slc];((with_reducible repeat' first|refine aj ?_|simp[Pv.look,H.slc]|((first|apply bK|apply bM|apply bL)<;>intro h<;>try simp at h))<;>(try exact cc))
 ·refine H.lessA aP a p (by omega) (by omega) fun o=>?_;cases iu:lt cr[a]! cr[p]!
  ·have pt:((p:Int)+1)=(p+1:Nat):=by omega
   simp;(with_reducible repeat' first|refine aj ?_|simp);rw[pt];refine bT.whl (p+1) (by omega) ⟨by omega,by omega,by rw[←jd];exact(Ns (p:=fun x=> !lt cr[a]! x) (by omega) (by simp[iu])).symm⟩ (H.weakC aw (by simpa using aP) (by simp[aF]))
  ·have u5:Sort.scanUp (fun x=> !lt cr[a]! x) cr dJ p=p:=A7 (by simp[iu]);rw[u5]at jd;simp only[←jd]at cS;simp;refine H.loopA aw [1,4,9] (fun(x:Nat)=>[(10,.int .i64 x)]) (fun _=>cr) (fun x=>x) (fun x=>p≤x+1∧x≤dJ∧Sort.scanDown (fun x=>lt cr[a]! x) cr p x=Sort.scanDown (fun x=>lt cr[a]! x) cr p dJ) dJ aP ⟨by omega,by omega,rfl⟩ (by simp[Pv.look]) aT aT (by simp[aF]) ?_;rintro q ⟨a7,bF,b0⟩;simp[Pv.look,H.slc];((with_reducible repeat' first|refine aj ?_|simp[Pv.look,H.slc,H.ssc]|((first|apply bK|apply bM|apply bL)<;>intro h<;>try simp at h))<;>(try exact cc))
   ·refine H.lessA aP a q (by omega) (by omega) fun o=>?_;cases rZ:lt cr[a]! cr[q]!;rotate_left
    ·obtain⟨q,rfl⟩:∃dJ,q=dJ+1:=⟨q-1,by omega⟩;have oB:(((q+1:Nat):Int)-1)=(q:Nat):=by omega
     simp;(with_reducible repeat' first|refine aj ?_|simp);try rw[oB]
     refine bT.whl q (by omega) ⟨by omega,by omega,by rw[←b0];exact(Nr (p:=fun x=>lt cr[a]! x) (by omega) (by simp[rZ])).symm⟩ (H.weakC aw (by simpa using aP) (by simp[aF]))
    ·have cZ:Sort.scanDown (fun x=>lt cr[a]! x) cr p q=q:=vj (by simp[rZ]);have cH:p≠q:=fun e=>by subst e;rw[iu]at rZ;cases rZ
     rw[cZ]at b0;simp only[←b0]at cS;rw[if_neg (by omega),dif_pos (by omega)]at cS;simp;((with_reducible repeat' first|refine aj ?_|simp[Pv.look,H.slc,H.ssc]|((first|apply bK|apply bM|apply bL)<;>intro h<;>try simp at h))<;>(try exact cc));refine H.swapA aP (by omega) p q (by omega) (by omega) fun o=>?_;have hf:((p:Int)+1)=(p+1:Nat):=by omega
     have hT:((q:Int)-1)=(q-1:Nat):=by omega
     simp;(with_reducible repeat' first|((first|apply bK|apply bM|apply bL)<;>intro h<;>try simp at h)|refine aj ?_|simp);rw[hf,hT];refine bT.whl ((p+1,q-1),Sort.swp cr p q) (by simp;omega) ⟨by rw[gO,aP],⟨by simp;omega,by simp;omega,by simp;omega⟩,cS⟩ (H.weakC aw (by simp[gO,aP]) (by simp[aF]))
   ·have cZ:Sort.scanDown (fun x=>lt cr[a]! x) cr p q=q:=vj (by omega);rw[cZ]at b0;simp only[←b0]at cS;rw[if_pos (by omega)]at cS;refine H.retR aw (d:=cr) aP (.inl rfl) ?_;simp[c6,MQ,aY,aZ,aW];rw[←cS];exact⟨rfl,_,rfl,rfl,aP⟩
 ·have u5:Sort.scanUp (fun x=> !lt cr[a]! x) cr dJ p=p:=A7 (by omega);rw[u5]at jd;simp only[←jd]at cS;have cZ:Sort.scanDown (fun x=>lt cr[a]! x) cr p dJ=dJ:=vj (by omega);rw[cZ,if_pos (by omega)]at cS;refine H.loopA aw [1,4,9] (fun(x:Nat)=>[(10,.int .i64 x)]) (fun _=>cr) (fun x=>x) (fun x=>x=dJ) dJ aP rfl (by simp[Pv.look]) aT aT (by simp[aF]) ?_;rintro q rfl;simp[Pv.look,H.slc];((with_reducible repeat' first|refine aj ?_|simp[Pv.look,H.slc,H.ssc]|((first|apply bK|apply bM|apply bL)<;>intro h<;>try simp at h))<;>(try exact cc));refine H.retR aw (d:=cr) aP (.inl rfl) ?_;simp[c6,MQ,aY,aZ,aW];rw[←cS];exact⟨rfl,_,rfl,rfl,aP⟩
end Go.Proofs.YtahlgcidhnjlbaaGreat
namespace Go.Proofs.YtahlgcidhnjlbaaGreat
open Go Go.Pv
variable {α:Type} [Inhabited α] {S:List α→cL} {n g cb:Nat} {lc b5:List ah} {lt:α→α→Bool}
theorem aeC(H:e7 S n g cb lc b5 lt)(d:Array α)(aR:d.size=n)(a b:Nat)(nn:a<b)(ae:b≤n)(U:2≤n):
  bV al 242 [e1 g cb lc b5,.int .i64 a,.int .i64 b] (S d.toList) fun r ai=>r= .bool (Sort.partialInsertionSort lt d a b).2∧∃ca,ai=S ca.toList∧ca=(Sort.partialInsertionSort lt d a b).1∧ca.size=n:=by
 obtain⟨R,bg⟩:∃R,R=Sort.partialInsertionSort lt d a b:=⟨_,rfl⟩;rw[←bg];unfold Sort.partialInsertionSort at bg;have ag:=H.ok d.toList;have aw:d.toList.length=n:=by simpa using aR
 have au:∀l m,Pv.look (.loc m) (S l).b=none:=fun l=>(H.ok l).obj.1;have hu:∀l m cs,cB (.loc m) cs (S l).b=(S l).b++[(.loc m,cs)]:=fun l m cs=>j9 (au l m);have ax:∀m,aH.loc m∉cV (S d.toList):=j4 ag.obj;have hle:=H.le;refine bV.mk mixed oa adm ajR (by simp) ag.obj fun aN cT=>?_;unfold Qx;simp[e1,hu,ax,cJ,au];have ak:((a:Int)+1)=(a+1:Nat):=by omega
 (with_reducible repeat' first|refine aj ?_|simp);rw[ak];refine H.loopA aw [1,2,3] (fun(x:(Nat×Nat)×Array α)=>[(7,.int .i64 x.1.1),(8,.int .i64 x.1.2)]) (·.2) (fun x=>5-x.1.2) (fun x=>x.2.size=n∧(a+1≤x.1.1∧x.1.1≤b∧x.1.2≤5)∧Sort.partialIns lt a b (5-x.1.2) x.1.1 x.2=R) ((a+1,0),d) aR ⟨aR,⟨by simp,by simp;omega,by simp⟩,bg.symm⟩ (by simp[cJ,au]) aT aT (by simp[aF]) ?_;rintro⟨⟨i0,s⟩,cr⟩ ⟨aP,⟨a6,bR,dq⟩,cS⟩;simp only at aP a6 bR dq cS;simp;((with_reducible repeat' first|refine aj ?_|simp|((first|apply bK|apply bM|apply bL)<;>intro h<;>try simp at h))<;>(try exact cc))
 ·obtain⟨m,hm⟩:∃m,5-s=m+1:=⟨5-s-1,by omega⟩;rw[hm,Sort.partialIns]at cS;refine H.loopA aw [1,2,3,8] (fun(x:Nat)=>[(7,.int .i64 x)]) (fun _=>cr) (fun x=>b-x) (fun x=>i0≤x∧x≤b∧Sort.scanSorted lt cr b x=Sort.scanSorted lt cr b i0) i0 aP ⟨by omega,by omega,rfl⟩ (by simp[Pv.look]) aT aT (by simp[aF]) ?_;rintro i ⟨i1,i2,i3⟩;rw[Sort.scanSorted]at i3;have pt:((i:Int)+1)=(i+1:Nat):=by omega
  have Fh:((i:Int)-1)=(i-1:Nat):=by omega
  have es:((s:Int)+1)=(s+1:Nat):=by omega
  have em:5-(s+1)=m:=by omega
  simp[Pv.look,H.slc];((with_reducible repeat' first|refine aj ?_|simp[Pv.look,H.slc]|((first|apply bK|apply bM|apply bL)<;>intro h<;>try simp at h))<;>(try exact cc))
  ·rw[Fh];refine H.lessA aP i (i-1) (by omega) (by omega) fun o=>?_;cases ab:lt cr[i]! cr[i-1]!
   ·rw[if_pos (by simp[ab];omega)]at i3;simp;(with_reducible repeat' first|refine aj ?_|simp);rw[pt];refine bT.whl (i+1) (by omega) ⟨by omega,by omega,i3⟩ (H.weakC aw (by simpa using aP) (by simp[aF]))
   ·rw[if_neg (by simp[ab])]at i3;simp only[←i3]at cS;rw[if_neg (by omega)]at cS;have zM:(i:Int)≠b:=by omega
    have afK:((i:Int)==b)=false:=by simp;omega
    simp;((with_reducible repeat' first|refine aj ?_|simp[zM,afK,Pv.look,H.slc,H.ssc]|((first|apply bK|apply bM|apply bL)<;>intro h<;>try simp at h))<;>(try exact cc))
    ·rw[if_pos (by omega)]at cS;refine H.retR aw (d:=cr) aP (.inl rfl) ?_;simp[c6,Hm,aY,aZ,aW];rw[←cS];exact⟨rfl,_,rfl,rfl,aP⟩
    ·rw[if_neg (by omega)]at cS;rw[Fh];refine H.swapA aP U i (i-1) (by omega) (by omega) fun o=>?_;obtain⟨d2,eU⟩:∃d2,d2=Sort.swp cr i (i-1):=⟨_,rfl⟩;have s2:d2.size=n:=by rw[eU,gO,aP]
     rw[←eU];simp only[←eU]at cS;by_cases lO:2≤b-i
     ·rw[if_pos lO]at cS;have s9:(2:Int)≤(b:Int)-i:=by omega
      by_cases Cn:2≤i-a
      ·rw[if_pos Cn]at cS;have xL:(2:Int)≤(i:Int)-a:=by omega
       simp;(with_reducible repeat' first|refine aj ?_|simp[xL]);rw[Fh];refine H.loopA aw [1,2,3,7,8] (fun(x:Nat×Array α)=>[(9,.int .i64 x.1)]) (·.2) (fun x=>x.1) (fun x=>x.2.size=n∧x.1≤i-1∧Sort.shiftDown lt x.1 x.2=Sort.shiftDown lt (i-1) d2) (i-1,d2) s2 ⟨s2,by simp,rfl⟩ (by simp[Pv.look]) aT aT (by simp[aF]) ?_;rintro⟨j,fS⟩ ⟨hB,wo,hk⟩;simp only at hB wo hk;simp[Pv.look,H.slc,H.ssc];((with_reducible repeat' first|refine aj ?_|simp[Pv.look,H.slc,H.ssc,s9]|((first|apply bK|apply bM|apply bL)<;>intro h<;>try simp at h))<;>(try exact cc))
       ·obtain⟨j,rfl⟩:∃dJ,j=dJ+1:=⟨j-1,by omega⟩;have oB:(((j+1:Nat):Int)-1)=(j:Nat):=by omega
        rw[Sort.shiftDown]at hk;try rw[oB]
        refine H.lessA hB (j+1) j (by omega) (by omega) fun o=>?_;cases aG:lt fS[j+1]! fS[j]!
        ·rw[if_pos (by simp[aG])]at hk;rw[←hk]at cS;try simp
         try(with_reducible repeat' first|refine aj ?_|simp[Pv.look,H.slc,H.ssc,s9])
         rw[pt];refine H.loopA aw [1,2,3,7,8] (fun(x:Nat×Array α)=>[(10,.int .i64 x.1)]) (·.2) (fun x=>b-x.1) (fun x=>x.2.size=n∧(i+1≤x.1∧x.1≤b)∧Sort.shiftUp lt b x.1 x.2=Sort.shiftUp lt b (i+1) fS) (i+1,fS) hB ⟨hB,⟨by simp,by simp;omega⟩,rfl⟩ (by simp[Pv.look]) aT aT (by simp[aF]) ?_;rintro⟨q,ng⟩ ⟨a7,⟨bF,yx⟩,b0⟩;simp only at a7 bF yx b0;rw[Sort.shiftUp]at b0;have eq:((q:Int)-1)=(q-1:Nat):=by omega
         have BS:((q:Int)+1)=(q+1:Nat):=by omega
         simp[Pv.look,H.slc,H.ssc];((with_reducible repeat' first|refine aj ?_|simp[Pv.look,H.slc,H.ssc]|((first|apply bK|apply bM|apply bL)<;>intro h<;>try simp at h))<;>(try exact cc))
         ·rw[if_pos (by omega)]at b0;rw[eq];refine H.lessA a7 q (q-1) (by omega) (by omega) fun o=>?_;cases bq:lt ng[q]! ng[q-1]!
          ·rw[if_pos (by simp[bq])]at b0;rw[←b0]at cS;simp;(with_reducible repeat' first|refine aj ?_|simp);rw[es];refine bT.whl ((i,s+1),ng) (by simp;omega) ⟨a7,⟨by simp;omega,by simp;omega,by simp;omega⟩,by simp only[em];exact cS⟩ (H.weakC aw (by simpa using a7) (by simp[aF]))
          ·rw[if_neg (by simp[bq])]at b0;simp;(with_reducible repeat' first|refine aj ?_|simp[Pv.look,H.slc,H.ssc]);rw[eq];refine H.swapA a7 (by omega) q (q-1) (by omega) (by omega) fun o=>?_;simp;((with_reducible repeat' first|refine aj ?_|simp|((first|apply bK|apply bM|apply bL)<;>intro h<;>try simp at h))<;>(try exact cc));rw[BS];refine bT.whl (q+1,Sort.swp ng q (q-1)) (by simp;omega) ⟨by rw[gO,a7],⟨by simp;omega,by simp;omega⟩,b0⟩ (H.weakC aw (by simp[gO,a7]) (by simp[aF]))
         ·rw[if_neg (by omega)]at b0;rw[←b0]at cS;rw[es];refine bT.whl ((i,s+1),ng) (by simp;omega) ⟨a7,⟨by simp;omega,by simp;omega,by simp;omega⟩,by simp only[em];exact cS⟩ (H.weakC aw (by simpa using a7) (by simp[aF]))
        ·rw[if_neg (by simp[aG])]at hk;simp;(with_reducible repeat' first|refine aj ?_|simp[Pv.look,H.slc,H.ssc]);try rw[oB]
         refine H.swapA hB U (j+1) j (by omega) (by omega) fun o=>?_;simp;((with_reducible repeat' first|refine aj ?_|simp|((first|apply bK|apply bM|apply bL)<;>intro h<;>try simp at h))<;>(try exact cc));try rw[oB]
         refine bT.whl (j,Sort.swp fS (j+1) j) (by simp) ⟨by rw[gO,hB],by simp;omega,hk⟩ (H.weakC aw (by simp[gO,hB]) (by simp[aF]))
       ·obtain rfl:j=0:=by omega
        rw[Sort.shiftDown]at hk;rw[←hk]at cS;try simp
        try(with_reducible repeat' first|refine aj ?_|simp[Pv.look,H.slc,H.ssc,s9])
        rw[pt];refine H.loopA aw [1,2,3,7,8] (fun(x:Nat×Array α)=>[(10,.int .i64 x.1)]) (·.2) (fun x=>b-x.1) (fun x=>x.2.size=n∧(i+1≤x.1∧x.1≤b)∧Sort.shiftUp lt b x.1 x.2=Sort.shiftUp lt b (i+1) fS) (i+1,fS) hB ⟨hB,⟨by simp,by simp;omega⟩,rfl⟩ (by simp[Pv.look]) aT aT (by simp[aF]) ?_;rintro⟨q,ng⟩ ⟨a7,⟨bF,yx⟩,b0⟩;simp only at a7 bF yx b0;rw[Sort.shiftUp]at b0;have eq:((q:Int)-1)=(q-1:Nat):=by omega
        have BS:((q:Int)+1)=(q+1:Nat):=by omega
        simp[Pv.look,H.slc,H.ssc];((with_reducible repeat' first|refine aj ?_|simp[Pv.look,H.slc,H.ssc]|((first|apply bK|apply bM|apply bL)<;>intro h<;>try simp at h))<;>(try exact cc))
        ·rw[if_pos (by omega)]at b0;rw[eq];refine H.lessA a7 q (q-1) (by omega) (by omega) fun o=>?_;cases bq:lt ng[q]! ng[q-1]!
         ·rw[if_pos (by simp[bq])]at b0;rw[←b0]at cS;simp;(with_reducible repeat' first|refine aj ?_|simp);rw[es];refine bT.whl ((i,s+1),ng) (by simp;omega) ⟨a7,⟨by simp;omega,by simp;omega,by simp;omega⟩,by simp only[em];exact cS⟩ (H.weakC aw (by simpa using a7) (by simp[aF]))
         ·rw[if_neg (by simp[bq])]at b0;simp;(with_reducible repeat' first|refine aj ?_|simp[Pv.look,H.slc,H.ssc]);rw[eq];refine H.swapA a7 (by omega) q (q-1) (by omega) (by omega) fun o=>?_;simp;((with_reducible repeat' first|refine aj ?_|simp|((first|apply bK|apply bM|apply bL)<;>intro h<;>try simp at h))<;>(try exact cc));rw[BS];refine bT.whl (q+1,Sort.swp ng q (q-1)) (by simp;omega) ⟨by rw[gO,a7],⟨by simp;omega,by simp;omega⟩,b0⟩ (H.weakC aw (by simp[gO,a7]) (by simp[aF]))
        ·rw[if_neg (by omega)]at b0;rw[←b0]at cS;rw[es];refine bT.whl ((i,s+1),ng) (by simp;omega) ⟨a7,⟨by simp;omega,by simp;omega,by simp;omega⟩,by simp only[em];exact cS⟩ (H.weakC aw (by simpa using a7) (by simp[aF]))
      ·rw[if_neg Cn]at cS;have xL:¬(2:Int)≤(i:Int)-a:=by omega
       simp;(with_reducible repeat' first|refine aj ?_|simp[xL,s9]);try simp
       try(with_reducible repeat' first|refine aj ?_|simp[Pv.look,H.slc,H.ssc,s9])
       rw[pt];refine H.loopA aw [1,2,3,7,8] (fun(x:Nat×Array α)=>[(10,.int .i64 x.1)]) (·.2) (fun x=>b-x.1) (fun x=>x.2.size=n∧(i+1≤x.1∧x.1≤b)∧Sort.shiftUp lt b x.1 x.2=Sort.shiftUp lt b (i+1) d2) (i+1,d2) s2 ⟨s2,⟨by simp,by simp;omega⟩,rfl⟩ (by simp[Pv.look]) aT aT (by simp[aF]) ?_;rintro⟨q,ng⟩ ⟨a7,⟨bF,yx⟩,b0⟩;simp only at a7 bF yx b0;rw[Sort.shiftUp]at b0;have eq:((q:Int)-1)=(q-1:Nat):=by omega
       have BS:((q:Int)+1)=(q+1:Nat):=by omega
       simp[Pv.look,H.slc,H.ssc];((with_reducible repeat' first|refine aj ?_|simp[Pv.look,H.slc,H.ssc]|((first|apply bK|apply bM|apply bL)<;>intro h<;>try simp at h))<;>(try exact cc))
       ·rw[if_pos (by omega)]at b0;rw[eq];refine H.lessA a7 q (q-1) (by omega) (by omega) fun o=>?_;cases bq:lt ng[q]! ng[q-1]!
        ·rw[if_pos (by simp[bq])]at b0;rw[←b0]at cS;simp;(with_reducible repeat' first|refine aj ?_|simp);rw[es];refine bT.whl ((i,s+1),ng) (by simp;omega) ⟨a7,⟨by simp;omega,by simp;omega,by simp;omega⟩,by simp only[em];exact cS⟩ (H.weakC aw (by simpa using a7) (by simp[aF]))
        ·rw[if_neg (by simp[bq])]at b0;simp;(with_reducible repeat' first|refine aj ?_|simp[Pv.look,H.slc,H.ssc]);rw[eq];refine H.swapA a7 (by omega) q (q-1) (by omega) (by omega) fun o=>?_;simp;((with_reducible repeat' first|refine aj ?_|simp|((first|apply bK|apply bM|apply bL)<;>intro h<;>try simp at h))<;>(try exact cc));rw[BS];refine bT.whl (q+1,Sort.swp ng q (q-1)) (by simp;omega) ⟨by rw[gO,a7],⟨by simp;omega,by simp;omega⟩,b0⟩ (H.weakC aw (by simp[gO,a7]) (by simp[aF]))
       ·rw[if_neg (by omega)]at b0;rw[←b0]at cS;rw[es];refine bT.whl ((i,s+1),ng) (by simp;omega) ⟨a7,⟨by simp;omega,by simp;omega,by simp;omega⟩,by simp only[em];exact cS⟩ (H.weakC aw (by simpa using a7) (by simp[aF]))
     ·rw[if_neg lO]at cS;have s9:¬(2:Int)≤(b:Int)-i:=by omega
      by_cases Cn:2≤i-a
      ·rw[if_pos Cn]at cS;have xL:(2:Int)≤(i:Int)-a:=by omega
       simp;(with_reducible repeat' first|refine aj ?_|simp[xL]);rw[Fh];refine H.loopA aw [1,2,3,7,8] (fun(x:Nat×Array α)=>[(9,.int .i64 x.1)]) (·.2) (fun x=>x.1) (fun x=>x.2.size=n∧x.1≤i-1∧Sort.shiftDown lt x.1 x.2=Sort.shiftDown lt (i-1) d2) (i-1,d2) s2 ⟨s2,by simp,rfl⟩ (by simp[Pv.look]) aT aT (by simp[aF]) ?_;rintro⟨j,fS⟩ ⟨hB,wo,hk⟩;simp only at hB wo hk;simp[Pv.look,H.slc,H.ssc];((with_reducible repeat' first|refine aj ?_|simp[Pv.look,H.slc,H.ssc,s9]|((first|apply bK|apply bM|apply bL)<;>intro h<;>try simp at h))<;>(try exact cc))
       ·obtain⟨j,rfl⟩:∃dJ,j=dJ+1:=⟨j-1,by omega⟩;have oB:(((j+1:Nat):Int)-1)=(j:Nat):=by omega
        rw[Sort.shiftDown]at hk;try rw[oB]
        refine H.lessA hB (j+1) j (by omega) (by omega) fun o=>?_;cases aG:lt fS[j+1]! fS[j]!
        ·rw[if_pos (by simp[aG])]at hk;rw[←hk]at cS;try simp
         try(with_reducible repeat' first|refine aj ?_|simp[Pv.look,H.slc,H.ssc,s9])
         rw[es];refine bT.whl ((i,s+1),fS) (by simp;omega) ⟨hB,⟨by simp;omega,by simp;omega,by simp;omega⟩,by simp only[em];exact cS⟩ (H.weakC aw (by simpa using hB) (by simp[aF]))
        ·rw[if_neg (by simp[aG])]at hk;simp;(with_reducible repeat' first|refine aj ?_|simp[Pv.look,H.slc,H.ssc]);try rw[oB]
         refine H.swapA hB U (j+1) j (by omega) (by omega) fun o=>?_;simp;((with_reducible repeat' first|refine aj ?_|simp|((first|apply bK|apply bM|apply bL)<;>intro h<;>try simp at h))<;>(try exact cc));try rw[oB]
         refine bT.whl (j,Sort.swp fS (j+1) j) (by simp) ⟨by rw[gO,hB],by simp;omega,hk⟩ (H.weakC aw (by simp[gO,hB]) (by simp[aF]))
       ·obtain rfl:j=0:=by omega
        rw[Sort.shiftDown]at hk;rw[←hk]at cS;try simp
        try(with_reducible repeat' first|refine aj ?_|simp[Pv.look,H.slc,H.ssc,s9])
        rw[es];refine bT.whl ((i,s+1),fS) (by simp;omega) ⟨hB,⟨by simp;omega,by simp;omega,by simp;omega⟩,by simp only[em];exact cS⟩ (H.weakC aw (by simpa using hB) (by simp[aF]))
      ·rw[if_neg Cn]at cS;have xL:¬(2:Int)≤(i:Int)-a:=by omega
       simp;((with_reducible repeat' first|refine aj ?_|simp[xL,s9]|((first|apply bK|apply bM|apply bL)<;>intro h<;>try simp at h))<;>(try exact cc));done
  ·rw[if_neg (by simp;omega)]at i3;simp only[←i3]at cS;rw[if_pos (by omega)]at cS;refine H.retR aw (d:=cr) aP (.inl rfl) ?_;simp[c6,Hm,aY,aZ,aW];rw[←cS];exact⟨rfl,_,rfl,rfl,aP⟩
 ·have:5-s=0:=by omega
  rw[this,Sort.partialIns]at cS;refine H.retR aw (d:=cr) aP (.inl rfl) ?_;simp[c6,Hm,aY,aZ,aW];rw[←cS];exact⟨rfl,_,rfl,rfl,aP⟩
end Go.Proofs.YtahlgcidhnjlbaaGreat
namespace Go.Proofs.YtahlgcidhnjlbaaGreat
open Go Go.Pv
variable {α:Type} [Inhabited α] {S:List α→cL} {n g cb:Nat} {lc b5:List ah} {lt:α→α→Bool}
def fi(S:List α→cL)(d:Array α)(v:Nat):cL:=⟨(.obj 901,[.int .i64 v])::(S d.toList).b,(S d.toList).e⟩
def sa(S:List α→cL)(m:Nat):Prop:= ∀l,Pv.look (.obj m) (S l).b=none∧Pv.look (.obj m) (S l).e=none
theorem nO(H:e7 S n g cb lc b5 lt)(d:Array α)(v:Nat):ej (fi S d v):=by
 have h:=H.ok d.toList;have jx:∀k,inObs (S d.toList) k→inObs (fi S d v) k:=fun k ad=>by
  rcases ad with ad|ad
  ·refine .inl ?_;simp only[fi,Pv.look];split
   ·rfl
   ·exact ad
  ·exact .inr ad
 refine⟨⟨fun m=>?_,h.obj.2⟩,fun k cs ad=>?_,fun k o ax xs ab=>j1 jx _ (h.ke k o ax xs ab)⟩
 ·simp[fi,Pv.look,h.obj.1 m]
 ·simp only[fi,Pv.look]at ad;split at ad
  ·cases ad;simp[aJ,aF]
  ·exact j1 jx _ (h.kb k cs ad)
theorem sE(d:Array α)(v v':Nat):Same (fi S d v) (fi S d v'):=⟨fun k=>by simp only[fi,Pv.look];split<;>rfl,fun _=>rfl⟩
theorem J9(H:e7 S n g cb lc b5 lt)(ad:sa S 901)(d:Array α)(aR:d.size=n)(a b v:Nat)(br:a<n)(ae:b<n)(aK:v≤1000):
  bV al 271 [e1 g cb lc b5,.int .i64 a,.int .i64 b,.ptr (.obj 901) 0] (fi S d v) fun r ai=>r= .tuple [.int .i64 (Sort.order2 lt d a b v).1,.int .i64 (Sort.order2 lt d a b v).2.1]∧ai=fi S d (Sort.order2 lt d a b v).2.2:=by
 have ag:=H.ok d.toList;have aw:d.toList.length=n:=by simpa using aR
 have au:∀l m,Pv.look (.loc m) (S l).b=none:=fun l=>(H.ok l).obj.1;have hu:∀l m cs,cB (.loc m) cs (S l).b=(S l).b++[(.loc m,cs)]:=fun l m cs=>j9 (au l m);have ax:∀m,aH.loc m∉cV (S d.toList):=j4 ag.obj;have gy:∀l,Pv.look (.obj 901) (S l).b=none:=fun l=>(ad l).1;have lf:∀l,Pv.look (.obj 901) (S l).e=none:=fun l=>(ad l).2;have hle:=H.le;have kD:=nO H d v;obtain⟨R,bg⟩:∃R,R=Sort.order2 lt d a b v:=⟨_,rfl⟩;rw[←bg];unfold Sort.order2 at bg;refine bV.mk mixed oa adl ajQ (by simp) kD.obj fun aN cT=>?_;unfold Qw;have lJ:aH.loc 0∉cV (fi S d v):=j4 kD.obj 0;generalize uK:cV (fi S d v)=ob at lJ⊢;unfold fi;simp[e1,hu,lJ,cJ,au,Pv.look,cB];rw[H.slc];refine c9.ob (H.less d.toList aw b a _ _ (y9 (by omega)) (y9 (by omega))) (H.ok _) (fun k cs ab=>?_) (fun _ _ ab=>ab) (by simp[aF,aJ,H.klc d.toList aw]) ?_
 ·simp only[Pv.look];split
  ·rename_i e;subst e;rw[gy]at ab;cases ab
  ·rw[cJ,ab]
 rintro r ai ⟨rfl,rfl⟩;refine⟨Same.refl _,?_⟩;have hw:cz (S d.toList).b ((aH.obj 901,[ah.int .i64 v])::((S d.toList).b++[(aH.loc 0,[ah.func g lc,ah.func cb b5])]))=[(aH.obj 901,[ah.int .i64 v]),(aH.loc 0,[ah.func g lc,ah.func cb b5])]:=by simp only[cz,gy];rw[iO,gZ];simp[cz,au]
 rw[hw,gZ];have c7:∀(t:List (Nat×ah)) (o:List aH) (v':Nat) (D:List ah) (x y:Nat),Pv.get 8 t= .int .i64 x→Pv.get 9 t= .int .i64 y→R=(x,y,v')→
   cX MP (fi S d v) (fun r ai=>r= .tuple [.int .i64 R.1,.int .i64 R.2.1]∧ai=fi S d R.2.2) .ret ⟨t,(aH.obj 901,[.int .i64 v'])::(aH.loc 0,D)::(S d.toList).b,(S d.toList).e,1,o⟩:=by
  rintro t o v' D x y ab aG rfl;refine cX.at (fi S d v') (.inl rfl) (nO H d v') (sE _ _ _) (fun k cs ay=>?_) (fun _ _ ay=>ay) ?_
  ·simp only[fi,Pv.look]at ay⊢;split at ay
   ·rename_i e;rw[if_pos e];exact ay
   ·rename_i e;rw[if_neg e];split
    ·rename_i aC;subst aC;rw[au]at ay;cases ay
    ·exact ay
  ·simp[c6,MP,aY,aZ,aW,ab,aG]
 cases ab:lt d[b]! d[a]! with
 |true=>
  rw[if_pos ab]at bg;simp[Pv.look,cB];(with_reducible repeat' first|refine aj ?_|simp[Pv.look,cB]);have ak:((v:Int)+1)=(v+1:Nat):=by omega
  rw[ak];exact c7 _ _ (v+1) _ b a rfl rfl bg
 |false=>rw[if_neg (by simp[ab])]at bg;simp[Pv.look,cB];exact c7 _ _ v _ a b rfl rfl bg
theorem VJ{s ai:cL}{f:Nat}{args:List ah}{r:ah}(aI:bV al f args s fun eS dE=>eS=r∧dE=ai)(ag:ej s)(fk:Same s ai)(ad:aJ (inObs s) args){t:List (Nat×ah)}{D:List ah}{o:List aH}{d:Option Nat}{K:bs→Prop}
  (h:∀o,K ⟨eX d r t,(.loc 0,D)::ai.b,ai.e,1,o⟩):c9 al f args ⟨t,s.b++[(.loc 0,D)],s.e,1,o⟩ d K:=by
 refine c9.ob aI ag (fun k cs ab=>by rw[cJ,ab]) (fun _ _ ab=>ab) ad ?_;rintro r ai ⟨rfl,rfl⟩;refine⟨fk,?_⟩;have ak:cz s.b (s.b++[(.loc 0,D)])=[(.loc 0,D)]:=by rw[iO,gZ];simp[cz,ag.obj.1 0]
 have aC:cz s.e s.e=[]:=gZ _;simp only[ak,aC];exact h _
theorem Dj{s ai:cL}{f:Nat}{args:List ah}{r:ah}(aI:bV al f args s fun eS dE=>eS=r∧dE=ai)(ag:ej s)(fk:Same s ai)(ad:aJ (inObs s) args){t:List (Nat×ah)}{D:List ah}{o:List aH}{d:Option Nat}{K:bs→Prop}
  (h:∀o,K ⟨eX d r t,(.loc 0,D)::ai.b,ai.e,1,o⟩):c9 al f args ⟨t,(.loc 0,D)::s.b,s.e,1,o⟩ d K:=by
 refine c9.ob aI ag (fun k cs ab=>?_) (fun _ _ ab=>ab) ad ?_
 ·cases k with
  |loc m=>rw[ag.obj.1 m]at ab;cases ab
  |obj m=>simpa[Pv.look]using ab
 rintro r ai ⟨rfl,rfl⟩;refine⟨fk,?_⟩;have ak:cz s.b ((.loc 0,D)::s.b)=[(.loc 0,D)]:=by have:=iO s.b [(aH.loc 0,D)] s.b;rw[gZ]at this;simpa[cz,ag.obj.1 0]using this
 have aC:cz s.e s.e=[]:=gZ _;simp only[ak,aC];exact h _
theorem AN{d:Array α}{a b v n:Nat}(br:a<n)(ae:b<n):(Sort.order2 lt d a b v).1<n∧(Sort.order2 lt d a b v).2.1<n∧(Sort.order2 lt d a b v).2.2≤v+1:=by unfold Sort.order2;split<;>simp<;>omega
theorem uT(H:e7 S n g cb lc b5 lt){d:Array α}(aR:d.size=n){v:Nat}:aF (inObs (fi S d v)) (e1 g cb lc b5)∧aF (inObs (fi S d v)) (.ptr (.obj 901) 0):=by
 refine⟨wy (fun k ad=>?_) _ (H.kdata (lk:=d.toList) (by simpa using aR)),by simp[aF,inObs,fi,Pv.look]⟩;rcases ad with ad|ad
 ·refine .inl ?_;simp only[fi,Pv.look];split
  ·rfl
  ·exact ad
 ·exact .inr ad
theorem Xv(H:e7 S n g cb lc b5 lt){d:Array α}{v v':Nat}{eN:List bB}{Q:ah→cL→Prop}{t:List (Nat×ah)}{D:List ah}{o:List aH}(h:c6 ⟨t,(.loc 0,D)::(fi S d v').b,(S d.toList).e,1,o⟩ eN fun r=>aF (inObs (fi S d v')) r∧Q r (fi S d v')):
  cX eN (fi S d v) Q .ret ⟨t,(.loc 0,D)::(fi S d v').b,(S d.toList).e,1,o⟩:=by
 refine cX.at (fi S d v') (.inl rfl) (nO H d v') (sE _ _ _) (fun k cs ab=>?_) (fun _ _ ay=>ay) h;cases k with
 |loc m=>rw[(nO H d v').obj.1 m]at ab;cases ab
 |obj m=>simpa[Pv.look]using ab
theorem J6(H:e7 S n g cb lc b5 lt)(ad:sa S 901)(d:Array α)(aR:d.size=n)(a b c v:Nat)(br:a<n)(ae:b<n)(ay:c<n)(aK:v≤900):
  bV al 256 [e1 g cb lc b5,.int .i64 a,.int .i64 b,.int .i64 c,.ptr (.obj 901) 0] (fi S d v) fun r ai=>r= .int .i64 (Sort.median lt d a b c v).1∧ai=fi S d (Sort.median lt d a b c v).2:=by
 have kD:=nO H d v;have rT:∀v m,Pv.look (.loc m) (fi S d v).b=none:=fun v=>(nO H d v).obj.1;have K5:∀v m cs,cB (.loc m) cs (fi S d v).b=(fi S d v).b++[(.loc m,cs)]:=fun v m cs=>j9 (rT v m);have lJ:aH.loc 0∉cV (fi S d v):=j4 kD.obj 0;obtain⟨R,bg⟩:∃R,R=Sort.median lt d a b c v:=⟨_,rfl⟩;rw[←bg];unfold Sort.median at bg;have a7:=AN (lt:=lt) (d:=d) (v:=v) br ae;have aP:=J9 H ad d aR a b v br ae (by omega);generalize Sort.order2 lt d a b v=cN at a7 aP bg;obtain⟨sv,kQ,v1⟩:=cN;simp only at a7 aP bg;have bF:=AN (lt:=lt) (d:=d) (v:=v1) a7.2.1 ay;have a6:=J9 H ad d aR kQ c v1 a7.2.1 ay (by omega);generalize Sort.order2 lt d kQ c v1=dx at bF a6 bg;obtain⟨yY,o7,v2⟩:=dx;simp only at bF a6 bg;have b0:=AN (lt:=lt) (d:=d) (v:=v2) a7.1 bF.1;have bR:=J9 H ad d aR sv yY v2 a7.1 bF.1 (by omega);generalize Sort.order2 lt d sv yY v2=k2 at b0 bR bg;obtain⟨sw,Ik,v3⟩:=k2;simp only at b0 bR bg;refine bV.mk mixed oa adj ajO (by simp) kD.obj fun aN cT=>?_;unfold Qu;simp[e1,K5,lJ,cJ,rT];simp only[iy H,H.slc,H.ssc,im];refine VJ aP (nO H d v) (sE _ _ _) (by simp[aF,aJ,(uT H aR).1];exact(uT H aR).2) fun o=>?_;simp[Pv.look];simp only[iy H,H.slc,H.ssc,im];refine Dj a6 (nO H d v1) (sE _ _ _) (by simp[aF,aJ,(uT H aR).1];exact(uT H aR).2) fun o=>?_;simp[Pv.look];simp only[iy H,H.slc,H.ssc,im];refine Dj bR (nO H d v2) (sE _ _ _) (by simp[aF,aJ,(uT H aR).1];exact(uT H aR).2) fun o=>?_;simp;refine Xv H ?_;simp[c6,WU,aY,aZ,aW];rw[bg];exact⟨rfl,rfl⟩
theorem J7(H:e7 S n g cb lc b5 lt)(ad:sa S 901)(d:Array α)(aR:d.size=n)(a v:Nat)(br:a+1<n)(ld:1≤a)(aK:v≤900):
  bV al 255 [e1 g cb lc b5,.int .i64 a,.ptr (.obj 901) 0] (fi S d v) fun r ai=>r= .int .i64 (Sort.medianAdjacent lt d a v).1∧ai=fi S d (Sort.medianAdjacent lt d a v).2:=by
 have kD:=nO H d v;have rT:∀v m,Pv.look (.loc m) (fi S d v).b=none:=fun v=>(nO H d v).obj.1;have K5:∀v m cs,cB (.loc m) cs (fi S d v).b=(fi S d v).b++[(.loc m,cs)]:=fun v m cs=>j9 (rT v m);have lJ:aH.loc 0∉cV (fi S d v):=j4 kD.obj 0;have hle:=H.le;have aP:=J6 H ad d aR (a-1) a (a+1) v (by omega) (by omega) (by omega) aK;unfold Sort.medianAdjacent;refine bV.mk mixed oa adi ajN (by simp) kD.obj fun aN cT=>?_;unfold Qt;have ak:((a:Int)-1)=(a-1:Nat):=by omega
 have aC:((a:Int)+1)=(a+1:Nat):=by omega
 simp[e1,K5,lJ,cJ,rT];(with_reducible repeat' first|refine aj ?_|simp);simp only[iy H,H.slc,H.ssc,im,ak,aC];refine VJ aP (nO H d v) (sE _ _ _) (by simp[aF,aJ,(uT H aR).1];exact(uT H aR).2) fun o=>?_;simp;refine Xv H ?_;simp[c6,WT,aY,aZ,aW]
theorem VK{m:Nat}(h:sa S m)(l:List α):aH.obj m∉cV (S l):=fun hm=>by
 rcases Ub hm with J|J
 ·rw[(h l).1]at J;cases J
 ·rw[(h l).2]at J;cases J
theorem Da{d:Array α}{a b c v n:Nat}(br:a<n)(ae:b<n)(ay:c<n):(Sort.median lt d a b c v).1<n∧(Sort.median lt d a b c v).2≤v+3:=by have a7:=AN (lt:=lt) (d:=d) (v:=v) br ae;have bF:=AN (lt:=lt) (d:=d) (v:=(Sort.order2 lt d a b v).2.2) a7.2.1 ay;have b0:=AN (lt:=lt) (d:=d) (v:=(Sort.order2 lt d (Sort.order2 lt d a b v).2.1 c (Sort.order2 lt d a b v).2.2).2.2) a7.1 bF.1;refine⟨b0.2.1,kc b0.2.2 ?_⟩;omega
def zN:Sort.Hint→Int
 | .unknown=>0
 | .increasing=>1
 | .decreasing=>2
theorem aet(H:e7 S n g cb lc b5 lt)(ad:sa S 901)(d:Array α)(aR:d.size=n)(a b:Nat)(nn:a<b)(ae:b≤n):
  bV al 240 [e1 g cb lc b5,.int .i64 a,.int .i64 b] (S d.toList) fun r ai=>r= .tuple [.int .i64 (Sort.choosePivot lt d a b).1,.int .i64 (zN (Sort.choosePivot lt d a b).2)]∧ai=S d.toList:=by
 have ag:=H.ok d.toList;have aw:d.toList.length=n:=by simpa using aR
 have au:∀l m,Pv.look (.loc m) (S l).b=none:=fun l=>(H.ok l).obj.1;have hu:∀l m cs,cB (.loc m) cs (S l).b=(S l).b++[(.loc m,cs)]:=fun l m cs=>j9 (au l m);have ax:∀m,aH.loc m∉cV (S d.toList):=j4 ag.obj;have gy:∀l,Pv.look (.obj 901) (S l).b=none:=fun l=>(ad l).1;have lf:∀l,Pv.look (.obj 901) (S l).e=none:=fun l=>(ad l).2;have hle:=H.le;have lJ:=VK ad d.toList;obtain⟨R,bg⟩:∃R,R=Sort.choosePivot lt d a b:=⟨_,rfl⟩;rw[←bg];unfold Sort.choosePivot at bg;refine bV.mk mixed oa adg ajL (by simp) ag.obj fun aN cT=>?_;unfold Qr;have x3:∀l D cs,cB (.obj 901) cs ((S l).b++[(.loc 0,D)])=(S l).b++[(.loc 0,D),(.obj 901,cs)]:=fun l D cs=>by rw[Bi (gy l)];rfl
 obtain⟨q,bh⟩:∃q,q=(b-a)/4:=⟨_,rfl⟩;have dg:IntKind.i64.wrap (((b:Int)-a).tdiv 4)=(q:Nat):=by rw[show((b:Int)-a)=((b-a:Nat):Int) by omega,Int.tdiv_eq_ediv_of_nonneg (by omega),o8 _ (by omega)];omega
 simp[e1,hu,x3,ax,lJ,cJ,au,gy,lf,Pv.look,cB];have c7:∀(t:List (Nat×ah)) (o:List aH) (bP:List (aH×List ah)) (x:Nat) (h:Sort.Hint),Pv.get 6 t= .int .i64 x→Pv.get 7 t= .int .i64 (zN h)→R=(x,h)→(∀k cs,Pv.look k (S d.toList).b=some cs→Pv.look k bP=some cs)→
   cX MO (S d.toList) (fun r ai=>r= .tuple [.int .i64 R.1,.int .i64 (zN R.2)]∧ai=S d.toList) .ret ⟨t,bP,(S d.toList).e,1,o⟩:=by
  rintro t o bP x h ab aG rfl gb;refine cX.at (S d.toList) (.inl rfl) ag (Same.refl _) gb (fun _ _ ay=>ay) ?_;simp[c6,MO,aY,aZ,aW,ab,aG]
 have zD:∀(D:List ah) (v:Nat) k cs,Pv.look k (S d.toList).b=some cs→Pv.look k ((.loc 0,D)::(fi S d v).b)=some cs:=fun D v k cs h=>by
  simp only[fi,Pv.look];split
  ·rename_i e;subst e;rw[au]at h;cases h
  ·split
   ·rename_i e;subst e;rw[gy]at h;cases h
   ·exact h
 have Ta:∀{f:Nat} {args:List ah} {r:ah} {v:Nat},(bV al f args (fi S d 0) fun eS dE=>eS=r∧dE=fi S d v)→aJ (inObs (fi S d 0)) args→∀{t:List (Nat×ah)} {D:List ah} {o:List aH} {ca:Option Nat} {K:bs→Prop},(∀o,K ⟨eX ca r t,(.loc 0,D)::(fi S d v).b,(S d.toList).e,1,o⟩)→
   c9 al f args ⟨t,(S d.toList).b++[(.loc 0,D),(.obj 901,[.int .i64 0])],(S d.toList).e,1,o⟩ ca K:=by
  intro f args r v aI hy t D o ca K h;refine c9.ob aI (nO H d 0) (fun k cs ab=>?_) (fun _ _ ab=>ab) hy ?_
  ·simp only[fi,Pv.look]at ab;rw[cJ];split at ab
   ·rename_i e;subst e;rw[gy];simp[Pv.look];simpa using ab
   ·rw[ab]
  rintro r ai ⟨rfl,rfl⟩;refine⟨sE _ _ _,?_⟩;have ak:cz (fi S d 0).b ((S d.toList).b++[(.loc 0,D),(.obj 901,[.int .i64 0])])=[(.loc 0,D)]:=by
   rw[iO];have:cz (fi S d 0).b (S d.toList).b=[]:=Oo _ _ fun k x hm=>by
    have:=uY hm;simp only[fi,Pv.look];split
    ·rfl
    ·exact this
   rw[this];simp[cz,fi,Pv.look,au]
  have aC:cz (fi S d 0).e (S d.toList).e=[]:=gZ _;simp only[ak,aC];exact h _
 have hy:=fun(v:Nat)=>(uT H aR (v:=v));have f1:((a:Int)+q)=(a+q:Nat):=by omega
 have f2:((a:Int)+q*2)=(a+q*2:Nat):=by omega
 have f3:((a:Int)+q*3)=(a+q*3:Nat):=by omega
 dsimp only at bg;rw[←bh,Nat.mul_one]at bg;by_cases nV:b-a<8
 ·have FD:¬(8:Int)≤(b:Int)-a:=by omega
  (with_reducible repeat' first|refine aj ?_|simp[FD,dg,hu,x3,ax,lJ,cJ,au,gy,lf,Pv.look,cB]);rw[f2];refine c7 _ _ _ (a+q*2) .increasing rfl rfl (by rw[bg,if_neg (by omega)];simp) (fun k cs h=>by rw[cJ,h])
 ·have FD:(8:Int)≤(b:Int)-a:=by omega
  by_cases aqd:b-a<50
  ·have Kd:¬(50:Int)≤(b:Int)-a:=by omega
   (with_reducible repeat' first|refine aj ?_|simp[FD,Kd,dg,hu,x3,ax,lJ,cJ,au,gy,lf,Pv.look,cB]);simp only[iy H,H.slc,H.ssc,im,f1,f2,f3];have aP:=J6 H ad d aR (a+q) (a+q*2) (a+q*3) 0 (by omega) (by omega) (by omega) (by omega);have a6:=Da (lt:=lt) (d:=d) (a:=a+q) (b:=a+q*2) (c:=a+q*3) (v:=0) (n:=n) (by omega) (by omega) (by omega);rw[if_pos (by omega),if_neg (by omega)]at bg;generalize Sort.median lt d (a+q) (a+q*2) (a+q*3) 0=m at aP a6 bg;obtain⟨x,v⟩:=m;refine Ta aP (by simp[aF,aJ,(hy 0).1];exact(hy 0).2) fun o=>?_;have x4:((v:Int)==0)=decide (v=0):=by rw[qu];simp
   have CO:((v:Int)==12)=decide (v=12):=by rw[qu];simp;omega
   simp[Pv.look,fi];rcases(by omega:v=0∨v=12∨(v≠0∧v≠12))with bD|bD|bD
   ·have ab:((v:Int)==0)=true:=by rw[x4];simp[bD]
    (with_reducible repeat' first|refine aj ?_|simp[ab]);all_goals exact c7 _ _ _ x .increasing rfl rfl (by rw[bg];simp[bD]) (zD _ v)
   ·have ab:((v:Int)==0)=false:=by rw[x4];simp[bD]
    have qY:((v:Int)==12)=true:=by rw[CO];simp[bD]
    (with_reducible repeat' first|refine aj ?_|simp[ab,qY]);all_goals exact c7 _ _ _ x .decreasing rfl rfl (by rw[bg];simp[bD]) (zD _ v)
   ·have ab:((v:Int)==0)=false:=by rw[x4];simp[bD.1]
    have qY:((v:Int)==12)=false:=by rw[CO];simp[bD.2]
    (with_reducible repeat' first|refine aj ?_|simp[ab,qY]);all_goals exact c7 _ _ _ x .unknown rfl rfl (by rw[bg];simp[bD]) (zD _ v)
  ·have Kd:(50:Int)≤(b:Int)-a:=by omega
   (with_reducible repeat' first|refine aj ?_|simp[FD,Kd,dg,hu,x3,ax,lJ,cJ,au,gy,lf,Pv.look,cB]);simp only[iy H,H.slc,H.ssc,im,f1,f2,f3];rw[if_pos (by omega),if_pos (by omega)]at bg;have aP:=J7 H ad d aR (a+q) 0 (by omega) (by omega) (by omega);have CX:=Da (lt:=lt) (d:=d) (a:=a+q-1) (b:=a+q) (c:=a+q+1) (v:=0) (n:=n) (by omega) (by omega) (by omega);change (Sort.medianAdjacent lt d (a+q) 0).1<n∧(Sort.medianAdjacent lt d (a+q) 0).2≤0+3 at CX;generalize Sort.medianAdjacent lt d (a+q) 0=m1 at aP CX bg;obtain⟨sv,v1⟩:=m1;simp only at aP CX bg;have a6:=J7 H ad d aR (a+q*2) v1 (by omega) (by omega) (by omega);have CY:=Da (lt:=lt) (d:=d) (a:=a+q*2-1) (b:=a+q*2) (c:=a+q*2+1) (v:=v1) (n:=n) (by omega) (by omega) (by omega);change (Sort.medianAdjacent lt d (a+q*2) v1).1<n∧(Sort.medianAdjacent lt d (a+q*2) v1).2≤v1+3 at CY;generalize Sort.medianAdjacent lt d (a+q*2) v1=m2 at a6 CY bg;obtain⟨yY,v2⟩:=m2;simp only at a6 CY bg;have bR:=J7 H ad d aR (a+q*3) v2 (by omega) (by omega) (by omega);have CZ:=Da (lt:=lt) (d:=d) (a:=a+q*3-1) (b:=a+q*3) (c:=a+q*3+1) (v:=v2) (n:=n) (by omega) (by omega) (by omega);change (Sort.medianAdjacent lt d (a+q*3) v2).1<n∧(Sort.medianAdjacent lt d (a+q*3) v2).2≤v2+3 at CZ;generalize Sort.medianAdjacent lt d (a+q*3) v2=m3 at bR CZ bg;obtain⟨sw,v3⟩:=m3;simp only at bR CZ bg;have dq:=J6 H ad d aR sv yY sw v3 CX.1 CY.1 CZ.1 (by omega);have Uw:=Da (lt:=lt) (d:=d) (v:=v3) CX.1 CY.1 CZ.1;generalize Sort.median lt d sv yY sw v3=m4 at dq Uw bg;obtain⟨x,v⟩:=m4;simp only at dq Uw bg;refine Ta aP (by simp[aF,aJ,(hy 0).1];exact(hy 0).2) fun o=>?_;simp[Pv.look];simp only[iy H,H.slc,H.ssc,im,f1,f2,f3];refine Dj a6 (nO H d v1) (sE _ _ _) (by simp[aF,aJ,(hy v1).1];exact(hy v1).2) fun o=>?_;simp[Pv.look];simp only[iy H,H.slc,H.ssc,im,f1,f2,f3];refine Dj bR (nO H d v2) (sE _ _ _) (by simp[aF,aJ,(hy v2).1];exact(hy v2).2) fun o=>?_;simp[Pv.look];simp only[iy H,H.slc,H.ssc,im,f1,f2,f3];refine Dj dq (nO H d v3) (sE _ _ _) (by simp[aF,aJ,(hy v3).1];exact(hy v3).2) fun o=>?_;have x4:((v:Int)==0)=decide (v=0):=by rw[qu];simp
   have CO:((v:Int)==12)=decide (v=12):=by rw[qu];simp;omega
   simp[Pv.look,fi];rcases(by omega:v=0∨v=12∨(v≠0∧v≠12))with bD|bD|bD
   ·have ab:((v:Int)==0)=true:=by rw[x4];simp[bD]
    (with_reducible repeat' first|refine aj ?_|simp[ab]);all_goals exact c7 _ _ _ x .increasing rfl rfl (by rw[bg];simp[bD]) (zD _ v)
   ·have ab:((v:Int)==0)=false:=by rw[x4];simp[bD]
    have qY:((v:Int)==12)=true:=by rw[CO];simp[bD]
    (with_reducible repeat' first|refine aj ?_|simp[ab,qY]);all_goals exact c7 _ _ _ x .decreasing rfl rfl (by rw[bg];simp[bD]) (zD _ v)
   ·have ab:((v:Int)==0)=false:=by rw[x4];simp[bD.1]
    have qY:((v:Int)==12)=false:=by rw[CO];simp[bD.2]
    (with_reducible repeat' first|refine aj ?_|simp[ab,qY]);all_goals exact c7 _ _ _ x .unknown rfl rfl (by rw[bg];simp[bD]) (zD _ v)
end Go.Proofs.YtahlgcidhnjlbaaGreat
namespace Go.Proofs.YtahlgcidhnjlbaaGreat
open Go Go.Pv
variable {α:Type} [Inhabited α] {S:List α→cL} {n g cb:Nat} {lc b5:List ah} {lt:α→α→Bool}
theorem am1:∀x:Nat,x<256→((([0,1,2,2,3,3,3,3,4,4,4,4,4,4,4,4,5,5,5,5,5,5,5,5,5,5,5,5,5,5,5,5,6,6,6,6,6,6,6,6,6,6,6,6,6,6,6,6,6,6,6,6,6,6,6,6,6,6,6,6,6,6,6,6,7,7,7,7,7,7,7,7,7,7,7,7,7,7,7,7,7,7,7,7,7,7,7,7,7,7,7,7,7,7,7,7,7,7,7,7,7,7,7,7,7,7,7,7,7,7,7,7,7,7,7,7,7,7,7,7,7,7,7,7,7,7,7,7,8,8,8,8,8,8,8,8,8,8,8,8,8,8,8,8,8,8,8,8,8,8,8,8,8,8,8,8,8,8,8,8,8,8,8,8,8,8,8,8,8,8,8,8,8,8,8,8,8,8,8,8,8,8,8,8,8,8,8,8,8,8,8,8,8,8,8,8,8,8,8,8,8,8,8,8,8,8,8,8,8,8,8,8,8,8,8,8,8,8,8,8,8,8,8,8,8,8,8,8,8,8,8,8,8,8,8,8,8,8,8,8,8,8,8,8,8,8,8,8,8,8,8,8,8,8,8,8]:List dm)[x]?).getD 0).toNat=Sort.bitsLen x:=by decide+kernel
theorem B3(x:Int):x.fdiv (2 ^ (min 32 hr.bits))=x/4294967296:=by rw[show(2:Int) ^ (min 32 hr.bits)=4294967296 from by decide,Int.fdiv_eq_ediv_of_nonneg _ (by omega)]
theorem B2(x:Int):x.fdiv (2 ^ (min 16 hr.bits))=x/65536:=by rw[show(2:Int) ^ (min 16 hr.bits)=65536 from by decide,Int.fdiv_eq_ediv_of_nonneg _ (by omega)]
theorem B4(x:Int):x.fdiv (2 ^ (min 8 hr.bits))=x/256:=by rw[show(2:Int) ^ (min 8 hr.bits)=256 from by decide,Int.fdiv_eq_ediv_of_nonneg _ (by omega)]
theorem D2(x:Nat)(h:x<256):IntKind.u8.wrap (x:Int)=x:=by simp[sA,og,sy];omega
theorem IL(x k:Nat)(h:2 ^ k≤x):Sort.bitsLen x=Sort.bitsLen (x/2 ^ k)+k:=by
 have ab:x≠0:=by have:=Nat.two_pow_pos k;omega
 have bh:x/2 ^ k≠0:=by have:=Nat.div_pos h (Nat.two_pow_pos k);omega
 unfold Sort.bitsLen;rw[if_neg ab,if_neg bh];have aw:=Nat.log2_lt ab (k:=Nat.log2 (x/2 ^ k)+k+1);have J:Nat.log2 (x/2 ^ k)+k≤Nat.log2 x:=by
  rw[Nat.le_log2 ab,Nat.pow_add];have:=Nat.log2_self_le bh;calc 2 ^ (x/2 ^ k).log2*2 ^ k≤(x/2 ^ k)*2 ^ k:=Nat.mul_le_mul_right _ this
   _≤x:=Nat.div_mul_le_self x _
 have U:Nat.log2 x<Nat.log2 (x/2 ^ k)+k+1:=by rw[aw,show Nat.log2 (x/2 ^ k)+k+1=(Nat.log2 (x/2 ^ k)+1)+k by omega,Nat.pow_add];have:=Nat.lt_log2_self (n:=x/2 ^ k);exact(Nat.div_lt_iff_lt_mul (Nat.two_pow_pos k)).1 this
 omega
set_option maxRecDepth 20000 in
theorem anp(x:Nat)(ab:x<1099511627776):bt al 237 [.int .u64 x] (.int .i64 (Sort.bitsLen x)):=by
 refine bt.mk mixed oa adb ajI (by simp) (by simp[aF]) fun aN=>?_;unfold Qo;have aL:=am1;generalize S2:([0,1,2,2,3,3,3,3,4,4,4,4,4,4,4,4,5,5,5,5,5,5,5,5,5,5,5,5,5,5,5,5,6,6,6,6,6,6,6,6,6,6,6,6,6,6,6,6,6,6,6,6,6,6,6,6,6,6,6,6,6,6,6,6,7,7,7,7,7,7,7,7,7,7,7,7,7,7,7,7,7,7,7,7,7,7,7,7,7,7,7,7,7,7,7,7,7,7,7,7,7,7,7,7,7,7,7,7,7,7,7,7,7,7,7,7,7,7,7,7,7,7,7,7,7,7,7,7,8,8,8,8,8,8,8,8,8,8,8,8,8,8,8,8,8,8,8,8,8,8,8,8,8,8,8,8,8,8,8,8,8,8,8,8,8,8,8,8,8,8,8,8,8,8,8,8,8,8,8,8,8,8,8,8,8,8,8,8,8,8,8,8,8,8,8,8,8,8,8,8,8,8,8,8,8,8,8,8,8,8,8,8,8,8,8,8,8,8,8,8,8,8,8,8,8,8,8,8,8,8,8,8,8,8,8,8,8,8,8,8,8,8,8,8,8,8,8,8,8,8,8,8,8,8,8,8]:List dm)=tab at aL⊢;have zC:tab.length=256:=by rw[←S2];rfl
 clear S2;simp[zC];have ae:∀y:Nat,y<256→Sort.bitsLen y≤8:=by decide+kernel
 have agw:4294967296≤x→Sort.bitsLen x=Sort.bitsLen (x/4294967296)+32:=fun h=>IL x 32 h;have TU:∀y,65536≤y→Sort.bitsLen y=Sort.bitsLen (y/65536)+16:=fun y h=>IL y 16 h;have TX:∀y,256≤y→Sort.bitsLen y=Sort.bitsLen (y/256)+8:=fun y h=>IL y 8 h;by_cases J:4294967296≤x
 ·have nU:(4294967296:Int)≤x:=by omega
  have g1:¬(65536:Int)≤(x:Int)/4294967296:=by omega
  have g3:¬(256:Int)≤(x:Int)/4294967296:=by omega
  (with_reducible repeat' first|refine aj ?_|simp[nU,g1,g3,B3,B2,B4,zC]);have aG:x/4294967296<256:=by omega
  have lE:=ae _ aG;have eW:(x:Int)/4294967296=((x/4294967296:Nat):Int):=by omega
  rw[eW,D2 _ aG,Int.toNat_natCast];refine⟨by omega,?_⟩;have e:=aL _ aG;rw[e,o8 _ (by omega)];refine⟨by unfold tb;omega,?_⟩;simp[bu,AX,aY,aZ,aW];try((rw[agw J])<;>omega)
 ·have nU:¬(4294967296:Int)≤x:=by omega
  by_cases U:65536≤x
  ·have g2:(65536:Int)≤x:=by omega
   by_cases ar:256≤x/65536
   ·have g3:(256:Int)≤(x:Int)/65536:=by omega
    (with_reducible repeat' first|refine aj ?_|simp[nU,g2,g3,B3,B2,B4,zC]);have aG:x/65536/256<256:=by omega
    have lE:=ae _ aG;have eW:(x:Int)/65536/256=((x/65536/256:Nat):Int):=by omega
    rw[eW,D2 _ aG,Int.toNat_natCast];refine⟨by omega,?_⟩;have e:=aL _ aG;rw[e,o8 _ (by omega)];refine⟨by unfold tb;omega,?_⟩;simp[bu,AX,aY,aZ,aW];try((rw[TU x U,TX _ ar])<;>omega)
   ·have g3:¬(256:Int)≤(x:Int)/65536:=by omega
    (with_reducible repeat' first|refine aj ?_|simp[nU,g2,g3,B3,B2,B4,zC]);have aG:x/65536<256:=by omega
    have lE:=ae _ aG;have eW:(x:Int)/65536=((x/65536:Nat):Int):=by omega
    rw[eW,D2 _ aG,Int.toNat_natCast];refine⟨by omega,?_⟩;have e:=aL _ aG;rw[e,o8 _ (by omega)];refine⟨by unfold tb;omega,?_⟩;simp[bu,AX,aY,aZ,aW];try((rw[TU x U])<;>omega)
  ·have g2:¬(65536:Int)≤x:=by omega
   by_cases ar:256≤x
   ·have g3:(256:Int)≤x:=by omega
    (with_reducible repeat' first|refine aj ?_|simp[nU,g2,g3,B3,B2,B4,zC]);have aG:x/256<256:=by omega
    have lE:=ae _ aG;have eW:(x:Int)/256=((x/256:Nat):Int):=by omega
    rw[eW,D2 _ aG,Int.toNat_natCast];refine⟨by omega,?_⟩;have e:=aL _ aG;rw[e,o8 _ (by omega)];refine⟨by unfold tb;omega,?_⟩;simp[bu,AX,aY,aZ,aW];try((rw[TX x ar])<;>omega)
   ·have g3:¬(256:Int)≤x:=by omega
    (with_reducible repeat' first|refine aj ?_|simp[nU,g2,g3,B3,B2,B4,zC]);have aG:x<256:=by omega
    have lE:=ae _ aG;have eW:(x:Int)=((x:Nat):Int):=by omega
    rw[eW,D2 _ aG,Int.toNat_natCast];refine⟨by omega,?_⟩;have e:=aL _ aG;rw[e,o8 _ (by omega)];refine⟨by unfold tb;omega,?_⟩;simp[bu,AX,aY,aZ,aW];try((rw[show Sort.bitsLen x=Sort.bitsLen x from rfl])<;>omega)
theorem ano(x:Nat)(ab:x<1099511627776):bt al 213 [.int .u64 x] (.int .i64 (Sort.bitsLen x)):=by refine bt.mk mixed oa ada ajH (by simp) (by simp[aF]) fun aN=>?_;unfold Qn;have UZ:=anp x ab;exact bO
theorem ZY(x:Nat)(ab:x<1099511627776):Sort.bitsLen x≤40:=by
 unfold Sort.bitsLen;split
 ·omega
 ·rename_i h;have:=(Nat.log2_lt h (k:=40)).2 (by omega);omega
theorem am6{x:Nat}(h:x≠0):2 ^ Sort.bitsLen x≤2*x∧x<2 ^ Sort.bitsLen x:=by unfold Sort.bitsLen;rw[if_neg h];have J:=Nat.log2_self_le h;have U:=Nat.lt_log2_self (n:=x);rw[Nat.pow_succ];rw[Nat.pow_succ]at U;omega
theorem an9(x:Nat)(ab:x<1099511627776):bt al 253 [.int .i64 x] (.int .u64 (1<<<Sort.bitsLen x:Nat)):=by
 have ae:=ZY x ab;have ak:hr.wrap ((x:Nat):Int)=x:=by simp[sA,og,sy];omega
 have aC:hr.wrap ((Sort.bitsLen x:Nat):Int)=Sort.bitsLen x:=by simp[sA,og,sy];omega
 refine bt.mk mixed oa adk ajP (by simp) (by simp[aF]) fun aN=>?_;unfold Qv;simp[ak];refine c9.val (by simp) (ano x ab) ?_;simp[ak,aC];simp[bu,WV,aY,aZ,aW];have hm:min (Sort.bitsLen x) hr.bits=Sort.bitsLen x:=by simp[og];omega
 have bQ:2 ^ Sort.bitsLen x≤2 ^ 40:=Nat.pow_le_pow_right (by omega) ae;rw[hm];have ay:((2:Int) ^ Sort.bitsLen x)=((2 ^ Sort.bitsLen x:Nat):Int):=by simp
 have zF:((1<<<Sort.bitsLen x:Nat):Int)=((2 ^ Sort.bitsLen x:Nat):Int):=by rw[Nat.one_shiftLeft]
 have xJ:hr.wrap ((2:Int) ^ Sort.bitsLen x)=((1<<<Sort.bitsLen x:Nat):Int):=by rw[ay,zF];generalize 2 ^ Sort.bitsLen x=y at bQ;simp[sA,og,sy];omega
 simpa using xJ
def mZ(r:Nat):cL:=⟨[(.obj 902,[.int .u64 r])],[]⟩
theorem Iw(r:Nat):ej (mZ r):=by unfold mZ;exact(ej.of ⟨by intro m;simp[Pv.look],by intro m;simp[Pv.look]⟩ (by simp[aJ,aF,inObs,Pv.look]) (by simp[aJ,aF,inObs,Pv.look]))
theorem OK(a b:Nat):Same (mZ a) (mZ b):=⟨fun k=>by simp only[mZ,Pv.look];split<;>rfl,fun _=>rfl⟩
theorem IN(a b:Nat)(br:a<18446744073709551616)(ae:b<18446744073709551616):hr.wrap ((qt hr.bits (a:Int) ^^^ qt hr.bits (b:Int)).toNat:Int)=(a ^^^ b:Nat):=by
 have ar:a ^^^ b<18446744073709551616:=Nat.xor_lt_two_pow (n:=64) br ae;have e:(qt hr.bits (a:Int) ^^^ qt hr.bits (b:Int)).toNat=a ^^^ b:=by
  rw[BitVec.toNat_xor,BitVec.toNat_ofInt,BitVec.toNat_ofInt];have ak:((a:Int)%(2 ^ hr.bits:Nat)).toNat=a:=by simp[og];omega
  have aC:((b:Int)%(2 ^ hr.bits:Nat)).toNat=b:=by simp[og];omega
  rw[ak,aC]
 rw[e];generalize a ^^^ b=c at ar;simp[sA,og,sy];omega
theorem amq(r:Nat):hr.wrap ((r:Int)*2 ^ (min 13 hr.bits))=(r*8192%18446744073709551616:Nat):=by simp[sA,og,sy]
theorem amr(r:Nat):hr.wrap ((r:Int)*2 ^ (min 17 hr.bits))=(r*131072%18446744073709551616:Nat):=by simp[sA,og,sy]
theorem ams(r:Nat):((r:Int)).fdiv (2 ^ (min 7 hr.bits))=(r/128:Nat):=by rw[show(2:Int) ^ (min 7 hr.bits)=128 from by decide,Int.fdiv_eq_ediv_of_nonneg _ (by omega)];omega
theorem aen(r:Nat)(aM:r<18446744073709551616):bV al 254 [.ptr (.obj 902) 0] (mZ r) fun eS ai=>eS= .int .u64 (Sort.xorNextN r)∧ai=mZ (Sort.xorNextN r):=by
 have ag:=Iw r;unfold mZ at ag⊢;refine bV.mk mixed oa adw aj1 (by simp) ag.obj fun aN cT=>?_;unfold QH;obtain⟨m1,Tz⟩:∃m,m=r*8192%18446744073709551616:=⟨_,rfl⟩;have s1:=amq r;rw[←Tz]at s1;have j2:m1<18446744073709551616:=by omega
 obtain⟨bG,ld⟩:∃m,m=r ^^^ m1:=⟨_,rfl⟩;have t1:=IN r m1 aM j2;rw[←ld]at t1;have U0:bG<18446744073709551616:=by rw[ld];exact Nat.xor_lt_two_pow (n:=64) aM j2
 obtain⟨m2,TA⟩:∃m,m=bG/128:=⟨_,rfl⟩;have s2:=ams bG;rw[←TA]at s2;have gF:m2<18446744073709551616:=by omega
 obtain⟨a2,p3⟩:∃m,m=bG ^^^ m2:=⟨_,rfl⟩;have t2:=IN bG m2 U0 gF;rw[←p3]at t2;have ahJ:a2<18446744073709551616:=by rw[p3];exact Nat.xor_lt_two_pow (n:=64) U0 gF
 obtain⟨m3,TB⟩:∃m,m=a2*131072%18446744073709551616:=⟨_,rfl⟩;have s3:=amr a2;rw[←TB]at s3;have ahI:m3<18446744073709551616:=by omega
 obtain⟨a3,FG⟩:∃m,m=a2 ^^^ m3:=⟨_,rfl⟩;have t3:=IN a2 m3 ahJ ahI;rw[←FG]at t3;have bg:Sort.xorNextN r=a3:=by unfold Sort.xorNextN;simp only[←Tz,←ld,←TA,←p3,←TB,←FG]
 rw[bg];simp[-BitVec.toNat_xor,-BitVec.ofInt_natCast,s1,t1,s2,t2,s3,t3];have a8:=Iw a3;have b4:=OK r a3;unfold mZ at a8 b4;refine cX.at _ (.inl rfl) a8 b4 aT aT ?_;simp[c6,WY,aY,aZ,aW]
end Go.Proofs.YtahlgcidhnjlbaaGreat
namespace Go.Proofs.YtahlgcidhnjlbaaGreat
open Go Go.Pv
variable {α:Type} [Inhabited α] {S:List α→cL} {n g cb:Nat} {lc b5:List ah} {lt:α→α→Bool}
theorem ZR(a b:Nat)(br:a<18446744073709551616)(ae:b<18446744073709551616):hr.wrap ((qt hr.bits (a:Int)&&& qt hr.bits (b:Int)).toNat:Int)=(a&&& b:Nat):=by
 have ar:a&&& b<18446744073709551616:=Nat.lt_of_le_of_lt Nat.and_le_left br;have e:(qt hr.bits (a:Int)&&& qt hr.bits (b:Int)).toNat=a&&& b:=by
  rw[BitVec.toNat_and,BitVec.toNat_ofInt,BitVec.toNat_ofInt];have ak:((a:Int)%(2 ^ hr.bits:Nat)).toNat=a:=by simp[og];omega
  have aC:((b:Int)%(2 ^ hr.bits:Nat)).toNat=b:=by simp[og];omega
  rw[ak,aC]
 rw[e];generalize a&&& b=c at ar;simp[sA,og,sy];omega
def za(a len M i0:Nat)(d:Array α):Nat→UInt64×Array α
 |0=>(UInt64.ofNat len,d)
 |k+1=>Sort.breakStep a len M (za a len M i0 d k) (i0+k)
theorem Z2(d:Array α)(a b:Nat)(h:8≤b-a):Sort.breakPatterns d a b=(za a (b-a) (1<<<Sort.bitsLen (b-a)) (a+(b-a)/4*2-1) d 3).2:=by unfold Sort.breakPatterns;simp only[if_pos h,za];rfl
theorem Y1{ob O:List aH}{ai:cL}(gr:ej ai)(du:∀k,inObs ai k→k∈O)(uK:∀k∈ob,k∈O){st:bs}{dE:List (Nat×ah)}{L:List (aH×List ah)}{n:Nat}(aL:∀x∈dE,Pv.get x.1 st.t=x.2∧aF (mh ai n) x.2)(jL:∀x∈L,Pv.look x.1 st.b=some x.2∧mh ai n x.1∧aJ (mh ai n) x.2)
  (ae:∀k cs,Pv.look k ai.b=some cs→Pv.look k st.b=some cs) (he:∀k o,Pv.look k ai.e=some o→Pv.look k st.e=some o):iU ob st ⟨dE,L++ai.b,ai.e,n,O⟩:=by
 have l5:∀{k},mh ai n k→¬fresh n O k:=by
  rintro k (h|⟨m,hm,rfl⟩)
  ·exact fun aI=>aI.2 (du k h)
  ·intro aI;have:=aI.1;simp at this;omega
 refine⟨fun x ab=>⟨(aL x ab).1,wy (fun k ad=>l5 ad) _ (aL x ab).2⟩,fun k cs ad=>?_,fun k o ax=>?_,uK⟩
 ·simp only at ad;rw[cJ]at ad;cases aw:Pv.look k L with
  |some x=>rw[aw]at ad;simp only[dM]at ad;subst ad;obtain⟨J,U,ar⟩:=jL _ (tj aw);exact⟨J,l5 U,j1 (fun k ad=>l5 ad) _ ar⟩
  |none=>rw[aw]at ad;exact⟨ae k cs ad,l5 (.inl (.inl (by simp[ad]))),j1 (fun k ad=>l5 (.inl ad)) _ (gr.kb k cs ad)⟩
 ·exact⟨he k o ax,l5 (.inl (.inr (by simp at ax;simp[ax]))),fun xs ab=>j1 (fun k ad=>l5 (.inl ad)) _ (gr.ke k o ax xs ab)⟩
theorem Om{aoM β:Type}(s:List (aH×β)):∀(l:List (aH×aoM)),(∀k x,(k,x)∈l→Pv.look k s=none)→cz s l=l
 |[],_=>rfl
 |(k,x)::r,h=>by have J:=h k x (by simp);simp only[cz,J];rw[Om s r fun k x ab=>h k x (by simp[ab])]
def jv(S:List α→cL)(d:Array α)(r:Nat):cL:=⟨(.obj 902,[.int .u64 r])::(S d.toList).b,(S d.toList).e⟩
theorem Et(H:e7 S n g cb lc b5 lt)(d:Array α)(v:Nat):ej (jv S d v):=by
 have h:=H.ok d.toList;have jx:∀k,inObs (S d.toList) k→inObs (jv S d v) k:=fun k ad=>by
  rcases ad with ad|ad
  ·refine .inl ?_;simp only[jv,Pv.look];split
   ·rfl
   ·exact ad
  ·exact .inr ad
 refine⟨⟨fun m=>?_,h.obj.2⟩,fun k cs ad=>?_,fun k o ax xs ab=>j1 jx _ (h.ke k o ax xs ab)⟩
 ·simp[jv,Pv.look,h.obj.1 m]
 ·simp only[jv,Pv.look]at ad;split at ad
  ·cases ad;simp[aJ,aF]
  ·exact j1 jx _ (h.kb k cs ad)
theorem Y0{ob O:List aH}{d2:Array α}{y:Nat}{D:List ah}(gr:ej (jv S d2 y))(du:∀k,inObs (jv S d2 y) k→k∈O)(uK:∀k∈ob,k∈O){st:bs}{dE:List (Nat×ah)}(aL:∀x∈dE,Pv.get x.1 st.t=x.2∧aF (mh (jv S d2 y) 1) x.2)(bD:Pv.look (.loc 0) st.b=some D)(uz:aJ (mh (jv S d2 y) 1) D)
  (ae:∀k cs,Pv.look k (jv S d2 y).b=some cs→Pv.look k st.b=some cs) (he:∀k o,Pv.look k (jv S d2 y).e=some o→Pv.look k st.e=some o):iU ob st ⟨dE,(.loc 0,D)::(.obj 902,[.int .u64 y])::(S d2.toList).b,(S d2.toList).e,1,O⟩:=
 Y1 (L:=[(.loc 0,D)]) gr du uK aL (fun x ab=>by simp only[List.mem_singleton]at ab;subst ab;exact⟨bD,VH _ _ _ (by omega),uz⟩) ae he
theorem aes(H:e7 S n g cb lc b5 lt)(ad:sa S 902)(d:Array α)(aR:d.size=n)(a b:Nat)(nn:a≤b)(ae:b≤n)(nV:8≤b-a):
  bV al 239 [e1 g cb lc b5,.int .i64 a,.int .i64 b] (S d.toList) fun r ai=>r= .tuple []∧∃ca,ai=S ca.toList∧ca=Sort.breakPatterns d a b∧ca.size=n:=by
 have ag:=H.ok d.toList;have aw:d.toList.length=n:=by simpa using aR
 have au:∀l m,Pv.look (.loc m) (S l).b=none:=fun l=>(H.ok l).obj.1;have hu:∀l m cs,cB (.loc m) cs (S l).b=(S l).b++[(.loc m,cs)]:=fun l m cs=>j9 (au l m);have ax:∀m,aH.loc m∉cV (S d.toList):=j4 ag.obj;have gy:∀l,Pv.look (.obj 902) (S l).b=none:=fun l=>(ad l).1;have lf:∀l,Pv.look (.obj 902) (S l).e=none:=fun l=>(ad l).2;have hle:=H.le;have lJ:=VK ad d.toList;rw[Z2 d a b nV];obtain⟨len,hlen⟩:∃len,len=b-a:=⟨_,rfl⟩;rw[←hlen];obtain⟨M,ec⟩:∃M,M=1<<<Sort.bitsLen len:=⟨_,rfl⟩;rw[←ec];have aqe:len<M∧M≤2*len:=by have:=am6 (x:=len) (by omega);rw[ec,Nat.one_shiftLeft];omega
 obtain⟨q,bh⟩:∃q,q=len/4:=⟨_,rfl⟩;rw[←bh];have x3:∀l D cs,cB (.obj 902) cs ((S l).b++[(.loc 0,D)])=(S l).b++[(.loc 0,D),(.obj 902,cs)]:=fun l D cs=>by rw[Bi (gy l)];rfl
 have T3:∀l D x y,cB (.obj 902) y ((S l).b++[(.loc 0,D),(.obj 902,x)])=(S l).b++[(.loc 0,D),(.obj 902,y)]:=fun l D x y=>by rw[Bi (gy l)];simp[cB]
 have el:((b:Int)-a)=(len:Nat):=by omega
 have dg:IntKind.i64.wrap ((len:Int).tdiv 4)=(q:Nat):=by rw[Int.tdiv_eq_ediv_of_nonneg (by omega),o8 _ (by omega)];omega
 have ew:hr.wrap (len:Int)=len:=by simp[sA,og,sy];omega
 refine bV.mk mixed oa adf ajK (by simp) ag.obj fun aN cT=>?_;unfold Qq;have oF:=an9 len (by omega);rw[←ec]at oF;simp[e1,hu,x3,T3,ax,lJ,cJ,au,gy,lf,Pv.look,cB,el,ew];have hf:IntKind.i64.wrap ((len:Int)/4)=(q:Nat):=by rw[o8 _ (by omega)];omega
 ((with_reducible repeat' first|refine aj ?_|refine aD oF ?_|refine aE oF ?_|simp[el,ew,dg,hf,hu,x3,T3,ax,lJ,cJ,au,gy,lf,Pv.look,cB]|((first|apply bK|apply bM|apply bL)<;>intro h<;>try simp at h))<;>(try exact cc));obtain⟨i0,Cv⟩:∃i0,i0=a+q*2-1:=⟨_,rfl⟩;rw[←Cv];have aa2:((a:Int)+q*2-1)=(i0:Nat):=by omega
 rw[aa2];have du:∀(cr:Array α) r k,inObs (jv S cr r) k→cr.size=n→k∈aH.obj 902::cV (S d.toList):=fun cr r k h e4=>by
  have fa:=H.same d.toList cr.toList aw (by simpa using e4);rcases h with h|h
  ·simp only[jv,Pv.look]at h;split at h
   ·rename_i e;subst e;simp
   ·exact pa _ (tq (.inl (by rw[fa.b];exact h)))
  ·exact pa _ (tq (.inr (by rw[fa.e];exact h)))
 have xT:∀(cr:Array α) r,cr.size=n→aJ (mh (jv S cr r) 1) [.func g lc,.func cb b5]:=fun cr r e4=>by
  have J:=H.kdata (lk:=cr.toList) (by simpa using e4);have U:aJ (inObs (S cr.toList)) [.func g lc,.func cb b5]:=by simpa[e1,aF,aJ]using J
  refine j1 (fun k ad=>.inl ?_) _ U;rcases ad with ad|ad
  ·refine .inl ?_;simp only[jv,Pv.look];split
   ·rfl
   ·exact ad
  ·exact .inr ad
 have aqr:∀(cr:Array α) r D k cs,Pv.look k (jv S cr r).b=some cs→Pv.look k ((.loc 0,D)::(jv S cr r).b)=some cs:=fun cr r D k cs h=>by
  cases k with
  |loc m=>rw[(Et H cr r).obj.1 m]at h;cases h
  |obj m=>simpa[Pv.look]using h
 refine oC (fun(x:Nat×UInt64×Array α)=>⟨[(1,.int .i64 a),(3,.ptr (.loc 0) 0),(6,.int .i64 len),(7,.ptr (.obj 902) 0),(8,.int .u64 M),(9,.int .i64 ((i0+x.1:Nat):Int))],[(.loc 0,[.func g lc,.func cb b5])]++(jv S x.2.2 x.2.1.toNat).b,(jv S x.2.2 x.2.1.toNat).e,1,aH.obj 902::cV (S d.toList)⟩) (fun x=>3-x.1)
  (fun x=>x.1≤3∧x.2.2.size=n∧za a len M i0 d x.1=x.2) (0,UInt64.ofNat len,d) ?_ ⟨by simp,aR,rfl⟩ ?_
 ·refine Y1 (Et H d _) (fun k h=>du d _ k h aR) (fun k h=>pa _ h) (by simp[aF,inObs,jv,Pv.look,mh]) ?_ ?_ aT
  ·intro x ab;simp only[List.mem_singleton]at ab;subst ab;exact⟨by simp[cJ,au,Pv.look],VH _ _ _ (by omega),xT d _ aR⟩
  ·intro k cs h;simp only[jv,Pv.look]at h;rw[cJ];split at h
   ·rename_i e;subst e;rw[gy];have:(UInt64.ofNat len).toNat=len:=by simp;omega
    rw[this]at h;simpa[Pv.look]using h
   ·rw[h]
 rintro⟨k,r,cr⟩ ⟨aP,a6,bR⟩ _;simp only at aP a6 bR;have aM:=r.toNat_lt;obtain⟨x,ab⟩:∃x,x=r.toNat:=⟨_,rfl⟩;rw[←ab]at aM⊢;have zU:Sort.xorNextN x<18446744073709551616:=Sort.xorNextN_lt x (by omega);have KM:(Sort.xorNext r).toNat=Sort.xorNextN x:=by rw[Sort.xorNext_toNat,←ab]
 obtain⟨y,aG⟩:∃y,y=Sort.xorNextN x:=⟨_,rfl⟩;have aaX:hr.wrap ((M:Int)-1)=(M-1:Nat):=by simp[sA,og,sy];omega
 have xH:=ZR y (M-1) (by omega) (by omega);obtain⟨z,bq⟩:∃z,z=y&&& (M-1):=⟨_,rfl⟩;rw[←bq]at xH;have aqA:z≤M-1:=by rw[bq];exact Nat.and_le_right
 have nT:IntKind.i64.wrap (z:Int)=z:=by rw[o8 _ (by omega)]
 by_cases afS:k=3
 ·subst afS;simp[jv,Pv.look,hf];((with_reducible repeat' first|refine aj ?_|simp[hf]|((first|apply bK|apply bM|apply bL)<;>intro h<;>try simp at h))<;>(try exact cc));refine cX.at (S cr.toList) (.inr rfl) (H.ok _) (H.same _ _ aw (by simpa using a6)) (fun k cs h=>?_) (fun _ _ h=>h) ?_
  ·simp only[Pv.look];split
   ·rename_i e;subst e;rw[au]at h;cases h
   ·split
    ·rename_i e;subst e;rw[gy]at h;cases h
    ·exact h
  ·simp[c6,WS,aY,aZ,aW];exact⟨cr,rfl,by rw[bR],a6⟩
 ·have FU:((i0+k:Nat):Int)≤(a:Int)+q*2+1:=by omega
  have Tu:((i0:Int)+k)≤(a:Int)+q*2+1:=by omega
  simp[jv,Pv.look,hf,Tu,FU];(with_reducible repeat' first|refine aj ?_|simp[hf,Tu,FU,Pv.look]);have aqw:=H.same d.toList cr.toList aw (by simpa using a6);have agM:∀(fS:Array α) (v:List ah),cz [(aH.obj 902,v)] (S fS.toList).b=(S fS.toList).b:=fun fS v=>Om _ _ fun k x hm=>by
   have:=uY hm;simp only[Pv.look];split
   ·rename_i e;subst e;rw[gy]at this;cases this
   ·rfl
  refine c9.ob (aen x (by omega)) (Iw x) (fun k cs h=>?_) (fun k o h=>by simp[mZ,Pv.look]at h) (by simp[aF,aJ,inObs,mZ,Pv.look]) ?_
  ·simp only[mZ,Pv.look]at h⊢;split at h
   ·rename_i e;subst e;simpa using h
   ·cases h
  rintro eS ai ⟨rfl,rfl⟩;refine⟨OK _ _,?_⟩;rw[←aG];have ab0:cz (mZ x).b ((aH.loc 0,[ah.func g lc,ah.func cb b5])::(aH.obj 902,[ah.int .u64 x])::(S cr.toList).b)=(aH.loc 0,[ah.func g lc,ah.func cb b5])::(S cr.toList).b:=by simp[mZ,cz,Pv.look,agM]
  have ab1:cz (mZ x).e (S cr.toList).e=(S cr.toList).e:=Om _ _ fun _ _ _=>rfl;rw[ab0,ab1,show(mZ y).b=[(aH.obj 902,[ah.int .u64 y])]from rfl,show(mZ y).e=[]from rfl,List.append_nil];have aqc:∀(v:List ah),Pv.look (.obj 902) ((aH.loc 0,[ah.func g lc,ah.func cb b5])::((S cr.toList).b++[(aH.obj 902,v)]))=some v:=fun v=>by simp[Pv.look,cJ,gy]
  have Pa:∀o',o'<len→o'=(if z≥len then z-len else z)→Sort.breakStep a len M (r,cr) (i0+k)=(Sort.xorNext r,Sort.swp cr (i0+k) (a+o')):=fun o' J U=>by unfold Sort.breakStep;simp only[KM,←aG,←bq,←U]
  have RJ:((i0:Int)+k)=((i0+k:Nat):Int):=by omega
  simp only[eX,aH.obj.injEq];simp[-BitVec.toNat_and,-BitVec.ofInt_natCast,aaX,xH,nT,Pv.look,H.ssc];by_cases aqB:len≤z
  ·have Lb:(len:Int)≤z:=by omega
   have Jy:((a:Int)+(z-len))=((a+(z-len):Nat):Int):=by omega
   ((with_reducible repeat' first|refine aj ?_|simp[Lb,Pv.look,H.ssc]|((first|apply bK|apply bM|apply bL)<;>intro h<;>try simp at h))<;>(try exact cc));rw[Jy,RJ];refine c9.ob (H.swap cr.toList (by simpa using a6) (by omega) (i0+k) (a+(z-len)) (by omega) (by omega)) (H.ok _) (fun bH cs h=>?_) (fun _ _ h=>h) (by simp[aF,aJ,H.ksc cr.toList (by simpa using a6)]) ?_
   ·simp only[Pv.look];split
    ·rename_i e;subst e;rw[au]at h;cases h
    ·rw[cJ,h]
   rintro eS ai ⟨rfl,rfl⟩;refine⟨H.same _ _ (by simpa using a6) (by simpa using a6),?_⟩;rw[GI cr (by omega) (by omega)];obtain⟨d2,eU⟩:∃d2,d2=Sort.swp cr (i0+k) (a+(z-len)):=⟨_,rfl⟩;have s2:d2.size=n:=by rw[eU,gO,a6]
   rw[←eU];have JC:∀v:List ah,cz (S cr.toList).b ((aH.loc 0,[ah.func g lc,ah.func cb b5])::((S cr.toList).b++[(aH.obj 902,v)]))=[(aH.loc 0,[ah.func g lc,ah.func cb b5]),(aH.obj 902,v)]:=fun v=>by simp only[cz,au];rw[iO,gZ];simp[cz,gy]
   dsimp only;rw[JC,gZ];simp;(with_reducible repeat' first|refine aj ?_|simp);have Ju:((i0:Int)+k+1)=((i0+(k+1):Nat):Int):=by omega
   rw[Ju];refine bT.whl (k+1,Sort.xorNext r,d2) (by simp;omega) ⟨by simp;omega,s2,by simp only[za,bR];rw[Pa (z-len) (by omega) (by rw[if_pos (by omega)]),eU]⟩ ?_;rw[KM,←aG];refine Y0 (Et H d2 y) (fun k h=>du d2 _ k h s2) (fun k h=>pa _ h) (by simp[aF,inObs,jv,Pv.look,mh]) (by simp[Pv.look]) (xT d2 _ s2) ?_ (fun _ _ h=>h);intro k cs h;simp only[jv,Pv.look]at h⊢;split at h
   ·rename_i e;subst e;simpa using h
   ·rename_i e;split
    ·rename_i aC;subst aC;rw[au]at h;cases h
    ·exact h
  ·have Lb:¬(len:Int)≤z:=by omega
   have Jy:((a:Int)+z)=((a+z:Nat):Int):=by omega
   ((with_reducible repeat' first|refine aj ?_|simp[Lb,Pv.look,H.ssc]|((first|apply bK|apply bM|apply bL)<;>intro h<;>try simp at h))<;>(try exact cc));rw[Jy,RJ];refine c9.ob (H.swap cr.toList (by simpa using a6) (by omega) (i0+k) (a+z) (by omega) (by omega)) (H.ok _) (fun bH cs h=>?_) (fun _ _ h=>h) (by simp[aF,aJ,H.ksc cr.toList (by simpa using a6)]) ?_
   ·simp only[Pv.look];split
    ·rename_i e;subst e;rw[au]at h;cases h
    ·rw[cJ,h]
   rintro eS ai ⟨rfl,rfl⟩;refine⟨H.same _ _ (by simpa using a6) (by simpa using a6),?_⟩;rw[GI cr (by omega) (by omega)];obtain⟨d2,eU⟩:∃d2,d2=Sort.swp cr (i0+k) (a+z):=⟨_,rfl⟩;have s2:d2.size=n:=by rw[eU,gO,a6]
   rw[←eU];have JC:∀v:List ah,cz (S cr.toList).b ((aH.loc 0,[ah.func g lc,ah.func cb b5])::((S cr.toList).b++[(aH.obj 902,v)]))=[(aH.loc 0,[ah.func g lc,ah.func cb b5]),(aH.obj 902,v)]:=fun v=>by simp only[cz,au];rw[iO,gZ];simp[cz,gy]
   dsimp only;rw[JC,gZ];simp;(with_reducible repeat' first|refine aj ?_|simp);have Ju:((i0:Int)+k+1)=((i0+(k+1):Nat):Int):=by omega
   rw[Ju];refine bT.whl (k+1,Sort.xorNext r,d2) (by simp;omega) ⟨by simp;omega,s2,by simp only[za,bR];rw[Pa z (by omega) (by rw[if_neg (by omega)]),eU]⟩ ?_;rw[KM,←aG];refine Y0 (Et H d2 y) (fun k h=>du d2 _ k h s2) (fun k h=>pa _ h) (by simp[aF,inObs,jv,Pv.look,mh]) (by simp[Pv.look]) (xT d2 _ s2) ?_ (fun _ _ h=>h);intro k cs h;simp only[jv,Pv.look]at h⊢;split at h
   ·rename_i e;subst e;simpa using h
   ·rename_i e;split
    ·rename_i aC;subst aC;rw[au]at h;cases h
    ·exact h
end Go.Proofs.YtahlgcidhnjlbaaGreat
namespace Go.Proofs.YtahlgcidhnjlbaaGreat
open Go Go.Pv
variable {α:Type} [Inhabited α] {S:List α→cL} {n g cb:Nat} {lc b5:List ah} {lt:α→α→Bool}
theorem e7.fnD{d d2:Array α}(H:e7 S n g cb lc b5 lt)(J:d.size=n){f:Nat}{args:List ah}{r:ah}(aI:bV al f args (S d.toList) fun eS ai=>eS=r∧∃ca,ai=S ca.toList∧ca=d2∧ca.size=n)(ad:aJ (inObs (S d.toList)) args){t:List (Nat×ah)}{D:List ah}{o:List aH}{ca:Option Nat}{K:bs→Prop}
  (h:d2.size=n→∀o,K ⟨eX ca r t,(.loc 0,D)::(S d2.toList).b,(S d2.toList).e,1,o⟩):c9 al f args ⟨t,(.loc 0,D)::(S d.toList).b,(S d.toList).e,1,o⟩ ca K:=
 H.call (by simpa using J) (R:=fun eS a1=>eS=r∧a1=d2.toList∧d2.size=n) (aI.mono fun r ai ⟨ak,ca,aC,bk,dg⟩=>⟨ca.toList,aC,ak,by rw[bk],by rw[←bk];exact dg⟩) (fun r a1 ⟨_,e,h⟩=>by rw[e];simpa using h) ad (by rintro eS a1 ⟨rfl,rfl,U⟩;exact h U _)
attribute [local simp] pC
def Bv(S:List α→cL)(n g cb:Nat)(lc b5:List ah)(lt:α→α→Bool)(m:Nat):Prop:=
 ∀k,k<m→∀(d:Array α),d.size=n→∀a b wC:Nat,b-a≤k→a≤b→b≤n→wC≤1000→Sort.Below lt a b d→
  bV al 214 [e1 g cb lc b5,.int .i64 a,.int .i64 b,.int .i64 wC] (S d.toList) fun r ai=>r= .tuple []∧∃ca,ai=S ca.toList∧Sort.PermIn a b d ca∧Sort.SortedIn lt a b ca
structure xe (S:List α→cL) (n g cb:Nat) (lc b5:List ah) (lt:α→α→Bool) (bp bP lim:Nat) (d:Array α) (Q:Exit→bs→Prop):Prop where
 k:∀e,e= .normal∨e= .exit 1→∀(a2 b2:Nat) (w v:Bool) (L:Array α) (t:List (Nat×ah)) (o:List aH),L.size=n→a2≤b2→b2≤n→b2-a2<bP-bp→Sort.Below lt a2 b2 L→(∀R,Sort.PermIn a2 b2 L R→Sort.SortedIn lt a2 b2 R→Sort.PermIn bp bP d R∧Sort.SortedIn lt bp bP R)→
  Pv.get 1 t= .int .i64 a2→Pv.get 2 t= .int .i64 b2→Pv.get 3 t= .int .i64 lim→Pv.get 4 t= .ptr (.loc 0) 0→Pv.get 8 t= .bool w→Pv.get 9 t= .bool v→Q e ⟨t,(.loc 0,[.func g lc,.func cb b5])::(S L.toList).b,(S L.toList).e,1,o⟩
 r:∀(R:Array α) t o,Sort.PermIn bp bP d R→Sort.SortedIn lt bp bP R→Q .ret ⟨t,(.loc 0,[.func g lc,.func cb b5])::(S R.toList).b,(S R.toList).e,1,o⟩
theorem xe.mono{bp bP lim:Nat}{d ca:Array α}{Q:Exit→bs→Prop}(h:xe S n g cb lc b5 lt bp bP lim d Q)(p:Sort.PermIn bp bP d ca):xe S n g cb lc b5 lt bp bP lim ca Q:=⟨fun e he a2 b2 w v L t o ak aC bk dg hf hT=>h.k e he a2 b2 w v L t o ak aC bk dg hf fun R cN dx=>⟨Sort.permIn_trans _ _ _ bp bP p (hT R cN dx).1,(hT R cN dx).2⟩,fun R t o cN dx=>h.r R t o (Sort.permIn_trans _ _ _ bp bP p cN) dx⟩
structure y5 (t:List (Nat×ah)) (bp bP lim:Nat):Prop where
 t1:Pv.get 1 t= .int .i64 bp
 t2:Pv.get 2 t= .int .i64 bP
 t3:Pv.get 3 t= .int .i64 lim
 t4:Pv.get 4 t= .ptr (.loc 0) 0
 t10:Pv.get 10 t= .int .i64 ((bP:Int)-bp)
section
variable {bp bP lim:Nat} {cI:Array α} {t:List (Nat×ah)} {o:List aH} {ob:List aH} {Q:Exit→bs→Prop}
theorem Wg(H:e7 S n g cb lc b5 lt)(bE:Sort.SWO lt)(bZ:Bv S n g cb lc b5 lt (bP-bp)){pv:Nat}(T:y5 t bp bP lim)(t11:Pv.get 11 t= .int .i64 pv)(rS:lim≤1000)(oZ:cI.size=n)(p7:bp≤pv∧pv<bP)(bR:bP≤n)(sP:12<bP-bp)(tQ:Sort.Below lt bp bP cI)(ib:xe S n g cb lc b5 lt bp bP lim cI Q):
  c0 al ob I9 Q ⟨t,(.loc 0,[.func g lc,.func cb b5])::(S cI.toList).b,(S cI.toList).e,1,o⟩:=by
 obtain⟨t1,t2,t3,t4,t10⟩:=T;have sY:∀fS:Array α,fS.size=n→aF (inObs (S fS.toList)) (e1 g cb lc b5):=fun fS h=>H.kdata (lk:=fS.toList) (by simpa using h);have hle:=H.le;unfold I9;simp[t1,t2,t4,t11,Pv.look,H.slc,H.ssc];simp only[iy H,H.slc,H.ssc,im];have q2:=aeD H cI oZ bp bP pv p7.1 p7.2 (by omega) bR;have bh:Sort.partition lt cI bp bP pv=((Sort.partition lt cI bp bP pv).1,(Sort.partition lt cI bp bP pv).2.1,(Sort.partition lt cI bp bP pv).2.2):=rfl;generalize (Sort.partition lt cI bp bP pv).1=mid at q2 bh;generalize (Sort.partition lt cI bp bP pv).2.1=ap at q2 bh;generalize (Sort.partition lt cI bp bP pv).2.2=d4 at q2 bh;obtain⟨g1,g2,g3,g4,g5,g6,g7⟩:=Sort.round_part bE (Sort.partition_holds lt) p7.1 p7.2 (by omega) tQ bh;refine H.fnD oZ q2 (by simp[aF,aJ,sY cI oZ]) fun s4 o=>?_;have em:((mid:Int)+1)=(mid+1:Nat):=by omega
 simp[t1,t2,t3,t4,t10];by_cases aqs:mid-bp<bP-mid
 ·have KF:(mid:Int)-bp<bP-mid:=by omega
  (with_reducible repeat' first|refine aj ?_|simp[KF,Pv.look,t1,t2,t3,t4,t10]);simp only[iy H,H.slc,H.ssc,im];refine H.doFn (lk:=d4.toList) (by simpa using s4) (R:=fun a1=> ∃L:Array α,a1=L.toList∧Sort.PermIn bp mid d4 L∧Sort.SortedIn lt bp mid L) ((bZ (mid-bp) (by omega) d4 s4 bp mid lim (eY _) g1 (by omega) rS g4).mono fun r ai ⟨a7,ca,bF,b0,cZ⟩=>⟨a7,ca.toList,bF,ca,rfl,b0,cZ⟩) (by rintro a1 ⟨L,rfl,q,_⟩;simpa using q.1.trans s4) (by simp[aJ,aF,sY d4 s4]) ?_;rintro a1 ⟨L,rfl,cQ,dy⟩;obtain⟨kQ,o7⟩:=g6 L cQ dy;simp;(with_reducible repeat' first|refine aj ?_|simp[t1,t2,t3,t4]);rw[em];exact ib.k _ (.inl rfl) (mid+1) bP _ ap L _ _ (cQ.1.trans s4) (by omega) bR (by omega) kQ o7 (by simp) (by simp[t2]) (by simp[t3]) (by simp[t4]) (by simp;rfl) (by simp)
 ·have KF:¬(mid:Int)-bp<bP-mid:=by omega
  (with_reducible repeat' first|refine aj ?_|simp[KF,Pv.look,t1,t2,t3,t4,t10]);simp only[iy H,H.slc,H.ssc,im];rw[em];refine H.doFn (lk:=d4.toList) (by simpa using s4) (R:=fun a1=> ∃L:Array α,a1=L.toList∧Sort.PermIn (mid+1) bP d4 L∧Sort.SortedIn lt (mid+1) bP L) ((bZ (bP-(mid+1)) (by omega) d4 s4 (mid+1) bP lim (eY _) (by omega) bR rS g5).mono fun r ai ⟨a7,ca,bF,b0,cZ⟩=>⟨a7,ca.toList,bF,ca,rfl,b0,cZ⟩) (by rintro a1 ⟨L,rfl,q,_⟩;simpa using q.1.trans s4) (by simp[aJ,aF,sY d4 s4]) ?_;rintro a1 ⟨L,rfl,cQ,dy⟩;obtain⟨kQ,o7⟩:=g7 L cQ dy;simp;(with_reducible repeat' first|refine aj ?_|simp[t1,t2,t3,t4]);exact ib.k _ (.inl rfl) bp mid _ ap L _ _ (cQ.1.trans s4) g1 (by omega) (by omega) kQ o7 (by simp[t1]) (by simp) (by simp[t3]) (by simp[t4]) (by simp;rfl) (by simp)
theorem akF(H:e7 S n g cb lc b5 lt)(bE:Sort.SWO lt)(bZ:Bv S n g cb lc b5 lt (bP-bp)){pv:Nat}(T:y5 t bp bP lim)(t11:Pv.get 11 t= .int .i64 pv){w v:Bool}(t8:Pv.get 8 t= .bool w)(t9:Pv.get 9 t= .bool v)(rS:lim≤1000)(oZ:cI.size=n)(p7:bp≤pv∧pv<bP)(bR:bP≤n)(sP:12<bP-bp)(tQ:Sort.Below lt bp bP cI)(ib:xe S n g cb lc b5 lt bp bP lim cI Q):
  c0 al ob BK Q ⟨t,(.loc 0,[.func g lc,.func cb b5])::(S cI.toList).b,(S cI.toList).e,1,o⟩:=by
 obtain⟨t1,t2,t3,t4,t10⟩:=id T;have hle:=H.le;unfold BK;by_cases sS:0<bp
 ·have Kn:(0:Int)<bp:=by omega
  simp[t1,t2,t4,t11,sS,Kn,Pv.look,H.slc,H.ssc];(with_reducible repeat' first|refine aj ?_|simp[t1,t2,t4,t11,sS,Kn,Pv.look,H.slc,H.ssc]);rw[show((bp:Int)-1)=((bp-1:Nat):Int) by omega];refine H.lessA oZ (bp-1) pv (by omega) (by omega) fun o=>?_;cases jO:lt cI[bp-1]! cI[pv]!
  ·simp;(with_reducible repeat' first|refine aj ?_|simp[Pv.look,H.slc,H.ssc,t1,t2,t4,t11]);simp only[iy H,H.slc,H.ssc,im];have q2:=aeE H cI oZ bp bP pv p7.1 p7.2 (by omega) bR;have bh:Sort.partitionEqual lt cI bp bP pv=((Sort.partitionEqual lt cI bp bP pv).1,(Sort.partitionEqual lt cI bp bP pv).2):=rfl;generalize (Sort.partitionEqual lt cI bp bP pv).1=mid at q2 bh;generalize (Sort.partitionEqual lt cI bp bP pv).2=d4 at q2 bh;obtain⟨g1,g2,g3,g4,g5⟩:=Sort.round_eq bE (Sort.partitionEqual_holds lt) sS p7.1 p7.2 (by omega) tQ jO bh;refine H.fnD oZ q2 (by simp[aF,aJ,H.kdata (lk:=cI.toList) (by simpa using oZ)]) fun s4 o=>?_;simp[t1,t2,t3,t4];exact ib.k _ (.inr rfl) mid bP w v d4 _ _ s4 g2 bR (by omega) g4 g5 (by simp) (by simp[t2]) (by simp[t3]) (by simp[t4]) (by simp[t8]) (by simp[t9])
  ·simp;exact Wg H bE bZ ⟨by simp[t1],by simp[t2],by simp[t3],by simp[t4],by simp[t10]⟩ (by simp[t11]) rS oZ p7 bR sP tQ ib
 ·have Kn:¬(0:Int)<bp:=by omega
  simp[t1,sS];exact Wg H bE bZ ⟨by simp[t1],by simp[t2],by simp[t3],by simp[t4],by simp[t10]⟩ (by simp[t11]) rS oZ p7 bR sP tQ ib
theorem My(H:e7 S n g cb lc b5 lt)(bE:Sort.SWO lt)(bZ:Bv S n g cb lc b5 lt (bP-bp)){pv:Nat}(T:y5 t bp bP lim)(t11:Pv.get 11 t= .int .i64 pv){h:Nat}(t12:Pv.get 12 t= .int .i64 h){w v:Bool}(t8:Pv.get 8 t= .bool w)(t9:Pv.get 9 t= .bool v)(rS:lim≤1000)(oZ:cI.size=n)(p7:bp≤pv∧pv<bP)(bR:bP≤n)(sP:12<bP-bp)(tQ:Sort.Below lt bp bP cI)(ib:xe S n g cb lc b5 lt bp bP lim cI Q):
  c0 al ob Ja Q ⟨t,(.loc 0,[.func g lc,.func cb b5])::(S cI.toList).b,(S cI.toList).e,1,o⟩:=by
 obtain⟨t1,t2,t3,t4,t10⟩:=id T;have hle:=H.le;unfold Ja;have next:∀{d5:Array α} {t o},y5 t bp bP lim→Pv.get 11 t= .int .i64 pv→Pv.get 8 t= .bool w→Pv.get 9 t= .bool v→d5.size=n→Sort.Below lt bp bP d5→Sort.PermIn bp bP cI d5→c0 al ob BK Q ⟨t,(.loc 0,[.func g lc,.func cb b5])::(S d5.toList).b,(S d5.toList).e,1,o⟩:=fun ak aC bk dg hf hT rp=>akF H bE bZ ak aC bk dg rS hf p7 bR sP hT (ib.mono rp)
 have skip:∀{t o},y5 t bp bP lim→Pv.get 11 t= .int .i64 pv→Pv.get 8 t= .bool w→Pv.get 9 t= .bool v→c0 al ob BK Q ⟨t,(.loc 0,[.func g lc,.func cb b5])::(S cI.toList).b,(S cI.toList).e,1,o⟩:=fun ak aC bk dg=>next ak aC bk dg oZ tQ (Sort.permIn_refl _ _ _)
 by_cases ay:(w=true∧v=true)∧h=1
 ·obtain⟨⟨rfl,rfl⟩,rfl⟩:=ay;simp[t1,t2,t4,t8,t9,t12,Pv.look,H.slc,H.ssc];simp only[iy H,H.slc,H.ssc,im];have q2:=aeC H cI oZ bp bP (by omega) bR (by omega);have bh:=Sort.partialInsertionSort_holds bE cI bp bP (by omega) (by omega) tQ;generalize (Sort.partialInsertionSort lt cI bp bP).1=d5 at q2 bh;generalize (Sort.partialInsertionSort lt cI bp bP).2=ok at q2 bh;refine H.fnD oZ q2 (by simp[aF,aJ,H.kdata (lk:=cI.toList) (by simpa using oZ)]) fun amh o=>?_;cases ok
  ·simp;exact next ⟨by simp[t1],by simp[t2],by simp[t3],by simp[t4],by simp[t10]⟩ (by simp[t11]) (by simp[t8]) (by simp[t9]) amh (tQ.perm (by omega) bh.1) bh.1
  ·simp;exact ib.r _ _ _ bh.1 (bh.2 rfl)
 ·cases w
  ·simp[t8,t9,t12];exact skip ⟨by simp[t1],by simp[t2],by simp[t3],by simp[t4],by simp[t10]⟩ (by simp[t11]) (by simp[t8]) (by simp[t9])
  ·cases v
   ·simp[t8,t9,t12];exact skip ⟨by simp[t1],by simp[t2],by simp[t3],by simp[t4],by simp[t10]⟩ (by simp[t11]) (by simp[t8]) (by simp[t9])
   ·have J:((h:Int)==1)=false:=by simp at ay⊢;omega
    simp[t8,t9,t12,J];exact skip ⟨by simp[t1],by simp[t2],by simp[t3],by simp[t4],by simp[t10]⟩ (by simp[t11]) (by simp[t8]) (by simp[t9])
theorem Wh(H:e7 S n g cb lc b5 lt)(gy:sa S 901)(bE:Sort.SWO lt)(bZ:Bv S n g cb lc b5 lt (bP-bp))(T:y5 t bp bP lim){w v:Bool}(t8:Pv.get 8 t= .bool w)(t9:Pv.get 9 t= .bool v)(rS:lim≤1000)(s1:cI.size=n)(bR:bP≤n)(sP:12<bP-bp)(Im:Sort.Below lt bp bP cI)(ib:xe S n g cb lc b5 lt bp bP lim cI Q):
  c0 al ob Jb Q ⟨t,(.loc 0,[.func g lc,.func cb b5])::(S cI.toList).b,(S cI.toList).e,1,o⟩:=by
 obtain⟨t1,t2,t3,t4,t10⟩:=id T;have hle:=H.le;have sY:∀fS:Array α,fS.size=n→aF (inObs (S fS.toList)) (e1 g cb lc b5):=fun fS h=>H.kdata (lk:=fS.toList) (by simpa using h);unfold Jb;simp[t1,t2,t4,Pv.look,H.slc,H.ssc];simp only[iy H,H.slc,H.ssc,im];have l3:=Sort.choosePivot_holds lt cI bp bP (by omega);have Ln:=aet H gy cI s1 bp bP (by omega) bR;generalize Sort.choosePivot lt cI bp bP=Jl at Ln l3;obtain⟨p,hint⟩:=Jl;simp only at Ln l3;refine H.fnA s1 s1 Ln (by simp[aF,aJ,sY cI s1]) fun o=>?_;cases hint
 ·simp[zN];exact My H bE bZ ⟨by simp[t1],by simp[t2],by simp[t3],by simp[t4],by simp[t10]⟩ (pv:=p) (by simp) (h:=0) (by simp) (w:=w) (v:=v) (by simp[t8]) (by simp[t9]) rS s1 l3 bR sP Im ib
 ·simp[zN];exact My H bE bZ ⟨by simp[t1],by simp[t2],by simp[t3],by simp[t4],by simp[t10]⟩ (pv:=p) (by simp) (h:=1) (by simp) (w:=w) (v:=v) (by simp[t8]) (by simp[t9]) rS s1 l3 bR sP Im ib
 ·simp[zN,t1,t2,t4,Pv.look,H.slc,H.ssc];simp only[iy H,H.slc,H.ssc,im];refine H.fnD s1 (aeJ H cI s1 bp bP (by omega) bR (by omega)) (by simp[aF,aJ,sY cI s1]) fun s2 o=>?_;have aM:=Sort.reverseRange_holds cI bp bP (by omega) (by omega);have RM:((bP:Int)-1-(p-bp))=((bP-1)-(p-bp):Nat):=by omega
  simp[t1,t2,RM];(with_reducible repeat' first|refine aj ?_|simp[RM,t1,t2]);exact My H bE bZ ⟨by simp[t1],by simp[t2],by simp[t3],by simp[t4],by simp[t10]⟩ (pv:=(bP-1)-(p-bp)) (by simp) (h:=1) (by simp) (w:=w) (v:=v) (by simp[t8]) (by simp[t9]) rS s2 (by omega) bR sP (Im.perm (by omega) aM) (ib.mono aM)
end
theorem aeF(H:e7 S n g cb lc b5 lt)(gy:sa S 901)(lf:sa S 902)(bE:Sort.SWO lt)(m:Nat):∀(d:Array α) (aR:d.size=n) (a b wC:Nat) (hm:b-a≤m) (nn:a≤b) (ae:b≤n) (eV:wC≤1000) (zE:Sort.Below lt a b d),
  bV al 214 [e1 g cb lc b5,.int .i64 a,.int .i64 b,.int .i64 wC] (S d.toList) fun r ai=>r= .tuple []∧∃ca,ai=S ca.toList∧Sort.PermIn a b d ca∧Sort.SortedIn lt a b ca:=by
 induction m using Nat.strongRecOn with
 |ind m bZ=>
 intro d aR a b wC hm nn ae eV zE;have ag:=H.ok d.toList;have aw:d.toList.length=n:=by simpa using aR
 have au:∀l m,Pv.look (.loc m) (S l).b=none:=fun l=>(H.ok l).obj.1;have hu:∀l m cs,cB (.loc m) cs (S l).b=(S l).b++[(.loc m,cs)]:=fun l m cs=>j9 (au l m);have ax:∀m,aH.loc m∉cV (S d.toList):=j4 ag.obj;have hle:=H.le;refine bV.mk mixed oa adp ajU (by simp) ag.obj fun aN cT=>?_;unfold QA;simp[e1,hu,ax,cJ,au];refine H.loopA aw [4] (fun(x:((Nat×Nat×Nat)×Bool×Bool)×Array α)=>[(1,.int .i64 x.1.1.1),(2,.int .i64 x.1.1.2.1),(3,.int .i64 x.1.1.2.2),(8,.bool x.1.2.1),(9,.bool x.1.2.2)]) (·.2) (fun x=>x.1.1.2.1-x.1.1.1) (fun x=>x.2.size=n∧(x.1.1.1≤x.1.1.2.1∧x.1.1.2.1≤n∧x.1.1.2.1-x.1.1.1≤m∧x.1.1.2.2≤1000)∧Sort.Below lt x.1.1.1 x.1.1.2.1 x.2∧∀R,Sort.PermIn x.1.1.1 x.1.1.2.1 x.2 R→Sort.SortedIn lt x.1.1.1 x.1.1.2.1 R→Sort.PermIn a b d R∧Sort.SortedIn lt a b R)
  (((a,b,wC),true,true),d) aR ⟨aR,⟨nn,ae,hm,eV⟩,zE,fun R J U=>⟨J,U⟩⟩ (by simp[cJ,au]) aT aT (by simp[aF]) ?_
 rintro⟨⟨⟨bp,bP,uX⟩,aoF,wp⟩,cr⟩ ⟨aP,⟨a6,bR,dq,cS⟩,C0,Gq⟩;simp only at aP a6 bR dq cS C0 Gq;have sY:∀fS:Array α,fS.size=n→aF (inObs (S fS.toList)) (e1 g cb lc b5):=fun fS h=>H.kdata (lk:=fS.toList) (by simpa using h);have HL:∀(R:Array α) t o,Sort.PermIn bp bP cr R→Sort.SortedIn lt bp bP R→cX WW (S d.toList) (fun r ai=>r= .tuple []∧∃ca,ai=S ca.toList∧Sort.PermIn a b d ca∧Sort.SortedIn lt a b ca) .ret ⟨t,(.loc 0,[.func g lc,.func cb b5])::(S R.toList).b,(S R.toList).e,1,o⟩:=fun R t o J U=>by refine H.retA aw (by rw[J.1];exact aP) (.inl rfl) ⟨rfl,R,rfl,Gq R J U⟩
 simp;by_cases sP:bP-bp≤12
 ·have Ca:(bP:Int)-bp≤12:=by omega
  (with_reducible repeat' first|refine aj ?_|simp[Ca,Pv.look,H.slc,H.ssc]);simp only[iy H,H.slc,H.ssc,im];refine H.fnD aP (aex H cr aP bp bP a6 bR) (by simp[aF,aJ,sY cr aP]) fun s2 o=>?_;obtain⟨a7,bF⟩:=Sort.insertionSort_holds bE cr bp bP a6 (by omega);simp;exact HL _ _ _ a7 bF
 have Ca:¬(bP:Int)-bp≤12:=by omega
 by_cases zQ:uX=0
 ·have FW:(((uX:Nat):Int)==0)=true:=by simp[zQ]
  (with_reducible repeat' first|refine aj ?_|simp[Ca,FW,Pv.look,H.slc,H.ssc]);simp only[iy H,H.slc,H.ssc,im];refine H.fnD aP (aew H cr aP bp bP a6 bR (by omega)) (by simp[aF,aJ,sY cr aP]) fun s2 o=>?_;obtain⟨a7,bF⟩:=Sort.heapSort_holds bE cr bp bP a6 (by omega);simp;exact HL _ _ _ a7 bF
 have FW:(((uX:Nat):Int)==0)=false:=by simp[zQ]
 have T9:Bv S n g cb lc b5 lt (bP-bp):=fun k ad=>bZ k (by omega);cases aoF
 ·(with_reducible repeat' first|refine aj ?_|simp[Ca,FW,Pv.look,H.slc,H.ssc]);simp only[iy H,H.slc,H.ssc,im];refine H.fnD aP (aes H lf cr aP bp bP a6 bR (by omega)) (by simp[aF,aJ,sY cr aP]) fun s1 o=>?_;have En:=Sort.breakPatterns_holds cr bp bP a6 (by omega);generalize Sort.breakPatterns cr bp bP=d1 at s1 En;have el:((uX:Int)-1)=(uX-1:Nat):=by omega
  simp[el];(with_reducible repeat' first|refine aj ?_|simp[el,Pv.look]);refine Wh (lim:=uX-1) H gy bE T9 ⟨by simp,by simp,by simp,by simp,by simp⟩ (w:=false) (v:=wp) (by simp) (by simp) (by omega) s1 bR (by omega) (C0.perm (by omega) En) ⟨?_,fun R t o cN dx=>?_⟩
  ·rintro e he a2 b2 w v L t o ak aC bk dg hf hT t1 t2 t3 t4 t8 t9;rcases he with rfl|rfl<;>simp<;>exact bT.whl (((a2,b2,uX-1),w,v),L) (by simp;omega) ⟨ak,⟨aC,bk,by simp;omega,by simp;omega⟩,hf,fun R cN dx=>Gq R (Sort.permIn_trans _ _ _ bp bP En (hT R cN dx).1) (hT R cN dx).2⟩ (H.weakC aw (by simpa using ak) (by simp[aF,t1,t2,t3,t4,t8,t9]))
  ·simpa using HL R t o (Sort.permIn_trans _ _ _ bp bP En cN) dx
 ·(with_reducible repeat' first|refine aj ?_|simp[Ca,FW,Pv.look,H.slc,H.ssc]);refine Wh (lim:=uX) H gy bE T9 ⟨by simp,by simp,by simp,by simp,by simp⟩ (w:=true) (v:=wp) (by simp) (by simp) cS aP bR (by omega) C0 ⟨?_,fun R t o cN dx=>?_⟩
  ·rintro e he a2 b2 w v L t o ak aC bk dg hf hT t1 t2 t3 t4 t8 t9;rcases he with rfl|rfl<;>simp<;>exact bT.whl (((a2,b2,uX),w,v),L) (by simp;omega) ⟨ak,⟨aC,bk,by simp;omega,cS⟩,hf,fun R cN dx=>Gq R (hT R cN dx).1 (hT R cN dx).2⟩ (H.weakC aw (by simpa using ak) (by simp[aF,t1,t2,t3,t4,t8,t9]))
  ·simpa using HL R t o cN dx
end Go.Proofs.YtahlgcidhnjlbaaGreat
namespace Go.Proofs.YtahlgcidhnjlbaaGreat
open Go Go.Pv
variable {α:Type} {S:List α→cL} {n g cb:Nat} {lc b5:List ah} {lt:α→α→Bool}
theorem ah5(bE:qy lt){l lk:List α}{a b i:Nat}(np:a+1≤i)(zM:i≤b)(ae:b≤l.length)(ag:fj lt (a+1) b l){z:α}(bq:l[a]? =some z)(Cx:∀h x,a+1≤h→h<i→l[h]? =some x→lt x z=true)(Cu:∀h x,i≤h→h<b→l[h]? =some x→lt x z=false)
  (aM:∀k,lk[k]? =l[h4 a (a+1) i k]?):fj lt a b lk:=by
 intro p q x y bQ kC bh ab aG;rw[aM]at ab aG;simp only[h4]at ab aG;rw[if_neg (by omega)]at ab aG;by_cases a7:q<i-1
 ·rw[if_pos (by omega)]at ab aG;exact ag _ _ _ _ (by omega) (by omega) (by omega) ab aG
 ·rw[if_neg (by omega)]at aG;by_cases bF:q<i
  ·rw[if_pos bF,show q-(i-(a+1))=a by omega,bq]at aG;cases aG;rw[if_pos (by omega)]at ab;exact bE.asym _ _ (Cx _ _ (by omega) (by omega) ab)
  ·rw[if_neg bF]at aG;by_cases cQ:p<i-1
   ·rw[if_pos (by omega)]at ab;exact ag _ _ _ _ (by omega) (by omega) (by omega) ab aG
   ·rw[if_neg (by omega)]at ab;by_cases dy:p<i
    ·rw[if_pos dy,show p-(i-(a+1))=a by omega,bq]at ab;cases ab;exact Cu _ _ (by omega) bh aG
    ·rw[if_neg dy]at ab;exact ag _ _ _ _ (by omega) (by omega) bh ab aG
theorem ah6(bE:qy lt){l lk:List α}{a m i:Nat}(np:a≤i)(aqp:i≤m)(ae:m+1≤l.length)(ag:fj lt a m l){z:α}(bq:l[m]? =some z)(Cx:∀h x,a≤h→h<i→l[h]? =some x→lt z x=false)(Cu:∀h x,i≤h→h<m→l[h]? =some x→lt z x=true)
  (aM:∀k,lk[k]? =l[h4 i m (m+1) k]?):fj lt a (m+1) lk:=by
 intro p q x y bQ kC bh ab aG;rw[aM]at ab aG;simp only[h4]at ab aG;by_cases a7:q<i
 ·rw[if_pos (by omega)]at ab aG;exact ag _ _ _ _ bQ kC (by omega) ab aG
 ·rw[if_neg a7]at aG;by_cases bF:q=i
  ·rw[if_pos (by omega),show q+(m-i)=m by omega,bq]at aG;cases aG;rw[if_pos (by omega)]at ab;exact Cx _ _ bQ (by omega) ab
  ·rw[if_neg (by omega),if_pos (by omega)]at aG;by_cases cQ:p<i
   ·rw[if_pos cQ]at ab;exact ag _ _ _ _ bQ (by omega) (by omega) ab aG
   ·rw[if_neg cQ]at ab;by_cases dy:p=i
    ·rw[if_pos (by omega),show p+(m-i)=m by omega,bq]at ab;cases ab;exact bE.asym _ _ (Cu _ _ (by omega) (by omega) aG)
    ·rw[if_neg (by omega),if_pos (by omega)]at ab;exact ag _ _ _ _ (by omega) (by omega) (by omega) ab aG
structure Em (lt:α→α→Bool) (a s m e b mid:Nat) (lk:List α):Prop where
 s1:fj lt a s lk
 s2:fj lt s mid lk
 s3:fj lt mid e lk
 s4:fj lt e b lk
 cross:∀p q x y,a≤p→p<mid→mid≤q→q<b→lk[p]? =some x→lk[q]? =some y→lt y x=false
theorem fj.le(bE:qy lt){a b:Nat}{l:List α}(h:fj lt a b l){i j:Nat}{x y:α}(J:a≤i)(U:i≤j)(ar:j<b)(ab:l[i]? =some x)(aG:l[j]? =some y):lt y x=false:=by
 by_cases e:i=j
 ·subst e;rw[ab]at aG;cases aG;cases T6:lt x x with
  |false=>rfl
  |true=>have:=bE.asym _ _ T6;rw[T6]at this;exact this
 ·exact h _ _ _ _ J (by omega) ar ab aG
theorem aid(bE:qy lt){l lk:List α}{a m b mid s e:Nat}(has:a≤s)(fa:s≤m)(aqt:m≤e)(aqn:e≤b)(ae:b≤l.length)(lM:s+e=mid+m)(J:fj lt a m l)(U:fj lt m b l)
  (bN:s=a∨e=b∨ ∃x y,l[s-1]? =some x∧l[e]? =some y∧lt y x=false) (cq:s=m∨e=m∨ ∃x y,l[s]? =some x∧l[e-1]? =some y∧lt y x=true) (aM:∀k,lk[k]? =l[h4 s m e k]?):Em lt a s m e b mid lk:=by
 have g1:∀p,p<s→lk[p]? =l[p]?:=fun p bQ=>by rw[aM];simp[h4,bQ]
 have g2:∀p,s≤p→p<mid→lk[p]? =l[p+(m-s)]?:=fun p ar a8=>by rw[aM];simp only[h4];rw[if_neg (by omega),if_pos (by omega)]
 have g3:∀p,mid≤p→p<e→lk[p]? =l[p-(e-m)]?:=fun p ar a8=>by rw[aM];simp only[h4];rw[if_neg (by omega),if_neg (by omega),if_pos (by omega)]
 have g4:∀p,e≤p→lk[p]? =l[p]?:=fun p ar=>by
  rw[aM];simp only[h4];rw[if_neg (by omega)];by_cases b4:p<s+(e-m)
  ·omega
  ·rw[if_neg b4,if_neg (by omega)]
 refine⟨fun p q x y bQ kC bh ab aG=>?_,fun p q x y bQ kC bh ab aG=>?_,fun p q x y bQ kC bh ab aG=>?_,fun p q x y bQ kC bh ab aG=>?_,fun p q x y bQ agp bh KQ ab aG=>?_⟩
 ·rw[g1 _ (by omega)]at ab aG;exact J _ _ _ _ bQ kC (by omega) ab aG
 ·rw[g2 _ (by omega) (by omega)]at ab aG;exact U _ _ _ _ (by omega) (by omega) (by omega) ab aG
 ·rw[g3 _ (by omega) (by omega)]at ab aG;exact J _ _ _ _ (by omega) (by omega) (by omega) ab aG
 ·rw[g4 _ (by omega)]at ab aG;exact U _ _ _ _ (by omega) (by omega) (by omega) ab aG
 ·by_cases cQ:p<s
  ·rw[g1 _ cQ]at ab;by_cases a7:q<e
   ·rw[g3 _ bh a7]at aG;exact J _ _ _ _ bQ (by omega) (by omega) ab aG
   ·rw[g4 _ (by omega)]at aG;rcases bN with bN|bN|⟨u,v,aP,a6,bR⟩
    ·omega
    ·omega
    ·exact bE.ntr _ _ _ (bE.ntr _ _ _ (fj.le bE J bQ (by omega) (by omega) ab aP) bR) (fj.le bE U (by omega) (by omega) KQ a6 aG)
  ·rw[g2 _ (by omega) agp]at ab;by_cases a7:q<e
   ·rw[g3 _ bh a7]at aG;rcases cq with cq|cq|⟨u,v,aP,a6,bR⟩
    ·omega
    ·omega
    ·exact bE.ntr _ _ _ (bE.ntr _ _ _ (fj.le bE U (by omega) (by omega) (by omega) ab a6) (bE.asym _ _ bR)) (fj.le bE J (by omega) (by omega) (by omega) aP aG)
   ·rw[g4 _ (by omega)]at aG;exact U _ _ _ _ (by omega) (by omega) KQ ab aG
theorem aie{a mid b:Nat}(Ci:a≤mid){lk j2 gF:List α}(J:gw a mid lk j2)(s1:fj lt a mid j2)(U:gw mid b j2 gF)(s2:fj lt mid b gF)(aaR:∀p q x y,a≤p→p<mid→mid≤q→q<b→lk[p]? =some x→lk[q]? =some y→lt y x=false):fj lt a b gF:=by
 intro p q x y bQ kC bh ab aG;by_cases ar:q<mid
 ·rw[U.out _ (.inl (by omega))]at ab;rw[U.out _ (.inl (by omega))]at aG;exact s1 _ _ _ _ bQ kC ar ab aG
 ·by_cases a8:mid≤p
  ·exact s2 _ _ _ _ a8 kC bh ab aG
  ·rw[U.out _ (.inl (by omega))]at ab;refine U.all (fun y=>lt y x=false) (fun k y gy lf aG=>?_) q y (by omega) bh aG;rw[J.out _ (.inr gy)]at aG;exact J.all (fun x=>lt y x=false) (fun bH x afQ afR ab=>aaR bH k x y afQ afR gy lf ab aG) p x bQ (by omega) ab
end Go.Proofs.YtahlgcidhnjlbaaGreat
namespace Go.Proofs.YtahlgcidhnjlbaaGreat
open Go Go.Pv
variable {α:Type} {S:List α→cL} {n g cb:Nat} {lc b5:List ah} {lt:α→α→Bool}
def amX(lt:α→α→Bool)(l:List α)(mid m s0 r0:Nat)(x:Nat×Nat):Prop:=s0≤x.1∧x.1≤x.2∧x.2≤r0∧(x.1=s0∨ ∃u v,l[x.1-1]? =some u∧l[mid+m-x.1]? =some v∧lt v u=false)∧(x.2=r0∨ ∃u v,l[x.2]? =some u∧l[mid+m-x.2-1]? =some v∧lt v u=true)
attribute [local simp] pC
def Eu(S:List α→cL)(n g cb:Nat)(lc b5:List ah)(lt:α→α→Bool)(d:Nat):Prop:=
 ∀(l:List α) (a m b:Nat),l.length=n→b-a≤d→a<m→m<b→b≤n→fj lt a m l→fj lt m b l→
  bV al 232 [e1 g cb lc b5,.int .i64 a,.int .i64 m,.int .i64 b] (S l) fun r ai=>r= .tuple []∧∃a1,ai=S a1∧gw a b l a1∧fj lt a b a1
def Ev(S:List α→cL)(g cb:Nat)(lc b5:List ah)(lt:α→α→Bool)(a b:Nat)(l:List α)(Q:Exit→bs→Prop):Prop:=∀gF t o,gw a b l gF→fj lt a b gF→Q .normal ⟨t,(.loc 0,[.func g lc,.func cb b5])::(S gF).b,(S gF).e,1,o⟩
section
variable {a m b mid i e d:Nat} {l:List α} {t:List (Nat×ah)} {o:List aH} {ob:List aH} {Q:Exit→bs→Prop}
theorem amC(H:e7 S n g cb lc b5 lt)(bZ:Eu S n g cb lc b5 lt d)(t3:Pv.get 3 t= .int .i64 b)(t4:Pv.get 4 t= .ptr (.loc 0) 0)(t16:Pv.get 16 t= .int .i64 mid)(t22:Pv.get 22 t= .int .i64 e)(aw:l.length=n)(J:mid≤e)(U:e≤b)(ae:b≤n)(aR:b-mid≤d)(TV:fj lt mid e l)(TW:fj lt e b l)(ib:Ev S g cb lc b5 lt mid b l Q):
  c0 al ob EX Q ⟨t,(.loc 0,[.func g lc,.func cb b5])::(S l).b,(S l).e,1,o⟩:=by
 unfold EX;by_cases lE:mid<e∧e<b
 ·simp[t3,t4,t16,t22,lE.1,lE.2,Pv.look];simp only[iy H,H.slc,H.ssc,im];refine H.doFn aw (bZ l mid e b aw aR lE.1 lE.2 ae TV TW) (fun a1 h=>by rw[h.1.length];exact aw) (by simp[aJ,aF,H.kdata aw]) ?_;rintro gF ⟨k6,z2⟩;simp;exact ib _ _ _ k6 z2
 ·have p8:fj lt mid b l:=by
   by_cases pE:mid<e
   ·rwa[show e=b by omega]at TV
   ·rwa[show e=mid by omega]at TW
  by_cases pE:mid<e
  ·have afh:¬e<b:=by omega
   simp[t3,t16,t22,pE,afh];exact ib _ _ _ (.refl _) p8
  ·simp[t16,t22,pE];exact ib _ _ _ (.refl _) p8
theorem amD(H:e7 S n g cb lc b5 lt)(bZ:Eu S n g cb lc b5 lt d)(t1:Pv.get 1 t= .int .i64 a)(t3:Pv.get 3 t= .int .i64 b)(t4:Pv.get 4 t= .ptr (.loc 0) 0)(t16:Pv.get 16 t= .int .i64 mid)(t18:Pv.get 18 t= .int .i64 i)(t22:Pv.get 22 t= .int .i64 e)(aw:l.length=n)(bD:a≤i∧i≤mid∧a≤m)(J:mid≤e)(U:e≤b)(ae:b≤n)(aR:b-mid≤d)(mB:mid-a≤d)(ec:Em lt a i m e b mid l)(ib:Ev S g cb lc b5 lt a b l Q):
  c0 al ob EY Q ⟨t,(.loc 0,[.func g lc,.func cb b5])::(S l).b,(S l).e,1,o⟩:=by
 unfold EY;have next:∀{j2 t o},Pv.get 3 t= .int .i64 b→Pv.get 4 t= .ptr (.loc 0) 0→Pv.get 16 t= .int .i64 mid→Pv.get 22 t= .int .i64 e→j2.length=n→gw a mid l j2→fj lt a mid j2→c0 al ob EX Q ⟨t,(.loc 0,[.func g lc,.func cb b5])::(S j2).b,(S j2).e,1,o⟩:=fun ak aC bk dg xU cQ dy=>by
  refine amC H bZ ak aC bk dg xU J U ae aR (fun p q x y J U ar ab aG=>?_) (fun p q x y J U ar ab aG=>?_) fun gF t o a7 bF=>?_
  ·rw[cQ.out _ (.inr J)]at ab;rw[cQ.out _ (.inr (by omega))]at aG;exact ec.s3 p q x y J U ar ab aG
  ·rw[cQ.out _ (.inr (by omega))]at ab;rw[cQ.out _ (.inr (by omega))]at aG;exact ec.s4 p q x y J U ar ab aG
  ·exact ib gF t o ((cQ.mono (by omega) (by omega)).trans (a7.mono (by omega) (by omega))) (aie (by omega) cQ dy a7 bF ec.cross)
 by_cases ld:a<i∧i<mid
 ·simp[t1,t4,t16,t18,ld.1,ld.2,Pv.look];simp only[iy H,H.slc,H.ssc,im];refine H.doFn aw (bZ l a i mid aw mB ld.1 ld.2 (by omega) ec.s1 ec.s2) (fun a1 h=>by rw[h.1.length];exact aw) (by simp[aJ,aF,H.kdata aw]) ?_;rintro j2 ⟨cQ,dy⟩;simp;exact next (by simp[t3]) (by simp[t4]) (by simp[t16]) (by simp[t22]) (by rw[cQ.length];exact aw) cQ dy
 ·have dy:fj lt a mid l:=by
   by_cases p3:a<i
   ·have:=ec.s1;rwa[show i=mid by omega]at this
   ·have:=ec.s2;rwa[show i=a by omega]at this
  by_cases p3:a<i
  ·have FG:¬i<mid:=by omega
   simp[t1,t16,t18,p3,FG];exact next (by simp[t3]) (by simp[t4]) (by simp[t16]) (by simp[t22]) aw (.refl _) dy
  ·simp[t1,t18,p3];exact next (by simp[t3]) (by simp[t4]) (by simp[t16]) (by simp[t22]) aw (.refl _) dy
theorem amE(H:e7 S n g cb lc b5 lt)(bZ:Eu S n g cb lc b5 lt d)(t1:Pv.get 1 t= .int .i64 a)(t2:Pv.get 2 t= .int .i64 m)(t3:Pv.get 3 t= .int .i64 b)(t4:Pv.get 4 t= .ptr (.loc 0) 0)(t16:Pv.get 16 t= .int .i64 mid)(t18:Pv.get 18 t= .int .i64 i)(t22:Pv.get 22 t= .int .i64 e)(aw:l.length=n)(bD:a≤i∧i≤mid∧a≤m)(J:mid≤e)(U:e≤b)(ae:b≤n)(aR:b-mid≤d)(mB:mid-a≤d)(TC:∀lk:List α,(∀k,lk[k]? =l[h4 i m e k]?)→Em lt a i m e b mid lk)(ib:Ev S g cb lc b5 lt a b l Q):
  c0 al ob Jc Q ⟨t,(.loc 0,[.func g lc,.func cb b5])::(S l).b,(S l).e,1,o⟩:=by
 unfold Jc;have next:∀{lk t o},Pv.get 1 t= .int .i64 a→Pv.get 3 t= .int .i64 b→Pv.get 4 t= .ptr (.loc 0) 0→Pv.get 16 t= .int .i64 mid→Pv.get 18 t= .int .i64 i→Pv.get 22 t= .int .i64 e→lk.length=n→Em lt a i m e b mid lk→gw a b l lk→c0 al ob EY Q ⟨t,(.loc 0,[.func g lc,.func cb b5])::(S lk).b,(S lk).e,1,o⟩:=fun ak aC bk dg hf hT hM ec afe=>amD H bZ ak aC bk dg hf hT hM bD J U ae aR mB ec fun gF t o a7 bF=>ib gF t o (afe.trans a7) bF
 by_cases pF:i<m∧m<e
 ·simp[t2,t4,t18,t22,pF.1,pF.2,Pv.look];simp only[iy H,H.slc,H.ssc,im];refine H.doFn aw (aeK H l aw i m e pF.1 pF.2 (by omega)) (fun a1 h=>by rw[h.1.length];exact aw) (by simp[aJ,aF,H.kdata aw]) ?_;rintro lk ⟨a7,bF⟩;simp;exact next (by simp[t1]) (by simp[t3]) (by simp[t4]) (by simp[t16]) (by simp[t18]) (by simp[t22]) (by rw[a7.length];exact aw) (TC lk bF) (a7.mono (by omega) (by omega))
 ·have ec:=TC l (fun k=>by
   congr 1;simp only[h4];repeat' split
   all_goals omega)
  by_cases mD:i<m
  ·have agr:¬m<e:=by omega
   simp[t2,t18,t22,mD,agr];exact next (by simp[t1]) (by simp[t3]) (by simp[t4]) (by simp[t16]) (by simp[t18]) (by simp[t22]) aw ec (.refl _)
  ·simp[t2,t18,mD];exact next (by simp[t1]) (by simp[t3]) (by simp[t4]) (by simp[t16]) (by simp[t18]) (by simp[t22]) aw ec (.refl _)
theorem XG{bb:List (aH×List ah)}(H:e7 S n g cb lc b5 lt)(vP:Pv.look (.loc 0) bb=some [.func g lc,.func cb b5])(cT:∀k cs,Pv.look k (S l).b=some cs→Pv.look k bb=some cs)(bE:qy lt)(bZ:Eu S n g cb lc b5 lt d){s0 r0:Nat}(t1:Pv.get 1 t= .int .i64 a)(t2:Pv.get 2 t= .int .i64 m)(t3:Pv.get 3 t= .int .i64 b)(t4:Pv.get 4 t= .ptr (.loc 0) 0)(t16:Pv.get 16 t= .int .i64 mid)(t17:Pv.get 17 t= .int .i64 ((mid:Int)+m))(t18:Pv.get 18 t= .int .i64 s0)(t19:Pv.get 19 t= .int .i64 r0)(aw:l.length=n)(bD:a<m∧m<b∧mid=(a+b)/2)(J:mid<m∧s0=mid+m-b∧r0=mid∨m≤mid∧s0=a∧r0=m)(ae:b≤n)(aR:b-a≤d+1)(kD:fj lt a m l)(pG:fj lt m b l)(ib:Ev S g cb lc b5 lt a b l Q):
  c0 al (cV (S l)) Jd Q ⟨t,bb,(S l).e,1,o⟩:=by
 have hle:=H.le;unfold Jd;simp[t17];(with_reducible repeat' first|refine aj ?_|simp[t17]);refine oC (fun(x:Nat×Nat)=>⟨[(1,.int .i64 a),(2,.int .i64 m),(3,.int .i64 b),(4,.ptr (.loc 0) 0),(16,.int .i64 mid),(17,.int .i64 (mid+m)),(20,.int .i64 (mid+m-1)),(18,.int .i64 x.1),(19,.int .i64 x.2)],(.loc 0,[.func g lc,.func cb b5])::(S l).b,(S l).e,1,cV (S l)⟩) (fun x=>x.2-x.1)
  (amX lt l mid m s0 r0) (s0,r0) (H.weak aw aw (by simp[aF,t1,t2,t3,t4,t16,t17,t18,t19]) vP cT fun _ _ h=>h) ⟨by simp,by simp;omega,by simp,.inl rfl,.inl rfl⟩ ?_
 rintro⟨i,j⟩ ⟨aP,a6,bR,dq,cS⟩ _;simp only at aP a6 bR dq cS;have oS:=FI i j (by omega);by_cases l7:i<j
 ·simp[l7];(with_reducible repeat' first|refine aj ?_|simp[Pv.look]);obtain⟨c,ay⟩:∃c,c=(i+j)/2:=⟨_,rfl⟩;rw[←ay]at oS;simp only[oS];(with_reducible repeat' first|refine aj ?_|simp[Pv.look]);obtain⟨u,K6⟩:∃u,l[c]? =some u:=⟨_,cl (by omega)⟩;obtain⟨v,K7⟩:∃v,l[mid+m-1-c]? =some v:=⟨_,cl (by omega)⟩;have dg:((mid:Int)+m-1-c)=(mid+m-1-c:Nat):=by omega
  simp only[H.slc,dg];refine H.doLess aw (mid+m-1-c) c K7 K6 ?_;simp;cases r1:lt v u with
  |false=>simp;(with_reducible repeat' first|refine aj ?_|simp);refine bT.whl (c+1,j) (by simp;omega) ⟨by simp;omega,by simp;omega,bR,.inr ⟨u,v,by simpa using K6,?_,r1⟩,cS⟩ (H.weakC aw aw (by simp[aF]));simp only;rw[show mid+m-(c+1)=mid+m-1-c by omega];exact K7
  |true=>simp;(with_reducible repeat' first|refine aj ?_|simp);refine bT.whl (i,c) (by simp;omega) ⟨aP,by simp;omega,by simp;omega,dq,.inr ⟨u,v,K6,?_,r1⟩⟩ (H.weakC aw aw (by simp[aF]));simp only;rw[show mid+m-c-1=mid+m-1-c by omega];exact K7
 ·obtain rfl:i=j:=by omega
  obtain⟨e,he⟩:∃e,e=mid+m-i:=⟨_,rfl⟩;have hf:((mid:Int)+m-i)=(e:Nat):=by omega
  have bN:i=a∨e=b∨ ∃x y,l[i-1]? =some x∧l[e]? =some y∧lt y x=false:=by
   rcases dq with dq|⟨u,v,a7,bF,b0⟩
   ·omega
   ·exact .inr (.inr ⟨u,v,a7,by rw[he];exact bF,b0⟩)
  have cq:i=m∨e=m∨ ∃x y,l[i]? =some x∧l[e-1]? =some y∧lt y x=true:=by
   rcases cS with cS|⟨u,v,a7,bF,b0⟩
   ·omega
   ·exact .inr (.inr ⟨u,v,a7,by rw[he];exact bF,b0⟩)
  simp[l7];(with_reducible repeat' first|refine aj ?_|simp);rw[hf];exact amE H bZ (a:=a) (m:=m) (b:=b) (mid:=mid) (i:=i) (e:=e) (by simp) (by simp) (by simp) (by simp) (by simp) (by simp) (by simp) aw (by omega) (by omega) (by omega) ae (by omega) (by omega) (fun lk aM=>aid bE (by omega) (by omega) (by omega) (by omega) (by omega) (by omega) kD pG bN cq aM) ib
end
theorem SL(H:e7 S n g cb lc b5 lt)(bE:qy lt)(d:Nat):∀(l:List α) (a m b:Nat),l.length=n→b-a≤d→a<m→m<b→b≤n→fj lt a m l→fj lt m b l→
  bV al 232 [e1 g cb lc b5,.int .i64 a,.int .i64 m,.int .i64 b] (S l) fun r ai=>r= .tuple []∧∃a1,ai=S a1∧gw a b l a1∧fj lt a b a1:=by
 induction d with
 |zero=>intro l a m b aw aR Ci l9;omega
 |succ d bZ=>
 intro l a m b aw aR Ci l9 ae kD pG;have ag:=H.ok l;have au:∀l m,Pv.look (.loc m) (S l).b=none:=fun l=>(H.ok l).obj.1;have hu:∀l m cs,cB (.loc m) cs (S l).b=(S l).b++[(.loc m,cs)]:=fun l m cs=>j9 (au l m);have ax:∀m,aH.loc m∉cV (S l):=j4 ag.obj;have hle:=H.le;refine bV.mk mixed Bg adv aj0 (by simp) ag.obj fun aN cT=>?_;unfold QG;simp[e1,hu,ax,cJ,au];(with_reducible repeat' first|((first|apply bK|apply bM|apply bL)<;>intro h<;>try simp at h)|refine aj ?_|simp[hu,ax,cJ,au])
 ·obtain rfl:m=a+1:=by omega
  have KU:∀k,h4 a (a+1) (a+1) k=k:=by
   intro k;simp only[h4];repeat' split
   all_goals omega
  obtain⟨z,bq⟩:∃z,l[a]? =some z:=⟨_,cl (by omega)⟩;refine oC (fun(x:Nat×Nat)=>⟨[(1,.int .i64 a),(4,.ptr (.loc 0) 0),(8,.int .i64 x.1),(9,.int .i64 x.2)],(.loc 0,[.func g lc,.func cb b5])::(S l).b,(S l).e,1,cV (S l)⟩) (fun x=>x.2-x.1)
   (fun x=>a+1≤x.1∧x.1≤x.2∧x.2≤b∧(∀h y,a+1≤h→h<x.1→l[h]? =some y→lt y z=true)∧(∀h y,x.2≤h→h<b→l[h]? =some y→lt y z=false)) (a+1,b)
   (H.weak aw aw (by simp[aF]) (by simp[cJ,au]) aT aT) ⟨by simp,by simp;omega,by simp,fun h y J U=>by simp at U;omega,fun h y J U=>by simp at J;omega⟩ ?_
  rintro⟨i,j⟩ ⟨aP,a6,bR,dq,cS⟩ _;simp only at aP a6 bR dq cS;have hw:=FI i j (by omega);simp[Pv.look];(with_reducible repeat' first|((first|apply bK|apply bM|apply bL)<;>intro h<;>try simp at h)|refine aj ?_|simp[Pv.look])
  ·obtain⟨c,ay⟩:∃c,c=(i+j)/2:=⟨_,rfl⟩;rw[←ay]at hw;obtain⟨y,aG⟩:∃y,l[c]? =some y:=⟨_,cl (by omega)⟩;simp only[hw,H.slc];refine H.doLess aw c a aG bq ?_;simp;cases r1:lt y z with
   |true=>
    simp;(with_reducible repeat' first|refine aj ?_|simp);refine bT.whl (c+1,j) (by simp;omega) ⟨by simp;omega,by simp;omega,bR,fun h u J U hu=>?_,cS⟩ (H.weakC aw aw (by simp[aF]));cases e:lt u z with
    |true=>rfl
    |false=>simp only at U;have:=bE.ntr _ _ _ e (fj.le bE pG J (by omega) (by omega) hu aG);rw[r1]at this;cases this
   |false=>simp;(with_reducible repeat' first|refine aj ?_|simp);refine bT.whl (i,c) (by simp;omega) ⟨aP,by simp;omega,by simp;omega,dq,fun h u J U hu=>?_⟩ (H.weakC aw aw (by simp[aF]));exact bE.ntr _ _ _ r1 (fj.le bE pG (by omega) J U aG hu)
  ·obtain rfl:i=j:=by omega
   refine oC (fun(x:Nat×List α)=>⟨[(4,.ptr (.loc 0) 0),(8,.int .i64 i),(11,.int .i64 x.1)],(.loc 0,[.func g lc,.func cb b5])::(S x.2).b,(S x.2).e,1,cV (S l)⟩) (fun x=>i-x.1)
    (fun x=>x.2.length=n∧a≤x.1∧x.1<i∧gw a b l x.2∧∀k,x.2[k]? =l[h4 a (a+1) (x.1+1) k]?) (a,l)
    (H.weakC aw aw (by simp[aF])) ⟨aw,by simp,by simp;omega,.refl _,fun k=>by simp[KU]⟩ ?_
   rintro⟨k,lk⟩ ⟨a7,bF,b0,cZ,df⟩ _;simp only at a7 bF b0 cZ df;simp[Pv.look];((with_reducible repeat' first|refine aj ?_|simp[Pv.look]|((first|apply bK|apply bM|apply bL)<;>intro h<;>try simp at h))<;>(try exact cc))
   ·have bk:((k:Int)+1)=(k+1:Nat):=by omega
    rw[H.ssc,bk];refine H.doSwap a7 k (k+1) (by omega) (by omega) (by omega) ?_;simp;(with_reducible repeat' first|((first|apply bK|apply bM|apply bL)<;>intro h<;>try simp at h)|refine aj ?_|simp);refine bT.whl (k+1,hl lk k (k+1)) (by simp;omega) ⟨by simp[a7],by simp;omega,by simp;omega,.step cZ (by omega) (by omega) (by omega) (by omega) (by omega) (by omega),fun t=>?_⟩ (H.weakC aw (by simp[a7]) (by simp[aF]));rw[Ar _ _ _ _ (by omega) (by omega),df,df,df];have:h4 a (a+1) (k+1+1) t=if t=k then h4 a (a+1) (k+1) (k+1)else if t=k+1 then h4 a (a+1) (k+1) k else h4 a (a+1) (k+1) t:=by
     simp only[h4];repeat' split
     all_goals omega
    rw[this];split
    ·rfl
    ·split<;>rfl
   ·obtain rfl:i=k+1:=by omega
    refine H.ret aw a7 (.inl rfl) ⟨rfl,lk,rfl,cZ,ah5 bE (by omega) bR (by omega) pG bq dq cS df⟩
 ·obtain rfl:b=m+1:=by omega
  have KU:∀k,h4 m m (m+1) k=k:=by
   intro k;simp only[h4];repeat' split
   all_goals omega
  obtain⟨z,bq⟩:∃z,l[m]? =some z:=⟨_,cl (by omega)⟩;refine oC (fun(x:Nat×Nat)=>⟨[(2,.int .i64 m),(4,.ptr (.loc 0) 0),(12,.int .i64 x.1),(13,.int .i64 x.2)],(.loc 0,[.func g lc,.func cb b5])::(S l).b,(S l).e,1,cV (S l)⟩) (fun x=>x.2-x.1)
   (fun x=>a≤x.1∧x.1≤x.2∧x.2≤m∧(∀h y,a≤h→h<x.1→l[h]? =some y→lt z y=false)∧(∀h y,x.2≤h→h<m→l[h]? =some y→lt z y=true)) (a,m)
   (H.weak aw aw (by simp[aF]) (by simp[cJ,au]) aT aT) ⟨by simp,by simp;omega,by simp,fun h y J U=>by simp at U;omega,fun h y J U=>by simp at J;omega⟩ ?_
  rintro⟨i,j⟩ ⟨aP,a6,bR,dq,cS⟩ _;simp only at aP a6 bR dq cS;have hw:=FI i j (by omega);simp[Pv.look];(with_reducible repeat' first|((first|apply bK|apply bM|apply bL)<;>intro h<;>try simp at h)|refine aj ?_|simp[Pv.look])
  ·obtain⟨c,ay⟩:∃c,c=(i+j)/2:=⟨_,rfl⟩;rw[←ay]at hw;obtain⟨y,aG⟩:∃y,l[c]? =some y:=⟨_,cl (by omega)⟩;simp only[hw,H.slc];refine H.doLess aw m c bq aG ?_;simp;cases r1:lt z y with
   |false=>simp;((with_reducible repeat' first|refine aj ?_|simp|((first|apply bK|apply bM|apply bL)<;>intro h<;>try simp at h))<;>(try exact cc));refine bT.whl (c+1,j) (by simp;omega) ⟨by simp;omega,by simp;omega,bR,fun h u J U hu=>?_,cS⟩ (H.weakC aw aw (by simp[aF]));simp only at U;exact bE.ntr _ _ _ (fj.le bE kD J (by omega) (by omega) hu aG) r1
   |true=>
    simp;((with_reducible repeat' first|refine aj ?_|simp|((first|apply bK|apply bM|apply bL)<;>intro h<;>try simp at h))<;>(try exact cc));refine bT.whl (i,c) (by simp;omega) ⟨aP,by simp;omega,by simp;omega,dq,fun h u J U hu=>?_⟩ (H.weakC aw aw (by simp[aF]));cases e:lt z u with
    |true=>rfl
    |false=>have:=bE.ntr _ _ _ (fj.le bE kD (by omega) J U aG hu) e;rw[r1]at this;cases this
  ·obtain rfl:i=j:=by omega
   refine oC (fun(x:Nat×List α)=>⟨[(4,.ptr (.loc 0) 0),(12,.int .i64 i),(15,.int .i64 x.1)],(.loc 0,[.func g lc,.func cb b5])::(S x.2).b,(S x.2).e,1,cV (S l)⟩) (fun x=>x.1)
    (fun x=>x.2.length=n∧i≤x.1∧x.1≤m∧gw a (m+1) l x.2∧∀k,x.2[k]? =l[h4 x.1 m (m+1) k]?) (m,l)
    (H.weakC aw aw (by simp[aF])) ⟨aw,by simp;omega,by simp,.refl _,fun k=>by simp[KU]⟩ ?_
   rintro⟨k,lk⟩ ⟨a7,bF,b0,cZ,df⟩ _;simp only at a7 bF b0 cZ df;simp[Pv.look];((with_reducible repeat' first|refine aj ?_|simp[Pv.look]|((first|apply bK|apply bM|apply bL)<;>intro h<;>try simp at h))<;>(try exact cc))
   ·have bk:((k:Int)-1)=(k-1:Nat):=by omega
    rw[H.ssc,bk];refine H.doSwap a7 k (k-1) (by omega) (by omega) (by omega) ?_;simp;(with_reducible repeat' first|refine aj ?_|simp);refine bT.whl (k-1,hl lk k (k-1)) (by simp;omega) ⟨by simp[a7],by simp;omega,by simp;omega,.step cZ (by omega) (by omega) (by omega) (by omega) (by omega) (by omega),fun t=>?_⟩ (H.weakC aw (by simp[a7]) (by simp[aF];omega));rw[Ar _ _ _ _ (by omega) (by omega),df,df,df];have:h4 (k-1) m (m+1) t=if t=k then h4 k m (m+1) (k-1)else if t=k-1 then h4 k m (m+1) k else h4 k m (m+1) t:=by
     simp only[h4];repeat' split
     all_goals omega
    rw[this];split
    ·rfl
    ·split<;>rfl
   ·obtain rfl:i=k:=by omega
    refine H.ret aw a7 (.inl rfl) ⟨rfl,lk,rfl,cZ,ah6 bE (by omega) bR (by omega) kD bq dq cS df⟩
 ·obtain⟨mid,KH⟩:∃mid,mid=(a+b)/2:=⟨_,rfl⟩;have hw:=FI a b (by omega);rw[←KH]at hw;simp only[hw];(with_reducible repeat' first|((first|apply bK|apply bM|apply bL)<;>intro h<;>try simp at h)|refine aj ?_|simp[hu,ax,cJ,au])
  ·exact XG (s0:=mid+m-b) (r0:=mid) H (by simp[cJ,au]) aT bE bZ (a:=a) (m:=m) (b:=b) (mid:=mid) (by simp) (by simp) (by simp) (by simp) (by simp) (by simp) (by simp;omega) (by simp) aw ⟨Ci,l9,KH⟩ (by omega) ae aR kD pG fun gF t o a7 bF=>H.ret aw (by rw[a7.length];exact aw) (.inr rfl) ⟨rfl,gF,rfl,a7,bF⟩
  ·exact XG (s0:=a) (r0:=m) H (by simp[cJ,au]) aT bE bZ (a:=a) (m:=m) (b:=b) (mid:=mid) (by simp) (by simp) (by simp) (by simp) (by simp) (by simp) (by simp) (by simp) aw ⟨Ci,l9,KH⟩ (by omega) ae aR kD pG fun gF t o a7 bF=>H.ret aw (by rw[a7.length];exact aw) (.inr rfl) ⟨rfl,gF,rfl,a7,bF⟩
end Go.Proofs.YtahlgcidhnjlbaaGreat
namespace Go.Proofs.YtahlgcidhnjlbaaGreat
open Go Go.Pv
variable {α:Type} {S:List α→cL} {n g cb:Nat} {lc b5:List ah} {lt:α→α→Bool}
def pb(lt:α→α→Bool)(z a b:Nat)(l:List α):Prop:= ∀i j x y,a≤i→i<j→j<b→i/z=j/z→l[i]? =some x→l[j]? =some y→lt y x=false
theorem pb.snoc{z q:Nat}(bq:0<z){l a1:List α}(h:pb lt z 0 (q*z) l){b:Nat}(ag:gw (q*z) b l a1)(U:fj lt (q*z) b a1):pb lt z 0 b a1:=by
 intro i j x y hi l7 af aR ab aG;by_cases Tr:j<q*z
 ·rw[ag.out _ (.inl (by omega))]at ab;rw[ag.out _ (.inl Tr)]at aG;exact h i j x y hi l7 Tr aR ab aG
 ·have ar:q≤j/z:=(Nat.le_div_iff_mul_le bq).2 (by omega);have a8:q*z≤i:=(Nat.le_div_iff_mul_le bq).1 (by omega);exact U i j x y a8 l7 af ab aG
theorem pb.srt{z q:Nat}(bq:0<z){l:List α}{a b:Nat}(h:pb lt z a b l){c:Nat}(aqh:a≤q*z)(ay:c≤(q+1)*z)(aqj:c≤b):fj lt (q*z) c l:=by intro i j x y hi l7 af ab aG;have hL:i/z=q:=Nat.div_eq_of_lt_le hi (by omega);have p5:j/z=q:=Nat.div_eq_of_lt_le (by omega) (by omega);exact h i j x y (by omega) l7 (by omega) (by omega) ab aG
theorem pb.after{z a b bp bP:Nat}{l a1:List α}(h:pb lt z a b l)(ag:gw a bp l a1)(br:a≤bp)(ae:bP≤b):pb lt z bp bP a1:=by intro i j x y hi l7 af aR ab aG;rw[ag.out _ (.inr (by omega))]at ab;rw[ag.out _ (.inr (by omega))]at aG;exact h i j x y (by omega) l7 (by omega) aR ab aG
theorem Ka(H:e7 S n g cb lc b5 lt)(bE:qy lt)(l:List α)(aw:l.length=n):
  bV al 199 [e1 g cb lc b5,.int .i64 n] (S l) fun r ai=>r= .tuple []∧∃a1,ai=S a1∧gw 0 n l a1∧fj lt 0 n a1:=by
 have ag:=H.ok l;have au:∀l m,Pv.look (.loc m) (S l).b=none:=fun l=>(H.ok l).obj.1;have hu:∀l m cs,cB (.loc m) cs (S l).b=(S l).b++[(.loc m,cs)]:=fun l m cs=>j9 (au l m);have ax:∀m,aH.loc m∉cV (S l):=j4 ag.obj;have hle:=H.le;refine bV.mk mixed Bg adt ajY (by simp) ag.obj fun aN cT=>?_;unfold QE;simp[e1,hu,ax,cJ,au];refine oC (fun(x:Nat×List α)=>⟨[(1,.int .i64 n),(2,.ptr (.loc 0) 0),(4,.int .i64 20),(5,.int .i64 (x.1*20)),(6,.int .i64 (x.1*20+20))],(.loc 0,[.func g lc,.func cb b5])::(S x.2).b,(S x.2).e,1,cV (S l)⟩) (fun x=>n+20-x.1*20)
  (fun x=>x.2.length=n∧x.1*20≤n∧gw 0 n l x.2∧pb lt 20 0 (x.1*20) x.2) (0,l)
  (H.weak aw aw (by simp[aF]) (by simp[cJ,au]) aT aT) ⟨aw,by simp,.refl _,fun i j x y J U ar=>by simp at ar⟩ ?_
 rintro⟨q,lk⟩ ⟨J,U,ar,a8⟩ _;simp only at J U ar a8;simp[Pv.look];((with_reducible repeat' first|refine aj ?_|simp[Pv.look]|((first|apply bK|apply bM|apply bL)<;>intro h<;>try simp at h))<;>(try exact cc))
 ·have ak:((q:Int)*20)=(q*20:Nat):=by omega
  have aC:((q:Int)*20+20)=(q*20+20:Nat):=by omega
  simp only[iy H,H.slc,H.ssc,im,aC];simp only[ak];refine H.doFn J (SE H bE lk J (q*20) (q*20+20) (by omega) (by omega)) (fun a1 h=>by rw[h.1.length];exact J) (by simp[aJ,aF,H.kdata J]) ?_;rintro a1 ⟨cQ,dy⟩;have sZ:a1.length=n:=by rw[cQ.length];exact J
  simp;((with_reducible repeat' first|refine aj ?_|simp|((first|apply bK|apply bM|apply bL)<;>intro h<;>try simp at h))<;>(try exact cc));refine bT.whl (q+1,a1) (by simp;omega) ⟨sZ,by simp;omega,ar.trans (cQ.mono (by omega) (by omega)),?_⟩ (H.weakC aw sZ (by simp[aF];omega));have:=a8.snoc (by omega) cQ dy;rwa[show q*20+20=(q+1)*20 by omega]at this
 ·have ak:((q:Int)*20)=(q*20:Nat):=by omega
  simp only[iy H,H.slc,H.ssc,im,ak];refine H.doFn J (SE H bE lk J (q*20) n (by omega) (by omega)) (fun a1 h=>by rw[h.1.length];exact J) (by simp[aJ,aF,H.kdata J]) ?_;rintro a1 ⟨cQ,dy⟩;have sZ:a1.length=n:=by rw[cQ.length];exact J
  have fs:=a8.snoc (by omega) cQ dy;simp;refine oC (fun(x:Nat×List α)=>⟨[(1,.int .i64 n),(2,.ptr (.loc 0) 0),(4,.int .i64 x.1)],(.loc 0,[.func g lc,.func cb b5])::(S x.2).b,(S x.2).e,1,cV (S l)⟩) (fun x=>1099511627776-x.1)
   (fun x=>x.2.length=n∧20≤x.1∧x.1≤2*n+20∧gw 0 n l x.2∧pb lt x.1 0 n x.2) (20,a1)
   (H.weakC aw sZ (by simp[aF])) ⟨sZ,by simp,by simp,ar.trans (cQ.mono (by omega) (by omega)),fs⟩ ?_
  rintro⟨z,Vf⟩ ⟨k6,z2,z3,z4,z5⟩ _;simp only at k6 z2 z3 z4 z5;simp[Pv.look];((with_reducible repeat' first|refine aj ?_|simp[Pv.look]|((first|apply bK|apply bM|apply bL)<;>intro h<;>try simp at h))<;>(try exact cc))
  ·refine oC (fun(x:Nat×List α)=>⟨[(1,.int .i64 n),(2,.ptr (.loc 0) 0),(4,.int .i64 z),(5,.int .i64 (x.1*(2*z):Nat)),(6,.int .i64 (x.1*(2*z)+2*z:Nat))],(.loc 0,[.func g lc,.func cb b5])::(S x.2).b,(S x.2).e,1,cV (S l)⟩) (fun x=>n+2*z-x.1*(2*z))
    (fun x=>x.2.length=n∧x.1*(2*z)≤n∧gw 0 n l x.2∧pb lt (2*z) 0 (x.1*(2*z)) x.2∧pb lt z (x.1*(2*z)) n x.2) (0,Vf)
    (H.weakC aw k6 (by simp[aF])) ⟨k6,by simp,z4,fun i j x y J U ar=>by simp at ar,by simpa using z5⟩ ?_
   rintro⟨p,C6⟩ ⟨eP,dC,o6,mS,Ed⟩ _;simp only at eP dC o6 mS Ed;obtain⟨A,bm⟩:∃A,A=p*(2*z):=⟨_,rfl⟩;have FE:A=(2*p)*z:=by rw[bm,Nat.mul_comm 2 p,Nat.mul_assoc]
   have Ke:(2*p+1)*z=A+z:=by rw[pV,←FE,Nat.one_mul]
   have ae3:(2*p+2)*z=A+2*z:=by rw[pV,←FE]
   have zB:(p+1)*(2*z)=A+2*z:=by rw[pV,←bm,Nat.one_mul]
   have kD:∀c,c≤A+z→c≤n→fj lt A c C6:=fun c ay oI=>by have:=pb.srt (q:=2*p) (by omega) Ed (c:=c) (by rw[←FE,bm];omega) (by rw[Ke];exact ay) oI;rwa[←FE]at this
   have pG:∀c,c≤A+2*z→c≤n→fj lt (A+z) c C6:=fun c ay oI=>by have:=pb.srt (q:=2*p+1) (by omega) Ed (c:=c) (by rw[Ke,bm];omega) (by rw[ae3];exact ay) oI;rwa[Ke]at this
   rw[←bm]at dC mS Ed;simp only[←bm];simp[Pv.look];((with_reducible repeat' first|refine aj ?_|simp[Pv.look]|((first|apply bK|apply bM|apply bL)<;>intro h<;>try simp at h))<;>(try exact cc))
   ·have bk:((A:Int)+z)=(A+z:Nat):=by omega
    have dg:((A:Int)+2*z)=(A+2*z:Nat):=by omega
    simp only[iy H,H.slc,H.ssc,im,bk,dg];refine H.doFn eP (SL H bE (A+2*z-A) C6 A (A+z) (A+2*z) eP (by omega) (by omega) (by omega) (by omega) (kD _ (by omega) (by omega)) (pG _ (by omega) (by omega))) (fun a1 h=>by rw[h.1.length];exact eP) (by simp[aJ,aF,H.kdata eP]) ?_;rintro gF ⟨kQ,o7⟩;have oL:gF.length=n:=by rw[kQ.length];exact eP
    simp;(with_reducible repeat' first|refine aj ?_|simp);refine bT.whl (p+1,gF) (by simp only[zB,←bm];omega) ⟨oL,by simp only[zB];omega,o6.trans (kQ.mono (by omega) (by omega)),?_,?_⟩ ?_
    ·simp only[zB];rw[bm]at mS kQ o7;have:=mS.snoc (by omega) kQ o7;rwa[←bm]at this
    ·simp only[zB];exact Ed.after kQ (by omega) (by omega)
    ·simp only[zB];have ae4:((p:Int)+1)*(2*(z:Int))=(A:Int)+2*z:=by have h:=ff (Nat.cast:Nat→Int) zB;push_cast at h;exact h
     exact H.weakC aw oL (by simp[aF,ae4])
   ·have bk:((A:Int)+z)=(A+z:Nat):=by omega
    simp only[iy H,H.slc,H.ssc,im,bk];refine H.doFn eP (SL H bE (n-A) C6 A (A+z) n eP (by omega) (by omega) (by omega) (by omega) (kD _ (by omega) (by omega)) (pG _ (by omega) (by omega))) (fun a1 h=>by rw[h.1.length];exact eP) (by simp[aJ,aF,H.kdata eP]) ?_;rintro gF ⟨kQ,o7⟩;have oL:gF.length=n:=by rw[kQ.length];exact eP
    simp;((with_reducible repeat' first|refine aj ?_|simp|((first|apply bK|apply bM|apply bL)<;>intro h<;>try simp at h))<;>(try exact cc));refine bT.whl (2*z,gF) (by simp;omega) ⟨oL,by simp;omega,by simp;omega,o6.trans (kQ.mono (by omega) (by omega)),?_⟩ (H.weakC aw oL (by simp[aF];omega));rw[bm]at mS kQ o7;exact mS.snoc (by omega) kQ o7
   ·refine bT.whl (2*z,C6) (by simp;omega) ⟨eP,by simp;omega,by simp;omega,o6,?_⟩ (H.weakC aw eP (by simp[aF];omega));have b4:=kD n (by omega) (by omega);rw[bm]at mS b4;exact mS.snoc (by omega) (.refl _) b4
  ·refine H.ret aw k6 (.inr rfl) ?_;refine⟨rfl,Vf,rfl,z4,fun i j x y J U ar=>z5 i j x y J U ar ?_⟩;rw[Nat.div_eq_of_lt (by omega),Nat.div_eq_of_lt (by omega)]
end Go.Proofs.YtahlgcidhnjlbaaGreat
namespace Go.Proofs.YtahlgcidhnjlbaaGreat
open Go Go.Pv Go.Sort Go.RowKit
theorem agl{w:World}{base:Nat}{e:gm}{sz:Nat}{v:Value}{n:Nat}{us:List Value}(h:w.ownsRow base e sz v n us)(aK:v≠ .slice none 0 0):
  ∃g cap,v= .slice (some ⟨g,0,none⟩) n cap∧g<w.heap.size∧cap≤maxLen∧n≤cap∧us.length=n*sz∧Holds id w g 0 us.toArray:=by
 rcases h.2 with⟨fv,_⟩|⟨g,cap,cur,rfl,ae,aX,au,hm,ag,aL⟩
 ·exact absurd fv aK
 ·have bE:g<w.heap.size:=by
   rcases Nat.lt_or_ge g w.heap.size with cx|cx
   ·exact cx
   ·rw[Array.getElem?_eq_none cx]at aX;cases aX
  refine⟨g,cap,rfl,bE,hm,au,h.1,fun j af=>?_⟩;have jy:j<us.length:=by simpa using af
  have aw:=h.1;refine⟨?_,by simp[World.frozen?,aX]⟩;have ak:(cur.toList.take (n*sz))[j]? =us[j]?:=by rw[aL]
  rw[List.getElem?_take,if_pos (by omega),tO,cl jy]at ak;simp only[World.cell?,aX,Nat.zero_add];simp only[ht,hb,if_false];rw[ak];simp[getElem!_pos,jy]
theorem akD{w:World}{base:Nat}{e:gm}{sz g n cap q:Nat}{us:List Value}{F:Array Value}(h:w.ownsRow base e sz (.slice (some ⟨g,0,none⟩) n cap) n us)(gp:F.size=n*sz):
  (putRow id (Sort.ahead w q) g 0 F).ownsRow base e sz (.slice (some ⟨g,0,none⟩) n cap) n F.toList:=by
 rcases h.2 with⟨fv,_⟩|⟨e9,E5,cur,fv,ae,aX,au,hm,ag,aL⟩
 ·cases fv
 ·injection fv with ak _ bk;injection ak with ak;injection ak with ak;subst ak;subst bk;refine⟨by simpa using gp,.inr ⟨g,cap,putCells id 0 F cur,rfl,ae,?_,au,hm,by simpa[putCells]using ag,?_⟩⟩
  ·simp[putRow,mapBlock,Sort.ahead,Array.getElem?_modify,aX,onCells]
  ·have hle:n*sz≤cur.size:=by rw[ag];exact Nat.mul_le_mul_right _ au
   apply List.ext_getElem?;intro j;rw[List.getElem?_take,tO,tO];by_cases af:j<n*sz
   ·have afO:j<cur.size:=by omega
    simp only[if_pos af,putCells,Array.getElem?_mapIdx,Array.getElem?_eq_getElem afO,oi];rw[if_pos (by omega)];simp[getElem!_pos,show j<F.size by omega]
   ·simp[af];omega
end Go.Proofs.YtahlgcidhnjlbaaGreat
namespace Go.Pv
open Go Go.RowKit Go.Lib Go.Sort Go.Proofs.YtahlgcidhnjlbaaGreat
theorem UI{S:aH→Prop}:∀{l:List ah},aJ S l↔∀x∈l,aF S x
 |[]=>by simp[aJ]
 |x::r=>by simp only[aJ,UI (l:=r),gf,forall_eq_or_imp]
theorem UA{α:Type}{s:cL}{l:List (aH×α)}:mg s l↔∀k,(look k l).isSome→inObs s k:=by
 refine⟨fun h k ad=>Ak h k ad,fun h=>?_⟩;have:∀a1:List (aH×α),(∀x∈a1,inObs s x.1)→mg s a1:=by
  intro a1;induction a1 with
  |nil=>intro _;trivial
  |cons x r bZ=>obtain⟨k,x⟩:=x;exact fun h=>⟨h (k,x) (by simp),bZ fun y aG=>h y (by simp[aG])⟩
 exact this l fun x ab=>h x.1 (uY (x:=x.2) ab)
theorem Nb{w:World}{ν:bf}{sz:Nat}:∀{xs:List ah} {us:List Value} {i:Nat} {p:ah},dH w ν sz xs us→xs[i]? =some p→∃u,(us.drop (i*sz)).take sz=u.cells.toList∧ba w ν p u∧u.cells.size=sz∧∀c∈u.cells.toList,c.oneCell'=true
 |[],_,_,_,_,bQ=>by simp at bQ
 |x::xs,us,0,p,h,bQ=>by simp only[dH]at h;obtain⟨u,ch,rfl,⟨J,U,ar⟩,_⟩:=h;simp at bQ;subst bQ;refine⟨u,?_,J,U,ar⟩;simp only[Nat.zero_mul,List.drop_zero];rw[List.take_append_of_le_length (by simp[U])];exact hD (by simp[U])
 |x::xs,us,i+1,p,h,bQ=>by simp only[dH]at h;obtain⟨u,ch,rfl,⟨J,U,ar⟩,b4⟩:=h;obtain⟨v,ak,aC⟩:=Nb (i:=i) b4 (by simpa using bQ);refine⟨v,?_,aC⟩;rw[←ak,Nat.succ_mul,Nat.add_comm,←List.drop_drop];congr 2;rw[List.drop_append_of_le_length (by simp[U]),List.drop_of_length_le (by simp[U])];rfl
theorem Nw:∀(be:List Value) (s:Nat) (F:Array Value),s+be.length≤F.size→(setMany F s be).toList=F.toList.take s++be++F.toList.drop (s+be.length)
 |[],s,F,h=>by simp[setMany]
 |v::r,s,F,h=>by
  simp only[pT]at h;rw[setMany,Nw r (s+1) _ (by simp;omega)];have bE:s<F.toList.length:=by simp;omega
  have ak:(F.setIfInBounds s v).toList=F.toList.set s v:=by simp
  rw[ak];have aC:(F.toList.set s v).take (s+1)=F.toList.take s++[v]:=by rw[List.take_succ,List.getElem?_set_self bE,List.take_set_of_le (eY _)];simp
  have bk:(F.toList.set s v).drop (s+1+r.length)=F.toList.drop (s+(v::r).length):=by rw[List.drop_set_of_lt (by omega)];congr 1;simp;omega
  rw[aC,bk];simp
theorem ZD(w:World):Sort.ahead w 0=w:=by simp[Sort.ahead]
theorem SK{P:cF}(xC:Bool)(cb:Nat)(ab:∀args W,(callFunc cb args).run P W=((Ej xC args).run P W).andThen fun v w'=>.ok (.value v) w')(e:gm)(ez:TypeInfo)(sX:P.info? e=some ez)(xG:(∀w,(Go.isAgg e).run P w= .ok true w)∨(ez.size=1∧∀w,(Go.isAgg e).run P w= .ok false w)){s:cL}(ag:ej s){K n el sz:Nat}(ep:ez.size=sz){xs:List ah}(ad:look (.obj K) s.e=some ⟨n,el,sz,some xs⟩)
  (i j:Nat) (hi:i<n) (af:j<n):bV P cb [.int .i64 i,.int .i64 j,.row sz (.obj K) n,.cst (typeHandle P e)] s fun r ai=>r= .tuple []∧ai=⟨s.b,cB (.obj K) ⟨n,el,sz,some (hl xs i j)⟩ s.e⟩:=by
 subst ep;refine bV.sem ag.obj fun w ν be kE aM=>?_;right;have s0:=aM.slot 0;have s1:=aM.slot 1;have s2:=aM.slot 2;have s3:=aM.slot 3;simp[jW,get,ba]at s0 s1 s2 s3;obtain⟨v,us,a7,bF,b0,cZ⟩:=aM.good.own (.obj K) _ ad;obtain⟨df,n3,u9⟩:=cZ _ rfl;simp only at df n3 a7 bF;obtain⟨⟨g0,Z8,vP⟩,_,n',fe,ak,aC,bk⟩:=s2;rw[a7]at ak;simp only[dM,jF]at ak;obtain⟨rfl,rfl⟩:=ak;have aK:=bk rfl;have cH:v≠ .slice none 0 0:=by rw[←aK,vP];simp
 obtain⟨g,cap,rfl,qQ,oK,afF,Cr,Cd⟩:=agl bF cH;have agJ:be= #[.int .i64 i,.int .i64 j,.slice (some ⟨g,0,none⟩) n cap,typeHandle P e]:=by
  have J:be.size=4:=by simpa using kE
  apply Array.ext (by simpa using J);intro t U ar;simp at ar;rcases(by omega:t=0∨t=1∨t=2∨t=3)with rfl|rfl|rfl|rfl
  ·simpa[Array.getD,J]using s0
  ·simpa[Array.getD,J]using s1
  ·simpa[Array.getD,J]using aK
  ·simpa[Array.getD,J]using s3
 subst agJ;obtain⟨p,bQ⟩:∃p,xs[i]? =some p:=⟨_,cl (by omega)⟩;obtain⟨q,bh⟩:∃q,xs[j]? =some q:=⟨_,cl (by omega)⟩;obtain⟨u,iB,jD,qp,yU⟩:=Nb n3 bQ;obtain⟨x,sv,yY,sw,Ij⟩:=Nb n3 bh;have TD:i*ez.size+ez.size≤n*ez.size:=by have:=Nat.mul_le_mul_right ez.size (show i+1≤n from hi);rwa[pV,Nat.one_mul]at this
 have TE:j*ez.size+ez.size≤n*ez.size:=by have:=Nat.mul_le_mul_right ez.size (show j+1≤n from af);rwa[pV,Nat.one_mul]at this
 have cell:∀t v,us[t]? =some v→w.cell? ⟨g,t,none⟩=some v:=fun t v aL=>by obtain⟨J,U⟩:=fV.1 aL;have:=(Cd t (by simpa using J)).1;simp at this;rw[this];simp[getElem!_pos,J,U]
 have Fx:∀t,t<n*ez.size→w.frozen? ⟨g,t,none⟩=false:=fun t aL=>by have:=(Cd t (by simpa[Cr]using aL)).2;simpa using this
 have run:(Ej xC #[.int .i64 i,.int .i64 j,.slice (some ⟨g,0,none⟩) n cap,typeHandle P e]).run P w= .ok (.tuple #[]) ((w.setCells g (0+i*ez.size) x.cells.toList).setCells g (0+j*ez.size) u.cells.toList):=by
  rcases xG with xG|⟨FC,xG⟩
  ·exact run_swap_cells (P:=P) xC e ez sX xG g 0 n cap i j hi af u.cells.toList x.cells.toList (by simp[qp]) (by simp[sw]) yU Ij w
     (fun k v aK=>by
      rw[←iB,List.getElem?_take]at aK;split at aK
      ·rw[List.getElem?_drop]at aK;simpa using cell _ _ aK
      ·cases aK)
     (fun k v aK=>by
      rw[←sv,List.getElem?_take]at aK;split at aK
      ·rw[List.getElem?_drop]at aK;simpa using cell _ _ aK
      ·cases aK)
     (fun k ad=>by simpa using Fx (i*ez.size+k) (by omega)) (fun k ad=>by simpa using Fx (j*ez.size+k) (by omega))
  ·rw[FC]at iB qp sv sw⊢;obtain⟨Fa,Kr⟩:∃c,u.cells.toList=[c]:=List.length_eq_one_iff.1 (by simpa using qp);obtain⟨po,lH⟩:∃c,x.cells.toList=[c]:=List.length_eq_one_iff.1 (by simpa using sw);rw[Kr]at iB yU⊢;rw[lH]at sv Ij⊢;simp only[World.setCells,Nat.mul_one]at iB sv⊢;have SN:us[i]? =some Fa:=by have:=ff (·[0]?) iB;simpa using this
   have SP:us[j]? =some po:=by have:=ff (·[0]?) sv;simpa using this
   have:=run_swap_one (P:=P) xC e ez sX FC xG g 0 n cap i j hi af Fa po (yU Fa (by simp)) (Ij po (by simp)) w (by simpa using cell i Fa SN) (by simpa using cell j po SP) (by simpa using Fx i (by rw[FC];omega)) (by simpa using Fx j (by rw[FC];omega));simpa using this
 have agL:putRow id w g 0 us.toArray=w:=putRow_self id w g 0 _ Cd;have agC:us.toArray.size=n*ez.size:=by simpa using Cr
 have Ga:w.setCells g (0+i*ez.size) x.cells.toList=putRow id w g 0 (setMany us.toArray (i*ez.size) x.cells.toList):=by have J:=setCells_putRow w g 0 x.cells.toList (i*ez.size) us.toArray (by simp[sw,Cr];exact TD);rw[agL]at J;exact J
 obtain⟨ij,nk⟩:∃ij,ij=setMany us.toArray (i*ez.size) x.cells.toList:=⟨_,rfl⟩;have ae9:ij.toList=us.take (i*ez.size)++x.cells.toList++us.drop (i*ez.size+ez.size):=by rw[nk,Nw _ _ _ (by simp[sw,Cr];exact TD)];simp[sw]
 have Kg:ij.size=n*ez.size:=by rw[nk,size_setMany];exact agC
 have oS:(w.setCells g (0+i*ez.size) x.cells.toList).setCells g (0+j*ez.size) u.cells.toList=putRow id w g 0 (setMany ij (j*ez.size) u.cells.toList):=by rw[Ga,←nk,setCells_putRow w g 0 u.cells.toList (j*ez.size) ij (by simp[qp,Kg];exact TE)]
 obtain⟨iD,Cc⟩:∃iD,iD=setMany ij (j*ez.size) u.cells.toList:=⟨_,rfl⟩;have afa:iD.toList=ij.toList.take (j*ez.size)++u.cells.toList++ij.toList.drop (j*ez.size+ez.size):=by rw[Cc,Nw _ _ _ (by simp[qp,Kg];exact TE)];simp[qp]
 have afb:iD.size=n*ez.size:=by rw[Cc,size_setMany];exact Kg
 have cN:=Hz n3 bQ yY sw Ij;rw[←ae9]at cN;have dx:=Hz (i:=j) (q:=q) cN (by rw[List.getElem?_set];split;(rename_i e;subst e;rw[if_pos (by omega)]);exact bh) jD qp yU;rw[←afa]at dx;have CL:(xs.set i q).set j p=hl xs i j:=by simp[hl,bQ,bh]
 rw[CL]at dx;have hlen:(hl xs i j).length=n:=by simpa using df
 have lK:=akD (q:=0) (F:=iD) bF afb;rw[ZD]at lK;obtain⟨kQ,o7,_⟩:=aM.setRowM (w':=putRow id w g 0 iD) ad rfl a7 (bl:=g) rfl (v':= .slice (some ⟨g,0,none⟩) n cap) rfl (xs':=hl xs i j) (us:=iD.toList) (.inl ⟨hlen,rfl⟩) rfl rfl rfl
  (fun t aL=>by simp[putRow,mapBlock,Array.getElem?_modify,k8 aL]) (by simp[putRow,mapBlock]) (by rw[hlen];exact lK) dx
 refine⟨.tuple #[],putRow id w g 0 iD,?_,?_⟩
 ·rw[ab,run,oS,←Cc];rfl
 ·have jx:∀k,inObs ⟨s.b,cB (.obj K) ⟨n,el,ez.size,some (hl xs i j)⟩ s.e⟩ k↔inObs s k:=fun k=>by
   unfold inObs;simp only[jc];by_cases dh:aH.obj K=k
   ·subst dh;simp[ad]
   ·simp[dh]
  refine⟨_,_,_,_,.tuple [],⟨s.b,cB (.obj K) ⟨n,el,ez.size,some (hl xs i j)⟩ s.e⟩,rfl,kQ,by simp[ba,cM],UA.2 fun k nW=>(jx k).2 (.inl nW),UA.2 fun k nW=>(jx k).2 (.inr nW),fun k cs ay=>⟨ay,(jx k).2 (.inl (by simp at ay;simp[ay])),j1 (fun k h=>(jx k).2 h) _ (ag.kb k cs ay)⟩,fun k o ax=>⟨by simpa[hlen]using ax,?_,fun ys aG=>?_⟩,⟨ag.obj.1,fun m=>?_⟩,by simp[aF,aJ],rfl,rfl⟩
  ·exact(.inr (by simp at ax;simp[ax]))
  ·simp only[jc]at ax;split at ax
   ·cases ax;simp only[dM]at aG;subst aG;have Tw:=ag.ke _ _ ad xs rfl;refine j1 (fun k h=>(jx k).2 h) _ ?_;rw[UI]at Tw⊢;exact fun z bq=>Tw z ((Ve xs i j).mem_iff.1 bq)
   ·exact j1 (fun k h=>(jx k).2 h) _ (ag.ke k o ax ys aG)
  ·simp only[jc];simp[ag.obj.2 m]
theorem SJ{P:cF}(xC:Bool)(cb:Nat)(ab:∀args W,(callFunc cb args).run P W=((Ej xC args).run P W).andThen fun v w'=>.ok (.value v) w')(e:gm)(ez:TypeInfo)(sX:P.info? e=some ez)(xG:∀w,(Go.isAgg e).run P w= .ok true w){s:cL}(ag:ej s){K n el sz:Nat}(ep:ez.size=sz){xs:List ah}(ad:look (.obj K) s.e=some ⟨n,el,sz,some xs⟩)
  (i j:Nat) (hi:i<n) (af:j<n):bV P cb [.int .i64 i,.int .i64 j,.row sz (.obj K) n,.cst (typeHandle P e)] s fun r ai=>r= .tuple []∧ai=⟨s.b,cB (.obj K) ⟨n,el,sz,some (hl xs i j)⟩ s.e⟩:=SK xC cb ab e ez sX (.inl xG) ag ep ad i j hi af
end Go.Pv
namespace Go.Proofs.YtahlgcidhnjlbaaGreat
open Go Go.RowKit Go.Lib Go.Sort Go.Pv
set_option maxRecDepth 100000 in
theorem amx(t e:gm)(i ez:TypeInfo)(hi:al.info? t=some i)(aR:i.desc= .slice e)(CF:al.packed t=false)(sX:al.info? e=some ez)(ke:Nat)(uI:∀w,(Y8 e).run al w= .ok ke w)
  (p:Option Addr) (n c:Nat) (au:n<4611686018427387904) (f:Nat) (aI:al.funcs.findIdx? (·.name== "internal/reflectlite" ++ ".Swapper$" ++toString (swapperK n ez ke))=some f) (Va:Fn) (Ly q3:Array Value) (w:World) (R:World→Prop)
  (bQ:Calls al 199 #[.agg #[.func Va Ly q3,.func (.func f) #[] (sliceBound al e ez ke p n c)],.int .i64 n] ((w.alloc (.cells #[.slice p n c] t)).alloc (.cells #[typeHandle al t,.pointer (some ⟨w.heap.size,0,none⟩),.int .u64 151] 179)) fun e w'=>e= .returned (.tuple #[])∧R w'):
  Calls al 140 #[.iface t (.slice p n c),.func Va Ly q3] w fun e w'=>e= .returned (.tuple #[])∧R w':=by
 have aK:=run_valueOf_slice (P:=al) t e i hi aR p n c w;have ag:=fun w=>run_swapper_slice (P:=al) t e i ez hi aR sX ke uI p n c f aI w;have aw:=fun a w br=>run_valueLen_slice (P:=al) t e i hi aR CF a p n c w br;unfold sliceBound at bQ;generalize (if swapperK n ez ke≤2 then(#[]:Array Value)else #[.slice p n c,typeHandle al e])=B at ag bQ;have afJ:al.globals.size=0:=by kernel_rfl
 simp only[typeHandle,afJ]at aK aw bQ;have Fg:∀args w,(callFunc 199 args).run al w= .ok (.enter 199 args) w:=enters_of Tryz.func199 (by kernel_rfl) rfl;go_enter Tryz.func140,Tryz.ntmps140;go_wp2;rw[run_callFunc_extern Tryz.func197 (by kernel_rfl) (by kernel_rfl) (by kernel_rfl) (e:=fun args=>aoP (args.getD 0 (.tuple #[]))) (by kernel_rfl),
  show Sem.run al ((fun args:Array Value=>aoP (args.getD 0 (.tuple #[]))) #[.iface t (.slice p n c)]) w=_ from aK]
 simp only[Result.andThen];rw[Oper.upon_value];go_wp2;rw[run_callFunc_extern Tryz.func198 (by kernel_rfl) (by kernel_rfl) (by kernel_rfl) (e:=at4 "internal/reflectlite" (aoQ "Swapper")) (by kernel_rfl),ag];simp only[Result.andThen];rw[Oper.upon_value];go_wp2;rw[run_callFunc_extern Tryz.func200 (by kernel_rfl) (by kernel_rfl) (by kernel_rfl) (e:=at6 (aoQ "reflectlite.Value.Len" 0) at5) (by kernel_rfl),
  aw _ _ (by simp)]
 simp only[Result.andThen];rw[Oper.upon_value];go_wp2_with (go_at_fn 199;refine bQ.mono ?_;rintro e w' ⟨rfl,bg⟩);go_end0;exact⟨rfl,bg⟩
theorem _root_.Go.Pv.Good.prMono{pr Dx:Nat→Prop}{w:World}{ν:bf}{b:List (aH×List ah)}{e:List (aH×fL)}(h:Pv.Good pr w ν b e)(bQ:∀bl,pr bl→fm ν ⟨b,e⟩ bl→Dx bl):Pv.Good Dx w ν b e:=by
 refine⟨h.alt,fun k cs ad=>?_,h.inj,fun g o aX=>?_,h.oinj,h.obx,h.one,h.otr⟩
 ·obtain⟨bl,us,el,f1,f2,f3⟩:=h.box k cs ad;exact⟨bl,us,el,f1,bQ bl f2 (.inl ⟨k,by simp[ad],f1⟩),f3⟩
 ·obtain⟨v,us,f1,f2,f3,f4⟩:=h.own g o aX;exact⟨v,us,f1,f2,fun bl ae=>⟨bQ bl (f3 bl ae).1 (.inr ⟨g,o.n,v,by simp[aX],f1,ae⟩),(f3 bl ae).2⟩,f4⟩
theorem SQ(w:World)(gG gD:Obj):w.grownBy ((w.alloc gG).alloc gD) none:=by
 have J:w.heap.size≤(w.alloc gG).heap.size:=by simp
 have U:(w.alloc gG).heap.size≤((w.alloc gG).alloc gD).heap.size:=by simp
 exact⟨rfl,rfl,rfl,kc J U,fun k ad _=>(Below.heap_alloc _ gD k (Nat.lt_of_lt_of_le ad J)).trans (Below.heap_alloc w gG k ad)⟩
def dT{α:Type}(e:α→ah)(K B el sz:Nat)(l:List α):cL:=⟨[(.obj B,[.row sz (.obj K) l.length])],[(.obj K,⟨l.length,el,sz,some (l.map e)⟩)]⟩
section
variable {α:Type} {e:α→ah} (he:∀S x,aF S (e x)) {K B el sz:Nat}
include he
theorem ahw(S:aH→Prop)(l:List α):aJ S (l.map e):=by
 induction l with
 |nil=>simp[aJ]
 |cons x r bZ=>simp only[gS,aJ];exact⟨he S x,bZ⟩
theorem xi(l:List α):ej (dT e K B el sz l):=by unfold dT;refine ej.of ⟨by intro m;simp[Pv.look],by intro m;simp[Pv.look]⟩ (by simp[aJ,aF,inObs,Pv.look]) ?_;intro x ab xs hY;simp at ab;subst ab;simp at hY;subst hY;exact ahw he _ l
omit he in
theorem xj(l a1:List α):Same (dT e K B el sz l) (dT e K B el sz a1):=by
 refine⟨fun k=>?_,fun k=>?_⟩
 ·simp only[dT,Pv.look];split<;>rfl
 ·simp only[dT,Pv.look];split<;>rfl
theorem aep(t:gm)(i ez:TypeInfo)(hi:al.info? t=some i)(aR:i.desc= .slice el)(CF:al.packed t=false)(sX:al.info? el=some ez)(ke:Nat)(uI:∀w,(Y8 el).run al w= .ok ke w)(sR:∀n,2≤n→swapperK n ez ke=9)
  (g:Nat) (lt:α→α→Bool) (bE:qy lt) (l:List α) (aw:l.length≤68719476736)
  (xV:∀a1:List α,a1.length=l.length→∀(i j:Nat) x y,a1[i]? =some x→a1[j]? =some y→bV al g [.int .i64 i,.int .i64 j,.ptr (.obj B) 0] (dT e K B el sz a1) fun r ai=>r= .bool (lt x y)∧ai=dT e K B el sz a1)
  (z8:∀a1:List α,a1.length=l.length→∀i j:Nat,i<l.length→j<l.length→bV al 230 [.int .i64 i,.int .i64 j,.row sz (.obj K) l.length,.cst (typeHandle al el)] (dT e K B el sz a1) fun r ai=>r= .tuple []∧ai=dT e K B el sz (hl a1 i j)):
  bV al 140 [.iface t (.row sz (.obj K) l.length),.func g [.ptr (.obj B) 0]] (dT e K B el sz l) fun r ai=>r= .tuple []∧∃a1,ai=dT e K B el sz a1∧a1.Perm l∧a1.Pairwise fun x y=>lt y x=false:=by
 have Co:al.funcs.findIdx? (·.name== "internal/reflectlite" ++ ".Swapper$" ++toString 1)=some 222:=by kernel_rfl
 have uD:al.funcs.findIdx? (·.name== "internal/reflectlite" ++ ".Swapper$" ++toString 2)=some 223:=by kernel_rfl
 have Kw:al.funcs.findIdx? (·.name== "internal/reflectlite" ++ ".Swapper$" ++toString 9)=some 230:=by kernel_rfl
 have K0:∃f b5,al.funcs.findIdx? (·.name== "internal/reflectlite" ++ ".Swapper$" ++toString (swapperK l.length ez ke))=some f∧(b5=(if swapperK l.length ez ke≤2 then []else [ah.row sz (.obj K) l.length,.cst (typeHandle al el)]))∧
   bV al 199 [e1 g f [.ptr (.obj B) 0] b5,.int .i64 l.length] (dT e K B el sz l) fun r ai=>r= .tuple []∧∃a1,ai=dT e K B el sz a1∧gw 0 l.length l a1∧fj lt 0 l.length a1:=by
  have eJ:=fun a1=>xi (K:=K) (B:=B) (el:=el) (sz:=sz) he a1;rcases(by omega:l.length=0∨l.length=1∨2≤l.length)with bD|J|U
  ·refine⟨222,[],by rw[bD];exact Co,by rw[bD];rfl,Ka (lt:=lt) ⟨eJ,fun j2 gF _ _=>xj j2 gF,fun a1 _=>by simp[aJ,aF,inObs,dT,Pv.look],fun a1 _=>by simp[aJ],by simp[dr,cW],rfl,aw,fun a1 h=>xV a1 h,fun a1 _ U i j hi=>by omega⟩ bE l rfl⟩
  ·refine⟨223,[],by rw[J];exact uD,by rw[J];rfl,Ka (lt:=lt) ⟨eJ,fun j2 gF _ _=>xj j2 gF,fun a1 _=>by simp[aJ,aF,inObs,dT,Pv.look],fun a1 _=>by simp[aJ],by simp[dr,cW],rfl,aw,fun a1 h=>xV a1 h,fun a1 _ U i j hi af=>by omega⟩ bE l rfl⟩
  ·refine⟨230,_,by rw[sR _ U];exact Kw,rfl,?_⟩;rw[sR _ U];simp only[show¬((9:Nat)≤2)from by decide,if_false];exact Ka (lt:=lt) ⟨eJ,fun j2 gF _ _=>xj j2 gF,fun a1 _=>by simp[aJ,aF,inObs,dT,Pv.look],fun a1 _=>by simp[aJ,aF,inObs,dT,Pv.look],by simp[dr,cW],by simp[dr,cW],aw,fun a1 h=>xV a1 h,fun a1 h _ i j hi af=>z8 a1 h i j hi af⟩ bE l rfl
 obtain⟨f,b5,aI,KW,cY⟩:=K0;intro w ν be aX ab aM;have oO:=cR.start (xi he l).obj aX ab aM;have KR:=aM;simp only[cM,ba]at aM;obtain⟨v0,vs1,hv0,⟨u,rfl,⟨b,cap,rfl⟩,eV,n',fe,ak,aC,bk⟩,v1,vs2,hv1,⟨q3,rfl,qS⟩,rfl⟩:=aM;have kE:be= #[.iface t (.slice (some ⟨b,0,none⟩) l.length cap),.func (.func g) #[] q3]:=by apply Array.ext';rw[hv0,hv1]
 subst kE;have qP:∃fn,al.funcs[(140:Nat)]? =some fn∧fn.body.isSome=true∧(fn.name== "runtime.NumGoroutine")=false:=⟨_,Tryz.func140,by kernel_rfl,by kernel_rfl⟩;refine .inl ⟨qP,?_⟩;obtain⟨dC,oS⟩:∃dC,dC=(w.alloc (.cells #[.slice (some ⟨b,0,none⟩) l.length cap] t)).alloc (.cells #[typeHandle al t,.pointer (some ⟨w.heap.size,0,none⟩),.int .u64 151] 179):=⟨_,rfl⟩;have j0:w.grownBy dC none:=by rw[oS];exact SQ _ _ _
 have KS:=oO.grown j0;have kZ:ly w ν dC ν:=⟨fun b o bm=>⟨bm,E6 j0 (aX.alt b o bm)⟩,fun _ _ _ h=>h,fun _ n u _ h=>⟨n,u,h,.inl ⟨rfl,rfl⟩⟩,fun b o bm=>wV (j0.block b (aX.alt b o bm) (by simp)),fun _ _ _ _ h=>h⟩;have oK:Pv.Good (fm ν (dT e K B el sz l)) dC ν (dT e K B el sz l).b (dT e K B el sz l).e:=KS.good.prMono fun bl _ h=>h;have lg:=HD kZ KR;simp only[cM]at lg;obtain⟨a0,ZO,sS,CH,bG,ZP,ld,ags,rfl⟩:=lg;simp at sS;obtain⟨rfl,rfl⟩:=sS;simp at ld;subst ld;have KV:ba dC ν (.row sz (.obj K) l.length) (.slice (some ⟨b,0,none⟩) l.length cap):=by simp only[ba]at CH;obtain⟨u,hu,h⟩:=CH;simp at hu;obtain⟨_,rfl⟩:=hu;simp only[ba];exact h
 have qT:cM dC ν b5 (sliceBound al el ez ke (some ⟨b,0,none⟩) l.length cap).toList:=by
  unfold sliceBound;rw[KW];split
  ·simp[cM]
  ·simp only[cM];exact⟨_,_,rfl,KV,_,_,rfl,by simp[ba],rfl⟩
 have uB:cM dC ν [e1 g f [.ptr (.obj B) 0] b5,.int .i64 l.length] (#[.agg #[.func (.func g) #[] q3,.func (.func f) #[] (sliceBound al el ez ke (some ⟨b,0,none⟩) l.length cap)],.int .i64 l.length]:Array Value).toList:=by simp only[cM,e1];refine⟨_,_,rfl,?_,_,_,rfl,by simp[ba],rfl⟩;simp only[ba,c5];exact⟨_,rfl,_,_,rfl,⟨⟨q3,rfl,HD kZ qS⟩,rfl⟩,_,_,rfl,⟨⟨_,rfl,qT⟩,rfl⟩,rfl⟩
 have Kt:=cY dC ν _ oK ab uB;have Fg:∀args w,(callFunc 199 args).run al w= .ok (.enter 199 args) w:=enters_of Tryz.func199 (by kernel_rfl) rfl;rcases Kt with⟨_,ay⟩|⟨v,w',ay,_⟩
 ·have KG:=amx t el i ez hi aR CF sX ke uI (some ⟨b,0,none⟩) l.length cap (by omega) f aI (.func g) #[] q3 w
   (fun w'=> ∃ai bo,(∃a1,ai=dT e K B el sz a1∧gw 0 l.length l a1∧fj lt 0 l.length a1)∧Pv.Good (fun bl=>fm ν (dT e K B el sz l) bl∨dC.heap.size≤bl) w' bo ai.b ai.e∧oD bo ai∧iL ai∧pW ⟨dC,ν,fm ν (dT e K B el sz l),0,cV (dT e K B el sz l)⟩ w' bo) (by
    rw[←oS];refine ay.mono ?_;rintro e w' ⟨v,r,ai,bo,rfl,⟨rfl,bh⟩,wa,a8,b4,dd,eo⟩;simp only[ba,cM]at wa;obtain⟨us,rfl,qW⟩:=wa;have:us= #[]:=by apply Array.ext';simpa using qW
    subst this;exact⟨rfl,ai,bo,bh,a8,b4,dd,eo⟩)
  refine KG.mono ?_;rintro e w' ⟨rfl,ai,bo,⟨a1,rfl,F8,z7⟩,a8,b4,dd,eo⟩;refine⟨.tuple #[],.tuple [],_,bo,rfl,⟨rfl,a1,rfl,F8.perm,?_⟩,by simp[ba,cM],a8.prMono fun bl h _=>?_,b4,dd,⟨eo.os.trans j0.os,eo.tape.trans j0.tape,eo.output.trans j0.output,kc j0.size eo.size,fun k ad hm=>?_,fun b o bm=>?_,fun b o bm=>?_,eo.obj,eo.obn,eo.row,eo.obr,eo.trd,fun k j b ae=>⟨(eo.trb k j b ae).1.imp id (fun h=>kc j0.size h),(eo.trb k j b ae).2⟩,eo.trn,fun b o bm=>(eo.sh b o bm).trans (kZ.sh b o bm)⟩⟩
  ·have xW:=F8.length;rw[←xW]at z7;exact z7.pairwise
  ·rcases h with h|h
   ·exact .inl h
   ·exact .inr (kc j0.size h)
  ·rw[eo.block k (Nat.lt_of_lt_of_le ad j0.size) hm];exact j0.block k ad (by simp)
  ·obtain⟨aP,a6⟩:=eo.keep b o bm;exact⟨aP,a6.trans (kZ.A b o bm).2⟩
  ·rcases eo.fresh b o bm with h|h|h
   ·exact .inl h
   ·exact .inr (.inl h)
   ·exact .inr (.inr (kc j0.size h))
 ·rw[Fg]at ay;cases ay
end
end Go.Proofs.YtahlgcidhnjlbaaGreat
namespace Go.Proofs
open Go.Shelf
def Tryz.lays6_ren:Go.Shelf.Ren:=⟨fun|6=>182|10=>197|11=>198|12=>200|13=>213|14=>214|24=>236|25=>237|26=>231|27=>238|28=>239|29=>240|30=>241|31=>242|32=>243|33=>244|34=>252|35=>253|36=>254|37=>255|38=>256|39=>271|n=>n,fun|20=>20|26=>143|35=>179|0=>0|37=>181|3=>3|41=>192|44=>185|49=>206|51=>208|4=>4|54=>210|53=>209|58=>214|5=>5|9=>9|60=>222|64=>226|66=>235|67=>236|17=>17|32=>176|33=>177|82=>256|12=>12|75=>249|76=>250|77=>251|78=>252|79=>253|80=>254|n=>n,fun|n=>n⟩
theorem Tryz.lays6:Go.Proofs.LaysGg.n6 al Tryz.lays6_ren:={
 mixed:=by kernel_rfl
 f6:=Tryz.func182.trans (ff some (by kernel_rfl))
 f10:=Tryz.func197.trans (ff some (by kernel_rfl))
 f11:=Tryz.func198.trans (ff some (by kernel_rfl))
 f12:=Tryz.func200.trans (ff some (by kernel_rfl))
 f13:=Tryz.func213.trans (ff some (by kernel_rfl))
 f14:=Tryz.func214.trans (ff some (by kernel_rfl))
 f24:=Tryz.func236.trans (ff some (by kernel_rfl))
 f25:=Tryz.func237.trans (ff some (by kernel_rfl))
 f26:=Tryz.func231.trans (ff some (by kernel_rfl))
 f27:=Tryz.func238.trans (ff some (by kernel_rfl))
 f28:=Tryz.func239.trans (ff some (by kernel_rfl))
 f29:=Tryz.func240.trans (ff some (by kernel_rfl))
 f30:=Tryz.func241.trans (ff some (by kernel_rfl))
 f31:=Tryz.func242.trans (ff some (by kernel_rfl))
 f32:=Tryz.func243.trans (ff some (by kernel_rfl))
 f33:=Tryz.func244.trans (ff some (by kernel_rfl))
 f34:=Tryz.func252.trans (ff some (by kernel_rfl))
 f35:=Tryz.func253.trans (ff some (by kernel_rfl))
 f36:=Tryz.func254.trans (ff some (by kernel_rfl))
 f37:=Tryz.func255.trans (ff some (by kernel_rfl))
 f38:=Tryz.func256.trans (ff some (by kernel_rfl))
 f39:=Tryz.func271.trans (ff some (by kernel_rfl))
 t0:=Tryz.underlying0
 a0:=Tryz.isAgg0
 z0:=Tryz.sizeOf0
 v0:=Tryz.zeroValue0
 i0:=by kernel_rfl
 t3:=Tryz.underlying3
 a3:=Tryz.isAgg3
 z3:=Tryz.sizeOf3
 v3:=Tryz.zeroValue3
 i3:=by kernel_rfl
 t4:=Tryz.underlying4
 a4:=Tryz.isAgg4
 z4:=Tryz.sizeOf4
 v4:=Tryz.zeroValue4
 i4:=by kernel_rfl
 t5:=Tryz.underlying5
 a5:=Tryz.isAgg5
 z5:=Tryz.sizeOf5
 v5:=Tryz.zeroValue5
 i5:=by kernel_rfl
 t9:=Tryz.underlying9
 a9:=Tryz.isAgg9
 z9:=Tryz.sizeOf9
 v9:=Tryz.zeroValue9
 i9:=by kernel_rfl
 t12:=Tryz.underlying12
 a12:=Tryz.isAgg12
 z12:=Tryz.sizeOf12
 v12:=Tryz.zeroValue12
 i12:=by kernel_rfl
 t17:=Tryz.underlying17
 a17:=Tryz.isAgg17
 z17:=Tryz.sizeOf17
 v17:=Tryz.zeroValue17
 i17:=by kernel_rfl
 t20:=Tryz.underlying20
 a20:=Tryz.isAgg20
 z20:=Tryz.sizeOf20
 v20:=Tryz.zeroValue20
 i20:=by kernel_rfl
 t26:=Tryz.underlying143
 a26:=Tryz.isAgg143
 z26:=Tryz.sizeOf143
 v26:=Tryz.zeroValue143
 i26:=by kernel_rfl
 t32:=Tryz.underlying176
 a32:=Tryz.isAgg176
 z32:=Tryz.sizeOf176
 v32:=Tryz.zeroValue176
 i32:=by kernel_rfl
 t33:=Tryz.underlying177
 a33:=Tryz.isAgg177
 z33:=Tryz.sizeOf177
 v33:=Tryz.zeroValue177
 i33:=by kernel_rfl
 t35:=Tryz.underlying179
 a35:=Tryz.isAgg179
 z35:=Tryz.sizeOf179
 v35:=Tryz.zeroValue179
 i35:=by kernel_rfl
 t37:=Tryz.underlying181
 a37:=Tryz.isAgg181
 z37:=Tryz.sizeOf181
 v37:=Tryz.zeroValue181
 i37:=by kernel_rfl
 t41:=Tryz.underlying192
 a41:=Tryz.isAgg192
 z41:=Tryz.sizeOf192
 v41:=Tryz.zeroValue192
 i41:=by kernel_rfl
 t44:=Tryz.underlying185
 a44:=Tryz.isAgg185
 z44:=Tryz.sizeOf185
 v44:=Tryz.zeroValue185
 i44:=by kernel_rfl
 t49:=Tryz.underlying206
 a49:=Tryz.isAgg206
 z49:=Tryz.sizeOf206
 v49:=Tryz.zeroValue206
 i49:=by kernel_rfl
 t51:=Tryz.underlying208
 a51:=Tryz.isAgg208
 z51:=Tryz.sizeOf208
 v51:=Tryz.zeroValue208
 i51:=by kernel_rfl
 t53:=Tryz.underlying209
 a53:=Tryz.isAgg209
 z53:=Tryz.sizeOf209
 v53:=Tryz.zeroValue209
 i53:=by kernel_rfl
 t54:=Tryz.underlying210
 a54:=Tryz.isAgg210
 z54:=Tryz.sizeOf210
 v54:=Tryz.zeroValue210
 i54:=by kernel_rfl
 t58:=Tryz.underlying214
 a58:=Tryz.isAgg214
 z58:=Tryz.sizeOf214
 v58:=Tryz.zeroValue214
 i58:=by kernel_rfl
 t60:=Tryz.underlying222
 a60:=Tryz.isAgg222
 z60:=Tryz.sizeOf222
 v60:=Tryz.zeroValue222
 i60:=by kernel_rfl
 t64:=Tryz.underlying226
 a64:=Tryz.isAgg226
 z64:=Tryz.sizeOf226
 v64:=Tryz.zeroValue226
 i64:=by kernel_rfl
 t66:=Tryz.underlying235
 a66:=Tryz.isAgg235
 z66:=Tryz.sizeOf235
 v66:=Tryz.zeroValue235
 i66:=by kernel_rfl
 t67:=Tryz.underlying236
 a67:=Tryz.isAgg236
 z67:=Tryz.sizeOf236
 v67:=Tryz.zeroValue236
 i67:=by kernel_rfl
 t75:=Tryz.underlying249
 a75:=Tryz.isAgg249
 z75:=Tryz.sizeOf249
 v75:=Tryz.zeroValue249
 i75:=by kernel_rfl
 t76:=Tryz.underlying250
 a76:=Tryz.isAgg250
 z76:=Tryz.sizeOf250
 v76:=Tryz.zeroValue250
 i76:=by kernel_rfl
 t77:=Tryz.underlying251
 a77:=Tryz.isAgg251
 z77:=Tryz.sizeOf251
 v77:=Tryz.zeroValue251
 i77:=by kernel_rfl
 t78:=Tryz.underlying252
 a78:=Tryz.isAgg252
 z78:=Tryz.sizeOf252
 v78:=Tryz.zeroValue252
 i78:=by kernel_rfl
 t79:=Tryz.underlying253
 a79:=Tryz.isAgg253
 z79:=Tryz.sizeOf253
 v79:=Tryz.zeroValue253
 i79:=by kernel_rfl
 t80:=Tryz.underlying254
 a80:=Tryz.isAgg254
 z80:=Tryz.sizeOf254
 v80:=Tryz.zeroValue254
 i80:=by kernel_rfl
 t82:=Tryz.underlying256
 a82:=Tryz.isAgg256
 z82:=Tryz.sizeOf256
 v82:=Tryz.zeroValue256
 i82:=by kernel_rfl}
end Go.Proofs
namespace Go.Proofs.YtahlgcidhnjlbaaGreat
open Go Go.RowKit Go.Lib Go.Pv Go.Proofs
theorem ZX(n:Nat)(h:n<1099511627776):Lib.bitLen n≤1000:=by
 have:∀f x,bitLenAux f x≤f:=by
  intro f;induction f with
  |zero=>intro x;simp[bitLenAux]
  |succ f bZ=>
   intro x;rw[bitLenAux];split
   ·omega
   ·have:=bZ (x/2);omega
 have:=this 64 n;unfold Lib.bitLen;omega
theorem akG{α:Type}[Inhabited α]{lt:α→α→Bool}{l:List α}{ca:Array α}(h:Sort.PermIn 0 l.length l.toArray ca)(ag:Sort.SortedIn lt 0 l.length ca):ca.toList.Perm l∧ca.toList.Pairwise fun x y=>lt y x=false:=by
 obtain⟨k6,_,z3⟩:=h;have ep:ca.size=l.length:=by simpa using k6
 have ak:ca.extract 0 l.length=ca:=by rw[←ep];simp
 have aC:l.toArray.extract 0 l.length=l.toArray:=by simp
 rw[ak,aC]at z3;refine⟨by simpa using z3,?_⟩;rw[pU];intro i j hi af l7;have J:=ag i j (by omega) l7 (by simpa[ep]using af);have sW:i<ca.size:=by simpa using hi
 have jy:j<ca.size:=by simpa using af
 rw[getElem!_pos ca i sW,getElem!_pos ca j jy]at J;simpa using J
section
variable {α:Type} {e:α→ah} (he:∀S x,aF S (e x)) {K B el sz:Nat}
include he
theorem SA[Inhabited α](SY:K≠901∧K≠902)(SX:B≠901∧B≠902)(t:gm)(i ez:TypeInfo)(hi:al.info? t=some i)(aR:i.desc= .slice el)(CF:al.packed t=false)(sX:al.info? el=some ez)(ke:Nat)(uI:∀w,(Y8 el).run al w= .ok ke w)(sR:∀n,2≤n→swapperK n ez ke=9)
  (g:Nat) (lt:α→α→Bool) (bE:Sort.SWO lt) (l:List α) (aw:l.length≤68719476736)
  (xV:∀a1:List α,a1.length=l.length→∀(i j:Nat) x y,a1[i]? =some x→a1[j]? =some y→bV al g [.int .i64 i,.int .i64 j,.ptr (.obj B) 0] (dT e K B el sz a1) fun r ai=>r= .bool (lt x y)∧ai=dT e K B el sz a1)
  (z8:∀a1:List α,a1.length=l.length→∀i j:Nat,i<l.length→j<l.length→bV al 230 [.int .i64 i,.int .i64 j,.row sz (.obj K) l.length,.cst (typeHandle al el)] (dT e K B el sz a1) fun r ai=>r= .tuple []∧ai=dT e K B el sz (hl a1 i j)):
  bV al 182 [.iface t (.row sz (.obj K) l.length),.func g [.ptr (.obj B) 0]] (dT e K B el sz l) fun r ai=>r= .tuple []∧∃a1,ai=dT e K B el sz a1∧a1.Perm l∧a1.Pairwise fun x y=>lt y x=false:=by
 have Co:al.funcs.findIdx? (·.name== "internal/reflectlite" ++ ".Swapper$" ++toString 1)=some 222:=by kernel_rfl
 have uD:al.funcs.findIdx? (·.name== "internal/reflectlite" ++ ".Swapper$" ++toString 2)=some 223:=by kernel_rfl
 have Kw:al.funcs.findIdx? (·.name== "internal/reflectlite" ++ ".Swapper$" ++toString 9)=some 230:=by kernel_rfl
 have x0:sa (dT e K B el sz) 901:=fun l=>⟨by simp[dT,Pv.look,SX.1],by simp[dT,Pv.look,SY.1]⟩;have x1:sa (dT e K B el sz) 902:=fun l=>⟨by simp[dT,Pv.look,SX.2],by simp[dT,Pv.look,SY.2]⟩;have fs:=ZX l.length (by omega);have K0:∃f b5,al.funcs.findIdx? (·.name== "internal/reflectlite" ++ ".Swapper$" ++toString (swapperK l.length ez ke))=some f∧(b5=(if swapperK l.length ez ke≤2 then []else [ah.row sz (.obj K) l.length,.cst (typeHandle al el)]))∧
   bV al 214 [e1 g f [.ptr (.obj B) 0] b5,.int .i64 0,.int .i64 l.length,.int .i64 (Lib.bitLen l.length)] (dT e K B el sz l) fun r ai=>r= .tuple []∧∃a1,ai=dT e K B el sz a1∧a1.Perm l∧a1.Pairwise fun x y=>lt y x=false:=by
  have eJ:=fun a1=>xi (K:=K) (B:=B) (el:=el) (sz:=sz) he a1;have key:∀{cb:Nat} {b5:List ah},e7 (dT e K B el sz) l.length g cb [.ptr (.obj B) 0] b5 lt→bV al 214 [e1 g cb [.ptr (.obj B) 0] b5,.int .i64 0,.int .i64 l.length,.int .i64 (Lib.bitLen l.length)] (dT e K B el sz l) fun r ai=>r= .tuple []∧∃a1,ai=dT e K B el sz a1∧a1.Perm l∧a1.Pairwise fun x y=>lt y x=false:=by intro cb b5 H;have:=aeF H x0 x1 bE l.length l.toArray (by simp) 0 l.length (Lib.bitLen l.length) (by omega) (by omega) (eY _) (by omega) (.inl rfl);simp only[Int.ofNat_zero,Int.natCast_zero,Int.cast_ofNat_Int]at this;refine bV.mono this ?_;rintro r ai ⟨a7,ca,bF,b0,cZ⟩;obtain⟨cQ,dy⟩:=akG b0 cZ;exact⟨a7,ca.toList,bF,cQ,dy⟩
  rcases(by omega:l.length=0∨l.length=1∨2≤l.length)with bD|J|U
  ·refine⟨222,[],by rw[bD];exact Co,by rw[bD];rfl,key ⟨eJ,fun j2 gF _ _=>xj j2 gF,fun a1 _=>by simp[aJ,aF,inObs,dT,Pv.look],fun a1 _=>by simp[aJ],by simp[dr,cW],rfl,aw,fun a1 h=>xV a1 h,fun a1 _ U i j hi=>by omega⟩⟩
  ·refine⟨223,[],by rw[J];exact uD,by rw[J];rfl,key ⟨eJ,fun j2 gF _ _=>xj j2 gF,fun a1 _=>by simp[aJ,aF,inObs,dT,Pv.look],fun a1 _=>by simp[aJ],by simp[dr,cW],rfl,aw,fun a1 h=>xV a1 h,fun a1 _ U i j hi af=>by omega⟩⟩
  ·refine⟨230,_,by rw[sR _ U];exact Kw,rfl,?_⟩;rw[sR _ U];simp only[show¬((9:Nat)≤2)from by decide,if_false];exact key ⟨eJ,fun j2 gF _ _=>xj j2 gF,fun a1 _=>by simp[aJ,aF,inObs,dT,Pv.look],fun a1 _=>by simp[aJ,aF,inObs,dT,Pv.look],by simp[dr,cW],by simp[dr,cW],aw,fun a1 h=>xV a1 h,fun a1 h _ i j hi af=>z8 a1 h i j hi af⟩
 obtain⟨f,b5,aI,KW,cY⟩:=K0;intro w ν be aX ab aM;have oO:=cR.start (xi he l).obj aX ab aM;have KR:=aM;simp only[cM,ba]at aM;obtain⟨v0,vs1,hv0,⟨u,rfl,⟨b,cap,rfl⟩,eV,n',fe,ak,aC,bk⟩,v1,vs2,hv1,⟨q3,rfl,qS⟩,rfl⟩:=aM;have kE:be= #[.iface t (.slice (some ⟨b,0,none⟩) l.length cap),.func (.func g) #[] q3]:=by apply Array.ext';rw[hv0,hv1]
 subst kE;have qP:∃fn,al.funcs[(182:Nat)]? =some fn∧fn.body.isSome=true∧(fn.name== "runtime.NumGoroutine")=false:=⟨_,Tryz.func182,by kernel_rfl,by kernel_rfl⟩;refine .inl ⟨qP,?_⟩;obtain⟨dC,oS⟩:∃dC,dC=sliceWorld al Tryz.lays6_ren t (some ⟨b,0,none⟩) l.length cap w:=⟨_,rfl⟩;have j0:w.grownBy dC none:=by rw[oS];unfold sliceWorld;exact SQ _ _ _
 have KS:=oO.grown j0;have kZ:ly w ν dC ν:=⟨fun b o bm=>⟨bm,E6 j0 (aX.alt b o bm)⟩,fun _ _ _ h=>h,fun _ n u _ h=>⟨n,u,h,.inl ⟨rfl,rfl⟩⟩,fun b o bm=>wV (j0.block b (aX.alt b o bm) (by simp)),fun _ _ _ _ h=>h⟩;have oK:Pv.Good (fm ν (dT e K B el sz l)) dC ν (dT e K B el sz l).b (dT e K B el sz l).e:=KS.good.prMono fun bl _ h=>h;have lg:=HD kZ KR;simp only[cM]at lg;obtain⟨a0,ZO,sS,CH,bG,ZP,ld,ags,rfl⟩:=lg;simp at sS;obtain⟨rfl,rfl⟩:=sS;simp at ld;subst ld;have KV:ba dC ν (.row sz (.obj K) l.length) (.slice (some ⟨b,0,none⟩) l.length cap):=by simp only[ba]at CH;obtain⟨u,hu,h⟩:=CH;simp at hu;obtain⟨_,rfl⟩:=hu;simp only[ba];exact h
 have qT:cM dC ν b5 (sliceBound al el ez ke (some ⟨b,0,none⟩) l.length cap).toList:=by
  unfold sliceBound;rw[KW];split
  ·simp[cM]
  ·simp only[cM];exact⟨_,_,rfl,KV,_,_,rfl,by simp[ba],rfl⟩
 have uB:cM dC ν [e1 g f [.ptr (.obj B) 0] b5,.int .i64 0,.int .i64 l.length,.int .i64 (Lib.bitLen l.length)] (#[.agg #[.func (.func g) #[] q3,.func (.func f) #[] (sliceBound al el ez ke (some ⟨b,0,none⟩) l.length cap)],.int .i64 0,.int .i64 l.length,.int .i64 (Lib.bitLen l.length)]:Array Value).toList:=by simp only[cM,e1];refine⟨_,_,rfl,?_,_,_,rfl,by simp[ba],_,_,rfl,by simp[ba],_,_,rfl,by simp[ba],rfl⟩;simp only[ba,c5];exact⟨_,rfl,_,_,rfl,⟨⟨q3,rfl,HD kZ qS⟩,rfl⟩,_,_,rfl,⟨⟨_,rfl,qT⟩,rfl⟩,rfl⟩
 have Kt:=cY dC ν _ oK ab uB;have Fg:∀args w,(callFunc 214 args).run al w= .ok (.enter 214 args) w:=enters_of Tryz.func214 (by kernel_rfl) rfl;rcases Kt with⟨_,ay⟩|⟨v,w',ay,_⟩
 ·have KG:=Any.sort_Slice_of_pdq Tryz.lays6 t el i ez hi aR CF sX ke uI (some ⟨b,0,none⟩) l.length cap (by omega) f aI (.func g) #[] q3 w
   (fun w'=> ∃ai bo,(∃a1,ai=dT e K B el sz a1∧a1.Perm l∧a1.Pairwise fun x y=>lt y x=false)∧Pv.Good (fun bl=>fm ν (dT e K B el sz l) bl∨dC.heap.size≤bl) w' bo ai.b ai.e∧oD bo ai∧iL ai∧pW ⟨dC,ν,fm ν (dT e K B el sz l),0,cV (dT e K B el sz l)⟩ w' bo) (by
    rw[←oS];refine ay.mono ?_;rintro e w' ⟨v,r,ai,bo,rfl,⟨rfl,bh⟩,wa,a8,b4,dd,eo⟩;simp only[ba,cM]at wa;obtain⟨us,rfl,qW⟩:=wa;have:us= #[]:=by apply Array.ext';simpa using qW
    subst this;exact⟨rfl,ai,bo,bh,a8,b4,dd,eo⟩)
  refine KG.mono ?_;rintro e w' ⟨rfl,ai,bo,⟨a1,rfl,F8,z7⟩,a8,b4,dd,eo⟩;refine⟨.tuple #[],.tuple [],_,bo,rfl,⟨rfl,a1,rfl,F8,z7⟩,by simp[ba,cM],a8.prMono fun bl h _=>?_,b4,dd,⟨eo.os.trans j0.os,eo.tape.trans j0.tape,eo.output.trans j0.output,kc j0.size eo.size,fun k ad hm=>?_,fun b o bm=>?_,fun b o bm=>?_,eo.obj,eo.obn,eo.row,eo.obr,eo.trd,fun k j b ae=>⟨(eo.trb k j b ae).1.imp id (fun h=>kc j0.size h),(eo.trb k j b ae).2⟩,eo.trn,fun b o bm=>(eo.sh b o bm).trans (kZ.sh b o bm)⟩⟩
  ·rcases h with h|h
   ·exact .inl h
   ·exact .inr (kc j0.size h)
  ·rw[eo.block k (Nat.lt_of_lt_of_le ad j0.size) hm];exact j0.block k ad (by simp)
  ·obtain⟨aP,a6⟩:=eo.keep b o bm;exact⟨aP,a6.trans (kZ.A b o bm).2⟩
  ·rcases eo.fresh b o bm with h|h|h
   ·exact .inl h
   ·exact .inr (.inl h)
   ·exact .inr (.inr (kc j0.size h))
 ·rw[Fg]at ay;cases ay
end
end Go.Proofs.YtahlgcidhnjlbaaGreat
namespace Go.Proofs.YtahlgcidhnjlbaaGreat
open Go Go.Pv Go.Lib
abbrev xh(l:List bj):cL:=dT bj.e 814 815 100 2 l
theorem VC:∀(S:aH→Prop) (x:bj),aF S x.e:=fun S x=>by simp
theorem Iu(l:List bj):ej (xh l):=xi VC l
theorem ahT:Sort.SWO (hQ fl):=by
 refine⟨fun x=>?_,fun x y z J U=>?_,fun x y z J U=>?_⟩
 ·simp only[hQ,hR];have:=lT.refl x;omega
 ·simp only[hQ,fK]at*;exact lT.ltr J (by omega)
 ·simp only[hQ,hR]at*;have ak:=lT.neg x y;have aC:=lT.neg y z;have bk:=lT.neg x z;have:=lT.tr z y x (by omega) (by omega);omega
theorem aek(l:List bj)(i j:Nat)(x y:bj)(aw:l.length≤68719476736)(hi:l[i]? =some x)(af:l[j]? =some y):bV al 185 [.int .i64 i,.int .i64 j,.ptr (.obj 815) 0] (xh l) fun r ai=>r= .bool (hQ fl x y)∧ai=xh l:=by have ag:=Iu l;obtain⟨l6,hL⟩:=fV.1 hi;obtain⟨dK,p5⟩:=fV.1 af;unfold xh dT at ag⊢;refine bV.mk mixed j7 ab6 aiG (by simp) ag.obj fun aN cT=>?_;unfold Pk;simp[l6,dK,hL,p5];(with_reducible repeat' first|refine aj ?_|refine aD (Bj _ _) ?_|refine aE (Bj _ _) ?_|simp[l6,dK,hL,p5]);refine cX.at _ (.inl rfl) ag (Same.refl _) aT aT ?_;simp[c6,Wo,aY,aZ,aW]
noncomputable def Tryz.maT:TypeInfo:=(al.info? 49).get (by kernel_rfl)
noncomputable def Tryz.maE:TypeInfo:=(al.info? 100).get (by kernel_rfl)
theorem Tryz.maK(n:Nat)(U:2≤n):Lib.swapperK n Tryz.maE 25=9:=by
 have a:Tryz.maE.hasPointers=true:=by kernel_rfl
 have b:Tryz.maE.bytes=24:=by kernel_rfl
 have c:(n==0)=false:=by simp;omega
 have d:(n==1)=false:=by simp;omega
 simp[Lib.swapperK,a,b,c,d]
theorem Vd{α β:Type}(f:α→β)(l:List α)(i j:Nat):(hl l i j).map f=hl (l.map f) i j:=by
 unfold hl;simp only[List.getElem?_map];cases l[i]? with
 |none=>simp
 |some x=>
  cases l[j]? with
  |none=>simp
  |some y=>simp[List.map_set]
theorem aeR(l:List bj)(aw:l.length≤68719476736):bV al 182 [.iface 49 (.row 2 (.obj 814) l.length),.func 185 [.ptr (.obj 815) 0]] (xh l) fun r ai=>r= .tuple []∧ai=xh (o0 fl l):=by
 refine(SA VC (K:=814) (B:=815) (sz:=2) (by decide) (by decide) 49 Tryz.maT Tryz.maE (by kernel_rfl) (by kernel_rfl) (by kernel_rfl) (by kernel_rfl) 25 (fun _=>by kernel_rfl) Tryz.maK 185 (hQ fl) ahT l aw (fun a1 h i j x y hi af=>aek a1 i j x y (by omega) hi af) (fun a1 h i j hi af=>?_)).mono ?_
 ·have:=SJ (P:=al) false 230 (fun args W=>run_callFunc_extern Tryz.func230 (by kernel_rfl) (by kernel_rfl) (by kernel_rfl) (e:=Ej false) (by kernel_rfl) args W)
   100 Tryz.maE (by kernel_rfl) (fun _=>by kernel_rfl) (Iu a1) (K:=814) (n:=l.length) (el:=100) (sz:=2) (by kernel_rfl) (xs:=a1.map bj.e) (by simp[dT,Pv.look,h]) i j hi af
  refine this.mono ?_;rintro r ai ⟨rfl,rfl⟩;refine⟨rfl,?_⟩;simp[dT,cB,Vd,h]
 ·rintro r ai ⟨rfl,a1,rfl,J,U⟩;exact⟨rfl,by rw[XM lT J U]⟩
def n1(l:List bj):List ah:= .hdm l.length (List.range l.length)::l.flatMap fun m=>[m.e,.bool true]
def k9(m:bj)(l:List bj):List bj:=if m∈l then l else l++[m]
theorem ahs(a b:bj):te (.a [false,true]) a.e b.e=some (decide (a=b)):=by simp only[bj.e,te,kh,if_true,oi];congr 1;rw[qu];cases a;cases b;simp
theorem aht(a:bj):uQ (.a [false,true]) a.e=true:=by simp[bj.e,uQ,kh,-IF]
theorem VG(m:bj):∀l:List bj,u2 (.a [false,true]) m.e (.bool true) (l.flatMap fun m=>[m.e,.bool true])=some (if m∈l then some (l.flatMap fun m=>[m.e,.bool true])else none)
 |[]=>rfl
 |a::l=>by
  simp only[List.flatMap_cons,bX,b3,u2,ahs];by_cases h:m=a
  ·subst h;simp
  ·have cx:decide (m=a)=false:=by simp[h]
   rw[cx];simp only[VG m l];by_cases hm:m∈l
   ·simp[hm]
   ·simp[hm,h]
@[simp] theorem ar5(m:bj)(l:List bj):oW (.a [false,true]) m.e (.bool true) (n1 l)=some (n1 (k9 m l)):=by
 simp only[n1,oW,aht,Bool.true_eq_false,reduceCtorEq,if_false,VG,k9];by_cases h:m∈l
 ·simp[h]
 ·simp[h,List.range_succ]
end Go.Proofs.YtahlgcidhnjlbaaGreat
namespace Go.Proofs.YtahlgcidhnjlbaaGreat
open Go Go.Pv
@[simp] theorem Ao(S:aH→Prop)(l:List bj):aJ S (n1 l)=True:=by
 refine eq_true ?_;unfold n1;have:∀l:List bj,aJ S (l.flatMap fun m=>[m.e,ah.bool true]):=fun l=>by
  induction l with
  |nil=>simp[aJ]
  |cons x r bZ=>simp only[List.flatMap_cons,bX,b3,aJ,ahx,aF,true_and];exact bZ
 simp only[aJ,aF,true_and];exact this l
@[simp] theorem arN:[ah.hdm 0 []]=n1 []:=rfl
def ot(tag:List dm)(l:List bj):cL:=⟨[(.obj 811,[.str tag]),(.obj 812,n1 l),(.obj 813,[.gmap (.obj 812)])],[]⟩
theorem Es(tag:List dm)(l:List bj):ej (ot tag l):=by unfold ot;refine ej.of ⟨by intro m;simp[Pv.look],by intro m;simp[Pv.look]⟩ (by simp[aJ,aF,inObs,Pv.look]) (by simp)
theorem Iv(tag:List dm)(l a1:List bj):Same (ot tag l) (ot tag a1):=Same.keys (by simp[ot]) (by simp[ot])
theorem aej(tag:List dm)(v:Int)(l:List bj):bV al 184 [.int .i64 v,.ptr (.obj 813) 0,.ptr (.obj 811) 0] (ot tag l) fun r ai=>r= .tuple []∧ai=ot tag (k9 ⟨v,tag⟩ l):=by have ag:=Es tag l;have gr:=Es tag (k9 ⟨v,tag⟩ l);have fa:=Iv tag l (k9 ⟨v,tag⟩ l);unfold ot at ag gr fa⊢;refine bV.mk mixed j7 ab5 aiF (by simp) ag.obj fun aN cT=>?_;unfold Pj;simp;refine cX.at _ (.inr rfl) gr fa aT aT ?_;simp[c6,Wn,aY,aZ,aW]
end Go.Proofs.YtahlgcidhnjlbaaGreat
namespace Go.Proofs.YtahlgcidhnjlbaaGreat
open Go Go.Pv Go.Lib
abbrev vs(l:List bJ):cL:=dT bJ.e 803 804 98 2 l
theorem Ux:∀(S:aH→Prop) (x:bJ),aF S x.e:=fun S x=>by simp
theorem Ep(l:List bJ):ej (vs l):=xi Ux l
def wD(x y:bJ):Bool:=decide (x.v<y.v)
theorem ahS:Sort.SWO wD:=⟨fun x=>by simp[wD],fun x y z J U=>by simp[wD]at*;omega,fun x y z J U=>by simp[wD]at*;omega⟩
theorem ael(l:List bJ)(i j:Nat)(x y:bJ)(aw:l.length≤68719476736)(hi:l[i]? =some x)(af:l[j]? =some y):bV al 183 [.int .i64 i,.int .i64 j,.ptr (.obj 804) 0] (vs l) fun r ai=>r= .bool (wD x y)∧ai=vs l:=by have ag:=Ep l;obtain⟨l6,hL⟩:=fV.1 hi;obtain⟨dK,p5⟩:=fV.1 af;unfold vs dT at ag⊢;refine bV.mk mixed j7 ab7 aiH (by simp) ag.obj fun aN cT=>?_;unfold Pl;simp[l6,dK,hL,p5];(with_reducible repeat' first|refine aj ?_|simp);refine cX.at _ (.inl rfl) ag (Same.refl _) aT aT ?_;simp[c6,Wp,aY,aZ,aW,wD]
noncomputable def Tryz.vkT:TypeInfo:=(al.info? 48).get (by kernel_rfl)
noncomputable def Tryz.vkE:TypeInfo:=(al.info? 98).get (by kernel_rfl)
theorem Tryz.vkK(n:Nat)(U:2≤n):Lib.swapperK n Tryz.vkE 25=9:=by
 have a:Tryz.vkE.hasPointers=false:=by kernel_rfl
 have b:Tryz.vkE.bytes=16:=by kernel_rfl
 have c:(n==0)=false:=by simp;omega
 have d:(n==1)=false:=by simp;omega
 simp[Lib.swapperK,a,b,c,d]
theorem ahR{α β:Type}(f:α→β)(l:List α)(i j:Nat):(hl l i j).map f=hl (l.map f) i j:=by
 unfold hl;simp only[List.getElem?_map];cases l[i]? with
 |none=>simp
 |some x=>
  cases l[j]? with
  |none=>simp
  |some y=>simp[List.map_set]
theorem SI(l:List bJ)(aw:l.length≤68719476736):bV al 182 [.iface 48 (.row 2 (.obj 803) l.length),.func 183 [.ptr (.obj 804) 0]] (vs l) fun r ai=>r= .tuple []∧∃a1,ai=vs a1∧a1.Perm l∧a1.Pairwise fun x y=>wD y x=false:=by
 refine(SA Ux (K:=803) (B:=804) (sz:=2) (by decide) (by decide) 48 Tryz.vkT Tryz.vkE (by kernel_rfl) (by kernel_rfl) (by kernel_rfl) (by kernel_rfl) 25 (fun _=>by kernel_rfl) Tryz.vkK 183 wD ahS l aw (fun a1 h i j x y hi af=>ael a1 i j x y (by omega) hi af) (fun a1 h i j hi af=>?_));have:=SJ (P:=al) false 230 (fun args W=>run_callFunc_extern Tryz.func230 (by kernel_rfl) (by kernel_rfl) (by kernel_rfl) (e:=Ej false) (by kernel_rfl) args W)
  98 Tryz.vkE (by kernel_rfl) (fun _=>by kernel_rfl) (Ep a1) (K:=803) (n:=l.length) (el:=98) (sz:=2) (by kernel_rfl) (xs:=a1.map bJ.e) (by simp[dT,Pv.look,h]) i j hi af
 refine this.mono ?_;rintro r ai ⟨rfl,rfl⟩;refine⟨rfl,?_⟩;simp[dT,cB,ahR,h]
end Go.Proofs.YtahlgcidhnjlbaaGreat
namespace Go.Proofs.YtahlgcidhnjlbaaGreat
open Go Go.Pv
def fP(o:Option (List bJ)):ah:= .tuple [.slice 2 .no ((o.getD []).map bJ.e),.bool o.isSome]
@[simp] theorem arw(S:aH→Prop)(o:Option (List bJ)):aF S (fP o)=True:=by simp[fP]
theorem Ym{l:List bJ}(h:jl l):bt al 87 [.slice 2 .no (l.map bJ.e)] (.bool true):=by have:=Yl l;simpa only[h,decide_true]using this
theorem yV{t:T}(h:t.fit=true):bt al 64 [t.e] (.bool true):=by have:=anv t;rwa[h]at this
set_option maxRecDepth 4000 in
theorem Yk{s:List ao}(ag:eE s){l:List bJ}(aw:jl l)(t:T)(aL:t.fit=true)(k:Int):
  bt al 118 [.slice 5 .no (s.map ao.e),.slice 2 .no (l.map bJ.e),t.e,.int .i64 k] (fP (if(k=2∨k=3)∧(t.ap (b7 s)).size≤5000 then iV l (t.ap (b7 s)) k else none)):=by
 have xW:=nZ aw;have c2:=o5 ag;have dO:=yV aL;have c1:=Ym aw;have fu:=Ig s t ag.len ag.sol.asc ag.fit;generalize ab:t.ap (b7 s)=x at fu⊢;generalize du:(if(k=2∨k=3)∧x.size≤5000 then iV l x k else none)=O;by_cases ad:k=2∨k=3;rotate_left
 ·have gy:(k !=2)=true:=by simp;omega
  have lf:(k !=3)=true:=by simp;omega
  rw[if_neg (fun h=>ad h.1)]at du;rw[←du];refine bc j7 rz sb fun aN=>?_;unfold qF;simp;(with_reducible repeat' first|refine aj ?_|refine aD c2 ?_|refine aE c2 ?_|refine aD dO ?_|refine aE dO ?_|refine aD c1 ?_|refine aE c1 ?_|simp[gy,lf]);simp[bu,j5,aY,aZ,aW];simp[fP]
 by_cases bq:x.size≤5000;rotate_left
 ·rw[if_neg (fun h=>bq h.2)]at du;rw[←du];rw[if_neg bq,h6 bq]at fu;refine bc j7 rz sb fun aN=>?_;unfold qF;simp;rcases ad with rfl|rfl;all_goals(with_reducible repeat' first|refine aj ?_|refine aD c2 ?_|refine aE c2 ?_|refine aD dO ?_|refine aE dO ?_|refine aD c1 ?_|refine aE c1 ?_|refine aD fu ?_|refine aE fu ?_|simp)
  all_goals simp[bu,j5,aY,aZ,aW]
  all_goals simp[fP]
 rw[if_pos ⟨ad,bq⟩]at du;rw[if_pos bq,gU bq]at fu;have FU:(k !=2)=true→(k !=3)=false:=fun h=>by simp at h⊢;omega
 have uH:((k !=2)=false)∨((k !=2)=true∧(k !=3)=false):=by
  rcases ad with rfl|rfl
  ·left;rfl
  ·right;exact⟨rfl,rfl⟩
 clear FU;cases x with
 |var n=>
  have dU:O=match ll l n with|some bH=>if bH=k then some l else none|none=>some (lP ⟨n,k⟩ l):=by rw[←du];rfl
  refine bc j7 rz sb fun aN=>?_;unfold qF;simp;rcases uH with bh|⟨bh,jP⟩
  ·(with_reducible repeat' first|refine aj ?_|refine aD c2 ?_|refine aE c2 ?_|refine aD dO ?_|refine aE dO ?_|refine aD c1 ?_|refine aE c1 ?_|refine aD fu ?_|refine aE fu ?_|simp[bh]);refine dR [3,10,12,55,56] (fun i (_:Unit)=>[(57,.int .i64 i)]) l.length (fun i _=> ∀j y,j<i→l[j]? =some y→y.v≠n) () bW (fun j y af=>by omega) (fun _ af _=>?_) (fun i _ hi af _=>?_)
   ·have aX:ll l n=none:=yd.2 fun y aG=>by obtain⟨m,hm,e⟩:=nN aG;exact af m y hm (by rw[cl hm,e])
    rw[aX]at dU;simp only at dU;simp;(with_reducible repeat' first|refine aj ?_|simp);all_goals first|(refine⟨by unfold lim;omega,?_⟩)|skip
    have key:=SI (l++[⟨n,k⟩]) (by simp;omega);have eJ:=Ep (l++[⟨n,k⟩]);have hlen:(l++[(⟨n,k⟩:bJ)]).length=l.length+1:=by simp
    unfold vs dT at key eJ;rw[hlen,List.map_append,gS,mU]at key eJ;refine c9.ob key eJ aT aT (by simp[inObs,Pv.look]) ?_;rintro r ai ⟨rfl,a1,rfl,J,U⟩;have sZ:a1=lP ⟨n,k⟩ l:=Uy (J.trans ((List.perm_append_comm (l₁:=l) (l₂:=[⟨n,k⟩])).trans (Lh ⟨n,k⟩ l).symm)) (Gh aw.asc (yd.1 aX)) U;subst sZ;refine⟨Same.keys (by simp) (by simp),?_⟩;rw[dU];simp[cz];(with_reducible repeat' first|refine aj ?_|simp);simp[bu,j5,aY,aZ,aW];simp[fP]
   ·obtain⟨b,ae,cG⟩:=dP hi;by_cases nr:b.v=n
    ·have aX:ll l n=some b.k:=by rw[←nr];exact Gv aw.asc (dZ ae)
     rw[aX]at dU;simp only at dU;by_cases oH:b.k=k
     ·rw[if_pos oH]at dU;rw[dU];have xI:(b.k !=k)=false:=by simp[oH]
      have rN:(b.v==n)=true:=by simp[nr]
      simp[hi,cG];(with_reducible repeat' first|refine aj ?_|simp[cG,hi,xI,rN,oH,nr]);simp[bu,j5,aY,aZ,aW];simp[fP]
     ·rw[if_neg oH]at dU;rw[dU];have xI:(b.k !=k)=true:=by simp[oH]
      have rN:(b.v==n)=true:=by simp[nr]
      simp[hi,cG];(with_reducible repeat' first|refine aj ?_|simp[cG,hi,xI,rN,oH,nr]);simp[bu,j5,aY,aZ,aW];simp[fP]
    ·have rN:(b.v==n)=false:=by simp[nr]
     simp[hi,cG];(with_reducible repeat' first|refine aj ?_|simp[cG,hi,rN,nr]);exact bT.rng () hi (fun j y jy aG=>by
      rcases(by omega:j<i∨j=i)with h|rfl
      ·exact af j y h aG
      ·rw[ae]at aG;cases aG;exact nr) bW
  ·(with_reducible repeat' first|refine aj ?_|refine aD c2 ?_|refine aE c2 ?_|refine aD dO ?_|refine aE dO ?_|refine aD c1 ?_|refine aE c1 ?_|refine aD fu ?_|refine aE fu ?_|simp[bh,jP]);refine dR [3,10,12,55,56] (fun i (_:Unit)=>[(57,.int .i64 i)]) l.length (fun i _=> ∀j y,j<i→l[j]? =some y→y.v≠n) () bW (fun j y af=>by omega) (fun _ af _=>?_) (fun i _ hi af _=>?_)
   ·have aX:ll l n=none:=yd.2 fun y aG=>by obtain⟨m,hm,e⟩:=nN aG;exact af m y hm (by rw[cl hm,e])
    rw[aX]at dU;simp only at dU;simp;(with_reducible repeat' first|refine aj ?_|simp);all_goals first|(refine⟨by unfold lim;omega,?_⟩)|skip
    have key:=SI (l++[⟨n,k⟩]) (by simp;omega);have eJ:=Ep (l++[⟨n,k⟩]);have hlen:(l++[(⟨n,k⟩:bJ)]).length=l.length+1:=by simp
    unfold vs dT at key eJ;rw[hlen,List.map_append,gS,mU]at key eJ;refine c9.ob key eJ aT aT (by simp[inObs,Pv.look]) ?_;rintro r ai ⟨rfl,a1,rfl,J,U⟩;have sZ:a1=lP ⟨n,k⟩ l:=Uy (J.trans ((List.perm_append_comm (l₁:=l) (l₂:=[⟨n,k⟩])).trans (Lh ⟨n,k⟩ l).symm)) (Gh aw.asc (yd.1 aX)) U;subst sZ;refine⟨Same.keys (by simp) (by simp),?_⟩;rw[dU];simp[cz];(with_reducible repeat' first|refine aj ?_|simp);simp[bu,j5,aY,aZ,aW];simp[fP]
   ·obtain⟨b,ae,cG⟩:=dP hi;by_cases nr:b.v=n
    ·have aX:ll l n=some b.k:=by rw[←nr];exact Gv aw.asc (dZ ae)
     rw[aX]at dU;simp only at dU;by_cases oH:b.k=k
     ·rw[if_pos oH]at dU;rw[dU];have xI:(b.k !=k)=false:=by simp[oH]
      have rN:(b.v==n)=true:=by simp[nr]
      simp[hi,cG];(with_reducible repeat' first|refine aj ?_|simp[cG,hi,xI,rN,oH,nr]);simp[bu,j5,aY,aZ,aW];simp[fP]
     ·rw[if_neg oH]at dU;rw[dU];have xI:(b.k !=k)=true:=by simp[oH]
      have rN:(b.v==n)=true:=by simp[nr]
      simp[hi,cG];(with_reducible repeat' first|refine aj ?_|simp[cG,hi,xI,rN,oH,nr]);simp[bu,j5,aY,aZ,aW];simp[fP]
    ·have rN:(b.v==n)=false:=by simp[nr]
     simp[hi,cG];(with_reducible repeat' first|refine aj ?_|simp[cG,hi,rN,nr]);exact bT.rng () hi (fun j y jy aG=>by
      rcases(by omega:j<i∨j=i)with h|rfl
      ·exact af j y h aG
      ·rw[ae]at aG;cases aG;exact nr) bW
 |nil=>
  have dU:O=if T.nil.kind=k then some l else none:=by rw[←du];rfl
  by_cases hz:T.nil.kind=k
  ·rw[if_pos hz]at dU;rw[dU];refine bc j7 rz sb fun aN=>?_;unfold qF;simp;simp at hz;rcases uH with bh|⟨bh,jP⟩
   ·((with_reducible repeat' first|refine aj ?_|refine aD c2 ?_|refine aE c2 ?_|refine aD dO ?_|refine aE dO ?_|refine aD c1 ?_|refine aE c1 ?_|refine aD fu ?_|refine aE fu ?_|simp[bh,hz]|((first|apply bK|apply bM|apply bL)<;>intro h<;>try simp at h))<;>(try exact cc));all_goals simp[bu,j5,aY,aZ,aW]
    all_goals simp[fP]
   ·((with_reducible repeat' first|refine aj ?_|refine aD c2 ?_|refine aE c2 ?_|refine aD dO ?_|refine aE dO ?_|refine aD c1 ?_|refine aE c1 ?_|refine aD fu ?_|refine aE fu ?_|simp[bh,jP,hz]|((first|apply bK|apply bM|apply bL)<;>intro h<;>try simp at h))<;>(try exact cc));all_goals simp[bu,j5,aY,aZ,aW]
    all_goals simp[fP]
  ·rw[if_neg hz]at dU;rw[dU];refine bc j7 rz sb fun aN=>?_;unfold qF;simp;simp at hz;rcases uH with bh|⟨bh,jP⟩
   ·((with_reducible repeat' first|refine aj ?_|refine aD c2 ?_|refine aE c2 ?_|refine aD dO ?_|refine aE dO ?_|refine aD c1 ?_|refine aE c1 ?_|refine aD fu ?_|refine aE fu ?_|simp[bh,hz]|((first|apply bK|apply bM|apply bL)<;>intro h<;>try simp at h))<;>(try exact cc));all_goals simp[bu,j5,aY,aZ,aW]
    all_goals simp[fP]
   ·((with_reducible repeat' first|refine aj ?_|refine aD c2 ?_|refine aE c2 ?_|refine aD dO ?_|refine aE dO ?_|refine aD c1 ?_|refine aE c1 ?_|refine aD fu ?_|refine aE fu ?_|simp[bh,jP,hz]|((first|apply bK|apply bM|apply bL)<;>intro h<;>try simp at h))<;>(try exact cc));all_goals simp[bu,j5,aY,aZ,aW]
    all_goals simp[fP]
 |sym a=>
  have dU:O=if(T.sym a).kind=k then some l else none:=by rw[←du];rfl
  by_cases hz:(T.sym a).kind=k
  ·rw[if_pos hz]at dU;rw[dU];refine bc j7 rz sb fun aN=>?_;unfold qF;simp;simp at hz;rcases uH with bh|⟨bh,jP⟩
   ·((with_reducible repeat' first|refine aj ?_|refine aD c2 ?_|refine aE c2 ?_|refine aD dO ?_|refine aE dO ?_|refine aD c1 ?_|refine aE c1 ?_|refine aD fu ?_|refine aE fu ?_|simp[bh,hz]|((first|apply bK|apply bM|apply bL)<;>intro h<;>try simp at h))<;>(try exact cc));all_goals simp[bu,j5,aY,aZ,aW]
    all_goals simp[fP]
   ·((with_reducible repeat' first|refine aj ?_|refine aD c2 ?_|refine aE c2 ?_|refine aD dO ?_|refine aE dO ?_|refine aD c1 ?_|refine aE c1 ?_|refine aD fu ?_|refine aE fu ?_|simp[bh,jP,hz]|((first|apply bK|apply bM|apply bL)<;>intro h<;>try simp at h))<;>(try exact cc));all_goals simp[bu,j5,aY,aZ,aW]
    all_goals simp[fP]
  ·rw[if_neg hz]at dU;rw[dU];refine bc j7 rz sb fun aN=>?_;unfold qF;simp;simp at hz;rcases uH with bh|⟨bh,jP⟩
   ·((with_reducible repeat' first|refine aj ?_|refine aD c2 ?_|refine aE c2 ?_|refine aD dO ?_|refine aE dO ?_|refine aD c1 ?_|refine aE c1 ?_|refine aD fu ?_|refine aE fu ?_|simp[bh,hz]|((first|apply bK|apply bM|apply bL)<;>intro h<;>try simp at h))<;>(try exact cc));all_goals simp[bu,j5,aY,aZ,aW]
    all_goals simp[fP]
   ·((with_reducible repeat' first|refine aj ?_|refine aD c2 ?_|refine aE c2 ?_|refine aD dO ?_|refine aE dO ?_|refine aD c1 ?_|refine aE c1 ?_|refine aD fu ?_|refine aE fu ?_|simp[bh,jP,hz]|((first|apply bK|apply bM|apply bL)<;>intro h<;>try simp at h))<;>(try exact cc));all_goals simp[bu,j5,aY,aZ,aW]
    all_goals simp[fP]
 |num a=>
  have dU:O=if(T.num a).kind=k then some l else none:=by rw[←du];rfl
  by_cases hz:(T.num a).kind=k
  ·rw[if_pos hz]at dU;rw[dU];refine bc j7 rz sb fun aN=>?_;unfold qF;simp;simp at hz;rcases uH with bh|⟨bh,jP⟩
   ·((with_reducible repeat' first|refine aj ?_|refine aD c2 ?_|refine aE c2 ?_|refine aD dO ?_|refine aE dO ?_|refine aD c1 ?_|refine aE c1 ?_|refine aD fu ?_|refine aE fu ?_|simp[bh,hz]|((first|apply bK|apply bM|apply bL)<;>intro h<;>try simp at h))<;>(try exact cc));all_goals simp[bu,j5,aY,aZ,aW]
    all_goals simp[fP]
   ·((with_reducible repeat' first|refine aj ?_|refine aD c2 ?_|refine aE c2 ?_|refine aD dO ?_|refine aE dO ?_|refine aD c1 ?_|refine aE c1 ?_|refine aD fu ?_|refine aE fu ?_|simp[bh,jP,hz]|((first|apply bK|apply bM|apply bL)<;>intro h<;>try simp at h))<;>(try exact cc));all_goals simp[bu,j5,aY,aZ,aW]
    all_goals simp[fP]
  ·rw[if_neg hz]at dU;rw[dU];refine bc j7 rz sb fun aN=>?_;unfold qF;simp;simp at hz;rcases uH with bh|⟨bh,jP⟩
   ·((with_reducible repeat' first|refine aj ?_|refine aD c2 ?_|refine aE c2 ?_|refine aD dO ?_|refine aE dO ?_|refine aD c1 ?_|refine aE c1 ?_|refine aD fu ?_|refine aE fu ?_|simp[bh,hz]|((first|apply bK|apply bM|apply bL)<;>intro h<;>try simp at h))<;>(try exact cc));all_goals simp[bu,j5,aY,aZ,aW]
    all_goals simp[fP]
   ·((with_reducible repeat' first|refine aj ?_|refine aD c2 ?_|refine aE c2 ?_|refine aD dO ?_|refine aE dO ?_|refine aD c1 ?_|refine aE c1 ?_|refine aD fu ?_|refine aE fu ?_|simp[bh,jP,hz]|((first|apply bK|apply bM|apply bL)<;>intro h<;>try simp at h))<;>(try exact cc));all_goals simp[bu,j5,aY,aZ,aW]
    all_goals simp[fP]
 |pair a b=>
  have dU:O=if(T.pair a b).kind=k then some l else none:=by rw[←du];rfl
  by_cases hz:(T.pair a b).kind=k
  ·rw[if_pos hz]at dU;rw[dU];refine bc j7 rz sb fun aN=>?_;unfold qF;simp;simp at hz;rcases uH with bh|⟨bh,jP⟩
   ·((with_reducible repeat' first|refine aj ?_|refine aD c2 ?_|refine aE c2 ?_|refine aD dO ?_|refine aE dO ?_|refine aD c1 ?_|refine aE c1 ?_|refine aD fu ?_|refine aE fu ?_|simp[bh,hz]|((first|apply bK|apply bM|apply bL)<;>intro h<;>try simp at h))<;>(try exact cc));all_goals simp[bu,j5,aY,aZ,aW]
    all_goals simp[fP]
   ·((with_reducible repeat' first|refine aj ?_|refine aD c2 ?_|refine aE c2 ?_|refine aD dO ?_|refine aE dO ?_|refine aD c1 ?_|refine aE c1 ?_|refine aD fu ?_|refine aE fu ?_|simp[bh,jP,hz]|((first|apply bK|apply bM|apply bL)<;>intro h<;>try simp at h))<;>(try exact cc));all_goals simp[bu,j5,aY,aZ,aW]
    all_goals simp[fP]
  ·rw[if_neg hz]at dU;rw[dU];refine bc j7 rz sb fun aN=>?_;unfold qF;simp;simp at hz;rcases uH with bh|⟨bh,jP⟩
   ·((with_reducible repeat' first|refine aj ?_|refine aD c2 ?_|refine aE c2 ?_|refine aD dO ?_|refine aE dO ?_|refine aD c1 ?_|refine aE c1 ?_|refine aD fu ?_|refine aE fu ?_|simp[bh,hz]|((first|apply bK|apply bM|apply bL)<;>intro h<;>try simp at h))<;>(try exact cc));all_goals simp[bu,j5,aY,aZ,aW]
    all_goals simp[fP]
   ·((with_reducible repeat' first|refine aj ?_|refine aD c2 ?_|refine aE c2 ?_|refine aD dO ?_|refine aE dO ?_|refine aD c1 ?_|refine aE c1 ?_|refine aD fu ?_|refine aE fu ?_|simp[bh,jP,hz]|((first|apply bK|apply bM|apply bL)<;>intro h<;>try simp at h))<;>(try exact cc));all_goals simp[bu,j5,aY,aZ,aW]
    all_goals simp[fP]
def h3(o:Option (List bj)):ah:= .tuple [.slice 2 .no ((o.getD []).map bj.e),.bool o.isSome]
@[simp] theorem ary(S:aH→Prop)(o:Option (List bj)):aF S (h3 o)=True:=by simp[h3]
theorem Yo{l:List bj}(h:gA l):bt al 88 [.slice 2 .no (l.map bj.e)] (.bool true):=by have:=Yn l;simpa only[h,decide_true]using this
theorem anl{s:List dm}(h:iv s=true):bt al 160 [.str s] (.bool true):=by have:=tK s;rwa[h]at this
def C8(l:List bj):List ah:=l.flatMap fun m=>[m.e,.bool true]
theorem Vg(l:List bj):n1 l= .hdm l.length (List.range l.length)::C8 l:=rfl
theorem LQ(b:Nat):∀(n:Nat) (l:List bj),mN b (List.range' n l.length) (C8 l)=(if n≤b then(l[b-n]?).map fun x=>.tuple [x.e,.bool true]else none)
 |n,[]=>by simp[mN,C8]
 |n,x::r=>by
  have e:C8 (x::r)=x.e:: .bool true::C8 r:=rfl;simp only[pT,List.range'_succ,e,mN];by_cases h:n=b
  ·subst h;simp
  ·rw[if_neg h,LQ b (n+1) r];by_cases U:n≤b
   ·rw[if_pos U,if_pos (by omega)];have:b-n=(b-(n+1))+1:=by omega
    rw[this];simp
   ·rw[if_neg U,if_neg (by omega)]
@[simp] theorem asj(l:List bj):h2 (n1 l)=false:=rfl
@[simp] theorem as0(m:aH)(l:List bj):wS m (n1 l)=some (ck l.length [] m):=rfl
theorem ah4(f:aH→Option (List ah))(ft mk:aH)(n:Nat)(seen:List Nat)(b:Nat)(l:List bj)(x:bj)(hi:f ft=some (ck n (seen++[b]) mk))(hm:f mk=some (n1 l))(au:n=l.length)(ab:l[b]? =some x):pK f (.ptr ft 0)=some (True,.tuple [x.e,.bool true]):=by subst au;simp only[Vq,hi,hm,ck,Vg,List.getLast?_append,List.getLast?_singleton,Option.some_or,List.range_eq_range',LQ,Nat.zero_le,if_true,Nat.sub_zero,Option.map_map];simp[ab]
theorem abe{st:bs}{d:Nat}{K:bs→Prop}{ft mk:aH}{n:Nat}{seen:List Nat}{l:List bj}(hi:Pv.look ft st.b=some (ck n seen mk))(hm:Pv.look mk st.b=some (n1 l))(au:n=l.length)
  (J:(∀b,b<l.length→b∈seen)→K {st with t:=Pv.put d (.tuple [.bool false]) st.t}) (U:∀b x,l[b]? =some x→b∉seen→K {st with t:=Pv.put d (.tuple [.bool true,x.e,.bool true]) st.t,b:=cB ft (ck n (seen++[b]) mk) st.b}):
  sN st d (.ptr ft 0) K:=by
 subst au;simp only[sN,hi,ck,hm,Vg,L4,and_self,true_and];refine⟨fun h=>J fun b ae=>h b (by simpa using ae),fun b k v xY ae=>?_⟩;rw[List.range_eq_range',LQ]at xY;simp only[Nat.zero_le,if_true,Nat.sub_zero,gT,ah.tuple.injEq,qv,and_true]at xY;obtain⟨x,ak,aC,bk⟩:=xY;subst aC bk;exact U b x ak ae
theorem ahZ{m x:bj}{l:List bj}:x∈k9 m l↔x=m∨x∈l:=by
 unfold k9;split
 ·constructor
  ·exact .inr
  ·rintro(rfl|h)<;>assumption
 ·simp[or_comm]
theorem ZC{m:bj}{l:List bj}(h:l.Nodup):(k9 m l).Nodup:=by
 unfold k9;split
 ·exact h
 ·rw[List.nodup_append];exact⟨h,by simp,fun a br b ae=>by simp at ae;subst ae;intro e;subst e;contradiction⟩
theorem ZB(m:bj)(l:List bj):(k9 m l).length≤l.length+1:=by unfold k9;split<;>simp
theorem aeb(s:List dm)(t:T):∀l:List bj,(t.fold (fun v l=>k9 ⟨v,s⟩ l) l).length≤l.length+t.size:=by
 induction t with
 |var n=>intro l;simp only[T.fold,T.size];exact ZB _ _
 |pair a b dW dX=>intro l;simp only[T.fold,T.size];have:=dW l;have:=dX (a.fold (fun v l=>k9 ⟨v,s⟩ l) l);omega
 |_=>intro l;simp[T.fold,T.size]
theorem aec(s:List dm)(t:T):∀{l:List bj},l.Nodup→(t.fold (fun v l=>k9 ⟨v,s⟩ l) l).Nodup:=by
 induction t with
 |var n=>intro l h;exact ZC h
 |pair a b dW dX=>intro l h;exact dX (dW h)
 |_=>intro l h;exact h
theorem ah0(s:List dm)(t:T)(x:bj):∀{l:List bj},x∈t.fold (fun v l=>k9 ⟨v,s⟩ l) l↔x∈l∨(x.s=s∧t.occ x.v=true):=by
 induction t with
 |var n=>
  intro l;simp only[T.fold,ahZ,T.occ,dS];constructor
  ·rintro(rfl|h)
   ·exact .inr ⟨rfl,rfl⟩
   ·exact .inl h
  ·rintro(h|⟨J,U⟩)
   ·exact .inr h
   ·left;cases x;simp at J U;subst J U;rfl
 |pair a b dW dX=>
  intro l;simp only[T.fold,dX,dW,T.occ,mT];constructor
  ·rintro((h|h)|h)
   ·exact .inl h
   ·exact .inr ⟨h.1,.inl h.2⟩
   ·exact .inr ⟨h.1,.inr h.2⟩
  ·rintro(h|⟨J,U|U⟩)
   ·exact .inl (.inl h)
   ·exact .inl (.inr ⟨J,U⟩)
   ·exact .inr ⟨J,U⟩
 |_=>intro l;simp[T.fold,T.occ]
def ag9(M:List bj)(k:Nat)(st:bs):Prop:=∃(seen:List Nat) (xs:List bj),seen.Nodup∧(∀b∈seen,b<M.length)∧k=M.length-seen.length∧xs=seen.filterMap (fun b=>M[b]?)∧xs.length=seen.length∧st=⟨[(15,.ptr (.obj 815) 0),(63,.ptr (.loc 2) 0)],[(.obj 812,n1 M),(.loc 2,ck M.length seen (.obj 812)),(.obj 815,[.row 2 (.obj 814) xs.length])],[(.obj 814,⟨xs.length,100,2,some (xs.map bj.e)⟩)],3,[.obj 815,.obj 814,.obj 813,.obj 812,.obj 811]⟩
set_option maxRecDepth 4000 in
theorem Yj{s:List ao}(ag:eE s){l:List bj}(aw:gA l)(xW:l.length≤68719470000)(t:T)(aL:t.fit=true){g:List dm}(aX:iv g=true):
  bt al 120 [.slice 5 .no (s.map ao.e),.slice 2 .no (l.map bj.e),t.e,.str g] (h3 (if(t.ap (b7 s)).size≤5000 then jK l (t.ap (b7 s)) g else none)):=by
 have c2:=o5 ag;have dO:=yV aL;have dN:=Yo aw;have h1:=anl aX;have fu:=Ig s t ag.len ag.sol.asc ag.fit;generalize ab:t.ap (b7 s)=x at fu⊢;generalize du:(if x.size≤5000 then jK l x g else none)=O;by_cases bq:x.size≤5000;rotate_left
 ·rw[if_neg bq]at du;rw[←du];rw[if_neg bq,h6 bq]at fu;refine bc j7 JD Ma fun aN=>?_;unfold EI;simp;(with_reducible repeat' first|refine aj ?_|refine aD c2 ?_|refine aE c2 ?_|refine aD dO ?_|refine aE dO ?_|refine aD dN ?_|refine aE dN ?_|refine aD h1 ?_|refine aE h1 ?_|refine aD fu ?_|refine aE fu ?_|simp);simp[bu,Hb,aY,aZ,aW];simp[h3]
 rw[if_pos bq]at du;rw[if_pos bq,gU bq]at fu;have Al:=anJ g x;cases cP:x.has g;rotate_left
 ·rw[cP]at Al;have dU:O=none:=by rw[←du];unfold jK;rw[cP];rfl
  rw[dU];refine bc j7 JD Ma fun aN=>?_;unfold EI;simp;(with_reducible repeat' first|refine aj ?_|refine aD c2 ?_|refine aE c2 ?_|refine aD dO ?_|refine aE dO ?_|refine aD dN ?_|refine aE dN ?_|refine aD h1 ?_|refine aE h1 ?_|refine aD fu ?_|refine aE fu ?_|refine aD Al ?_|refine aE Al ?_|simp);simp[bu,Hb,aY,aZ,aW];simp[h3]
 rw[cP]at Al;refine bc j7 JD Ma fun aN=>?_;unfold EI;simp;(with_reducible repeat' first|refine aj ?_|refine aD c2 ?_|refine aE c2 ?_|refine aD dO ?_|refine aE dO ?_|refine aD dN ?_|refine aE dN ?_|refine aD h1 ?_|refine aE h1 ?_|refine aD fu ?_|refine aE fu ?_|refine aD Al ?_|refine aE Al ?_|simp);have CA:l.Nodup:=hS.nodup lT aw.asc;have hY:∀xs:List bj,xs.Perm (x.fold (fun v l=>k9 ⟨v,g⟩ l) l)→O=some (o0 fl xs):=fun xs bQ=>by
  rw[←du];refine IC cP ?_ fun y=>?_
  ·have J:=NC lT xs;have U:(o0 fl xs).Nodup:=(((yO fl xs).trans bQ).nodup_iff).2 (aec g x CA);exact(J.and U).imp fun{a b} h=>by have:=mt (lT.zero a b).1 h.2;omega
  ·rw[((yO fl xs).trans bQ).mem_iff,ah0]
 have hlen:(x.fold (fun v l=>k9 ⟨v,g⟩ l) l).length≤68719475000:=by have:=aeb g x l;omega
 rw[show jS []=n1 []from rfl];refine hH (fun i (_:Unit)=>⟨[(7,.ptr (.obj 811) 0),(10,.ptr (.loc 1) 0),(12,.ptr (.obj 813) 0),(49,.slice 2 .no (l.map bj.e)),(50,.int .i64 l.length),(51,.int .i64 i)],[(.obj 811,[.str g]),(.loc 1,[.int .i64 x.kind,.int .i64 x.int,.str x.name,.slice 4 .no (x.args.map T.e)]),(.obj 812,n1 (l.take i)),(.obj 813,[.gmap (.obj 812)])],[],2,[.obj 813,.obj 812,.obj 811]⟩) l.length (fun _ _=>True) () bW trivial (fun _ _ _=>?_) (fun i _ hi _ _=>?_)
 ·rw[mn];simp;(with_reducible repeat' first|refine aj ?_|simp);have key:=SB (ot g) (Es g) (Iv g) 184 [.ptr (.obj 813) 0,.ptr (.obj 811) 0] (by intro a;simp[inObs,ot,Pv.look,aJ,aF]) (by simp) (fun v l=>k9 ⟨v,g⟩ l) (fun v a=>aej g v a) x l;refine c9.ob key (Es g l) (by unfold ot;exact aT) (by unfold ot;exact aT) (by simp[inObs,ot,Pv.look]) ?_;rintro r ai ⟨rfl,rfl⟩;refine⟨Iv g _ _,?_⟩;unfold ot;generalize ec:x.fold (fun v l=>k9 ⟨v,g⟩ l) l=M at hY hlen⊢;simp[cz];(with_reducible repeat' first|refine aj ?_|simp);refine pA (ag9 M) M.length _ ⟨by simp[fresh,aJ,aF,ck,inObs,Pv.look,Ao],ee (by simp[fresh,aJ,aF,ck,inObs,Pv.look,Ao]),ef (by simp[fresh,aJ,aF,dV,inObs,Pv.look,Ao]),by simp⟩ ⟨[],[],by simp,by simp,by simp,by simp,by simp,rfl⟩ ?_;rintro k st ⟨seen,xs,aR,bE,ad,T5,kl,rfl⟩ kX cT;clear kX cT;have hle:=HP aR bE;simp;refine abe (mk:= .obj 812) (seen:=seen) (l:=M) (by simp) (by simp) rfl (fun lD=>?_) (fun b y aG ae=>?_)
  ·have v7:=Nu aR bE lD;rw[←T5]at v7;have c7:=hY xs v7;simp;(with_reducible repeat' first|refine aj ?_|simp);have key:=aeR xs (by omega);have eJ:=Iu xs;unfold xh dT at key eJ;refine c9.ob key eJ aT aT (by simp[inObs,Pv.look]) ?_;rintro r ai ⟨rfl,rfl⟩;refine⟨Same.keys (by simp) (by simp),?_⟩;rw[c7];simp[cz];(with_reducible repeat' first|refine aj ?_|simp);simp[bu,Hb,aY,aZ,aW];simp[h3]
  ·have zS:∀f:aH→Option (List ah),f (.loc 2)=some (ck M.length (seen++[b]) (.obj 812))→f (.obj 812)=some (n1 M)→pK f (.ptr (.loc 2) 0)=some (True,.tuple [y.e,.bool true]):=fun f J U=>ah4 f (.loc 2) (.obj 812) M.length seen b M y J U rfl aG;have fs:b<M.length:=(fV.1 aG).1;have p8:=Nv aR bE fs ae;simp[zS];(with_reducible repeat' first|refine aj ?_|simp[zS]);all_goals first|(refine⟨by unfold lim;omega,?_⟩)|skip
   have xT:∀S:aH→Prop,aJ S (xs.map bj.e++[y.e])=True:=fun S=>by
    have e:xs.map bj.e++[y.e]=(xs++[y]).map bj.e:=by simp
    rw[e];simp[-List.map_append]
   refine bT.next (M.length-(seen.length+1)) (by omega) ⟨seen++[b],xs++[y],L8 aR ae,(by simp;intro c ay;rcases ay with ay|rfl;exact bE c ay;exact fs),by simp,by rw[List.filterMap_append,←T5];simp[aG],by simp[kl],rfl⟩ ⟨by simp[fresh,aJ,aF,ck,inObs,Pv.look,Ao,xT],ee (by simp[fresh,aJ,aF,ck,inObs,Pv.look,Ao,xT]),ef (by simp[fresh,aJ,aF,dV,inObs,Pv.look,Ao,xT]),by simp⟩
 ·obtain⟨b,ae,cG⟩:=dP hi;have kB:k9 b (l.take i)=l.take (i+1):=by
   have J:b∉l.take i:=fun h=>by
    obtain⟨j,af,e⟩:=nN h;have jy:j<i:=by simp at af;omega
    rw[List.getElem_take]at e;have:=(List.nodup_iff_pairwise_ne.1 CA);exact(pU.1 this j i (by omega) hi jy) (by rw[e,cG])
   rw[List.take_succ,ae];simp[k9,J]
  exact gI
def PA:C:=(aa [bd 4 false] (.seq (aa [I 7 0,cg 8 7,bU 9 0] (fp 10 9 8 (.seq (.block 1 (aa [cp 11 5 7 9,aS 12 5 11,cO 6 iK,bz 5 6 12] (aa [aB 13 0 1 6,av 14 1 13,I 15 1,bn 16 .geq 14 15,I 17 16,aq 17 false (gY 18 1 4 6),aq 17 false (aS 19 4 18),ys 17 false (.bsl 20 4 30 [.t 19]),aq 17 false (cA 21 162 20),b6 17 false 22 1,aq 17 false (bn 23 .gtr 21 22),cU 24 17 23] (aU 24 (aa [bd 4 false] .ret) .skip)))) (.region [aV 25 .add 9 1,I 9 25])))) (aa [bd 4 true] .ret)))
@[simp] def ak2:List bB:=[.tmp 4]
def Pz:C:=(aa [bU 2 0] (.seq (aa [I 6 0,cA 7 172 6,cd 8 7] (aU 8 (aa [bU 2 (-1)] .ret) .skip)) (aa [c4 (.alloc 3 (some 831) (.int .i64 0)),c4 (.store 1 (.t 3) (fI 0))] (.seq (aa [I 9 0,cg 10 9,bU 11 0] (fp 12 11 10 (.seq (.block 1 (aa [cp 13 4 9 11,aS 14 4 13,cO 5 dY,bz 4 5 14] (.region [aS 15 4 5,b9 16 (.mkf 204 [.t 3]),b8 17 134 15 16]))) (.region [aV 18 .add 11 1,I 11 18])))) (aa [av 19 1 3,I 2 19] .ret)))))
@[simp] def ak0:List bB:=[.tmp 2]
def Pt:C:=(aa [eu 4 2,bd 5 false] (.seq (aa [I 11 0,cA 12 86 11,cd 13 12,I 14 13,b6 14 false 15 1,aq 14 false (cA 16 87 15),aq 14 false (cd 17 16),cU 18 14 17] (aU 18 (aa [eu 4 2,bd 5 false] .ret) .skip)) (aa [eb 19 2 98 [],I 6 19] (.seq (.seq (.fg false 6 (.region [I 20 1,cg 21 20,bU 22 0])) (fp 23 22 21 (.seq (.block 1 (aa [cp 24 2 20 22,aS 25 2 24,c4 (.alloc 8 none (.agg [.int .i64 0,.int .i64 0])),bz 2 8 25] (.seq (.drawn true 42 [I 27 0,I 28 6,aB 29 0 1 8,av 30 1 29,cA 31 116 30,aB 32 1 1 8,av 33 1 32,c8 34 118 [.t 27,.t 28,.t 31,.t 33],I 26 34,cn 35 0 26,cn 36 1 26,I 9 35,I 10 36]) (.seq (aa [I 37 10,cd 38 37] (aU 38 (aa [eu 4 2,bd 5 false] .ret) .skip)) (.region [I 39 9,I 6 39]))))) (.region [aV 40 .add 22 1,I 22 40])))) (aa [I 41 6,I 4 41,bd 5 true] .ret)))))
@[simp] def MF:List bB:=[.tmp 4,.tmp 5]
def Pu:C:=(aa [eu 4 2,bd 5 false] (.seq (aa [I 11 0,cA 12 86 11,cd 13 12,I 14 13,b6 14 false 15 1,aq 14 false (cA 16 88 15),aq 14 false (cd 17 16),cU 18 14 17] (aU 18 (aa [eu 4 2,bd 5 false] .ret) .skip)) (aa [eb 19 2 100 [],I 6 19] (.seq (.seq (.fg false 6 (.region [I 20 1,cg 21 20,bU 22 0])) (fp 23 22 21 (.seq (.block 1 (aa [cp 24 2 20 22,aS 25 2 24,c4 (.alloc 8 none (.agg [.int .i64 0,.str []])),bz 2 8 25] (.seq (.drawn true 42 [I 27 0,I 28 6,aB 29 0 1 8,av 30 1 29,cA 31 116 30,aB 32 1 1 8,av 33 1 32,c8 34 120 [.t 27,.t 28,.t 31,.t 33],I 26 34,cn 35 0 26,cn 36 1 26,I 9 35,I 10 36]) (.seq (aa [I 37 10,cd 38 37] (aU 38 (aa [eu 4 2,bd 5 false] .ret) .skip)) (.region [I 39 9,I 6 39]))))) (.region [aV 40 .add 22 1,I 22 40])))) (aa [I 41 6,I 4 41,bd 5 true] .ret)))))
@[simp] def MG:List bB:=[.tmp 4,.tmp 5]
def Pq:C:=(aa [eu 2 1] (.seq (aa [I 12 0,cg 13 12,bU 14 0] (fp 15 14 13 (.seq (.block 1 (aa [cp 16 1 12 14,av 17 1 16,I 4 17] (aa [I 18 4,cA 19 86 18,cd 20 19] (aU 20 (aa [eu 2 1] .ret) .skip)))) (.region [aV 21 .add 14 1,I 14 21])))) (aa [c4 (.bslm 22 (some 821) 1 46 []),I 23 0,c4 (.appm 24 none 1 46 (.t 22) (.t 23)),c4 (.alloc 5 (some 822) (.slice 1 .nil [])),bz 1 5 24] (aa [av 25 1 5,b9 26 (.mkif 47 (.t 25)),b9 27 (.mkf 206 [.t 5]),b8 28 140 26 27] (aa [eb 29 1 46 [],I 6 29] (.seq (aa [av 30 1 5,cg 31 30,bU 32 0] (.block 2 (.loop (aa [bn 33 .lss 32 31] (.seq (aU 33 .skip (.exit 2)) (.seq (.block 3 (aa [I 34 32,cp 35 1 30 32,av 36 1 35,I 7 34,I 8 36] (.seq (aa [I 37 7,aV 38 .gtr 37 0,I 39 38,aq 39 true (av 40 1 5),b6 39 true 41 7,aq 39 true (aV 42 .sub 41 1),aq 39 true (cp 43 1 40 42),aq 39 true (av 44 1 43),b6 39 true 45 8,aq 39 true (b8 46 207 44 45),aq 39 true (aV 47 .eql 46 0),dD 48 39 47] (aU 48 (.exit 3) .skip)) (aa [bd 9 true] (.seq (aa [av 49 1 5,cg 50 49,bU 51 0] (.block 4 (.loop (aa [bn 52 .lss 51 50] (.seq (aU 52 .skip (.exit 4)) (.seq (.block 5 (aa [cp 53 1 49 51,av 54 1 53,I 11 54] (aa [I 55 11,I 56 8,b8 57 207 55 56,aV 58 .neq 57 0,I 59 58,b6 59 true 60 11,b6 59 true 61 8,aq 59 true (b8 62 208 60 61),dD 63 59 62] (aU 63 (.region [bd 9 false]) .skip)))) (.region [aV 64 .add 51 1,I 51 64]))))))) (aa [I 65 9] (aU 65 (.region [I 66 6,I 67 8,cA 68 168 67,eb 69 1 46 [.t 68],gR 70 1 46 66 69,I 6 70]) .skip))))))) (.region [aV 71 .add 32 1,I 32 71]))))))) (aa [I 72 6,I 2 72] .ret)))))))
@[simp] def akV:List bB:=[.tmp 2]
def IX:C:=(.region [av 3 1 1,I 4 0,aV 5 .add 4 1,b9 6 (.max2 (.t 3) (.t 5)),bz 1 1 6])
@[simp] def MI:List bB:=[]
def Pr:C:=(aa [bd 5 false] (.seq (.drawn true 16 [av 6 1 2,I 7 0,cp 8 1 6 7,av 9 1 8,av 10 1 2,I 11 1,cp 12 1 10 11,av 13 1 12,b8 14 207 9 13,aV 15 .lss 14 0,I 5 15]) .ret))
@[simp] def Wu:List bB:=[.tmp 5]
def w1:List (Nat×dI):=[
 (3,⟨1,8,.int .i64,.int .i64 0⟩),
 (9,⟨1,16,.str,.str []⟩),
 (27,⟨1,24,.slice 30,.slice 4 .nil []⟩),
 (30,⟨4,56,.struct [(0,3),(1,3),(2,9),(3,27)],.agg [.int .i64 0,.int .i64 0,.str [],.slice 4 .nil []]⟩),
 (46,⟨1,24,.slice 113,.slice 5 .nil []⟩),
 (47,⟨1,24,.slice 46,.slice 1 .nil []⟩),
 (48,⟨1,24,.slice 98,.slice 2 .nil []⟩),
 (49,⟨1,24,.slice 100,.slice 2 .nil []⟩),
 (98,⟨2,16,.struct [(0,3),(1,3)],.agg [.int .i64 0,.int .i64 0]⟩),
 (100,⟨2,24,.struct [(0,3),(1,9)],.agg [.int .i64 0,.str []]⟩),
 (113,⟨5,64,.struct [(0,3),(1,30)],.agg [.int .i64 0,.int .i64 0,.int .i64 0,.str [],.slice 4 .nil []]⟩)]
theorem w3:fU al w1=true:=by kernel_rfl
theorem aiV:bY w1 PA ak2 2 Tryz.f89=true:=by kernel_rfl
theorem acn:al.funcs[(89:Nat)]? =some Tryz.f89:=Tryz.func89
theorem aiU:bY w1 Pz ak0 1 Tryz.f162=true:=by kernel_rfl
theorem acm:al.funcs[(162:Nat)]? =some Tryz.f162:=Tryz.func162
theorem aiP:bY w1 Pt MF 2 Tryz.f163=true:=by kernel_rfl
theorem acg:al.funcs[(163:Nat)]? =some Tryz.f163:=Tryz.func163
theorem aiQ:bY w1 Pu MG 2 Tryz.f164=true:=by kernel_rfl
theorem ach:al.funcs[(164:Nat)]? =some Tryz.f164:=Tryz.func164
theorem aiM:bY w1 Pq akV 1 Tryz.f167=true:=by kernel_rfl
theorem acd:al.funcs[(167:Nat)]? =some Tryz.f167:=Tryz.func167
theorem VS:bY w1 IX MI 2 Tryz.f204=true:=by kernel_rfl
theorem R3:al.funcs[(204:Nat)]? =some Tryz.f204:=Tryz.func204
theorem aiN:bY w1 Pr Wu 3 Tryz.f206=true:=by kernel_rfl
theorem ace:al.funcs[(206:Nat)]? =some Tryz.f206:=Tryz.func206
def Ul(s:List ao)(l:List bJ)(i:Nat)(a:List bJ):Prop:=jl a∧gk s (l.drop i) a=gk s l []
theorem Yq{s:List ao}(ag:eE s){l:List bJ}(aw:jl l):bt al 163 [.slice 5 .no (s.map ao.e),.slice 2 .no (l.map bJ.e)] (fP (gk s l [])):=by
 have xW:=nZ aw;have c2:=o5 ag;have c1:=Ym aw;refine bc w3 acg aiP fun aN=>?_;unfold Pt;simp;(with_reducible repeat' first|refine aj ?_|refine aD c2 ?_|refine aE c2 ?_|refine aD c1 ?_|refine aE c1 ?_|simp);refine dR [0,20,21] (fun i (a:List bJ)=>[(6,.slice 2 .no (a.map bJ.e)),(22,.int .i64 i)]) l.length (Ul s l) [] bW ⟨⟨by simp,by simp⟩,rfl⟩ (fun a af _=>?_) (fun i a hi af _=>?_)
 ·obtain⟨_,af⟩:=af;rw[List.drop_length]at af;simp only[gk]at af;rw[←af];simp;(with_reducible repeat' first|refine aj ?_|simp);simp[bu,MF,aY,aZ,aW];simp[fP]
 ·obtain⟨br,af⟩:=af;obtain⟨b,ae,cG⟩:=dP hi;have oG:=aw.at' b (dZ ae);rw[lv hi,cG]at af;simp only[gk]at af;have ed:=Yk ag br (.var b.v) (by simp[T.fit,T.ok,T.size,oG.1]) b.k;have bq:((T.var b.v).ap (b7 s)).size≤5000:=DR ag b.v;rw[if_pos ⟨oG.2,bq⟩,show(T.var b.v).ap (b7 s)=b7 s b.v from rfl]at ed;simp[hi,cG];cases dU:iV a (b7 s b.v) b.k with
  |none=>rw[dU]at af ed;simp only at af;rw[←af];simp only[fP]at ed;(with_reducible repeat' first|refine aj ?_|refine aD (jX _) ?_|refine aE (jX _) ?_|refine aD ed ?_|refine aE ed ?_|simp[cG,hi]);simp[bu,MF,aY,aZ,aW];simp[fP]
  |some bp=>rw[dU]at af ed;simp only[fP]at ed;(with_reducible repeat' first|refine aj ?_|refine aD (jX _) ?_|refine aE (jX _) ?_|refine aD ed ?_|refine aE ed ?_|simp[cG,hi]);exact bT.rng bp hi ⟨Ex br (A9 ag oG.1) oG.2 dU,af⟩ bW
def Um(s:List ao)(G:List (List dm))(l:List bj)(i:Nat)(a:List bj):Prop:=gA a∧nI G a∧gl s (l.drop i) a=gl s l []
theorem Yr{s:List ao}(ag:eE s){l:List bj}(aw:gA l){G:List (List dm)}(hg:G.length≤687000)(aX:nI G l):bt al 164 [.slice 5 .no (s.map ao.e),.slice 2 .no (l.map bj.e)] (h3 (gl s l [])):=by
 have hlen:∀{a:List bj},gA a→nI G a→a.length≤68719470000:=fun J U=>by have:=C9 J U;omega
 have xW:=hlen aw aX;have c2:=o5 ag;have c1:=Yo aw;refine bc w3 ach aiQ fun aN=>?_;unfold Pu;simp;(with_reducible repeat' first|refine aj ?_|refine aD c2 ?_|refine aE c2 ?_|refine aD c1 ?_|refine aE c1 ?_|simp);refine dR [0,20,21] (fun i (a:List bj)=>[(6,.slice 2 .no (a.map bj.e)),(22,.int .i64 i)]) l.length (Um s G l) [] bW ⟨⟨by simp,by simp[hS]⟩,fun x ab=>by simp at ab,rfl⟩ (fun a af _=>?_) (fun i a hi af _=>?_)
 ·obtain⟨_,_,af⟩:=af;rw[List.drop_length]at af;simp only[gl]at af;rw[←af];simp;(with_reducible repeat' first|refine aj ?_|simp);simp[bu,MG,aY,aZ,aW];simp[h3]
 ·obtain⟨br,CM,af⟩:=af;obtain⟨b,ae,cG⟩:=dP hi;have oG:=aw.at' b (dZ ae);have Kq:=aX b (dZ ae);rw[lv hi,cG]at af;simp only[gl]at af;have ed:=Yj ag br (hlen br CM) (.var b.v) (by simp[T.fit,T.ok,T.size,oG.1]) oG.2;have bq:((T.var b.v).ap (b7 s)).size≤5000:=DR ag b.v;rw[if_pos bq,show(T.var b.v).ap (b7 s)=b7 s b.v from rfl]at ed;simp[hi,cG];cases dU:jK a (b7 s b.v) b.s with
  |none=>rw[dU]at af ed;simp only at af;rw[←af];simp only[h3]at ed;(with_reducible repeat' first|refine aj ?_|refine aD (jX _) ?_|refine aE (jX _) ?_|refine aD ed ?_|refine aE ed ?_|simp[cG,hi]);simp[bu,MG,aY,aZ,aW];simp[h3]
  |some bp=>rw[dU]at af ed;simp only[h3]at ed;(with_reducible repeat' first|refine aj ?_|refine aD (jX _) ?_|refine aE (jX _) ?_|refine aD ed ?_|refine aE ed ?_|simp[cG,hi]);exact bT.rng bp hi ⟨Ey br (A9 ag oG.1) oG.2 dU,Ez CM Kq dU,af⟩ bW
end Go.Proofs.YtahlgcidhnjlbaaGreat
namespace Go.Proofs.YtahlgcidhnjlbaaGreat
open Go Go.Pv Go.Lib
def cC(d:List ao):ah:= .slice 5 .no (d.map ao.e)
@[simp] theorem arf(S:aH→Prop)(d:List ao):aF S (cC d)=True:=by simp[cC]
@[simp] theorem apk(d:List ao):cells (cC d)=[cC d]:=rfl
@[simp] theorem atg(d:List ao):ei (cC d)=true:=rfl
@[simp] theorem atI(d:List ao):dr (cC d)=cC d:=by simp[cC]
theorem RD:∀(S:aH→Prop) (x:List ao),aF S (cC x):=fun S x=>by simp
theorem Lv(S:aH→Prop):∀l:List (List ao),aJ S (l.map cC)
 |[]=>by simp[aJ]
 |x::xs=>by simp[aJ,Lv S xs]
@[simp] theorem US(S:aH→Prop)(l:List (List ao)):aJ S (l.map cC)=True:=eq_true (Lv S l)
@[simp] theorem NI:∀l:List (List ao),cW (l.map cC)=l.map cC
 |[]=>rfl
 |x::xs=>by simp[cW,NI xs]
def gh(d:List c3):ah:= .slice 5 .no (d.map c3.e)
@[simp] theorem apn(d:List c3):cells (gh d)=[gh d]:=rfl
@[simp] theorem atj(d:List c3):ei (gh d)=true:=rfl
theorem Jq(d:List ao):gh (d.map ao.b)=cC d:=by simp only[gh,cC,yk]
theorem Jr(l:List (List ao)):(l.map fun d=>d.map ao.b).map gh=l.map cC:=by rw[List.map_map];exact List.map_congr_left fun d _=>Jq d
@[simp] theorem arj(S:aH→Prop)(d:List c3):aF S (gh d)=True:=by simp[gh]
@[simp] theorem atL(d:List c3):dr (gh d)=gh d:=by simp[gh]
theorem UU(S:aH→Prop):∀l:List (List c3),aJ S (l.map gh)
 |[]=>by simp[aJ]
 |x::xs=>by simp[aJ,UU S xs]
@[simp] theorem aq9(S:aH→Prop)(l:List (List c3)):aJ S (l.map gh)=True:=eq_true (UU S l)
abbrev tW(l:List (List ao)):cL:=dT cC 821 822 46 1 l
theorem Ir(l:List (List ao)):ej (tW l):=xi RD l
theorem aem(l:List (List ao))(aw:l.length≤68719476736)(i j:Nat)(x y:List ao)(hi:l[i]? =some x)(af:l[j]? =some y):bV al 206 [.int .i64 i,.int .i64 j,.ptr (.obj 822) 0] (tW l) fun r ai=>r= .bool (hQ eG x y)∧ai=tW l:=by have ag:=Ir l;obtain⟨l6,hL⟩:=fV.1 hi;obtain⟨dK,p5⟩:=fV.1 af;have aP:bt al 207 [cC x,cC y] (.int .i64 (eG x y)):=Ie x y;unfold tW dT at ag⊢;refine bV.mk mixed w3 ace aiN (by simp) ag.obj fun aN cT=>?_;unfold Pr;simp[l6,dK,hL,p5];(with_reducible repeat' first|refine aj ?_|refine aD aP ?_|refine aE aP ?_|simp[l6,dK,hL,p5]);refine cX.at _ (.inl rfl) ag (Same.refl _) aT aT ?_;simp[c6,Wu,aY,aZ,aW,hQ]
noncomputable def Tryz.dsT:TypeInfo:=(al.info? 47).get (by kernel_rfl)
noncomputable def Tryz.dsE:TypeInfo:=(al.info? 46).get (by kernel_rfl)
theorem Tryz.dsK(n:Nat)(U:2≤n):Lib.swapperK n Tryz.dsE 23=9:=by
 have a:Tryz.dsE.hasPointers=true:=by kernel_rfl
 have b:Tryz.dsE.bytes=24:=by kernel_rfl
 have c:(n==0)=false:=by simp;omega
 have d:(n==1)=false:=by simp;omega
 simp[Lib.swapperK,a,b,c,d]
theorem aeP(l:List (List ao))(aw:l.length≤68719476736):bV al 140 [.iface 47 (.row 1 (.obj 821) l.length),.func 206 [.ptr (.obj 822) 0]] (tW l) fun r ai=>r= .tuple []∧ai=tW (o0 eG l):=by
 refine(aep RD (K:=821) (B:=822) (sz:=1) 47 Tryz.dsT Tryz.dsE (by kernel_rfl) (by kernel_rfl) (by kernel_rfl) (by kernel_rfl) 23 (fun _=>by kernel_rfl) Tryz.dsK 206 (hQ eG) lS.ltOk l aw (fun a1 h i j x y hi af=>aem a1 (by omega) i j x y hi af) (fun a1 h i j hi af=>?_)).mono ?_
 ·have:=SK (P:=al) false 230 (fun args W=>run_callFunc_extern Tryz.func230 (by kernel_rfl) (by kernel_rfl) (by kernel_rfl) (e:=Ej false) (by kernel_rfl) args W)
   46 Tryz.dsE (by kernel_rfl) (.inr ⟨by kernel_rfl,fun _=>by kernel_rfl⟩) (Ir a1) (K:=821) (n:=l.length) (el:=46) (sz:=1) (by kernel_rfl) (xs:=a1.map cC) (by simp[dT,Pv.look,h]) i j hi af
  refine this.mono ?_;rintro r ai ⟨rfl,rfl⟩;refine⟨rfl,?_⟩;simp[dT,cB,Vd,h]
 ·rintro r ai ⟨rfl,a1,rfl,J,U⟩;exact⟨rfl,by rw[XM lS J U]⟩
end Go.Proofs.YtahlgcidhnjlbaaGreat
namespace Go.Proofs.YtahlgcidhnjlbaaGreat
open Go Go.Pv
inductive hc where
 |s (l:List dm)
 |b (x:ByteArray)
def hc.e:hc→ah
 | .s l=>.str l
 | .b x=>.cst (.string x)
def hc.len:hc→Int
 | .s l=>l.length
 | .b x=>x.size
def mR(n:Nat):Prop:=lim<n∧n≤9223372036854775807
def hc.wf:hc→Prop
 | .s _=>True
 | .b x=>mR x.size
inductive dc (α:Type) where
 |l (xs:List α)
 |b (p:Option Addr) (n cap:Nat)
def dc.e{α:Type}(sz:Nat)(f:α→ah):dc α→ah
 | .l xs=>.slice sz .no (xs.map f)
 | .b p n cap=>.cst (.slice p n cap)
def dc.wf{α:Type}(P:α→Prop):dc α→Prop
 | .l xs=> ∀x∈xs,P x
 | .b _ n _=>mR n
inductive cy where
 |mk (k n:Int) (s:hc) (a:List cy)
 |big (k n:Int) (s:hc) (p:Option Addr) (len cap:Nat)
mutual
def cy.e:cy→ah
 | .mk k n s a=>.agg [.int .i64 k,.int .i64 n,s.e,.slice 4 .no (cy.eL a)]
 | .big k n s p len cap=>.agg [.int .i64 k,.int .i64 n,s.e,.cst (.slice p len cap)]
def cy.eL:List cy→List ah
 |[]=>[]
 |x::xs=>x.e::cy.eL xs
end
theorem cy.eL_map:∀l,cy.eL l=l.map cy.e
 |[]=>rfl
 |x::xs=>by simp[cy.eL,cy.eL_map xs]
def cy.kind:cy→Int| .mk k _ _ _=>k| .big k _ _ _ _ _=>k
def cy.num:cy→Int| .mk _ n _ _=>n| .big _ n _ _ _ _=>n
def cy.name:cy→hc| .mk _ _ s _=>s| .big _ _ s _ _ _=>s
def cy.args:cy→dc cy| .mk _ _ _ a=>.l a| .big _ _ _ p l c=>.b p l c
theorem cy.e_eq(t:cy):t.e= .agg [.int .i64 t.kind,.int .i64 t.num,t.name.e,t.args.e 4 cy.e]:=by
 cases t with
 |mk k n s a=>simp only[cy.e,cy.eL_map];rfl
 |big=>rfl
@[simp] theorem aro(S:aH→Prop)(s:hc):aF S s.e=True:=by cases s<;>simp[hc.e,aF]
@[simp] theorem atO(s:hc):dr s.e=s.e:=by cases s<;>simp[hc.e,dr]
mutual
theorem UX(S:aH→Prop):∀t:cy,aF S t.e
 | .mk k n s a=>by simp[cy.e,aF,aJ,Lw S a]
 | .big k n s p l c=>by simp[cy.e,aF,aJ]
theorem Lw(S:aH→Prop):∀l:List cy,aJ S (cy.eL l)
 |[]=>by simp[cy.eL,aJ]
 |x::xs=>by simp[cy.eL,aJ,UX S x,Lw S xs]
end
mutual
theorem XT:∀t:cy,dr t.e=t.e
 | .mk k n s a=>by simp[cy.e,dr,cW,NJ a]
 | .big k n s p l c=>by simp[cy.e,dr,cW]
theorem NJ:∀l:List cy,cW (cy.eL l)=cy.eL l
 |[]=>by simp[cy.eL,cW]
 |x::xs=>by simp[cy.eL,cW,XT x,NJ xs]
end
@[simp] theorem arD(S:aH→Prop)(t:cy):aF S t.e=True:=eq_true (UX S t)
@[simp] theorem aq7(S:aH→Prop)(l:List cy):aJ S (l.map cy.e)=True:=by rw[←cy.eL_map];exact eq_true (Lw S l)
@[simp] theorem atX(t:cy):dr t.e=t.e:=XT t
@[simp] theorem atE(l:List cy):cW (l.map cy.e)=l.map cy.e:=by rw[←cy.eL_map];exact NJ l
@[simp] theorem atB(t:cy):ei t.e=true:=by rw[cy.e_eq];rfl
@[simp] theorem aqQ(t:cy):Pv.isAgg 4 t.e:=by rw[cy.e_eq];exact⟨_,rfl,rfl⟩
@[simp] theorem apI(t:cy):cells t.e=[.int .i64 t.kind,.int .i64 t.num,t.name.e,t.args.e 4 cy.e]:=by rw[cy.e_eq];rfl
@[simp] theorem arn(S:aH→Prop)(x:dc cy):aF S (x.e 4 cy.e)=True:=by cases x<;>simp[dc.e,aF]
@[simp] theorem atN(x:dc cy):dr (x.e 4 cy.e)=x.e 4 cy.e:=by cases x<;>simp[dc.e,dr]
mutual
def cy.sz:cy→Nat
 | .mk _ _ _ a=>1+cy.szL a
 | .big _ _ _ _ _ _=>1
def cy.szL:List cy→Nat
 |[]=>0
 |x::xs=>x.sz+cy.szL xs
end
theorem cy.szL_mem:∀{l:List cy} {x:cy},x∈l→x.sz≤cy.szL l
 |y::l,x,h=>by
  rcases gf.1 h with rfl|h
  ·simp[cy.szL]
  ·have:=cy.szL_mem h;simp[cy.szL];omega
mutual
def cy.wf:cy→Prop
 | .mk _ _ s a=>s.wf∧cy.wfL a
 | .big _ _ s _ l _=>s.wf∧mR l
def cy.wfL:List cy→Prop
 |[]=>True
 |x::xs=>x.wf∧cy.wfL xs
end
theorem cy.wfL_iff:∀{l:List cy},cy.wfL l↔∀x∈l,x.wf
 |[]=>by simp[cy.wfL]
 |x::l=>by simp[cy.wfL,cy.wfL_iff (l:=l)]
def j6{α:Type}(f:α→Int→Int):List α→Int→Int
 |[],m=>m
 |x::xs,m=>if f x m<0 then-1 else j6 f xs (f x m)
def o3{α:Type}(f:α→Int→Int)(l:List α)(m:Int):Int:=if m-l.length<0 then-1 else j6 f l (m-l.length)
def gP{α:Type}(f:α→Int→Int):dc α→Int→Int
 | .l xs,m=>o3 f xs m
 | .b _ _ _,_=> -1
theorem XX{α:Type}{f:α→Int→Int}(aI:∀x m,0≤m→ -1≤f x m∧f x m≤m):∀(l:List α) (m:Int),0≤m→ -1≤j6 f l m∧j6 f l m≤m
 |[],m,h=>by simp only[j6];omega
 |x::xs,m,h=>by
  have J:=aI x m h;simp only[j6];split
  ·omega
  ·have U:=XX aI xs (f x m) (by omega);omega
theorem am0{α:Type}{f:α→Int→Int}(aI:∀x m,0≤m→ -1≤f x m∧f x m≤m)(l:List α)(m:Int)(h:0≤m): -1≤o3 f l m∧o3 f l m≤m:=by
 unfold o3;split
 ·omega
 ·have:=XX aI l (m-l.length) (by omega);omega
theorem vl{α:Type}{f:α→Int→Int}(aI:∀x m,0≤m→ -1≤f x m∧f x m≤m)(l:dc α)(m:Int)(h:0≤m): -1≤gP f l m∧gP f l m≤m:=by
 cases l with
 |l xs=>exact am0 aI xs m h
 |b=>simp only[gP];omega
mutual
def ig:cy→Int→Int
 | .mk _ _ s a,m=>if m-s.len<0 then-1 else if m-s.len-a.length<0 then-1 else tG a (m-s.len-a.length)
 | .big _ _ s _ _ _,m=>if m-s.len<0 then-1 else-1
def tG:List cy→Int→Int
 |[],m=>m
 |x::xs,m=>if ig x m<0 then-1 else tG xs (ig x m)
end
theorem XZ:∀(l:List cy) (m:Int),tG l m=j6 ig l m
 |[],m=>rfl
 |x::xs,m=>by simp only[tG,j6,XZ xs]
theorem HZ(t:cy)(m:Int):ig t m=if m-t.name.len<0 then-1 else gP ig t.args (m-t.name.len):=by
 cases t with
 |mk=>simp only[ig,gP,o3,XZ,cy.name,cy.args];rfl
 |big=>simp only[ig,gP,cy.name,cy.args];rfl
theorem hc.len_nn(s:hc):0≤s.len:=by cases s<;>simp[hc.len]
mutual
theorem yR:∀(t:cy) (m:Int),0≤m→ -1≤ig t m∧ig t m≤m
 | .mk _ _ s a,m,h=>by
  have:=s.len_nn;simp only[ig];split
  ·omega
  ·split
   ·omega
   ·have:=X0 a (m-s.len-a.length) (by omega);omega
 | .big _ _ s _ _ _,m,h=>by simp only[ig];split<;>omega
theorem X0:∀(l:List cy) (m:Int),0≤m→ -1≤tG l m∧tG l m≤m
 |[],m,h=>by simp only[tG];omega
 |x::xs,m,h=>by
  have J:=yR x m h;simp only[tG];split
  ·omega
  ·have U:=X0 xs (ig x m) (by omega);omega
end
theorem hc.small{s:hc}(hw:s.wf){m:Int}(bD:m≤1048576)(h:0≤m-s.len):∃l,s= .s l:=by
 cases s with
 |s l=>exact⟨l,rfl⟩
 |b x=>simp only[hc.wf,mR,lim]at hw;simp only[hc.len]at h;omega
mutual
def yS:bI→cy
 | .mk k n s a=>.mk k n (.s s) (Bc a)
def Bc:List bI→List cy
 |[]=>[]
 |x::xs=>yS x::Bc xs
end
mutual
theorem X8:∀t:bI,(yS t).e=enc t
 | .mk k n s a=>by simp only[yS,cy.e,enc,X7 a];rfl
theorem X7:∀l:List bI,cy.eL (Bc l)=pw l
 |[]=>rfl
 |x::xs=>by simp only[Bc,cy.eL,pw,X8 x,X7 xs]
end
mutual
theorem X2:∀(t:cy) (m:Int),t.wf→m≤1048576→0≤m→0≤ig t m→∃u:bI,t=yS u
 | .mk k n s a,m,hw,J,bD,h=>by
  simp only[cy.wf]at hw;simp only[ig]at h;have:=s.len_nn;split at h
  ·omega
  rename_i g;obtain⟨l,rfl⟩:=hc.small hw.1 J (by omega);split at h
  ·omega
  obtain⟨b,ae⟩:=X1 a _ hw.2 (by omega) (by omega) h;exact⟨.mk k n l b,by simp only[yS,ae]⟩
 | .big _ _ s _ _ _,m,_,_,_,h=>by simp only[ig]at h;split at h<;>omega
theorem X1:∀(l:List cy) (m:Int),cy.wfL l→m≤1048576→0≤m→0≤tG l m→∃u:List bI,l=Bc u
 |[],_,_,_,_,_=>⟨[],rfl⟩
 |x::xs,m,hw,J,bD,h=>by
  simp only[cy.wfL]at hw;simp only[tG]at h;have U:=yR x m bD;split at h
  ·omega
  obtain⟨u,hu⟩:=X2 x m hw.1 J bD (by omega);obtain⟨v,aK⟩:=X1 xs _ hw.2 (by omega) (by omega) h;exact⟨u::v,by simp only[Bc,hu,aK]⟩
end
theorem XY{α β:Type}{f:α→Int→Int}{P:α→Prop}{g:β→α}(hle:∀x m,0≤m→ -1≤f x m∧f x m≤m)(ag:∀x m,P x→m≤1048576→0≤m→0≤f x m→∃y,x=g y):∀(l:List α) (m:Int),(∀x∈l,P x)→m≤1048576→0≤m→0≤j6 f l m→∃u:List β,l=u.map g
 |[],_,_,_,_,_=>⟨[],rfl⟩
 |x::xs,m,hw,J,bD,h=>by
  simp only[j6]at h;have U:=hle x m bD;split at h
  ·omega
  obtain⟨u,hu⟩:=ag x m (hw x (by simp)) J bD (by omega);obtain⟨v,aK⟩:=XY hle ag xs _ (fun y aG=>hw y (by simp[aG])) (by omega) (by omega) h;exact⟨u::v,by rw[gS,←hu,←aK]⟩
theorem NN{α β:Type}{f:α→Int→Int}{P:α→Prop}{g:β→α}(hle:∀x m,0≤m→ -1≤f x m∧f x m≤m)(ag:∀x m,P x→m≤1048576→0≤m→0≤f x m→∃y,x=g y)(l:dc α)(m:Int)(hw:l.wf P)(J:m≤1048576)(bD:0≤m)(h:0≤gP f l m):∃u:List β,l= .l (u.map g):=by
 cases l with
 |b=>simp only[gP]at h;omega
 |l xs=>
  simp only[gP,o3]at h;split at h
  ·omega
  obtain⟨u,hu⟩:=XY hle ag xs _ hw (by omega) (by omega) h;exact⟨u,by rw[hu]⟩
end Go.Proofs.YtahlgcidhnjlbaaGreat
namespace Go.Proofs.YtahlgcidhnjlbaaGreat
open Go Go.Pv Go.ChangeShapes Go.WideShapes Go.ChangeAt Go.RowKit Go.Deep
def rr(W:World):bf:=⟨fun b o=> ∃u,W.cell? ⟨b,o,none⟩=some u,fun _=>none,fun _=>none,fun _ _ _=>eA⟩
theorem U1(W:World)(b:Nat):∀(us:List Value) (off:Nat),(∀i u,us[i]? =some u→W.cell? ⟨b,off+i,none⟩=some u)→lQ W (rr W).A b off us
 |[],_,_=>trivial
 |u::us,off,h=>by
  have bD:W.cell? ⟨b,off,none⟩=some u:=by simpa using h 0 u rfl
  exact⟨⟨⟨u,bD⟩,bD⟩,U1 W b us (off+1) fun i fe hu=>by have:=h (i+1) fe (by simpa using hu);rwa[show off+(i+1)=off+1+i from by omega]at this⟩
section
variable {H:Type} {enc:gm×Value→H} {W:World} {spare:Nat→Bool} {held:Bool}
def reads(W:World)(p:ah)(cs:List Value):Prop:= ∃v:Value,v.cells.toList=cs∧ba W (rr W) p v∧∀c∈cs,c.oneCell'=true
theorem DE{W:World}{cm:List ah}{cs:List Value}(h:c5 W (rr W) cm cs):reads W (.agg cm) cs:=by
 refine⟨.agg cs.toArray,by simp[pR],by simp only[ba];exact⟨cs.toArray,rfl,by simpa using h⟩,?_⟩;have:∀(cm:List ah) (cs:List Value),c5 W (rr W) cm cs→∀c∈cs,c.oneCell'=true:=by
  intro cm;induction cm with
  |nil=>intro cs h;simp only[c5]at h;subst h;simp
  |cons p cm bZ=>
   intro cs h c ay;simp only[c5]at h;obtain⟨u,us,rfl,J,U⟩:=h;rcases gf.1 ay with rfl|ay
   ·exact J.2
   ·exact bZ us U c ay
 exact this cm cs h
def ve(W:World)(p:ah)(v:Value):Prop:=ba W (rr W) p v∧v.oneCell'=true∧v.cells= #[v]
theorem ve.reads{W:World}{p:ah}{v:Value}(h:ve W p v):reads W p [v]:=⟨v,by rw[h.2.2],h.1,fun c ay=>by simp at ay;subst ay;exact h.2.1⟩
theorem aaa{W:World}{nc xl k j:Nat}:W.cell? (((⟨nc,xl,none⟩:Addr).add k).add j)=W.cell? ⟨nc,xl+(k+j),none⟩:=by rw[add_add,Addr.add_lit]
theorem DU{α:Type}{t e:gm}{sz:Nat}(f:α→ah)(Q:α→Prop)(aL:al.underlying t=some (.slice e))(ay:al.cellsOf e=sz)(ep:0<sz){fuel:Nat}
  (afx:∀n cs x,n<fuel→jt enc al W 0 spare held n e cs=some x→∃a:α,Q a∧reads W (f a) cs)
  {cs:List Value} {x:DataW H×List MemPlace} (h:jt enc al W 0 spare held fuel t cs=some x):∃l:dc α,l.wf Q∧∃v,cs=[v]∧ve W (l.e sz f) v:=by
 rcases DataW.trod_slice aL h with⟨rfl,_⟩|⟨a,len,cap,elems,rest,n,rfl,rfl,_,_,aw,hm,hlen,Tj,_,_⟩
 ·refine⟨.l [],by simp[dc.wf],_,rfl,?_,rfl,rfl⟩;simp only[dc.e,mU,ba];exact⟨⟨none,0,rfl,by simp,⟨by simp[maxLen],by simp[lim]⟩,.inl (by simp)⟩,fun e=>(by cases e),fun g e=>(by cases e),fun _ _ e=>(by cases e),fun _ e=>(by cases e)⟩
 by_cases FK:lim<len
 ·refine⟨.b (some a) len cap,⟨FK,by unfold maxLen at hm;omega⟩,_,rfl,?_,rfl,rfl⟩;simp only[dc.e,ba]
 rcases Nat.eq_zero_or_pos len with rfl|fy
 ·refine⟨.l [],by simp[dc.wf],_,rfl,?_,rfl,rfl⟩;simp only[dc.e,mU,ba];exact⟨⟨some a,cap,rfl,by simp,⟨hm,by simp[lim]⟩,.inl (by simp)⟩,fun e=>(by cases e),fun g e=>(by cases e),fun _ _ e=>(by cases e),fun _ e=>(by cases e)⟩
 rw[ay]at Tj;have hj:∀i,i<len→∃cs',cs'.length=sz∧(∀j,j<sz→W.cell? ((a.add (i*sz)).add j)=cs'[j]?)∧∃b:α,Q b∧reads W (f b) cs':=by intro i hi;have J:=Tj i hi;rw[cl (by omega)]at J;obtain⟨cs',U,ar⟩:=kd.1 J;obtain⟨_,a8,b4⟩:=World.cells?_some U;exact⟨cs',a8,b4,afx n cs' _ (by omega) ar⟩
 obtain⟨nc,xl,spot⟩:=a;have agz:spot=none:=by obtain⟨cs',J,U,_⟩:=hj 0 fy;have ar:=U 0 ep;rw[cl (by omega)]at ar;simpa[Addr.add]using World.cell?_spot ar
 subst agz;have aah:∀d,d≤len→∃xs:List α,xs.length=d∧(∀x∈xs,Q x)∧∃us:List Value,us.length=d*sz∧dH W (rr W) sz (xs.map f) us∧∀j u,us[j]? =some u→W.cell? ⟨nc,xl+((len-d)*sz+j),none⟩=some u:=by
  intro d;induction d with
  |zero=>intro _;exact⟨[],rfl,by simp,[],by simp,by simp[dH],by simp⟩
  |succ d bZ=>
   intro aR;obtain⟨xs,ak,aC,us,bk,dg,hf⟩:=bZ (by omega);obtain⟨cs',bN,cq,b,ae,v,v1,v2,v3⟩:=hj (len-(d+1)) (by omega);have hmul:(len-d)*sz=(len-(d+1))*sz+sz:=by rw[show len-d=(len-(d+1))+1 from by omega,Nat.succ_mul]
   refine⟨b::xs,by simp[ak],fun x ab=>?_,cs'++us,by rw[pS,bN,bk,Nat.succ_mul];omega,?_,fun j u af=>?_⟩
   ·rcases gf.1 ab with rfl|ab
    ·exact ae
    ·exact aC x ab
   ·simp only[gS,dH];exact⟨v,us,by rw[v1],⟨v2,by rw[←bN,←v1];simp,by rw[v1];exact v3⟩,dg⟩
   ·rcases Nat.lt_or_ge j sz with bE|uF
    ·rw[List.getElem?_append_left (by omega)]at af;have:=cq j bE;rw[aaa]at this;rw[this];exact af
    ·rw[List.getElem?_append_right (by omega),bN]at af;have:=hf (j-sz) u af;rwa[show(len-d)*sz+(j-sz)=(len-(d+1))*sz+j from by omega]at this
 obtain⟨xs,ak,aC,us,bk,dg,hf⟩:=aah len (eY _);refine⟨.l xs,aC,_,rfl,?_,rfl,rfl⟩;simp only[dc.e,ba];refine⟨⟨some ⟨nc,xl,none⟩,cap,by rw[List.length_map,ak],by rw[List.length_map,ak];exact aw,⟨hm,by rw[List.length_map,ak];omega⟩,.inr ⟨nc,xl,us,rfl,U1 W nc us xl fun i u hu=>?_,dg⟩⟩,fun e=>(by cases e),fun g e=>(by cases e),fun _ _ e=>(by cases e),fun _ e=>(by cases e)⟩;have:=hf i u hu;simpa using this
end
end Go.Proofs.YtahlgcidhnjlbaaGreat
namespace Go.Proofs.YtahlgcidhnjlbaaGreat
open Go Go.Pv
@[simp] def asI:List bB:=[.tmp 2]
def uj:C:=(aa [cw 2 0,bU 4 0] (aa [I 5 1,aB 6 2 1 2,av 7 1 6,b9 8 (.slen (.t 7)),bn 9 .sub 5 8,I 1 9] (.seq (aa [I 10 1,aV 11 .lss 10 0] (aU 11 (aa [bU 4 (-1)] .ret) .skip)) (aa [aB 12 3 1 2,av 13 1 12,I 14 1,b8 15 16 13 14,I 1 15] (.seq (aa [I 16 1,aV 17 .lss 16 0] (aU 17 (aa [bU 4 (-1)] .ret) .skip)) (aa [I 18 1,I 4 18] .ret))))))
@[simp] def alq:List bB:=[.tmp 4]
def I7:C:=(aa [bU 4 0] (aa [I 6 1,I 7 0,cg 8 7,bn 9 .sub 6 8,I 1 9] (.seq (aa [I 10 1,aV 11 .lss 10 0] (aU 11 (aa [bU 4 (-1)] .ret) .skip)) (.seq (aa [bU 5 0] (.block 0 (.loop (.seq (aa [I 12 5,I 13 0,cg 14 13,bn 15 .lss 12 14] (aU 15 .skip (.exit 0))) (.seq (.block 1 (aa [I 18 0,I 19 5,cp 20 4 18 19,aS 21 4 20,I 22 1,b8 23 15 21 22,I 1 23] (aa [I 24 1,aV 25 .lss 24 0] (aU 25 (aa [bU 4 (-1)] .ret) .skip)))) (.region [I 16 5,aV 17 .add 16 1,I 5 17])))))) (aa [I 26 1,I 4 26] .ret)))))
@[simp] def alr:List bB:=[.tmp 4]
def Qj:C:=(aa [cw 1 0,cO 2 dY] (aa [cO 3 dY] (aa [aB 4 0 1 1,av 5 1 4,aB 6 0 1 3,bz 1 6 5] (aa [aB 7 1 1 1,av 8 1 7,aB 9 1 1 3,bz 1 9 8] (aa [aB 10 2 1 1,av 11 1 10,aB 12 2 1 3,bz 1 12 11] (aa [aB 13 3 1 1,av 14 1 13,cA 15 19 14,aB 16 3 1 3,bz 1 16 15] (aa [aS 17 4 3,bz 4 2 17] .ret)))))))
@[simp] def alA:List bB:=[.cell 2 true 4]
def Qk:C:=(aa [eu 2 4] (aa [I 5 0,cg 6 5,c4 (.mks 7 none 4 30 (.agg dY) (.t 6)),I 3 7] (.seq (aa [bU 4 0] (.block 0 (.loop (.seq (aa [I 8 4,I 9 0,cg 10 9,bn 11 .lss 8 10] (aU 11 .skip (.exit 0))) (.seq (.block 1 (.region [I 14 3,I 15 4,I 16 0,I 17 4,cp 18 4 16 17,aS 19 4 18,cA 20 18 19,cp 21 4 14 15,bz 4 21 20])) (.region [I 12 4,aV 13 .add 12 1,I 4 13])))))) (.seq (.pub 3 (.region [I 22 3,I 2 22])) .ret))))
@[simp] def alB:List bB:=[.tmp 2]
def Qa:C:=(aa [bd 4 false] (.seq (aa [I 6 0,cg 7 6,I 8 1,cg 9 8,bn 10 .neq 7 9] (aU 10 (aa [bd 4 false] .ret) .skip)) (.seq (aa [bU 5 0] (.block 0 (.loop (.seq (aa [I 11 5,I 12 0,cg 13 12,bn 14 .lss 11 13] (aU 14 .skip (.exit 0))) (.seq (.block 1 (.seq (.drawn true 27 [I 17 0,I 18 5,cp 19 4 17 18,aS 20 4 19,I 21 1,I 22 5,cp 23 4 21 22,aS 24 4 23,b8 25 22 20 24,cd 26 25]) (aU 26 (aa [bd 4 false] .ret) .skip))) (.region [I 15 5,aV 16 .add 15 1,I 5 16])))))) (aa [bd 4 true] .ret))))
@[simp] def alh:List bB:=[.tmp 4]
def P9:C:=(aa [cw 2 0,cw 3 1,bd 4 false] (.seq (aa [aB 5 0 1 2,av 6 1 5,aB 7 0 1 3,av 8 1 7,bn 9 .neq 6 8] (aU 9 (aa [bd 4 false] .ret) .skip)) (.seq (aa [aB 10 1 1 2,av 11 1 10,aB 12 1 1 3,av 13 1 12,bn 14 .neq 11 13] (aU 14 (aa [bd 4 false] .ret) .skip)) (.seq (aa [aB 15 2 1 2,av 16 1 15,aB 17 2 1 3,av 18 1 17,bn 19 .neq 16 18] (aU 19 (aa [bd 4 false] .ret) .skip)) (.seq (aa [aB 20 3 1 2,av 21 1 20,aB 22 3 1 3,av 23 1 22,b8 24 21 21 23,cd 25 24] (aU 25 (aa [bd 4 false] .ret) .skip)) (aa [bd 4 true] .ret))))))
@[simp] def alg:List bB:=[.tmp 4]
def zf:C:=(aa [cw 2 0,bU 4 0] (aa [aB 5 1 1 2,av 6 1 5,I 7 1,b8 8 33 6 7,I 1 8] (.seq (aa [I 9 1,aV 10 .lss 9 0] (aU 10 (aa [bU 4 (-1)] .ret) .skip)) (aa [aB 11 2 1 2,av 12 1 11,I 13 1,b8 14 72 12 13,I 1 14] (.seq (aa [I 15 1,aV 16 .lss 15 0] (aU 16 (aa [bU 4 (-1)] .ret) .skip)) (aa [aB 17 3 1 2,av 18 1 17,I 19 1,b8 20 73 18 19,I 1 20] (.seq (aa [I 21 1,aV 22 .lss 21 0] (aU 22 (aa [bU 4 (-1)] .ret) .skip)) (aa [aB 23 4 1 2,av 24 1 23,I 25 1,b8 26 74 24 25,I 1 26] (.seq (aa [I 27 1,aV 28 .lss 27 0] (aU 28 (aa [bU 4 (-1)] .ret) .skip)) (aa [I 29 1,I 4 29] .ret))))))))))
@[simp] def alp:List bB:=[.tmp 4]
def Qi:C:=(aa [cw 1 0,cO 2 eF] (aa [cO 3 eF] (aa [aB 4 0 1 1,av 5 1 4,aB 6 0 1 3,bz 1 6 5] (aa [aB 7 1 1 1,av 8 1 7,cA 9 35 8,aB 10 1 1 3,bz 1 10 9] (aa [aB 11 2 1 1,av 12 1 11,cA 13 83 12,aB 14 2 1 3,bz 1 14 13] (aa [aB 15 3 1 1,av 16 1 15,cA 17 84 16,aB 18 3 1 3,bz 1 18 17] (aa [aB 19 4 1 1,av 20 1 19,cA 21 85 20,aB 22 4 1 3,bz 1 22 21] (aa [aS 23 5 3,bz 5 2 23] .ret))))))))
@[simp] def alz:List bB:=[.cell 2 true 5]
def P8:C:=(aa [cw 2 0,cw 3 1,bd 4 false] (.seq (aa [aB 5 0 1 2,av 6 1 5,aB 7 0 1 3,av 8 1 7,bn 9 .neq 6 8] (aU 9 (aa [bd 4 false] .ret) .skip)) (.seq (aa [aB 10 1 1 2,av 11 1 10,aB 12 1 1 3,av 13 1 12,b8 14 37 11 13,cd 15 14] (aU 15 (aa [bd 4 false] .ret) .skip)) (.seq (aa [aB 16 2 1 2,av 17 1 16,aB 18 2 1 3,av 19 1 18,b8 20 92 17 19,cd 21 20] (aU 21 (aa [bd 4 false] .ret) .skip)) (.seq (aa [aB 22 3 1 2,av 23 1 22,aB 24 3 1 3,av 25 1 24,b8 26 93 23 25,cd 27 26] (aU 27 (aa [bd 4 false] .ret) .skip)) (.seq (aa [aB 28 4 1 2,av 29 1 28,aB 30 4 1 3,av 31 1 30,b8 32 94 29 31,cd 33 32] (aU 33 (aa [bd 4 false] .ret) .skip)) (aa [bd 4 true] .ret)))))))
@[simp] def alf:List bB:=[.tmp 4]
def I4:C:=(aa [bU 4 0] (aa [I 6 1,I 7 0,cg 8 7,bn 9 .sub 6 8,I 1 9] (.seq (aa [I 10 1,aV 11 .lss 10 0] (aU 11 (aa [bU 4 (-1)] .ret) .skip)) (.seq (aa [bU 5 0] (.block 0 (.loop (.seq (aa [I 12 5,I 13 0,cg 14 13,bn 15 .lss 12 14] (aU 15 .skip (.exit 0))) (.seq (.block 1 (aa [I 18 0,I 19 5,cp 20 5 18 19,aS 21 5 20,I 22 1,b8 23 97 21 22,I 1 23] (aa [I 24 1,aV 25 .lss 24 0] (aU 25 (aa [bU 4 (-1)] .ret) .skip)))) (.region [I 16 5,aV 17 .add 16 1,I 5 17])))))) (aa [I 26 1,I 4 26] .ret)))))
@[simp] def alk:List bB:=[.tmp 4]
def Qe:C:=(aa [eu 2 5] (aa [I 5 0,cg 6 5,c4 (.mks 7 none 5 113 (.agg iK) (.t 6)),I 3 7] (.seq (aa [bU 4 0] (.block 0 (.loop (.seq (aa [I 8 4,I 9 0,cg 10 9,bn 11 .lss 8 10] (aU 11 .skip (.exit 0))) (.seq (.block 1 (.region [I 14 3,I 15 4,I 16 0,I 17 4,cp 18 5 16 17,aS 19 5 18,cA 20 101 19,cp 21 5 14 15,bz 5 21 20])) (.region [I 12 4,aV 13 .add 12 1,I 4 13])))))) (.seq (.pub 3 (.region [I 22 3,I 2 22])) .ret))))
@[simp] def alv:List bB:=[.tmp 2]
def P4:C:=(aa [bd 4 false] (.seq (aa [I 6 0,cg 7 6,I 8 1,cg 9 8,bn 10 .neq 7 9] (aU 10 (aa [bd 4 false] .ret) .skip)) (.seq (aa [bU 5 0] (.block 0 (.loop (.seq (aa [I 11 5,I 12 0,cg 13 12,bn 14 .lss 11 13] (aU 14 .skip (.exit 0))) (.seq (.block 1 (.seq (.drawn true 27 [I 17 0,I 18 5,cp 19 5 17 18,aS 20 5 19,I 21 1,I 22 5,cp 23 5 21 22,aS 24 5 23,b8 25 103 20 24,cd 26 25]) (aU 26 (aa [bd 4 false] .ret) .skip))) (.region [I 15 5,aV 16 .add 15 1,I 5 16])))))) (aa [bd 4 true] .ret))))
@[simp] def alb:List bB:=[.tmp 4]
def I5:C:=(aa [bU 4 0] (aa [I 6 1,I 7 0,cg 8 7,bn 9 .sub 6 8,I 1 9] (.seq (aa [I 10 1,aV 11 .lss 10 0] (aU 11 (aa [bU 4 (-1)] .ret) .skip)) (.seq (aa [bU 5 0] (.block 0 (.loop (.seq (aa [I 12 5,I 13 0,cg 14 13,bn 15 .lss 12 14] (aU 15 .skip (.exit 0))) (.seq (.block 1 (aa [I 18 0,I 19 5,cp 20 1 18 19,av 21 1 20,I 22 1,b8 23 33 21 22,I 1 23] (aa [I 24 1,aV 25 .lss 24 0] (aU 25 (aa [bU 4 (-1)] .ret) .skip)))) (.region [I 16 5,aV 17 .add 16 1,I 5 17])))))) (aa [I 26 1,I 4 26] .ret)))))
@[simp] def alm:List bB:=[.tmp 4]
def EW:C:=(aa [bU 4 0] (aa [I 5 1,I 6 0,cg 7 6,bn 8 .sub 5 7,I 1 8] (.seq (aa [I 9 1,aV 10 .lss 9 0] (aU 10 (aa [bU 4 (-1)] .ret) .skip)) (aa [I 11 1,I 4 11] .ret))))
@[simp] def als:List bB:=[.tmp 4]
def I6:C:=(aa [bU 4 0] (aa [I 6 1,I 7 0,cg 8 7,bn 9 .sub 6 8,I 1 9] (.seq (aa [I 10 1,aV 11 .lss 10 0] (aU 11 (aa [bU 4 (-1)] .ret) .skip)) (.seq (aa [bU 5 0] (.block 0 (.loop (.seq (aa [I 12 5,I 13 0,cg 14 13,bn 15 .lss 12 14] (aU 15 .skip (.exit 0))) (.seq (.block 1 (aa [I 18 0,I 19 5,cp 20 2 18 19,aS 21 2 20,I 22 1,b8 23 144 21 22,I 1 23] (aa [I 24 1,aV 25 .lss 24 0] (aU 25 (aa [bU 4 (-1)] .ret) .skip)))) (.region [I 16 5,aV 17 .add 16 1,I 5 17])))))) (aa [I 26 1,I 4 26] .ret)))))
@[simp] def alo:List bB:=[.tmp 4]
def Qf:C:=(aa [eu 2 1] (aa [I 5 0,cg 6 5,c4 (.mks 7 none 1 46 (.slice 5 .nil []) (.t 6)),I 3 7] (.seq (aa [bU 4 0] (.block 0 (.loop (.seq (aa [I 8 4,I 9 0,cg 10 9,bn 11 .lss 8 10] (aU 11 .skip (.exit 0))) (.seq (.block 1 (.region [I 14 3,I 15 4,I 16 0,I 17 4,cp 18 1 16 17,av 19 1 18,cA 20 35 19,cp 21 1 14 15,bz 1 21 20])) (.region [I 12 4,aV 13 .add 12 1,I 4 13])))))) (.seq (.pub 3 (.region [I 22 3,I 2 22])) .ret))))
@[simp] def alw:List bB:=[.tmp 2]
def Qm:C:=(aa [eu 2 2] (aa [I 5 0,cg 6 5,c4 (.mks 7 none 2 98 (.agg [.int .i64 0,.int .i64 0]) (.t 6)),I 3 7] (.seq (aa [bU 4 0] (.block 0 (.loop (.seq (aa [I 8 4,I 9 0,cg 10 9,bn 11 .lss 8 10] (aU 11 .skip (.exit 0))) (.seq (.block 1 (.region [I 14 3,I 15 4,I 16 0,I 17 4,cp 18 2 16 17,aS 19 2 18,cA 20 156 19,cp 21 2 14 15,bz 2 21 20])) (.region [I 12 4,aV 13 .add 12 1,I 4 13])))))) (.seq (.pub 3 (.region [I 22 3,I 2 22])) .ret))))
@[simp] def alD:List bB:=[.tmp 2]
def Qh:C:=(aa [eu 2 2] (aa [I 5 0,cg 6 5,c4 (.mks 7 none 2 100 (.agg [.int .i64 0,.str []]) (.t 6)),I 3 7] (.seq (aa [bU 4 0] (.block 0 (.loop (.seq (aa [I 8 4,I 9 0,cg 10 9,bn 11 .lss 8 10] (aU 11 .skip (.exit 0))) (.seq (.block 1 (.region [I 14 3,I 15 4,I 16 0,I 17 4,cp 18 2 16 17,aS 19 2 18,cA 20 157 19,cp 21 2 14 15,bz 2 21 20])) (.region [I 12 4,aV 13 .add 12 1,I 4 13])))))) (.seq (.pub 3 (.region [I 22 3,I 2 22])) .ret))))
@[simp] def aly:List bB:=[.tmp 2]
def P5:C:=(aa [bd 4 false] (.seq (aa [I 6 0,cg 7 6,I 8 1,cg 9 8,bn 10 .neq 7 9] (aU 10 (aa [bd 4 false] .ret) .skip)) (.seq (aa [bU 5 0] (.block 0 (.loop (.seq (aa [I 11 5,I 12 0,cg 13 12,bn 14 .lss 11 13] (aU 14 .skip (.exit 0))) (.seq (.block 1 (.seq (.drawn true 27 [I 17 0,I 18 5,cp 19 1 17 18,av 20 1 19,I 21 1,I 22 5,cp 23 1 21 22,av 24 1 23,b8 25 37 20 24,cd 26 25]) (aU 26 (aa [bd 4 false] .ret) .skip))) (.region [I 15 5,aV 16 .add 15 1,I 5 16])))))) (aa [bd 4 true] .ret))))
@[simp] def alc:List bB:=[.tmp 4]
def Qc:C:=(aa [bd 4 false] (.seq (aa [I 6 0,cg 7 6,I 8 1,cg 9 8,bn 10 .neq 7 9] (aU 10 (aa [bd 4 false] .ret) .skip)) (.seq (aa [bU 5 0] (.block 0 (.loop (.seq (aa [I 11 5,I 12 0,cg 13 12,bn 14 .lss 11 13] (aU 14 .skip (.exit 0))) (.seq (.block 1 (.seq (.drawn true 27 [I 17 0,I 18 5,cp 19 2 17 18,aS 20 2 19,I 21 1,I 22 5,cp 23 2 21 22,aS 24 2 23,b8 25 170 20 24,cd 26 25]) (aU 26 (aa [bd 4 false] .ret) .skip))) (.region [I 15 5,aV 16 .add 15 1,I 5 16])))))) (aa [bd 4 true] .ret))))
@[simp] def alj:List bB:=[.tmp 4]
def P7:C:=(aa [bd 4 false] (.seq (aa [I 6 0,cg 7 6,I 8 1,cg 9 8,bn 10 .neq 7 9] (aU 10 (aa [bd 4 false] .ret) .skip)) (.seq (aa [bU 5 0] (.block 0 (.loop (.seq (aa [I 11 5,I 12 0,cg 13 12,bn 14 .lss 11 13] (aU 14 .skip (.exit 0))) (.seq (.block 1 (.seq (.drawn true 27 [I 17 0,I 18 5,cp 19 2 17 18,aS 20 2 19,I 21 1,I 22 5,cp 23 2 21 22,aS 24 2 23,b8 25 171 20 24,cd 26 25]) (aU 26 (aa [bd 4 false] .ret) .skip))) (.region [I 15 5,aV 16 .add 15 1,I 5 16])))))) (aa [bd 4 true] .ret))))
@[simp] def ale:List bB:=[.tmp 4]
def I3:C:=(aa [cw 2 0,bU 4 0] (aa [gY 5 1 4 2,aS 6 4 5,I 7 1,b8 8 15 6 7,I 1 8] (.seq (aa [I 9 1,aV 10 .lss 9 0] (aU 10 (aa [bU 4 (-1)] .ret) .skip)) (aa [I 11 1,I 4 11] .ret))))
@[simp] def MN:List bB:=[.tmp 4]
def Qd:C:=(aa [cw 1 0,cO 2 iK] (aa [cO 3 iK] (aa [aB 4 0 1 1,av 5 1 4,aB 6 0 1 3,bz 1 6 5] (aa [gY 7 1 4 1,aS 8 4 7,cA 9 18 8,gY 10 1 4 3,bz 4 10 9] (aa [aS 11 5 3,bz 5 2 11] .ret)))))
@[simp] def alu:List bB:=[.cell 2 true 5]
def P3:C:=(aa [cw 2 0,cw 3 1,bd 4 false] (.seq (aa [aB 5 0 1 2,av 6 1 5,aB 7 0 1 3,av 8 1 7,bn 9 .neq 6 8] (aU 9 (aa [bd 4 false] .ret) .skip)) (.seq (aa [gY 10 1 4 2,aS 11 4 10,gY 12 1 4 3,aS 13 4 12,b8 14 22 11 13,cd 15 14] (aU 15 (aa [bd 4 false] .ret) .skip)) (aa [bd 4 true] .ret))))
@[simp] def ala:List bB:=[.tmp 4]
def EV:C:=(aa [cw 2 0,bU 4 0] (aa [I 5 1,aB 6 1 1 2,av 7 1 6,b9 8 (.slen (.t 7)),bn 9 .sub 5 8,I 1 9] (.seq (aa [I 10 1,aV 11 .lss 10 0] (aU 11 (aa [bU 4 (-1)] .ret) .skip)) (aa [I 12 1,I 4 12] .ret))))
@[simp] def aln:List bB:=[.tmp 4]
def Ql:C:=(aa [cw 1 0,c4 (.alloc 2 none (.agg [.int .i64 0,.int .i64 0]))] (aa [c4 (.alloc 3 none (.agg [.int .i64 0,.int .i64 0]))] (aa [aB 4 0 1 1,av 5 1 4,aB 6 0 1 3,bz 1 6 5] (aa [aB 7 1 1 1,av 8 1 7,aB 9 1 1 3,bz 1 9 8] (aa [aS 10 2 3,bz 2 2 10] .ret)))))
@[simp] def alC:List bB:=[.cell 2 true 2]
def Qg:C:=(aa [cw 1 0,c4 (.alloc 2 none (.agg [.int .i64 0,.str []]))] (aa [c4 (.alloc 3 none (.agg [.int .i64 0,.str []]))] (aa [aB 4 0 1 1,av 5 1 4,aB 6 0 1 3,bz 1 6 5] (aa [aB 7 1 1 1,av 8 1 7,aB 9 1 1 3,bz 1 9 8] (aa [aS 10 2 3,bz 2 2 10] .ret)))))
@[simp] def alx:List bB:=[.cell 2 true 2]
def Qb:C:=(aa [cw 2 0,cw 3 1,bd 4 false] (.seq (aa [aB 5 0 1 2,av 6 1 5,aB 7 0 1 3,av 8 1 7,bn 9 .neq 6 8] (aU 9 (aa [bd 4 false] .ret) .skip)) (.seq (aa [aB 10 1 1 2,av 11 1 10,aB 12 1 1 3,av 13 1 12,bn 14 .neq 11 13] (aU 14 (aa [bd 4 false] .ret) .skip)) (aa [bd 4 true] .ret))))
@[simp] def ali:List bB:=[.tmp 4]
def P6:C:=(aa [cw 2 0,cw 3 1,bd 4 false] (.seq (aa [aB 5 0 1 2,av 6 1 5,aB 7 0 1 3,av 8 1 7,bn 9 .neq 6 8] (aU 9 (aa [bd 4 false] .ret) .skip)) (.seq (aa [aB 10 1 1 2,av 11 1 10,aB 12 1 1 3,av 13 1 12,bn 14 .neq 11 13] (aU 14 (aa [bd 4 false] .ret) .skip)) (aa [bd 4 true] .ret))))
@[simp] def ald:List bB:=[.tmp 4]
def iM:List (Nat×dI):=[
 (3,⟨1,8,.int .i64,.int .i64 0⟩),
 (4,⟨1,1,.bool,.bool false⟩),
 (9,⟨1,16,.str,.str []⟩),
 (22,⟨1,24,.slice 24,.slice 4 .nil []⟩),
 (24,⟨4,56,.struct [(0,3),(1,3),(2,9),(3,22)],.agg [.int .i64 0,.int .i64 0,.str [],.slice 4 .nil []]⟩),
 (27,⟨1,24,.slice 30,.slice 4 .nil []⟩),
 (30,⟨4,56,.struct [(0,3),(1,3),(2,9),(3,27)],.agg [.int .i64 0,.int .i64 0,.str [],.slice 4 .nil []]⟩),
 (38,⟨1,24,.slice 111,.slice 5 .nil []⟩),
 (39,⟨1,24,.slice 38,.slice 1 .nil []⟩),
 (40,⟨1,24,.slice 158,.slice 2 .nil []⟩),
 (41,⟨1,24,.slice 146,.slice 2 .nil []⟩),
 (43,⟨5,104,.struct [(0,3),(1,38),(2,39),(3,40),(4,41)],.agg [.int .i64 0,.slice 5 .nil [],.slice 1 .nil [],.slice 2 .nil [],.slice 2 .nil []]⟩),
 (46,⟨1,24,.slice 113,.slice 5 .nil []⟩),
 (47,⟨1,24,.slice 46,.slice 1 .nil []⟩),
 (48,⟨1,24,.slice 98,.slice 2 .nil []⟩),
 (49,⟨1,24,.slice 100,.slice 2 .nil []⟩),
 (51,⟨5,104,.struct [(0,3),(1,46),(2,47),(3,48),(4,49)],.agg [.int .i64 0,.slice 5 .nil [],.slice 1 .nil [],.slice 2 .nil [],.slice 2 .nil []]⟩),
 (98,⟨2,16,.struct [(0,3),(1,3)],.agg [.int .i64 0,.int .i64 0]⟩),
 (100,⟨2,24,.struct [(0,3),(1,9)],.agg [.int .i64 0,.str []]⟩),
 (111,⟨5,64,.struct [(0,3),(1,24)],.agg [.int .i64 0,.int .i64 0,.int .i64 0,.str [],.slice 4 .nil []]⟩),
 (113,⟨5,64,.struct [(0,3),(1,30)],.agg [.int .i64 0,.int .i64 0,.int .i64 0,.str [],.slice 4 .nil []]⟩),
 (146,⟨2,24,.struct [(0,3),(1,9)],.agg [.int .i64 0,.str []]⟩),
 (158,⟨2,16,.struct [(0,3),(1,3)],.agg [.int .i64 0,.int .i64 0]⟩)]
theorem fH:fU al iM=true:=by kernel_rfl
theorem wJ:bY iM uj alq 2 Tryz.f15=true:=by kernel_rfl
theorem vI:al.funcs[(15:Nat)]? =some Tryz.f15:=Tryz.func15
theorem V2:bY iM I7 alr 2 Tryz.f16=true:=by kernel_rfl
theorem Sd:al.funcs[(16:Nat)]? =some Tryz.f16:=Tryz.func16
theorem ajD:bY iM Qj alA 1 Tryz.f18=true:=by kernel_rfl
theorem ac6:al.funcs[(18:Nat)]? =some Tryz.f18:=Tryz.func18
theorem ajE:bY iM Qk alB 1 Tryz.f19=true:=by kernel_rfl
theorem ac7:al.funcs[(19:Nat)]? =some Tryz.f19:=Tryz.func19
theorem aju:bY iM Qa alh 2 Tryz.f21=true:=by kernel_rfl
theorem acX:al.funcs[(21:Nat)]? =some Tryz.f21:=Tryz.func21
theorem ajt:bY iM P9 alg 2 Tryz.f22=true:=by kernel_rfl
theorem acW:al.funcs[(22:Nat)]? =some Tryz.f22:=Tryz.func22
theorem Dl:bY iM zf alp 2 Tryz.f26=true:=by kernel_rfl
theorem BW:al.funcs[(26:Nat)]? =some Tryz.f26:=Tryz.func26
theorem ajC:bY iM Qi alz 1 Tryz.f28=true:=by kernel_rfl
theorem ac5:al.funcs[(28:Nat)]? =some Tryz.f28:=Tryz.func28
theorem ajs:bY iM P8 alf 2 Tryz.f30=true:=by kernel_rfl
theorem acV:al.funcs[(30:Nat)]? =some Tryz.f30:=Tryz.func30
theorem VZ:bY iM I4 alk 2 Tryz.f33=true:=by kernel_rfl
theorem Sa:al.funcs[(33:Nat)]? =some Tryz.f33:=Tryz.func33
theorem ajy:bY iM Qe alv 1 Tryz.f35=true:=by kernel_rfl
theorem ac1:al.funcs[(35:Nat)]? =some Tryz.f35:=Tryz.func35
theorem ajo:bY iM P4 alb 2 Tryz.f37=true:=by kernel_rfl
theorem acR:al.funcs[(37:Nat)]? =some Tryz.f37:=Tryz.func37
theorem V0:bY iM I5 alm 2 Tryz.f72=true:=by kernel_rfl
theorem Sb:al.funcs[(72:Nat)]? =some Tryz.f72:=Tryz.func72
theorem Mn:bY iM EW als 2 Tryz.f73=true:=by kernel_rfl
theorem JQ:al.funcs[(73:Nat)]? =some Tryz.f73:=Tryz.func73
theorem V1:bY iM I6 alo 2 Tryz.f74=true:=by kernel_rfl
theorem Sc:al.funcs[(74:Nat)]? =some Tryz.f74:=Tryz.func74
theorem ajz:bY iM Qf alw 1 Tryz.f83=true:=by kernel_rfl
theorem ac2:al.funcs[(83:Nat)]? =some Tryz.f83:=Tryz.func83
theorem ajG:bY iM Qm alD 1 Tryz.f84=true:=by kernel_rfl
theorem ac9:al.funcs[(84:Nat)]? =some Tryz.f84:=Tryz.func84
theorem ajB:bY iM Qh aly 1 Tryz.f85=true:=by kernel_rfl
theorem ac4:al.funcs[(85:Nat)]? =some Tryz.f85:=Tryz.func85
theorem ajp:bY iM P5 alc 2 Tryz.f92=true:=by kernel_rfl
theorem acS:al.funcs[(92:Nat)]? =some Tryz.f92:=Tryz.func92
theorem ajw:bY iM Qc alj 2 Tryz.f93=true:=by kernel_rfl
theorem acZ:al.funcs[(93:Nat)]? =some Tryz.f93:=Tryz.func93
theorem ajr:bY iM P7 ale 2 Tryz.f94=true:=by kernel_rfl
theorem acU:al.funcs[(94:Nat)]? =some Tryz.f94:=Tryz.func94
theorem VY:bY iM I3 MN 2 Tryz.f97=true:=by kernel_rfl
theorem R9:al.funcs[(97:Nat)]? =some Tryz.f97:=Tryz.func97
theorem ajx:bY iM Qd alu 1 Tryz.f101=true:=by kernel_rfl
theorem ac0:al.funcs[(101:Nat)]? =some Tryz.f101:=Tryz.func101
theorem ajn:bY iM P3 ala 2 Tryz.f103=true:=by kernel_rfl
theorem acQ:al.funcs[(103:Nat)]? =some Tryz.f103:=Tryz.func103
theorem Mm:bY iM EV aln 2 Tryz.f144=true:=by kernel_rfl
theorem JP:al.funcs[(144:Nat)]? =some Tryz.f144:=Tryz.func144
theorem ajF:bY iM Ql alC 1 Tryz.f156=true:=by kernel_rfl
theorem ac8:al.funcs[(156:Nat)]? =some Tryz.f156:=Tryz.func156
theorem ajA:bY iM Qg alx 1 Tryz.f157=true:=by kernel_rfl
theorem ac3:al.funcs[(157:Nat)]? =some Tryz.f157:=Tryz.func157
theorem ajv:bY iM Qb ali 2 Tryz.f170=true:=by kernel_rfl
theorem acY:al.funcs[(170:Nat)]? =some Tryz.f170:=Tryz.func170
theorem ajq:bY iM P6 ald 2 Tryz.f171=true:=by kernel_rfl
theorem acT:al.funcs[(171:Nat)]? =some Tryz.f171:=Tryz.func171
def iw{α:Type}(f:α→ah)(z:ah)(l:List α)(i:Nat):List ah:=(l.take i).map f++rj (l.length-i) z
theorem oV{α:Type}(f:α→ah)(z:ah)(l:List α):iw f z l 0=rj l.length z:=by simp[iw]
theorem Dc{α:Type}(f:α→ah)(z:ah)(l:List α):iw f z l l.length=l.map f:=by simp[iw]
theorem Dd{α:Type}(f:α→ah)(z:ah)(l:List α){i:Nat}(hi:i<l.length):(iw f z l i)[i]? =some z:=by
 unfold iw;have h:((l.take i).map f).length=i:=by simp;omega
 rw[List.getElem?_append_right (by omega),h,Nat.sub_self,List.getElem?_replicate,if_pos (by omega)]
theorem De{α:Type}(f:α→ah)(z:ah)(l:List α){i:Nat}{x:α}(ab:l[i]? =some x):(iw f z l i).set i (f x)=iw f z l (i+1):=by
 have hi:=(fV.1 ab).1;unfold iw;have h:((l.take i).map f).length=i:=by simp;omega
 rw[List.set_append_right _ _ (by omega),h,Nat.sub_self,mQ ab,List.map_append,List.append_assoc];congr 1;obtain⟨m,hm⟩:∃m,l.length-i=m+1:=⟨l.length-i-1,by omega⟩;rw[hm,show l.length-(i+1)=m from by omega,List.replicate_succ,List.set_cons_zero];rfl
theorem UH(S:aH→Prop):∀{a b:List ah},aJ S (a++b)↔aJ S a∧aJ S b
 |[],b=>by simp[aJ]
 |x::a,b=>by simp[aJ,UH S (a:=a),and_assoc]
theorem UJ{α:Type}(S:aH→Prop)(f:α→ah)(aI:∀x,aF S (f x)):∀l:List α,aJ S (l.map f)
 |[]=>by simp[aJ]
 |x::xs=>by simp[aJ,UJ S f aI xs,aI]
theorem yf(S:aH→Prop)(z:ah)(bq:aF S z):∀n,aJ S (rj n z)
 |0=>by simp[aJ]
 |n+1=>by simp[List.replicate_succ,aJ,yf S z bq n,bq]
theorem C2{α:Type}(S:aH→Prop)(f:α→ah)(z:ah)(l:List α)(i:Nat)(aI:∀x,aF S (f x))(bq:aF S z):aJ S (iw f z l i):=by unfold iw;rw[UH];exact⟨UJ S f aI _,yf S z bq _⟩
theorem YR(l:dc cy)(hw:∀p n cap,l= .b p n cap→mR n)(aI:∀xs,l= .l xs→∀x∈xs,∀m,0≤m→m≤1048576→bt al 15 [cy.e x,.int .i64 m] (.int .i64 (ig x m)))(m:Int)(bD:0≤m)(J:m≤1048576):bt al 16 [l.e 4 cy.e,.int .i64 m] (.int .i64 (gP ig l m)):=by
 cases l with
 |b p n cap=>
  have au:=hw p n cap rfl;simp only[mR,lim]at au;have g:m-n<0:=by omega
  simp only[dc.e,gP];clear hw aI;refine bc fH Sd V2 fun aN=>?_;unfold I7;exact bO
 |l l=>
 have aI:=aI l rfl;clear hw;simp only[dc.e,gP];generalize bg:o3 ig l m=R;unfold o3 at bg;refine bc fH Sd V2 fun aN=>?_;unfold I7;have eV:l.length≤68719476736:=by simp[ey,ea,en,lim]at aN;omega
 simp;by_cases g:m-l.length<0
 ·rw[if_pos g]at bg;subst bg;exact bO
 rw[if_neg g]at bg;(with_reducible repeat' first|refine aj ?_|simp[g]);refine dR [0] (fun i (k:Int)=>[(1,.int .i64 k),(5,.int .i64 i)]) l.length (fun i k=>(0≤k∧k≤1048576)∧j6 ig (l.drop i) k=R) (m-l.length) bW ⟨⟨by omega,by omega⟩,by simpa using bg⟩ (fun k af _=>?_) (fun i k hi af _=>?_)
 ·obtain⟨_,af⟩:=af;rw[List.drop_length]at af;simp only[j6]at af;subst af;exact bO
 ·obtain⟨⟨fo,aP⟩,af⟩:=af;obtain⟨x,ab,cD⟩:=dP hi;have key:=aI x (dZ ab) k fo aP;have hle:=yR x k fo;rw[ti ab]at af;simp only[j6]at af;generalize ig x k=q at key hle af;clear ab;by_cases bh:q<0
  ·rw[if_pos bh]at af;subst af;exact bO
  ·rw[if_neg bh]at af;simp[hi,cD];((with_reducible repeat' first|refine aj ?_|refine aD key ?_|refine aE key ?_|simp[hi,cD,bh]|((first|apply bK|apply bM|apply bL)<;>intro h<;>try simp at h))<;>(try exact cc));all_goals exact bT.rng q hi ⟨⟨by omega,by omega⟩,af⟩ bW
theorem aoB(l:List bI)(aI:∀x∈l,bt al 18 [enc x] (enc x)):bt al 19 [.slice 4 .no (l.map enc)] (.slice 4 .no (l.map enc)):=by
 refine bc fH ac7 ajE fun aN=>?_;unfold Qk;have eV:l.length≤68719476736:=by simp[ey,ea,en,lim]at aN;omega
 simp;all_goals first|(refine⟨by unfold lim;omega,?_⟩)|skip
 (with_reducible repeat' first|refine aj ?_|simp);have fv:∀(S:aH→Prop) (n:Nat),aJ S (rj n (.agg [.int .i64 0,.int .i64 0,.str [],.slice 4 .nil []]))=True:=fun S n=>eq_true (yf S _ (by simp[aF,aJ]) n);refine hH (fun i (_:Unit)=>⟨[(0,.slice 4 .no (l.map enc)),(3,.row 4 (.loc 0) l.length),(4,.int .i64 i)],[],[(.loc 0,⟨l.length,30,4,some (iw enc (.agg [.int .i64 0,.int .i64 0,.str [],.slice 4 .nil []]) l i)⟩)],1,[]⟩) l.length (fun _ _=>True) () ⟨by simp[fresh,aJ,aF,ck,inObs,Pv.look,oV,fv],ee (by simp[fresh,aJ,aF,ck,inObs,Pv.look,oV,fv]),ef (by simp[fresh,aJ,aF,dV,inObs,Pv.look,oV,fv]),by simp⟩ trivial (fun _ _ _=>?_) (fun i _ hi _ _=>?_)
 ·rw[Dc];exact bO
 ·obtain⟨x,ab,cD⟩:=dP hi;have key:=aI x (dZ ab);have ak:=Dd enc (.agg [.int .i64 0,.int .i64 0,.str [],.slice 4 .nil []]) l hi;have aC:=De enc (.agg [.int .i64 0,.int .i64 0,.str [],.slice 4 .nil []]) l ab;have bk:∀S:aH→Prop,aJ S (iw enc (.agg [.int .i64 0,.int .i64 0,.str [],.slice 4 .nil []]) l (i+1)):=fun S=>C2 S _ _ _ _ (fun x=>by simp) (by simp[aF,aJ]);generalize iw enc (.agg [.int .i64 0,.int .i64 0,.str [],.slice 4 .nil []]) l i=r0 at ak aC;generalize pF:iw enc (.agg [.int .i64 0,.int .i64 0,.str [],.slice 4 .nil []]) l (i+1)=cN at aC bk;clear ab;simp[hi,cD];(with_reducible repeat' first|refine aj ?_|refine aD key ?_|refine aE key ?_|simp[hi,cD,ak,aC]);all_goals refine bT.rng () hi trivial ?_
  all_goals rw[pF]
  all_goals first
   |exact⟨by simp[fresh,aJ,aF,ck,inObs,Pv.look,bk],ee (by simp[fresh,aJ,aF,ck,inObs,Pv.look,bk]),ef (by simp[fresh,aJ,aF,dV,inObs,Pv.look,bk]),by simp⟩
   |exact⟨by simp[fresh,aJ,aF,ck,inObs,Pv.look,bk],ee (by simp[fresh,aJ,aF,ck,inObs,Pv.look,bk]),ef (by simp[fresh,aJ,aF,dV,inObs,Pv.look,bk];exact aC),by simp⟩
theorem anE(l:List bI)(aI:∀x∈l,bt al 22 [enc x,enc x] (.bool true)):bt al 21 [.slice 4 .no (l.map enc),.slice 4 .no (l.map enc)] (.bool true):=by
 refine bc fH acX aju fun aN=>?_;unfold Qa;have eV:l.length≤68719476736:=by simp[ey,ea,en,lim]at aN;omega
 simp;(with_reducible repeat' first|refine aj ?_|simp);refine dR [0,1] (fun i (_:Unit)=>[(5,.int .i64 i)]) l.length (fun _ _=>True) () bW trivial (fun _ _ _=>?_) (fun i _ hi _ _=>?_)
 ·exact bO
 ·obtain⟨x,ab,cD⟩:=dP hi;have key:=aI x (dZ ab);clear ab;exact gI
theorem aor(t:cy)(hw:t.wf):∀m:Int,0≤m→m≤1048576→bt al 15 [t.e,.int .i64 m] (.int .i64 (ig t m)):=by
 suffices H:∀(k:Nat) (t:cy),t.sz≤k→t.wf→∀m:Int,0≤m→m≤1048576→bt al 15 [t.e,.int .i64 m] (.int .i64 (ig t m))from H _ t (eY _) hw
 intro k;clear hw t;induction k with
 |zero=>intro t aL;cases t<;>simp[cy.sz]at aL
 |succ k bZ=>
  intro t aL hw m bD J;cases t with
  |mk iz iA s a=>
   simp only[cy.wf,cy.wfL_iff]at hw;obtain⟨CL,Cj⟩:=hw;have kx:m-s.len<0→ig (.mk iz iA s a) m= -1:=fun g=>by rw[HZ];exact if_pos g
   have ky:¬m-s.len<0→ig (.mk iz iA s a) m=gP ig (.l a) (m-s.len):=fun g=>by rw[HZ];exact if_neg g
   generalize ig (.mk iz iA s a) m=R at kx ky;have CC:=s.len_nn;have key:=fun h=>YR (.l a) (fun p n c e=>by cases e) (fun xs e x ab=>by cases e;exact bZ x (by have:=cy.szL_mem ab;simp only[cy.sz]at aL;omega) (Cj x ab)) (m-s.len) h (by omega);have hle:=fun h=>vl yR (.l a) (m-s.len) h;simp only[cy.e,cy.eL_map];simp only[dc.e]at key;clear aL Cj;cases s with
   |b x=>
    simp only[hc.wf,mR,lim]at CL;have g:m-x.size<0:=by omega
    have bg:=kx g;subst bg;clear kx ky;clear key hle bZ;simp only[hc.e];refine bc fH vI wJ fun aN=>?_;unfold uj;exact bO
   |s l=>
    simp only[hc.len]at kx ky key hle;simp only[hc.e];by_cases g:m-l.length<0
    ·have bg:=kx g;subst bg;clear kx ky;clear key hle bZ;refine bc fH vI wJ fun aN=>?_;unfold uj;have eV:l.length≤68719476736:=by simp[ey,ea,en,lim]at aN;omega
     exact bO
    ·have bg:=ky g;clear kx ky;have key:=key (by omega);have hle:=hle (by omega);rw[←bg]at key hle;clear bg bZ;by_cases bh:R<0
     ·have:R= -1:=by omega
      subst this;refine bc fH vI wJ fun aN=>?_;unfold uj;have eV:l.length≤68719476736:=by simp[ey,ea,en,lim]at aN;omega
      exact bO
     ·refine bc fH vI wJ fun aN=>?_;unfold uj;have eV:l.length≤68719476736:=by simp[ey,ea,en,lim]at aN;omega
      exact bO
  |big iz iA s p n c=>
   simp only[cy.wf]at hw;obtain⟨CL,Cj⟩:=hw;have kx:m-s.len<0→ig (.big iz iA s p n c) m= -1:=fun g=>by rw[HZ];exact if_pos g
   have ky:¬m-s.len<0→ig (.big iz iA s p n c) m=gP ig (.b p n c) (m-s.len):=fun g=>by rw[HZ];exact if_neg g
   generalize ig (.big iz iA s p n c) m=R at kx ky;have CC:=s.len_nn;have key:=fun h=>YR (.b p n c) (fun p n c e=>by cases e;exact Cj) (fun xs e=>by cases e) (m-s.len) h (by omega);have hle:=fun h=>vl yR (.b p n c) (m-s.len) h;simp only[cy.e];simp only[dc.e]at key;clear aL Cj;cases s with
   |b x=>
    simp only[hc.wf,mR,lim]at CL;have g:m-x.size<0:=by omega
    have bg:=kx g;subst bg;clear kx ky;clear key hle bZ;simp only[hc.e];refine bc fH vI wJ fun aN=>?_;unfold uj;exact bO
   |s l=>
    simp only[hc.len]at kx ky key hle;simp only[hc.e];by_cases g:m-l.length<0
    ·have bg:=kx g;subst bg;clear kx ky;clear key hle bZ;refine bc fH vI wJ fun aN=>?_;unfold uj;have eV:l.length≤68719476736:=by simp[ey,ea,en,lim]at aN;omega
     exact bO
    ·have bg:=ky g;clear kx ky;have key:=key (by omega);have hle:=hle (by omega);rw[←bg]at key hle;clear bg bZ;by_cases bh:R<0
     ·have:R= -1:=by omega
      subst this;refine bc fH vI wJ fun aN=>?_;unfold uj;have eV:l.length≤68719476736:=by simp[ey,ea,en,lim]at aN;omega
      exact bO
     ·refine bc fH vI wJ fun aN=>?_;unfold uj;have eV:l.length≤68719476736:=by simp[ey,ea,en,lim]at aN;omega
      exact bO
theorem aoA(t:bI):bt al 18 [enc t] (enc t):=by
 suffices H:∀(k:Nat) (t:bI),t.sz≤k→bt al 18 [enc t] (enc t)from H _ t (eY _)
 intro k;induction k with
 |zero=>intro t aL;cases t;simp[bI.sz]at aL
 |succ k bZ=>intro t aL;have key:=aoB t.args (fun x ab=>bZ x (by have:=NP ab;omega));clear bZ;refine bc fH ac6 ajD fun aN=>?_;unfold Qj;exact bO
theorem anD(t:bI):bt al 22 [enc t,enc t] (.bool true):=by
 suffices H:∀(k:Nat) (t:bI),t.sz≤k→bt al 22 [enc t,enc t] (.bool true)from H _ t (eY _)
 intro k;induction k with
 |zero=>intro t aL;cases t;simp[bI.sz]at aL
 |succ k bZ=>intro t aL;have key:=anE t.args (fun x ab=>bZ x (by have:=NP ab;omega));clear bZ;refine bc fH acW ajt fun aN=>?_;unfold P9;exact bO
structure e6 where
 v:Int
 t:cy
def e6.e(b:e6):ah:= .agg [.int .i64 b.v,.int .i64 b.t.kind,.int .i64 b.t.num,b.t.name.e,b.t.args.e 4 cy.e]
@[simp] theorem arc(S:aH→Prop)(b:e6):aF S b.e=True:=by simp[e6.e,aF,aJ]
@[simp] theorem atG(b:e6):dr b.e=b.e:=by simp[e6.e,dr,cW]
theorem UL(S:aH→Prop):∀l:List e6,aJ S (l.map e6.e)
 |[]=>by simp[aJ]
 |x::xs=>by simp[aJ,UL S xs]
@[simp] theorem aq1(S:aH→Prop)(l:List e6):aJ S (l.map e6.e)=True:=eq_true (UL S l)
@[simp] theorem atb(b:e6):ei b.e=true:=rfl
@[simp] theorem aqJ(b:e6):Pv.isAgg 5 b.e:=⟨_,rfl,rfl⟩
@[simp] theorem aph(b:e6):cells b.e=[.int .i64 b.v,.int .i64 b.t.kind,.int .i64 b.t.num,b.t.name.e,b.t.args.e 4 cy.e]:=rfl
structure hv where
 v:Int
 s:hc
def hv.e(b:hv):ah:= .agg [.int .i64 b.v,b.s.e]
@[simp] theorem ars(S:aH→Prop)(b:hv):aF S b.e=True:=by simp[hv.e,aF,aJ]
@[simp] theorem atT(b:hv):dr b.e=b.e:=by simp[hv.e,dr,cW]
theorem UQ(S:aH→Prop):∀l:List hv,aJ S (l.map hv.e)
 |[]=>by simp[aJ]
 |x::xs=>by simp[aJ,UQ S xs]
@[simp] theorem aq6(S:aH→Prop)(l:List hv):aJ S (l.map hv.e)=True:=eq_true (UQ S l)
@[simp] theorem att(b:hv):ei b.e=true:=rfl
@[simp] theorem aqO(b:hv):Pv.isAgg 2 b.e:=⟨_,rfl,rfl⟩
@[simp] theorem apA(b:hv):cells b.e=[.int .i64 b.v,b.s.e]:=rfl
def sq(b:e6)(m:Int):Int:=ig b.t m
theorem NM(b:e6)(m:Int)(h:0≤m): -1≤sq b m∧sq b m≤m:=yR b.t m h
def lW(b:hv)(m:Int):Int:=if m-b.s.len<0 then-1 else m-b.s.len
theorem D0(b:hv)(m:Int)(h:0≤m): -1≤lW b m∧lW b m≤m:=by have:=b.s.len_nn;unfold lW;split<;>omega
theorem EA(t:cy):ah.agg [.int .i64 t.kind,.int .i64 t.num,t.name.e,t.args.e 4 cy.e]=t.e:=(cy.e_eq t).symm
theorem aom(b:e6)(hw:b.t.wf)(m:Int)(bD:0≤m)(J:m≤1048576):bt al 97 [b.e,.int .i64 m] (.int .i64 (sq b m)):=by
 have key:=aor b.t hw m bD J;have hle:=yR b.t m bD;unfold sq;generalize ig b.t m=q at key hle⊢;by_cases bh:q<0
 ·have:q= -1:=by omega
  subst this;refine bc fH R9 VY fun aN=>?_;unfold I3;simp[EA];(with_reducible repeat' first|refine aj ?_|refine aD key ?_|refine aE key ?_|simp[EA]);all_goals simp[bu,MN,aY,aZ,aW]
 ·refine bc fH R9 VY fun aN=>?_;unfold I3;simp[EA];(with_reducible repeat' first|refine aj ?_|refine aD key ?_|refine aE key ?_|simp[bh,EA]);all_goals simp[bu,MN,aY,aZ,aW]
theorem aov(b:c3):bt al 101 [b.e] b.e:=by have key:=aoA b.t;refine bc fH ac0 ajx fun aN=>?_;unfold Qd;exact bO
theorem anx(b:c3):bt al 103 [b.e,b.e] (.bool true):=by have key:=anD b.t;refine bc fH acQ ajn fun aN=>?_;unfold P3;exact bO
theorem aop(b:hv)(hw:b.s.wf)(m:Int)(bD:0≤m)(J:m≤1048576):bt al 144 [b.e,.int .i64 m] (.int .i64 (lW b m)):=by
 have kx:m-b.s.len<0→lW b m= -1:=fun g=>if_pos g;have ky:¬m-b.s.len<0→lW b m=m-b.s.len:=fun g=>if_neg g;generalize lW b m=R at kx ky;obtain⟨v,s⟩:=b;simp only[hv.e]at hw kx ky⊢;cases s with
 |b x=>
  simp only[hc.wf,mR,lim]at hw;have g:m-x.size<0:=by omega
  have bg:=kx g;subst bg;clear kx ky;simp only[hc.e];refine bc fH JP Mm fun aN=>?_;unfold EV;exact bO
 |s l=>
  simp only[hc.e];by_cases g:m-l.length<0
  ·have bg:=kx g;subst bg;clear kx ky hw;refine bc fH JP Mm fun aN=>?_;unfold EV;have eV:l.length≤68719476736:=by simp[ey,ea,en,lim]at aN;omega
   exact bO
  ·have bg:R=m-l.length:=ky g;subst bg;clear kx ky hw;refine bc fH JP Mm fun aN=>?_;unfold EV;have eV:l.length≤68719476736:=by simp[ey,ea,en,lim]at aN;omega
   exact bO
theorem aoC(b:bJ):bt al 156 [b.e] b.e:=by refine bc fH ac8 ajF fun aN=>?_;unfold Ql;exact bO
theorem aoy(b:bj):bt al 157 [b.e] b.e:=by refine bc fH ac3 ajA fun aN=>?_;unfold Qg;exact bO
theorem anF(b:bJ):bt al 170 [b.e,b.e] (.bool true):=by refine bc fH acY ajv fun aN=>?_;unfold Qb;exact bO
theorem anB(b:bj):bt al 171 [b.e,b.e] (.bool true):=by refine bc fH acT ajq fun aN=>?_;unfold P6;exact bO
@[simp high] theorem as4(x y:bj):mP x.e 0 [.int .i64 y.v,.str y.s]=y.e:=rfl
@[simp high] theorem as3(x y:bJ):mP x.e 0 [.int .i64 y.v,.int .i64 y.k]=y.e:=rfl
theorem aon(l:dc e6)(hw:∀p n cap,l= .b p n cap→mR n)(aI:∀xs,l= .l xs→∀x∈xs,∀m,0≤m→m≤1048576→bt al 97 [e6.e x,.int .i64 m] (.int .i64 (sq x m)))(m:Int)(bD:0≤m)(J:m≤1048576):bt al 33 [l.e 5 e6.e,.int .i64 m] (.int .i64 (gP sq l m)):=by
 cases l with
 |b p n cap=>
  have au:=hw p n cap rfl;simp only[mR,lim]at au;have g:m-n<0:=by omega
  simp only[dc.e,gP];clear hw aI;refine bc fH Sa VZ fun aN=>?_;unfold I4;exact bO
 |l l=>
 have aI:=aI l rfl;clear hw;simp only[dc.e,gP];generalize bg:o3 sq l m=R;unfold o3 at bg;refine bc fH Sa VZ fun aN=>?_;unfold I4;have eV:l.length≤68719476736:=by simp[ey,ea,en,lim]at aN;omega
 simp;by_cases g:m-l.length<0
 ·rw[if_pos g]at bg;subst bg;exact bO
 rw[if_neg g]at bg;(with_reducible repeat' first|refine aj ?_|simp[g]);refine dR [0] (fun i (k:Int)=>[(1,.int .i64 k),(5,.int .i64 i)]) l.length (fun i k=>(0≤k∧k≤1048576)∧j6 sq (l.drop i) k=R) (m-l.length) bW ⟨⟨by omega,by omega⟩,by simpa using bg⟩ (fun k af _=>?_) (fun i k hi af _=>?_)
 ·obtain⟨_,af⟩:=af;rw[List.drop_length]at af;simp only[j6]at af;subst af;exact bO
 ·obtain⟨⟨fo,aP⟩,af⟩:=af;obtain⟨x,ab,cD⟩:=dP hi;have key:=aI x (dZ ab) k fo aP;have hle:=NM x k fo;rw[ti ab]at af;simp only[j6]at af;generalize sq x k=q at key hle af;clear ab;by_cases bh:q<0
  ·rw[if_pos bh]at af;subst af;exact bO
  ·rw[if_neg bh]at af;simp[hi,cD];((with_reducible repeat' first|refine aj ?_|refine aD key ?_|refine aE key ?_|simp[hi,cD,bh]|((first|apply bK|apply bM|apply bL)<;>intro h<;>try simp at h))<;>(try exact cc));all_goals exact bT.rng q hi ⟨⟨by omega,by omega⟩,af⟩ bW
theorem aow(l:List c3)(aI:∀x∈l,bt al 101 [c3.e x] (c3.e x)):bt al 35 [.slice 5 .no (l.map c3.e)] (.slice 5 .no (l.map c3.e)):=by
 refine bc fH ac1 ajy fun aN=>?_;unfold Qe;have eV:l.length≤68719476736:=by simp[ey,ea,en,lim]at aN;omega
 simp;all_goals first|(refine⟨by unfold lim;omega,?_⟩)|skip
 (with_reducible repeat' first|refine aj ?_|simp);have fv:∀(S:aH→Prop) (n:Nat),aJ S (rj n (.agg [.int .i64 0,.int .i64 0,.int .i64 0,.str [],.slice 4 .nil []]))=True:=fun S n=>eq_true (yf S _ (by simp[aF,aJ]) n);refine hH (fun i (_:Unit)=>⟨[(0,.slice 5 .no (l.map c3.e)),(3,.row 5 (.loc 0) l.length),(4,.int .i64 i)],[],[(.loc 0,⟨l.length,113,5,some (iw c3.e (.agg [.int .i64 0,.int .i64 0,.int .i64 0,.str [],.slice 4 .nil []]) l i)⟩)],1,[]⟩) l.length (fun _ _=>True) () ⟨by simp[fresh,aJ,aF,ck,inObs,Pv.look,oV,fv],ee (by simp[fresh,aJ,aF,ck,inObs,Pv.look,oV,fv]),ef (by simp[fresh,aJ,aF,dV,inObs,Pv.look,oV,fv]),by simp⟩ trivial (fun _ _ _=>?_) (fun i _ hi _ _=>?_)
 ·rw[Dc];exact bO
 ·obtain⟨x,ab,cD⟩:=dP hi;have key:=aI x (dZ ab);have ak:=Dd c3.e (.agg [.int .i64 0,.int .i64 0,.int .i64 0,.str [],.slice 4 .nil []]) l hi;have aC:=De c3.e (.agg [.int .i64 0,.int .i64 0,.int .i64 0,.str [],.slice 4 .nil []]) l ab;have bk:∀S:aH→Prop,aJ S (iw c3.e (.agg [.int .i64 0,.int .i64 0,.int .i64 0,.str [],.slice 4 .nil []]) l (i+1)):=fun S=>C2 S _ _ _ _ (fun x=>by simp) (by simp[aF,aJ]);generalize iw c3.e (.agg [.int .i64 0,.int .i64 0,.int .i64 0,.str [],.slice 4 .nil []]) l i=r0 at ak aC;generalize pF:iw c3.e (.agg [.int .i64 0,.int .i64 0,.int .i64 0,.str [],.slice 4 .nil []]) l (i+1)=cN at aC bk;clear ab;simp[hi,cD];(with_reducible repeat' first|refine aj ?_|refine aD key ?_|refine aE key ?_|simp[hi,cD,ak,aC]);all_goals refine bT.rng () hi trivial ?_
  all_goals rw[pF]
  all_goals first
   |exact⟨by simp[fresh,aJ,aF,ck,inObs,Pv.look,bk],ee (by simp[fresh,aJ,aF,ck,inObs,Pv.look,bk]),ef (by simp[fresh,aJ,aF,dV,inObs,Pv.look,bk]),by simp⟩
   |exact⟨by simp[fresh,aJ,aF,ck,inObs,Pv.look,bk],ee (by simp[fresh,aJ,aF,ck,inObs,Pv.look,bk]),ef (by simp[fresh,aJ,aF,dV,inObs,Pv.look,bk];exact aC),by simp⟩
theorem anz(l:List c3)(aI:∀x∈l,bt al 103 [c3.e x,c3.e x] (.bool true)):bt al 37 [.slice 5 .no (l.map c3.e),.slice 5 .no (l.map c3.e)] (.bool true):=by
 refine bc fH acR ajo fun aN=>?_;unfold P4;have eV:l.length≤68719476736:=by simp[ey,ea,en,lim]at aN;omega
 simp;(with_reducible repeat' first|refine aj ?_|simp);refine dR [0,1] (fun i (_:Unit)=>[(5,.int .i64 i)]) l.length (fun _ _=>True) () bW trivial (fun _ _ _=>?_) (fun i _ hi _ _=>?_)
 ·exact bO
 ·obtain⟨x,ab,cD⟩:=dP hi;have key:=aI x (dZ ab);clear ab;exact gI
theorem aoq(l:dc hv)(hw:∀p n cap,l= .b p n cap→mR n)(aI:∀xs,l= .l xs→∀x∈xs,∀m,0≤m→m≤1048576→bt al 144 [hv.e x,.int .i64 m] (.int .i64 (lW x m)))(m:Int)(bD:0≤m)(J:m≤1048576):bt al 74 [l.e 2 hv.e,.int .i64 m] (.int .i64 (gP lW l m)):=by
 cases l with
 |b p n cap=>
  have au:=hw p n cap rfl;simp only[mR,lim]at au;have g:m-n<0:=by omega
  simp only[dc.e,gP];clear hw aI;refine bc fH Sc V1 fun aN=>?_;unfold I6;exact bO
 |l l=>
 have aI:=aI l rfl;clear hw;simp only[dc.e,gP];generalize bg:o3 lW l m=R;unfold o3 at bg;refine bc fH Sc V1 fun aN=>?_;unfold I6;have eV:l.length≤68719476736:=by simp[ey,ea,en,lim]at aN;omega
 simp;by_cases g:m-l.length<0
 ·rw[if_pos g]at bg;subst bg;exact bO
 rw[if_neg g]at bg;(with_reducible repeat' first|refine aj ?_|simp[g]);refine dR [0] (fun i (k:Int)=>[(1,.int .i64 k),(5,.int .i64 i)]) l.length (fun i k=>(0≤k∧k≤1048576)∧j6 lW (l.drop i) k=R) (m-l.length) bW ⟨⟨by omega,by omega⟩,by simpa using bg⟩ (fun k af _=>?_) (fun i k hi af _=>?_)
 ·obtain⟨_,af⟩:=af;rw[List.drop_length]at af;simp only[j6]at af;subst af;exact bO
 ·obtain⟨⟨fo,aP⟩,af⟩:=af;obtain⟨x,ab,cD⟩:=dP hi;have key:=aI x (dZ ab) k fo aP;have hle:=D0 x k fo;rw[ti ab]at af;simp only[j6]at af;generalize lW x k=q at key hle af;clear ab;by_cases bh:q<0
  ·rw[if_pos bh]at af;subst af;exact bO
  ·rw[if_neg bh]at af;simp[hi,cD];((with_reducible repeat' first|refine aj ?_|refine aD key ?_|refine aE key ?_|simp[hi,cD,bh]|((first|apply bK|apply bM|apply bL)<;>intro h<;>try simp at h))<;>(try exact cc));all_goals exact bT.rng q hi ⟨⟨by omega,by omega⟩,af⟩ bW
theorem aoz(l:List bj)(aI:∀x∈l,bt al 157 [bj.e x] (bj.e x)):bt al 85 [.slice 2 .no (l.map bj.e)] (.slice 2 .no (l.map bj.e)):=by
 refine bc fH ac4 ajB fun aN=>?_;unfold Qh;have eV:l.length≤68719476736:=by simp[ey,ea,en,lim]at aN;omega
 simp;all_goals first|(refine⟨by unfold lim;omega,?_⟩)|skip
 (with_reducible repeat' first|refine aj ?_|simp);have fv:∀(S:aH→Prop) (n:Nat),aJ S (rj n ((⟨0,[]⟩:bj).e))=True:=fun S n=>eq_true (yf S _ (by simp[aF,aJ]) n);refine hH (fun i (_:Unit)=>⟨[(0,.slice 2 .no (l.map bj.e)),(3,.row 2 (.loc 0) l.length),(4,.int .i64 i)],[],[(.loc 0,⟨l.length,100,2,some (iw bj.e ((⟨0,[]⟩:bj).e) l i)⟩)],1,[]⟩) l.length (fun _ _=>True) () ⟨by simp[fresh,aJ,aF,ck,inObs,Pv.look,oV,fv],ee (by simp[fresh,aJ,aF,ck,inObs,Pv.look,oV,fv]),ef (by simp[fresh,aJ,aF,dV,inObs,Pv.look,oV,fv]),by simp⟩ trivial (fun _ _ _=>?_) (fun i _ hi _ _=>?_)
 ·rw[Dc];exact bO
 ·obtain⟨x,ab,cD⟩:=dP hi;have key:=aI x (dZ ab);have ak:=Dd bj.e ((⟨0,[]⟩:bj).e) l hi;have aC:=De bj.e ((⟨0,[]⟩:bj).e) l ab;have bk:∀S:aH→Prop,aJ S (iw bj.e ((⟨0,[]⟩:bj).e) l (i+1)):=fun S=>C2 S _ _ _ _ (fun x=>by simp) (by simp[aF,aJ]);generalize iw bj.e ((⟨0,[]⟩:bj).e) l i=r0 at ak aC;generalize pF:iw bj.e ((⟨0,[]⟩:bj).e) l (i+1)=cN at aC bk;clear ab;simp[hi,cD];(with_reducible repeat' first|refine aj ?_|refine aD key ?_|refine aE key ?_|simp[hi,cD,ak,aC,-mP]);all_goals refine bT.rng () hi trivial ?_
  all_goals rw[pF]
  all_goals first
   |exact⟨by simp[fresh,aJ,aF,ck,inObs,Pv.look,bk],ee (by simp[fresh,aJ,aF,ck,inObs,Pv.look,bk]),ef (by simp[fresh,aJ,aF,dV,inObs,Pv.look,bk]),by simp⟩
   |exact⟨by simp[fresh,aJ,aF,ck,inObs,Pv.look,bk],ee (by simp[fresh,aJ,aF,ck,inObs,Pv.look,bk]),ef (by simp[fresh,aJ,aF,dV,inObs,Pv.look,bk];exact aC),by simp⟩
theorem anC(l:List bj)(aI:∀x∈l,bt al 171 [bj.e x,bj.e x] (.bool true)):bt al 94 [.slice 2 .no (l.map bj.e),.slice 2 .no (l.map bj.e)] (.bool true):=by
 refine bc fH acU ajr fun aN=>?_;unfold P7;have eV:l.length≤68719476736:=by simp[ey,ea,en,lim]at aN;omega
 simp;(with_reducible repeat' first|refine aj ?_|simp);refine dR [0,1] (fun i (_:Unit)=>[(5,.int .i64 i)]) l.length (fun _ _=>True) () bW trivial (fun _ _ _=>?_) (fun i _ hi _ _=>?_)
 ·exact bO
 ·obtain⟨x,ab,cD⟩:=dP hi;have key:=aI x (dZ ab);clear ab;exact gI
theorem aoD(l:List bJ)(aI:∀x∈l,bt al 156 [bJ.e x] (bJ.e x)):bt al 84 [.slice 2 .no (l.map bJ.e)] (.slice 2 .no (l.map bJ.e)):=by
 refine bc fH ac9 ajG fun aN=>?_;unfold Qm;have eV:l.length≤68719476736:=by simp[ey,ea,en,lim]at aN;omega
 simp;all_goals first|(refine⟨by unfold lim;omega,?_⟩)|skip
 (with_reducible repeat' first|refine aj ?_|simp);have fv:∀(S:aH→Prop) (n:Nat),aJ S (rj n ((⟨0,0⟩:bJ).e))=True:=fun S n=>eq_true (yf S _ (by simp[aF,aJ]) n);refine hH (fun i (_:Unit)=>⟨[(0,.slice 2 .no (l.map bJ.e)),(3,.row 2 (.loc 0) l.length),(4,.int .i64 i)],[],[(.loc 0,⟨l.length,98,2,some (iw bJ.e ((⟨0,0⟩:bJ).e) l i)⟩)],1,[]⟩) l.length (fun _ _=>True) () ⟨by simp[fresh,aJ,aF,ck,inObs,Pv.look,oV,fv],ee (by simp[fresh,aJ,aF,ck,inObs,Pv.look,oV,fv]),ef (by simp[fresh,aJ,aF,dV,inObs,Pv.look,oV,fv]),by simp⟩ trivial (fun _ _ _=>?_) (fun i _ hi _ _=>?_)
 ·rw[Dc];exact bO
 ·obtain⟨x,ab,cD⟩:=dP hi;have key:=aI x (dZ ab);have ak:=Dd bJ.e ((⟨0,0⟩:bJ).e) l hi;have aC:=De bJ.e ((⟨0,0⟩:bJ).e) l ab;have bk:∀S:aH→Prop,aJ S (iw bJ.e ((⟨0,0⟩:bJ).e) l (i+1)):=fun S=>C2 S _ _ _ _ (fun x=>by simp) (by simp[aF,aJ]);generalize iw bJ.e ((⟨0,0⟩:bJ).e) l i=r0 at ak aC;generalize pF:iw bJ.e ((⟨0,0⟩:bJ).e) l (i+1)=cN at aC bk;clear ab;simp[hi,cD];(with_reducible repeat' first|refine aj ?_|refine aD key ?_|refine aE key ?_|simp[hi,cD,ak,aC,-mP]);all_goals refine bT.rng () hi trivial ?_
  all_goals rw[pF]
  all_goals first
   |exact⟨by simp[fresh,aJ,aF,ck,inObs,Pv.look,bk],ee (by simp[fresh,aJ,aF,ck,inObs,Pv.look,bk]),ef (by simp[fresh,aJ,aF,dV,inObs,Pv.look,bk]),by simp⟩
   |exact⟨by simp[fresh,aJ,aF,ck,inObs,Pv.look,bk],ee (by simp[fresh,aJ,aF,ck,inObs,Pv.look,bk]),ef (by simp[fresh,aJ,aF,dV,inObs,Pv.look,bk];exact aC),by simp⟩
theorem anG(l:List bJ)(aI:∀x∈l,bt al 170 [bJ.e x,bJ.e x] (.bool true)):bt al 93 [.slice 2 .no (l.map bJ.e),.slice 2 .no (l.map bJ.e)] (.bool true):=by
 refine bc fH acZ ajw fun aN=>?_;unfold Qc;have eV:l.length≤68719476736:=by simp[ey,ea,en,lim]at aN;omega
 simp;(with_reducible repeat' first|refine aj ?_|simp);refine dR [0,1] (fun i (_:Unit)=>[(5,.int .i64 i)]) l.length (fun _ _=>True) () bW trivial (fun _ _ _=>?_) (fun i _ hi _ _=>?_)
 ·exact bO
 ·obtain⟨x,ab,cD⟩:=dP hi;have key:=aI x (dZ ab);clear ab;exact gI
def o2:dc bJ→Int→Int
 | .l l,m=>if m-l.length<0 then-1 else m-l.length
 | .b _ _ _,_=> -1
theorem NO(l:dc bJ)(m:Int)(h:0≤m): -1≤o2 l m∧o2 l m≤m:=by
 cases l with
 |l l=>simp only[o2];split<;>omega
 |b=>simp only[o2];omega
theorem aos(l:dc bJ)(hw:∀p n cap,l= .b p n cap→mR n)(m:Int)(bD:0≤m)(J:m≤1048576):bt al 73 [l.e 2 bJ.e,.int .i64 m] (.int .i64 (o2 l m)):=by
 cases l with
 |b p n cap=>
  have au:=hw p n cap rfl;simp only[mR,lim]at au;have g:m-n<0:=by omega
  simp only[dc.e,o2];clear hw;refine bc fH JQ Mn fun aN=>?_;unfold EW;exact bO
 |l l=>
  simp only[dc.e,o2];clear hw;by_cases g:m-l.length<0
  ·rw[if_pos g];refine bc fH JQ Mn fun aN=>?_;unfold EW;have eV:l.length≤68719476736:=by simp[ey,ea,en,lim]at aN;omega
   exact bO
  ·rw[if_neg g];refine bc fH JQ Mn fun aN=>?_;unfold EW;have eV:l.length≤68719476736:=by simp[ey,ea,en,lim]at aN;omega
   exact bO
def ks(d:dc e6):ah:=d.e 5 e6.e
@[simp] theorem arh(S:aH→Prop)(d:dc e6):aF S (ks d)=True:=by cases d<;>simp[ks,dc.e,aF]
@[simp] theorem atJ(d:dc e6):dr (ks d)=ks d:=by
 cases d with
 |l l=>
  have:∀l:List e6,cW (l.map e6.e)=l.map e6.e:=by
   intro l;induction l with
   |nil=>rfl
   |cons x l bZ=>simp[cW,bZ]
  simp[ks,dc.e,dr,this]
 |b=>simp[ks,dc.e,dr]
theorem UT(S:aH→Prop):∀l:List (dc e6),aJ S (l.map ks)
 |[]=>by simp[aJ]
 |x::xs=>by simp[aJ,UT S xs]
@[simp] theorem aq8(S:aH→Prop)(l:List (dc e6)):aJ S (l.map ks)=True:=eq_true (UT S l)
@[simp] theorem ath(d:dc e6):ei (ks d)=true:=by cases d<;>rfl
@[simp] theorem apl(d:dc e6):cells (ks d)=[ks d]:=by cases d<;>rfl
def ie(d:dc e6)(m:Int):Int:=gP sq d m
theorem wZ(d:dc e6)(m:Int)(h:0≤m): -1≤ie d m∧ie d m≤m:=vl NM d m h
def w9(d:dc e6):Prop:=d.wf fun b=>b.t.wf
@[simp] theorem amV:∀l:List (List c3),cW (l.map gh)=l.map gh
 |[]=>rfl
 |x::xs=>by simp[cW,amV xs]
theorem YP(d:dc e6)(hw:w9 d)(m:Int)(bD:0≤m)(J:m≤1048576):bt al 33 [ks d,.int .i64 m] (.int .i64 (ie d m)):=aon d (fun p n c e=>by subst e;exact hw) (fun xs e x ab m bD J=>by subst e;exact aom x (hw x ab) m bD J) m bD J
theorem YS(d:List c3):bt al 35 [gh d] (gh d):=aow d fun x _=>aov x
theorem Yw(d:List c3):bt al 37 [gh d,gh d] (.bool true):=anz d fun x _=>anx x
theorem aoo(l:dc (dc e6))(hw:∀p n cap,l= .b p n cap→mR n)(aI:∀xs,l= .l xs→∀x∈xs,∀m,0≤m→m≤1048576→bt al 33 [ks x,.int .i64 m] (.int .i64 (ie x m)))(m:Int)(bD:0≤m)(J:m≤1048576):bt al 72 [l.e 1 ks,.int .i64 m] (.int .i64 (gP ie l m)):=by
 cases l with
 |b p n cap=>
  have au:=hw p n cap rfl;simp only[mR,lim]at au;have g:m-n<0:=by omega
  simp only[dc.e,gP];clear hw aI;refine bc fH Sb V0 fun aN=>?_;unfold I5;exact bO
 |l l=>
 have aI:=aI l rfl;clear hw;simp only[dc.e,gP];generalize bg:o3 ie l m=R;unfold o3 at bg;refine bc fH Sb V0 fun aN=>?_;unfold I5;have eV:l.length≤68719476736:=by simp[ey,ea,en,lim]at aN;omega
 simp;by_cases g:m-l.length<0
 ·rw[if_pos g]at bg;subst bg;exact bO
 rw[if_neg g]at bg;(with_reducible repeat' first|refine aj ?_|simp[g]);refine dR [0] (fun i (k:Int)=>[(1,.int .i64 k),(5,.int .i64 i)]) l.length (fun i k=>(0≤k∧k≤1048576)∧j6 ie (l.drop i) k=R) (m-l.length) bW ⟨⟨by omega,by omega⟩,by simpa using bg⟩ (fun k af _=>?_) (fun i k hi af _=>?_)
 ·obtain⟨_,af⟩:=af;rw[List.drop_length]at af;simp only[j6]at af;subst af;exact bO
 ·obtain⟨⟨fo,aP⟩,af⟩:=af;obtain⟨x,ab,cD⟩:=dP hi;have key:=aI x (dZ ab) k fo aP;have hle:=wZ x k fo;rw[ti ab]at af;simp only[j6]at af;generalize ie x k=q at key hle af;clear ab;by_cases bh:q<0
  ·rw[if_pos bh]at af;subst af;exact bO
  ·rw[if_neg bh]at af;simp[hi,cD];((with_reducible repeat' first|refine aj ?_|refine aD key ?_|refine aE key ?_|simp[hi,cD,bh]|((first|apply bK|apply bM|apply bL)<;>intro h<;>try simp at h))<;>(try exact cc));all_goals exact bT.rng q hi ⟨⟨by omega,by omega⟩,af⟩ bW
theorem aox(l:List (List c3))(aI:∀x∈l,bt al 35 [gh x] (gh x)):bt al 83 [.slice 1 .no (l.map gh)] (.slice 1 .no (l.map gh)):=by
 refine bc fH ac2 ajz fun aN=>?_;unfold Qf;have eV:l.length≤68719476736:=by simp[ey,ea,en,lim]at aN;omega
 simp;all_goals first|(refine⟨by unfold lim;omega,?_⟩)|skip
 (with_reducible repeat' first|refine aj ?_|simp);have fv:∀(S:aH→Prop) (n:Nat),aJ S (rj n (.slice 5 .nil []))=True:=fun S n=>eq_true (yf S _ (by simp[aF,aJ]) n);refine hH (fun i (_:Unit)=>⟨[(0,.slice 1 .no (l.map gh)),(3,.row 1 (.loc 0) l.length),(4,.int .i64 i)],[],[(.loc 0,⟨l.length,46,1,some (iw gh (.slice 5 .nil []) l i)⟩)],1,[]⟩) l.length (fun _ _=>True) () ⟨by simp[fresh,aJ,aF,ck,inObs,Pv.look,oV,fv],ee (by simp[fresh,aJ,aF,ck,inObs,Pv.look,oV,fv]),ef (by simp[fresh,aJ,aF,dV,inObs,Pv.look,oV,fv]),by simp⟩ trivial (fun _ _ _=>?_) (fun i _ hi _ _=>?_)
 ·rw[Dc];exact bO
 ·obtain⟨x,ab,cD⟩:=dP hi;have key:=aI x (dZ ab);have ak:=Dd gh (.slice 5 .nil []) l hi;have aC:=De gh (.slice 5 .nil []) l ab;have bk:∀S:aH→Prop,aJ S (iw gh (.slice 5 .nil []) l (i+1)):=fun S=>C2 S _ _ _ _ (fun x=>by simp) (by simp[aF,aJ]);generalize iw gh (.slice 5 .nil []) l i=r0 at ak aC;generalize pF:iw gh (.slice 5 .nil []) l (i+1)=cN at aC bk;clear ab;simp[hi,cD];(with_reducible repeat' first|refine aj ?_|refine aD key ?_|refine aE key ?_|simp[hi,cD,ak,aC]);all_goals refine bT.rng () hi trivial ?_
  all_goals rw[pF]
  all_goals first
   |exact⟨by simp[fresh,aJ,aF,ck,inObs,Pv.look,bk],ee (by simp[fresh,aJ,aF,ck,inObs,Pv.look,bk]),ef (by simp[fresh,aJ,aF,dV,inObs,Pv.look,bk]),by simp⟩
   |exact⟨by simp[fresh,aJ,aF,ck,inObs,Pv.look,bk],ee (by simp[fresh,aJ,aF,ck,inObs,Pv.look,bk]),ef (by simp[fresh,aJ,aF,dV,inObs,Pv.look,bk];exact aC),by simp⟩
theorem anA(l:List (List c3))(aI:∀x∈l,bt al 37 [gh x,gh x] (.bool true)):bt al 92 [.slice 1 .no (l.map gh),.slice 1 .no (l.map gh)] (.bool true):=by
 refine bc fH acS ajp fun aN=>?_;unfold P5;have eV:l.length≤68719476736:=by simp[ey,ea,en,lim]at aN;omega
 simp;(with_reducible repeat' first|refine aj ?_|simp);refine dR [0,1] (fun i (_:Unit)=>[(5,.int .i64 i)]) l.length (fun _ _=>True) () bW trivial (fun _ _ _=>?_) (fun i _ hi _ _=>?_)
 ·exact bO
 ·obtain⟨x,ab,cD⟩:=dP hi;have key:=aI x (dZ ab);clear ab;exact gI
end Go.Proofs.YtahlgcidhnjlbaaGreat
