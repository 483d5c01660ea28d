/- The laws' copying, counting and comparing of data, II. -/
import Derived.Lib.OwnBridge
import Derived.Shelf.GgSortMore.Stable
import Derived.Shelf.GgSortFunc.SmallK
import Derived.Shelf.GgSortFunc.Slice
import Derived.Ground.GgsProg
import Derived.Test.YtahlgcidhnjlbaaGreatProg
import Derived.ProofKit
import Derived.Carry
import Derived.WalkKit
import Derived.Deep.Slices
import Derived.Test.YtahlgcidhnjlbaaGreatF3
set_option linter.all false
set_option maxHeartbeats 4000000
open Array renaming getElem?_toList→tL
open BitVec renaming ofInt→qp
open Bool renaming eq_iff_iff→qq,false_eq_true→gX,or_eq_true→lX
open Go renaming Program→cE,TypeId→fZ
open Go.DataW renaming trod→iX
open Go.Extern.ReflectliteSwapper renaming swap→Eh,swapper→atH
open Go.Extern.ReflectliteValue renaming len→atI,method→atJ,unpack→aoj,valueError→aok
open Go.Extern.Rtype renaming kind→Ys
open Go.IntKind renaming bits→od,i64→pQ,signed→sr,u64→hl,wrap→ss
open Go.IntWalk renaming i64_in→oe
open Go.Proofs.Tryz renaming prog→ao
open Go.Value renaming cells→pR
open List renaming cons_append→bX,drop_eq_getElem_cons→kP,drop_length→sv,getElem?_eq_getElem→bZ,getElem?_eq_some_iff→e1,getElem?_map→ri,getElem_of_mem→nG,length_append→o5,length_cons→o6,length_map→rj,map_append→qu,map_cons→gO,mem_cons→fR,mem_cons_of_mem→pS,mem_of_getElem?→dK,nil_append→b2,pairwise_iff_getElem→o7,replicate→rk,take_length→mj,take_of_length_le→hG
open List.cons renaming injEq→qs
open Nat renaming add_mul→o8,le_refl→eR,le_trans→jT,mul_le_mul_right→qv
open Ne renaming symm→k6
open Option renaming bind_eq_some_iff→mS,isSome_none→ml,map_eq_some_iff→gz,map_some→oh
open Option.some renaming injEq→dL
open Prod.mk renaming injEq→jy
open _root_ renaming False→eQ,Option→aZ,UInt8→dE,beq_iff_eq→dQ,congrArg→eB,decide_eq_false→iB,decide_eq_false_iff_not→gI,decide_eq_true→gJ,decide_eq_true_eq→e2
namespace Go.Proofs.YtahlgcidhnjlbaaGreat
open Go Go.Pv
variable {α:Type} [Inhabited α] {S:List α→cK} {n g cc:Nat} {lc b6:List ah} {lt:α→α→Bool}
theorem R3(H:e4 S n g cc lc b6 lt)(d:Array α)(aQ:d.size=n)(lo hi first:Nat)(J:first+hi≤n)(U:2≤n)(ar:lo≤n):
  bU ao 252 [eS g cc lc b6,.int .i64 lo,.int .i64 hi,.int .i64 first] (S d.toList) fun r ai=>r= .tuple []∧∃cg,ai=S cg.toList∧cg=Sort.siftDown lt hi first lo d∧cg.size=n:=by
 have ag:=H.ok d.toList;have aw:d.toList.length=n:=by simpa using aQ
 have ay:∀l m,Pv.look (.loc m) (S l).b=none:=fun l=>(H.ok l).obj.1;have hu:∀l m cs,cB (.loc m) cs (S l).b=(S l).b++[(.loc m,cs)]:=fun l m cs=>j8 (ay l m);have ax:∀m,aI.loc m∉cX (S d.toList):=j1 ag.obj;have hle:=H.le;refine bU.mk mixed n7 acO ajo (by simp) ag.obj fun aO cL=>?_;unfold P6;simp[eS,hu,ax,cI,ay];refine H.loopA aw [2,3,4] (fun(x:Nat×Array α)=>[(8,.int .i64 x.1)]) (·.2) (fun x=>hi-x.1) (fun x=>x.2.size=n∧x.1≤n∧Sort.siftDown lt hi first x.1 x.2=Sort.siftDown lt hi first lo d) (lo,d) aQ ⟨aQ,ar,rfl⟩ (by simp[cI,ay]) aR aR (by simp[aB]) ?_;rintro⟨root,cq⟩ ⟨aU,bC,cf⟩;simp only at aU bC cf;have ak:((first:Int)+(2*root+1))=(first+(2*root+1):Nat):=by omega
 have aE:(((first+(2*root+1):Nat):Int)+1)=(first+(2*root+1)+1:Nat):=by omega
 have bj:((first:Int)+root)=(first+root:Nat):=by omega
 have c2:((first:Int)+(2*root+1+1))=(first+(2*root+2):Nat):=by omega
 simp[Pv.look,H.slc,H.ssc];(with_reducible repeat' first|((first|apply bP|apply bR|apply bQ)<;>intro h<;>try simp at h)|refine aj ?_|simp[Pv.look,H.slc,H.ssc])
 ·rw[Sort.siftDown,dif_pos (by omega)]at cf;exact H.retA aw aU (.inr rfl) ⟨rfl,cq,rfl,cf,aU⟩
 ·rw[Sort.siftDown,dif_neg (by omega)]at cf;rw[ak,aE];refine H.lessA aU _ _ (by omega) (by omega) fun o=>?_;have au:decide (2*root+1+1<hi)=true:=by simp;omega
  cases af:lt cq[first+(2*root+1)]! cq[first+(2*root+1)+1]! with
  |true=>
   rw[if_pos (by rw[au,af];rfl)]at cf;simp;(with_reducible repeat' first|refine aj ?_|simp[Pv.look,H.slc,H.ssc]);rw[bj,c2];refine H.lessA aU _ _ (by omega) (by omega) fun o=>?_;cases aM:lt cq[first+root]! cq[first+(2*root+2)]! with
   |true=>rw[if_neg (by simp[aM]),dif_pos (by omega)]at cf;simp;(with_reducible repeat' first|refine aj ?_|simp[Pv.look,H.slc,H.ssc]);rw[bj,c2];refine H.swapA aU U _ _ (by omega) (by omega) fun o=>?_;simp;(with_reducible repeat' first|refine aj ?_|simp);refine bK.whl (2*root+2,Sort.swp cq (first+root) (first+(2*root+2))) (by simp;omega) ⟨by rw[gN,aU],by simp;omega,cf⟩ (H.weakC aw (by simp[gN,aU]) (by simp[aB];omega))
   |false=>rw[if_pos (by simp[aM])]at cf;simp;(with_reducible repeat' first|refine aj ?_|simp);all_goals exact H.retA aw aU (.inl rfl) ⟨rfl,cq,rfl,cf,aU⟩
  |false=>
   rw[if_neg (by simp[af])]at cf;simp;(with_reducible repeat' first|refine aj ?_|simp[Pv.look,H.slc,H.ssc]);rw[bj,ak];refine H.lessA aU _ _ (by omega) (by omega) fun o=>?_;cases aM:lt cq[first+root]! cq[first+(2*root+1)]! with
   |true=>rw[if_neg (by simp[aM])]at cf;simp;(with_reducible repeat' first|refine aj ?_|simp[Pv.look,H.slc,H.ssc]);rw[bj,ak];refine H.swapA aU U _ _ (by omega) (by omega) fun o=>?_;simp;(with_reducible repeat' first|refine aj ?_|simp);refine bK.whl (2*root+1,Sort.swp cq (first+root) (first+(2*root+1))) (by simp;omega) ⟨by rw[gN,aU],by simp;omega,cf⟩ (H.weakC aw (by simp[gN,aU]) (by simp[aB]))
   |false=>rw[if_pos (by simp[aM])]at cf;simp;(with_reducible repeat' first|refine aj ?_|simp);all_goals exact H.retA aw aU (.inl rfl) ⟨rfl,cq,rfl,cf,aU⟩
 ·rw[Sort.siftDown,dif_neg (by omega)]at cf;have au:decide (2*root+1+1<hi)=false:=by simp;omega
  rw[if_neg (by rw[au];simp)]at cf;rw[bj,ak];refine H.lessA aU _ _ (by omega) (by omega) fun o=>?_;cases aM:lt cq[first+root]! cq[first+(2*root+1)]! with
  |true=>rw[if_neg (by simp[aM])]at cf;simp;(with_reducible repeat' first|refine aj ?_|simp[Pv.look,H.slc,H.ssc]);rw[bj,ak];refine H.swapA aU U _ _ (by omega) (by omega) fun o=>?_;simp;(with_reducible repeat' first|refine aj ?_|simp);refine bK.whl (2*root+1,Sort.swp cq (first+root) (first+(2*root+1))) (by simp;omega) ⟨by rw[gN,aU],by simp;omega,cf⟩ (H.weakC aw (by simp[gN,aU]) (by simp[aB]))
  |false=>rw[if_pos (by simp[aM])]at cf;simp;(with_reducible repeat' first|refine aj ?_|simp);all_goals exact H.retA aw aU (.inl rfl) ⟨rfl,cq,rfl,cf,aU⟩
theorem aea(H:e4 S n g cc lc b6 lt)(d:Array α)(aQ:d.size=n)(a b:Nat)(ng:a<b)(ad:b≤n)(U:2≤n):
  bU ao 241 [eS g cc lc b6,.int .i64 a,.int .i64 b] (S d.toList) fun r ai=>r= .tuple []∧∃cg,ai=S cg.toList∧cg=Sort.reverseRange d a b∧cg.size=n:=by
 have ag:=H.ok d.toList;have aw:d.toList.length=n:=by simpa using aQ
 have ay:∀l m,Pv.look (.loc m) (S l).b=none:=fun l=>(H.ok l).obj.1;have hu:∀l m cs,cB (.loc m) cs (S l).b=(S l).b++[(.loc m,cs)]:=fun l m cs=>j8 (ay l m);have ax:∀m,aI.loc m∉cX (S d.toList):=j1 ag.obj;have hle:=H.le;refine bU.mk mixed n7 acM ajm (by simp) ag.obj fun aO cL=>?_;unfold P4;simp[eS,hu,ax,cI,ay];have fo:((b:Int)-1)=(b-1:Nat):=by omega
 (with_reducible repeat' first|refine aj ?_|simp[hu,ax,cI,ay]);rw[fo];refine H.loopA aw [3] (fun(x:(Nat×Nat)×Array α)=>[(6,.int .i64 x.1.1),(7,.int .i64 x.1.2)]) (·.2) (fun x=>x.1.2+1-x.1.1) (fun x=>x.2.size=n∧x.1.2<n∧Sort.reverseLoop x.1.1 x.1.2 x.2=Sort.reverseRange d a b) ((a,b-1),d) aQ ⟨aQ,by simp;omega,rfl⟩ (by simp[cI,ay]) aR aR (by simp[aB]) ?_;rintro⟨⟨i,j⟩,cq⟩ ⟨aU,bC,cf⟩;simp only at aU bC cf;rw[Sort.reverseLoop]at cf;simp[Pv.look,H.slc,H.ssc];(with_reducible repeat' first|((first|apply bP|apply bR|apply bQ)<;>intro h<;>try simp at h)|refine aj ?_|simp[Pv.look,H.slc,H.ssc])
 ·rw[if_pos (by omega)]at cf;refine H.swapA aU U _ _ (by omega) (by omega) fun o=>?_;have ak:((i:Int)+1)=(i+1:Nat):=by omega
  have aE:((j:Int)-1)=(j-1:Nat):=by omega
  simp;((with_reducible repeat' first|refine aj ?_|simp|((first|apply bP|apply bR|apply bQ)<;>intro h<;>try simp at h))<;>(try exact cm));rw[ak,aE];refine bK.whl ((i+1,j-1),Sort.swp cq i j) (by simp;omega) ⟨by rw[gN,aU],by simp;omega,cf⟩ (H.weakC aw (by simp[gN,aU]) (by simp[aB]))
 ·rw[if_neg (by omega)]at cf;exact H.retA aw aU (.inr rfl) ⟨rfl,cq,rfl,cf,aU⟩
theorem adW(H:e4 S n g cc lc b6 lt)(d:Array α)(aQ:d.size=n)(a b:Nat)(ng:a≤b)(ad:b≤n)(U:2≤n):
  bU ao 238 [eS g cc lc b6,.int .i64 a,.int .i64 b] (S d.toList) fun r ai=>r= .tuple []∧∃cg,ai=S cg.toList∧cg=Sort.heapSort lt d a b∧cg.size=n:=by
 have ag:=H.ok d.toList;have aw:d.toList.length=n:=by simpa using aQ
 have ay:∀l m,Pv.look (.loc m) (S l).b=none:=fun l=>(H.ok l).obj.1;have hu:∀l m cs,cB (.loc m) cs (S l).b=(S l).b++[(.loc m,cs)]:=fun l m cs=>j8 (ay l m);have ax:∀m,aI.loc m∉cX (S d.toList):=j1 ag.obj;have hle:=H.le;refine bU.mk mixed n7 acD ajd (by simp) ag.obj fun aO cL=>?_;unfold PV;simp[eS,hu,ax,cI,ay];(with_reducible repeat' first|refine aj ?_|simp[hu,ax,cI,ay]);have fo:pQ.wrap (((b:Int)-a-1).tdiv 2)=(((b-a-1)/2+1:Nat):Int)-1:=by
  have e:((b:Int)-a-1).tdiv 2=(((b-a-1)/2+1:Nat):Int)-1:=by
   rcases Nat.eq_or_lt_of_le ng with h|h
   ·subst h;simp
   ·rw[show((b:Int)-a-1)=((b-a-1:Nat):Int) by omega,Int.tdiv_eq_ediv_of_nonneg (by omega)];omega
  rw[e,oe _ (by omega)]
 rw[fo];refine H.loopA aw [3,6,7,8] (fun(x:Nat×Array α)=>[(9,.int .i64 ((x.1:Int)-1))]) (·.2) (fun x=>x.1) (fun x=>x.2.size=n∧x.1≤n∧Sort.heapBuild lt (b-a) a x.1 x.2=Sort.heapBuild lt (b-a) a ((b-a-1)/2+1) d) ((b-a-1)/2+1,d) aQ ⟨aQ,by simp;omega,rfl⟩ (by simp[cI,ay]) aR aR (by simp[aB]) ?_;rintro⟨k,cq⟩ ⟨aU,bC,cf⟩;simp only at aU bC cf;have aam:((b:Int)-a)=(b-a:Nat):=by omega
 simp[Pv.look,H.slc,H.ssc];(with_reducible repeat' first|((first|apply bP|apply bR|apply bQ)<;>intro h<;>try simp at h)|refine aj ?_|simp[Pv.look,H.slc,H.ssc])
 ·obtain⟨k,rfl⟩:∃bS,k=bS+1:=⟨k-1,by omega⟩;have I8:(((k+1:Nat):Int)-1)=(k:Nat):=by omega
  rw[Sort.heapBuild]at cf;simp only[iq H,H.slc,H.ssc,ia,I8,aam];refine H.doFn (lk:=cq.toList) (by simpa using aU) (R:=fun a1=> ∃cg,a1=cg.toList∧cg=Sort.siftDown lt (b-a) a k cq∧cg.size=n) ((R3 H cq aU k (b-a) a (by omega) U (by omega)).mono fun r ai ⟨a8,cg,bF,b0,c0⟩=>⟨a8,cg.toList,bF,cg,rfl,b0,c0⟩) (by rintro a1 ⟨cg,rfl,_,q⟩;simpa using q) (by simp[aH,aB,H.kdata (lk:=cq.toList) (by simpa using aU)]) ?_;rintro a1 ⟨cg,rfl,a8,bF⟩;simp;((with_reducible repeat' first|refine aj ?_|simp|((first|apply bP|apply bR|apply bQ)<;>intro h<;>try simp at h))<;>(try exact cm));refine bK.whl (k,cg) (by simp) ⟨bF,by simp;omega,by rw[←cf,a8]⟩ (H.weakC aw (by simpa using bF) (by simp[aB]))
 ·obtain rfl:k=0:=by omega
  rw[Sort.heapBuild]at cf;have apQ:cq.size=n:=aU;refine H.loopA aw [3,6,7] (fun(x:Nat×Array α)=>[(10,.int .i64 ((x.1:Int)-1))]) (·.2) (fun x=>x.1) (fun x=>x.2.size=n∧x.1≤b-a∧Sort.heapPop lt a x.1 x.2=Sort.heapPop lt a (b-a) cq) (b-a,cq) aU ⟨aU,by simp,rfl⟩ (by simp[Pv.look]) aR aR (by simp[aB];omega) ?_;rintro⟨k,fI⟩ ⟨hs,wm,hd⟩;simp only at hs wm hd;simp[Pv.look,H.slc,H.ssc];(with_reducible repeat' first|((first|apply bP|apply bR|apply bQ)<;>intro h<;>try simp at h)|refine aj ?_|simp[Pv.look,H.slc,H.ssc])
  ·obtain⟨k,rfl⟩:∃bS,k=bS+1:=⟨k-1,by omega⟩;have I8:(((k+1:Nat):Int)-1)=(k:Nat):=by omega
   have aal:((a:Int)+k)=(a+k:Nat):=by omega
   rw[Sort.heapPop]at hd;simp only[I8,aal];refine H.swapA hs U _ _ (by omega) (by omega) fun o=>?_;have KT:(Sort.swp fI a (a+k)).size=n:=by rw[gN,hs]
   simp;simp only[iq H,H.slc,H.ssc,ia];refine H.doFn (lk:=(Sort.swp fI a (a+k)).toList) (by simpa using KT) (R:=fun a1=> ∃cg,a1=cg.toList∧cg=Sort.siftDown lt k a 0 (Sort.swp fI a (a+k))∧cg.size=n) ((R3 H (Sort.swp fI a (a+k)) KT 0 k a (by omega) U (by omega)).mono fun r ai ⟨a8,cg,bF,b0,c0⟩=>⟨a8,cg.toList,bF,cg,rfl,b0,c0⟩) (by rintro a1 ⟨cg,rfl,_,q⟩;simpa using q) (by simp[aH,aB,H.kdata (lk:=(Sort.swp fI a (a+k)).toList) (by simpa using KT)]) ?_;rintro a1 ⟨cg,rfl,a8,bF⟩;simp;((with_reducible repeat' first|refine aj ?_|simp|((first|apply bP|apply bR|apply bQ)<;>intro h<;>try simp at h))<;>(try exact cm));refine bK.whl (k,cg) (by simp) ⟨bF,by simp;omega,by rw[←hd,a8]⟩ (H.weakC aw (by simpa using bF) (by simp[aB]))
  ·obtain rfl:k=0:=by omega
   rw[Sort.heapPop]at hd;refine H.retA aw hs (.inr rfl) ⟨rfl,fI,rfl,?_,hs⟩;rw[Sort.heapSort,←cf,←hd]
theorem adX(H:e4 S n g cc lc b6 lt)(d:Array α)(aQ:d.size=n)(a b:Nat)(ng:a≤b)(ad:b≤n):
  bU ao 231 [eS g cc lc b6,.int .i64 a,.int .i64 b] (S d.toList) fun r ai=>r= .tuple []∧∃cg,ai=S cg.toList∧cg=Sort.insertionSort lt d a b∧cg.size=n:=by
 have ag:=H.ok d.toList;have aw:d.toList.length=n:=by simpa using aQ
 have ay:∀l m,Pv.look (.loc m) (S l).b=none:=fun l=>(H.ok l).obj.1;have hu:∀l m cs,cB (.loc m) cs (S l).b=(S l).b++[(.loc m,cs)]:=fun l m cs=>j8 (ay l m);have ax:∀m,aI.loc m∉cX (S d.toList):=j1 ag.obj;have hle:=H.le;refine bU.mk mixed Be RB Vi (by simp) ag.obj fun aO cL=>?_;unfold IJ;simp[eS,hu,ax,cI,ay];have fo:((a:Int)+1)=(a+1:Nat):=by omega
 (with_reducible repeat' first|refine aj ?_|simp[hu,ax,cI,ay]);rw[fo];refine H.loopA aw [1,2,3] (fun(x:Nat×Array α)=>[(6,.int .i64 x.1)]) (·.2) (fun x=>b+1-x.1) (fun x=>x.2.size=n∧x.1≤b+1∧Sort.insOuter lt a b x.1 x.2=Sort.insertionSort lt d a b) (a+1,d) aQ ⟨aQ,by simp;omega,rfl⟩ (by simp[cI,ay]) aR aR (by simp[aB]) ?_;rintro⟨i,cq⟩ ⟨aU,bC,cf⟩;simp only at aU bC cf;rw[Sort.insOuter]at cf;simp;(with_reducible repeat' first|((first|apply bP|apply bR|apply bQ)<;>intro h<;>try simp at h)|refine aj ?_|simp)
 ·rw[if_pos (by omega)]at cf;refine H.loopA aw [1,2,3,6] (fun(x:Nat×Array α)=>[(7,.int .i64 x.1)]) (·.2) (fun x=>x.1) (fun x=>x.2.size=n∧x.1≤i∧Sort.insInner lt a x.1 x.2=Sort.insInner lt a i cq) (i,cq) aU ⟨aU,by simp,rfl⟩ (by simp[Pv.look]) aR aR (by simp[aB]) ?_;rintro⟨j,fI⟩ ⟨hs,wm,hd⟩;simp only at hs wm hd;simp[Pv.look,H.slc,H.ssc];(with_reducible repeat' first|((first|apply bP|apply bR|apply bQ)<;>intro h<;>try simp at h)|refine aj ?_|simp[Pv.look,H.slc,H.ssc])
  ·obtain⟨j,rfl⟩:∃dD,j=dD+1:=⟨j-1,by omega⟩;have oy:(((j+1:Nat):Int)-1)=(j:Nat):=by omega
   have pn:((i:Int)+1)=(i+1:Nat):=by omega
   have aap:((j:Int)+1)=(j+1:Nat):=by omega
   rw[Sort.insInner]at hd;have au:decide (j+1>a)=true:=by simp;omega
   rw[oy];refine H.lessA hs _ _ (by omega) (by omega) fun o=>?_;cases af:lt fI[j+1]! fI[j]! with
   |true=>rw[if_pos (by rw[au,af];rfl)]at hd;simp;(with_reducible repeat' first|refine aj ?_|simp[Pv.look,H.slc,H.ssc]);rw[aap];refine H.swapA hs (by omega) _ _ (by omega) (by omega) fun o=>?_;simp;(with_reducible repeat' first|refine aj ?_|simp);refine bK.whl (j,Sort.swp fI (j+1) j) (by simp) ⟨by rw[gN,hs],by simp;omega,hd⟩ (H.weakC aw (by simp[gN,hs]) (by simp[aB]))
   |false=>rw[if_neg (by simp[af])]at hd;simp;((with_reducible repeat' first|refine aj ?_|simp|((first|apply bP|apply bR|apply bQ)<;>intro h<;>try simp at h))<;>(try exact cm));rw[pn];refine bK.whl (i+1,fI) (by simp;omega) ⟨hs,by simp;omega,by rw[←cf,←hd]⟩ (H.weakC aw (by simpa using hs) (by simp[aB]))
  ·have pn:((i:Int)+1)=(i+1:Nat):=by omega
   have yd:Sort.insInner lt a j fI=fI:=by
    cases j with
    |zero=>rfl
    |succ j=>rw[Sort.insInner,if_neg (by simp;omega)]
   rw[pn];refine bK.whl (i+1,fI) (by simp;omega) ⟨hs,by simp;omega,by rw[←cf,←hd,yd]⟩ (H.weakC aw (by simpa using hs) (by simp[aB]))
 ·rw[if_neg (by omega)]at cf;exact H.retA aw aU (.inr rfl) ⟨rfl,cq,rfl,cf,aU⟩
end Go.Proofs.YtahlgcidhnjlbaaGreat
namespace Go.Proofs.YtahlgcidhnjlbaaGreat
open Go Go.Pv
variable {α:Type} [Inhabited α] {S:List α→cK} {n g cc:Nat} {lc b6:List ah} {lt:α→α→Bool}
theorem vi{p:α→Bool}{d:Array α}{i j:Nat}(h:¬(i≤j∧p d[j]! =true)):Sort.scanDown p d i j=j:=by
 cases j with
 |zero=>rfl
 |succ j=>rw[Sort.scanDown,if_neg (by simpa using h)]
theorem A4{p:α→Bool}{d:Array α}{i j:Nat}(h:¬(i≤j∧p d[i]! =true)):Sort.scanUp p d j i=i:=by rw[Sort.scanUp,if_neg (by simpa using h)]
theorem MQ{p:α→Bool}{d:Array α}{i j:Nat}(J:i≤j)(U:p d[i]! =true):Sort.scanUp p d j i=Sort.scanUp p d j (i+1):=by rw[Sort.scanUp,if_pos (by simp[J,U])]
theorem MP{p:α→Bool}{d:Array α}{i j:Nat}(J:i≤j+1)(U:p d[j+1]! =true):Sort.scanDown p d i (j+1)=Sort.scanDown p d i j:=by rw[Sort.scanDown,if_pos (by simp[J,U])]
theorem ad4(H:e4 S n g cc lc b6 lt)(d:Array α)(aQ:d.size=n)(a b pivot:Nat)(rJ:a≤pivot)(afI:pivot<b)(ng:a+1<b)(ad:b≤n):
  bU ao 244 [eS g cc lc b6,.int .i64 a,.int .i64 b,.int .i64 pivot] (S d.toList) fun r ai=>r= .tuple [.int .i64 (Sort.partition lt d a b pivot).1,.bool (Sort.partition lt d a b pivot).2.1]∧∃cg,ai=S cg.toList∧cg=(Sort.partition lt d a b pivot).2.2∧cg.size=n:=by
 obtain⟨R,bd⟩:∃R,R=Sort.partition lt d a b pivot:=⟨_,rfl⟩;rw[←bd];unfold Sort.partition at bd;have ag:=H.ok d.toList;have aw:d.toList.length=n:=by simpa using aQ
 have ay:∀l m,Pv.look (.loc m) (S l).b=none:=fun l=>(H.ok l).obj.1;have hu:∀l m cs,cB (.loc m) cs (S l).b=(S l).b++[(.loc m,cs)]:=fun l m cs=>j8 (ay l m);have ax:∀m,aI.loc m∉cX (S d.toList):=j1 ag.obj;have hle:=H.le;refine bU.mk mixed n7 acK ajk (by simp) ag.obj fun aO cL=>?_;unfold P2;simp[eS,hu,ax,cI,ay];rw[H.ssc];refine H.swapA0 aQ (by omega) a pivot (by omega) (by omega) fun o=>?_;obtain⟨d1,fp⟩:∃d1,d1=Sort.swp d a pivot:=⟨_,rfl⟩;have s1:d1.size=n:=by rw[fp,gN,aQ]
 rw[←fp];simp only[←fp]at bd;have ak:((a:Int)+1)=(a+1:Nat):=by omega
 have aE:((b:Int)-1)=(b-1:Nat):=by omega
 simp;(with_reducible repeat' first|refine aj ?_|simp);rw[ak,aE];refine H.loopA aw [1,4,11] (fun(i:Nat)=>[(10,.int .i64 i)]) (fun _=>d1) (fun i=>b+1-i) (fun i=>a+1≤i∧i≤b∧Sort.scanUp (fun x=>lt x d1[a]!) d1 (b-1) i=Sort.scanUp (fun x=>lt x d1[a]!) d1 (b-1) (a+1)) (a+1) s1 ⟨by omega,by omega,rfl⟩ (by simp[Pv.look]) aR aR (by simp[aB]) ?_;rintro i ⟨i1,i2,i3⟩;simp[Pv.look,H.slc];((with_reducible repeat' first|refine aj ?_|simp[Pv.look,H.slc]|((first|apply bP|apply bR|apply bQ)<;>intro h<;>try simp at h))<;>(try exact cm));refine H.lessA s1 i a (by omega) (by omega) fun o=>?_;cases af:lt d1[i]! d1[a]!;rotate_left
 ·have pn:((i:Int)+1)=(i+1:Nat):=by omega
  simp;(with_reducible repeat' first|refine aj ?_|simp);rw[pn];refine bK.whl (i+1) (by omega) ⟨by omega,by omega,by rw[←i3];exact(MQ (p:=fun x=>lt x d1[a]!) (by omega) af).symm⟩ (H.weakC aw (by simpa using s1) (by simp[aB]))
 rotate_left
 ·have i4:Sort.scanUp (fun x=>lt x d1[a]!) d1 (b-1) i=i:=A4 (by simp[af]);rw[i4]at i3;rw[←i3]at bd;simp;refine H.loopA aw [1,4,10] (fun(j:Nat)=>[(11,.int .i64 j)]) (fun _=>d1) (fun j=>j) (fun j=>i≤j+1∧j≤b-1∧Sort.scanDown (fun x=> !lt x d1[a]!) d1 i j=Sort.scanDown (fun x=> !lt x d1[a]!) d1 i (b-1)) (b-1) s1 ⟨by omega,by omega,rfl⟩ (by simp[Pv.look]) aR aR (by simp[aB]) ?_;rintro j ⟨hs,wm,hd⟩;simp[Pv.look,H.slc];((with_reducible repeat' first|refine aj ?_|simp[Pv.look,H.slc,H.ssc]|((first|apply bP|apply bR|apply bQ)<;>intro h<;>try simp at h))<;>(try exact cm))
  ·refine H.lessA s1 j a (by omega) (by omega) fun o=>?_;cases aM:lt d1[j]! d1[a]!
   ·obtain⟨j,rfl⟩:∃dD,j=dD+1:=⟨j-1,by omega⟩;have oy:(((j+1:Nat):Int)-1)=(j:Nat):=by omega
    simp;(with_reducible repeat' first|refine aj ?_|simp);try rw[oy]
    refine bK.whl j (by omega) ⟨by omega,by omega,by rw[←hd];exact(MP (p:=fun x=> !lt x d1[a]!) (by omega) (by simp[aM])).symm⟩ (H.weakC aw (by simpa using s1) (by simp[aB]))
   ·have yd:Sort.scanDown (fun x=> !lt x d1[a]!) d1 i j=j:=vi (by simp[aM]);have cF:i≠j:=fun e=>by subst e;rw[af]at aM;cases aM
    rw[yd]at hd;rw[←hd,if_neg (by omega)]at bd;simp;((with_reducible repeat' first|refine aj ?_|simp[Pv.look,H.slc,H.ssc]|((first|apply bP|apply bR|apply bQ)<;>intro h<;>try simp at h))<;>(try exact cm));refine H.swapA s1 (by omega) i j (by omega) (by omega) fun o=>?_;obtain⟨d2,eJ⟩:∃d2,d2=Sort.swp d1 i j:=⟨_,rfl⟩;have s2:d2.size=n:=by rw[eJ,gN,s1]
    rw[←eJ];rw[←eJ]at bd;have bj:((i:Int)+1)=(i+1:Nat):=by omega
    have c2:((j:Int)-1)=(j-1:Nat):=by omega
    simp;(with_reducible repeat' first|refine aj ?_|simp);rw[bj,c2];refine H.loopA aw [1,4] (fun(x:(Nat×Nat)×Array α)=>[(10,.int .i64 x.1.1),(11,.int .i64 x.1.2)]) (·.2) (fun x=>x.1.2+1-x.1.1) (fun x=>x.2.size=n∧(a+1≤x.1.1∧x.1.1≤x.1.2+1∧x.1.2≤b-1)∧Sort.partLoop lt a x.1.1 x.1.2 x.2=Sort.partLoop lt a (i+1) (j-1) d2) ((i+1,j-1),d2) s2 ⟨s2,⟨by simp;omega,by simp;omega,by simp;omega⟩,rfl⟩ (by simp[Pv.look]) aR aR (by simp[aB]) ?_;rintro⟨⟨wk,dD⟩,cq⟩ ⟨aU,⟨bC,cf,eZ⟩,de⟩;simp only at aU bC cf eZ de;rw[Sort.partLoop]at de;generalize nc:Sort.partLoop lt a (i+1) (j-1) d2=G at de bd;simp;refine H.loopA aw [1,4,11] (fun(x:Nat)=>[(10,.int .i64 x)]) (fun _=>cq) (fun x=>b+1-x) (fun x=>wk≤x∧x≤dD+1∧Sort.scanUp (fun x=>lt x cq[a]!) cq dD x=Sort.scanUp (fun x=>lt x cq[a]!) cq dD wk) wk aU ⟨by omega,by omega,rfl⟩ (by simp[Pv.look]) aR aR (by simp[aB]) ?_;rintro p ⟨cP,dt,iR⟩;simp[Pv.look,H.slc];((with_reducible repeat' first|refine aj ?_|simp[Pv.look,H.slc]|((first|apply bP|apply bR|apply bQ)<;>intro h<;>try simp at h))<;>(try exact cm))
    ·refine H.lessA aU p a (by omega) (by omega) fun o=>?_;cases ih:lt cq[p]! cq[a]!;rotate_left
     ·have pn:((p:Int)+1)=(p+1:Nat):=by omega
      simp;(with_reducible repeat' first|refine aj ?_|simp);rw[pn];refine bK.whl (p+1) (by omega) ⟨by omega,by omega,by rw[←iR];exact(MQ (p:=fun x=>lt x cq[a]!) (by omega) ih).symm⟩ (H.weakC aw (by simpa using aU) (by simp[aB]))
     ·have u2:Sort.scanUp (fun x=>lt x cq[a]!) cq dD p=p:=A4 (by simp[ih]);rw[u2]at iR;simp only[←iR]at de;simp;refine H.loopA aw [1,4,10] (fun(x:Nat)=>[(11,.int .i64 x)]) (fun _=>cq) (fun x=>x) (fun x=>p≤x+1∧x≤dD∧Sort.scanDown (fun x=> !lt x cq[a]!) cq p x=Sort.scanDown (fun x=> !lt x cq[a]!) cq p dD) dD aU ⟨by omega,by omega,rfl⟩ (by simp[Pv.look]) aR aR (by simp[aB]) ?_;rintro q ⟨a8,bF,b0⟩;simp[Pv.look,H.slc];((with_reducible repeat' first|refine aj ?_|simp[Pv.look,H.slc,H.ssc]|((first|apply bP|apply bR|apply bQ)<;>intro h<;>try simp at h))<;>(try exact cm))
      ·refine H.lessA aU q a (by omega) (by omega) fun o=>?_;cases rU:lt cq[q]! cq[a]!
       ·obtain⟨q,rfl⟩:∃dD,q=dD+1:=⟨q-1,by omega⟩;have oy:(((q+1:Nat):Int)-1)=(q:Nat):=by omega
        simp;(with_reducible repeat' first|refine aj ?_|simp);try rw[oy]
        refine bK.whl q (by omega) ⟨by omega,by omega,by rw[←b0];exact(MP (p:=fun x=> !lt x cq[a]!) (by omega) (by simp[rU])).symm⟩ (H.weakC aw (by simpa using aU) (by simp[aB]))
       ·have c0:Sort.scanDown (fun x=> !lt x cq[a]!) cq p q=q:=vi (by simp[rU]);have cF:p≠q:=fun e=>by subst e;rw[ih]at rU;cases rU
        rw[c0]at b0;simp only[←b0]at de;rw[if_neg (by omega),dif_pos (by omega)]at de;simp;((with_reducible repeat' first|refine aj ?_|simp[Pv.look,H.slc,H.ssc]|((first|apply bP|apply bR|apply bQ)<;>intro h<;>try simp at h))<;>(try exact cm));refine H.swapA aU (by omega) p q (by omega) (by omega) fun o=>?_;have ha:((p:Int)+1)=(p+1:Nat):=by omega
        have hP:((q:Int)-1)=(q-1:Nat):=by omega
        simp;(with_reducible repeat' first|((first|apply bP|apply bR|apply bQ)<;>intro h<;>try simp at h)|refine aj ?_|simp);rw[ha,hP];refine bK.whl ((p+1,q-1),Sort.swp cq p q) (by simp;omega) ⟨by rw[gN,aU],⟨by simp;omega,by simp;omega,by simp;omega⟩,de⟩ (H.weakC aw (by simp[gN,aU]) (by simp[aB]))
      ·have c0:Sort.scanDown (fun x=> !lt x cq[a]!) cq p q=q:=vi (by omega);rw[c0]at b0;simp only[←b0]at de;rw[if_pos (by omega)]at de;rw[←de]at bd;refine H.swapA aU (by omega) q a (by omega) (by omega) fun o=>?_;simp;refine H.retR aw (d:=Sort.swp cq q a) (by rw[gN,aU]) (.inl rfl) ?_;simp[c1,DD,aX,aY,aW];rw[bd];exact⟨⟨rfl,rfl⟩,_,rfl,rfl,by rw[gN,aU]⟩
    ·have u2:Sort.scanUp (fun x=>lt x cq[a]!) cq dD p=p:=A4 (by omega);rw[u2]at iR;simp only[←iR]at de;have c0:Sort.scanDown (fun x=> !lt x cq[a]!) cq p dD=dD:=vi (by omega);rw[c0,if_pos (by omega)]at de;rw[←de]at bd;refine H.loopA aw [1,4,10] (fun(x:Nat)=>[(11,.int .i64 x)]) (fun _=>cq) (fun x=>x) (fun x=>x=dD) dD aU rfl (by simp[Pv.look]) aR aR (by simp[aB]) ?_;rintro q rfl;simp[Pv.look,H.slc];((with_reducible repeat' first|refine aj ?_|simp[Pv.look,H.slc,H.ssc]|((first|apply bP|apply bR|apply bQ)<;>intro h<;>try simp at h))<;>(try exact cm));refine H.swapA aU (by omega) q a (by omega) (by omega) fun o=>?_;simp;refine H.retR aw (d:=Sort.swp cq q a) (by rw[gN,aU]) (.inl rfl) ?_;simp[c1,DD,aX,aY,aW];rw[bd];exact⟨⟨rfl,rfl⟩,_,rfl,rfl,by rw[gN,aU]⟩
  ·have yd:Sort.scanDown (fun x=> !lt x d1[a]!) d1 i j=j:=vi (by omega);rw[yd]at hd;rw[←hd,if_pos (by omega)]at bd;refine H.swapA s1 (by omega) j a (by omega) (by omega) fun o=>?_;simp;refine H.retR aw (d:=Sort.swp d1 j a) (by rw[gN,s1]) (.inl rfl) ?_;simp[c1,DD,aX,aY,aW];rw[bd];exact⟨⟨rfl,rfl⟩,_,rfl,rfl,by rw[gN,s1]⟩
 ·have i4:Sort.scanUp (fun x=>lt x d1[a]!) d1 (b-1) i=i:=A4 (by omega);rw[i4]at i3;have yd:Sort.scanDown (fun x=> !lt x d1[a]!) d1 i (b-1)=b-1:=vi (by omega);rw[←i3,yd,if_pos (by omega)]at bd;refine H.loopA aw [1,4,10] (fun(j:Nat)=>[(11,.int .i64 j)]) (fun _=>d1) (fun j=>j) (fun j=>j=b-1) (b-1) s1 rfl (by simp[Pv.look]) aR aR (by simp[aB]) ?_;rintro j rfl;simp[Pv.look,H.slc];((with_reducible repeat' first|refine aj ?_|simp[Pv.look,H.slc,H.ssc]|((first|apply bP|apply bR|apply bQ)<;>intro h<;>try simp at h))<;>(try exact cm));refine H.swapA s1 (by omega) (b-1) a (by omega) (by omega) fun o=>?_;simp;refine H.retR aw (d:=Sort.swp d1 (b-1) a) (by rw[gN,s1]) (.inl rfl) ?_;simp[c1,DD,aX,aY,aW];rw[bd];exact⟨⟨rfl,rfl⟩,_,rfl,rfl,by rw[gN,s1]⟩
end Go.Proofs.YtahlgcidhnjlbaaGreat
namespace Go.Proofs.YtahlgcidhnjlbaaGreat
open Go Go.Pv
variable {α:Type} [Inhabited α] {S:List α→cK} {n g cc:Nat} {lc b6:List ah} {lt:α→α→Bool}
theorem ad5(H:e4 S n g cc lc b6 lt)(d:Array α)(aQ:d.size=n)(a b pivot:Nat)(rJ:a≤pivot)(afI:pivot<b)(ng:a+1<b)(ad:b≤n):
  bU ao 243 [eS g cc lc b6,.int .i64 a,.int .i64 b,.int .i64 pivot] (S d.toList) fun r ai=>r= .int .i64 (Sort.partitionEqual lt d a b pivot).1∧∃cg,ai=S cg.toList∧cg=(Sort.partitionEqual lt d a b pivot).2∧cg.size=n:=by
 obtain⟨R,bd⟩:∃R,R=Sort.partitionEqual lt d a b pivot:=⟨_,rfl⟩;rw[←bd];unfold Sort.partitionEqual at bd;have ag:=H.ok d.toList;have aw:d.toList.length=n:=by simpa using aQ
 have ay:∀l m,Pv.look (.loc m) (S l).b=none:=fun l=>(H.ok l).obj.1;have hu:∀l m cs,cB (.loc m) cs (S l).b=(S l).b++[(.loc m,cs)]:=fun l m cs=>j8 (ay l m);have ax:∀m,aI.loc m∉cX (S d.toList):=j1 ag.obj;have hle:=H.le;refine bU.mk mixed n7 acJ ajj (by simp) ag.obj fun aO cL=>?_;unfold P1;simp[eS,hu,ax,cI,ay];rw[H.ssc];refine H.swapA0 aQ (by omega) a pivot (by omega) (by omega) fun o=>?_;obtain⟨d1,fp⟩:∃d1,d1=Sort.swp d a pivot:=⟨_,rfl⟩;have s1:d1.size=n:=by rw[fp,gN,aQ]
 rw[←fp];rw[←fp]at bd;have ak:((a:Int)+1)=(a+1:Nat):=by omega
 have aE:((b:Int)-1)=(b-1:Nat):=by omega
 simp;(with_reducible repeat' first|refine aj ?_|simp);rw[ak,aE];refine H.loopA aw [1,4] (fun(x:(Nat×Nat)×Array α)=>[(9,.int .i64 x.1.1),(10,.int .i64 x.1.2)]) (·.2) (fun x=>x.1.2+1-x.1.1) (fun x=>x.2.size=n∧(a+1≤x.1.1∧x.1.1≤x.1.2+1∧x.1.2≤b-1)∧Sort.partEqLoop lt a x.1.1 x.1.2 x.2=R) ((a+1,b-1),d1) s1 ⟨s1,⟨by simp,by simp;omega,by simp⟩,bd.symm⟩ (by simp[Pv.look]) aR aR (by simp[aB]) ?_;rintro⟨⟨wk,dD⟩,cq⟩ ⟨aU,⟨bC,cf,eZ⟩,de⟩;simp only at aU bC cf eZ de;rw[Sort.partEqLoop]at de;simp;refine H.loopA aw [1,4,10] (fun(x:Nat)=>[(9,.int .i64 x)]) (fun _=>cq) (fun x=>b+1-x) (fun x=>wk≤x∧x≤dD+1∧Sort.scanUp (fun x=> !lt cq[a]! x) cq dD x=Sort.scanUp (fun x=> !lt cq[a]! x) cq dD wk) wk aU ⟨by omega,by omega,rfl⟩ (by simp[Pv.look]) aR aR (by simp[aB]) ?_;rintro p ⟨cP,dt,iR⟩;simp[Pv.look,H.slc];((with_reducible repeat' first|refine aj ?_|simp[Pv.look,H.slc]|((first|apply bP|apply bR|apply bQ)<;>intro h<;>try simp at h))<;>(try exact cm))
 ·refine H.lessA aU a p (by omega) (by omega) fun o=>?_;cases ih:lt cq[a]! cq[p]!
  ·have pn:((p:Int)+1)=(p+1:Nat):=by omega
   simp;(with_reducible repeat' first|refine aj ?_|simp);rw[pn];refine bK.whl (p+1) (by omega) ⟨by omega,by omega,by rw[←iR];exact(MQ (p:=fun x=> !lt cq[a]! x) (by omega) (by simp[ih])).symm⟩ (H.weakC aw (by simpa using aU) (by simp[aB]))
  ·have u2:Sort.scanUp (fun x=> !lt cq[a]! x) cq dD p=p:=A4 (by simp[ih]);rw[u2]at iR;simp only[←iR]at de;simp;refine H.loopA aw [1,4,9] (fun(x:Nat)=>[(10,.int .i64 x)]) (fun _=>cq) (fun x=>x) (fun x=>p≤x+1∧x≤dD∧Sort.scanDown (fun x=>lt cq[a]! x) cq p x=Sort.scanDown (fun x=>lt cq[a]! x) cq p dD) dD aU ⟨by omega,by omega,rfl⟩ (by simp[Pv.look]) aR aR (by simp[aB]) ?_;rintro q ⟨a8,bF,b0⟩;simp[Pv.look,H.slc];((with_reducible repeat' first|refine aj ?_|simp[Pv.look,H.slc,H.ssc]|((first|apply bP|apply bR|apply bQ)<;>intro h<;>try simp at h))<;>(try exact cm))
   ·refine H.lessA aU a q (by omega) (by omega) fun o=>?_;cases rU:lt cq[a]! cq[q]!;rotate_left
    ·obtain⟨q,rfl⟩:∃dD,q=dD+1:=⟨q-1,by omega⟩;have oy:(((q+1:Nat):Int)-1)=(q:Nat):=by omega
     simp;(with_reducible repeat' first|refine aj ?_|simp);try rw[oy]
     refine bK.whl q (by omega) ⟨by omega,by omega,by rw[←b0];exact(MP (p:=fun x=>lt cq[a]! x) (by omega) (by simp[rU])).symm⟩ (H.weakC aw (by simpa using aU) (by simp[aB]))
    ·have c0:Sort.scanDown (fun x=>lt cq[a]! x) cq p q=q:=vi (by simp[rU]);have cF:p≠q:=fun e=>by subst e;rw[ih]at rU;cases rU
     rw[c0]at b0;simp only[←b0]at de;rw[if_neg (by omega),dif_pos (by omega)]at de;simp;((with_reducible repeat' first|refine aj ?_|simp[Pv.look,H.slc,H.ssc]|((first|apply bP|apply bR|apply bQ)<;>intro h<;>try simp at h))<;>(try exact cm));refine H.swapA aU (by omega) p q (by omega) (by omega) fun o=>?_;have ha:((p:Int)+1)=(p+1:Nat):=by omega
     have hP:((q:Int)-1)=(q-1:Nat):=by omega
     simp;(with_reducible repeat' first|((first|apply bP|apply bR|apply bQ)<;>intro h<;>try simp at h)|refine aj ?_|simp);rw[ha,hP];refine bK.whl ((p+1,q-1),Sort.swp cq p q) (by simp;omega) ⟨by rw[gN,aU],⟨by simp;omega,by simp;omega,by simp;omega⟩,de⟩ (H.weakC aw (by simp[gN,aU]) (by simp[aB]))
   ·have c0:Sort.scanDown (fun x=>lt cq[a]! x) cq p q=q:=vi (by omega);rw[c0]at b0;simp only[←b0]at de;rw[if_pos (by omega)]at de;refine H.retR aw (d:=cq) aU (.inl rfl) ?_;simp[c1,Mj,aX,aY,aW];rw[←de];exact⟨rfl,_,rfl,rfl,aU⟩
 ·have u2:Sort.scanUp (fun x=> !lt cq[a]! x) cq dD p=p:=A4 (by omega);rw[u2]at iR;simp only[←iR]at de;have c0:Sort.scanDown (fun x=>lt cq[a]! x) cq p dD=dD:=vi (by omega);rw[c0,if_pos (by omega)]at de;refine H.loopA aw [1,4,9] (fun(x:Nat)=>[(10,.int .i64 x)]) (fun _=>cq) (fun x=>x) (fun x=>x=dD) dD aU rfl (by simp[Pv.look]) aR aR (by simp[aB]) ?_;rintro q rfl;simp[Pv.look,H.slc];((with_reducible repeat' first|refine aj ?_|simp[Pv.look,H.slc,H.ssc]|((first|apply bP|apply bR|apply bQ)<;>intro h<;>try simp at h))<;>(try exact cm));refine H.retR aw (d:=cq) aU (.inl rfl) ?_;simp[c1,Mj,aX,aY,aW];rw[←de];exact⟨rfl,_,rfl,rfl,aU⟩
end Go.Proofs.YtahlgcidhnjlbaaGreat
namespace Go.Proofs.YtahlgcidhnjlbaaGreat
open Go Go.Pv
variable {α:Type} [Inhabited α] {S:List α→cK} {n g cc:Nat} {lc b6:List ah} {lt:α→α→Bool}
theorem ad3(H:e4 S n g cc lc b6 lt)(d:Array α)(aQ:d.size=n)(a b:Nat)(ng:a<b)(ad:b≤n)(U:2≤n):
  bU ao 242 [eS g cc lc b6,.int .i64 a,.int .i64 b] (S d.toList) fun r ai=>r= .bool (Sort.partialInsertionSort lt d a b).2∧∃cg,ai=S cg.toList∧cg=(Sort.partialInsertionSort lt d a b).1∧cg.size=n:=by
 obtain⟨R,bd⟩:∃R,R=Sort.partialInsertionSort lt d a b:=⟨_,rfl⟩;rw[←bd];unfold Sort.partialInsertionSort at bd;have ag:=H.ok d.toList;have aw:d.toList.length=n:=by simpa using aQ
 have ay:∀l m,Pv.look (.loc m) (S l).b=none:=fun l=>(H.ok l).obj.1;have hu:∀l m cs,cB (.loc m) cs (S l).b=(S l).b++[(.loc m,cs)]:=fun l m cs=>j8 (ay l m);have ax:∀m,aI.loc m∉cX (S d.toList):=j1 ag.obj;have hle:=H.le;refine bU.mk mixed n7 acI aji (by simp) ag.obj fun aO cL=>?_;unfold P0;simp[eS,hu,ax,cI,ay];have ak:((a:Int)+1)=(a+1:Nat):=by omega
 (with_reducible repeat' first|refine aj ?_|simp);rw[ak];refine H.loopA aw [1,2,3] (fun(x:(Nat×Nat)×Array α)=>[(7,.int .i64 x.1.1),(8,.int .i64 x.1.2)]) (·.2) (fun x=>5-x.1.2) (fun x=>x.2.size=n∧(a+1≤x.1.1∧x.1.1≤b∧x.1.2≤5)∧Sort.partialIns lt a b (5-x.1.2) x.1.1 x.2=R) ((a+1,0),d) aQ ⟨aQ,⟨by simp,by simp;omega,by simp⟩,bd.symm⟩ (by simp[cI,ay]) aR aR (by simp[aB]) ?_;rintro⟨⟨i0,s⟩,cq⟩ ⟨aU,⟨bC,cf,eZ⟩,de⟩;simp only at aU bC cf eZ de;simp;((with_reducible repeat' first|refine aj ?_|simp|((first|apply bP|apply bR|apply bQ)<;>intro h<;>try simp at h))<;>(try exact cm))
 ·obtain⟨m,hm⟩:∃m,5-s=m+1:=⟨5-s-1,by omega⟩;rw[hm,Sort.partialIns]at de;refine H.loopA aw [1,2,3,8] (fun(x:Nat)=>[(7,.int .i64 x)]) (fun _=>cq) (fun x=>b-x) (fun x=>i0≤x∧x≤b∧Sort.scanSorted lt cq b x=Sort.scanSorted lt cq b i0) i0 aU ⟨by omega,by omega,rfl⟩ (by simp[Pv.look]) aR aR (by simp[aB]) ?_;rintro i ⟨i1,i2,i3⟩;rw[Sort.scanSorted]at i3;have pn:((i:Int)+1)=(i+1:Nat):=by omega
  have E5:((i:Int)-1)=(i-1:Nat):=by omega
  have es:((s:Int)+1)=(s+1:Nat):=by omega
  have em:5-(s+1)=m:=by omega
  simp[Pv.look,H.slc];((with_reducible repeat' first|refine aj ?_|simp[Pv.look,H.slc]|((first|apply bP|apply bR|apply bQ)<;>intro h<;>try simp at h))<;>(try exact cm))
  ·rw[E5];refine H.lessA aU i (i-1) (by omega) (by omega) fun o=>?_;cases af:lt cq[i]! cq[i-1]!
   ·rw[if_pos (by simp[af];omega)]at i3;simp;(with_reducible repeat' first|refine aj ?_|simp);rw[pn];refine bK.whl (i+1) (by omega) ⟨by omega,by omega,i3⟩ (H.weakC aw (by simpa using aU) (by simp[aB]))
   ·rw[if_neg (by simp[af])]at i3;simp only[←i3]at de;rw[if_neg (by omega)]at de;have zN:(i:Int)≠b:=by omega
    have ae6:((i:Int)==b)=false:=by simp;omega
    simp;((with_reducible repeat' first|refine aj ?_|simp[zN,ae6,Pv.look,H.slc,H.ssc]|((first|apply bP|apply bR|apply bQ)<;>intro h<;>try simp at h))<;>(try exact cm))
    ·rw[if_pos (by omega)]at de;refine H.retR aw (d:=cq) aU (.inl rfl) ?_;simp[c1,G5,aX,aY,aW];rw[←de];exact⟨rfl,_,rfl,rfl,aU⟩
    ·rw[if_neg (by omega)]at de;rw[E5];refine H.swapA aU U i (i-1) (by omega) (by omega) fun o=>?_;obtain⟨d2,eJ⟩:∃d2,d2=Sort.swp cq i (i-1):=⟨_,rfl⟩;have s2:d2.size=n:=by rw[eJ,gN,aU]
     rw[←eJ];simp only[←eJ]at de;by_cases lM:2≤b-i
     ·rw[if_pos lM]at de;have s7:(2:Int)≤(b:Int)-i:=by omega
      by_cases Cg:2≤i-a
      ·rw[if_pos Cg]at de;have xO:(2:Int)≤(i:Int)-a:=by omega
       simp;(with_reducible repeat' first|refine aj ?_|simp[xO]);rw[E5];refine H.loopA aw [1,2,3,7,8] (fun(x:Nat×Array α)=>[(9,.int .i64 x.1)]) (·.2) (fun x=>x.1) (fun x=>x.2.size=n∧x.1≤i-1∧Sort.shiftDown lt x.1 x.2=Sort.shiftDown lt (i-1) d2) (i-1,d2) s2 ⟨s2,by simp,rfl⟩ (by simp[Pv.look]) aR aR (by simp[aB]) ?_;rintro⟨j,fI⟩ ⟨hs,wm,hd⟩;simp only at hs wm hd;simp[Pv.look,H.slc,H.ssc];((with_reducible repeat' first|refine aj ?_|simp[Pv.look,H.slc,H.ssc,s7]|((first|apply bP|apply bR|apply bQ)<;>intro h<;>try simp at h))<;>(try exact cm))
       ·obtain⟨j,rfl⟩:∃dD,j=dD+1:=⟨j-1,by omega⟩;have oy:(((j+1:Nat):Int)-1)=(j:Nat):=by omega
        rw[Sort.shiftDown]at hd;try rw[oy]
        refine H.lessA hs (j+1) j (by omega) (by omega) fun o=>?_;cases aM:lt fI[j+1]! fI[j]!
        ·rw[if_pos (by simp[aM])]at hd;rw[←hd]at de;try simp
         try(with_reducible repeat' first|refine aj ?_|simp[Pv.look,H.slc,H.ssc,s7])
         rw[pn];refine H.loopA aw [1,2,3,7,8] (fun(x:Nat×Array α)=>[(10,.int .i64 x.1)]) (·.2) (fun x=>b-x.1) (fun x=>x.2.size=n∧(i+1≤x.1∧x.1≤b)∧Sort.shiftUp lt b x.1 x.2=Sort.shiftUp lt b (i+1) fI) (i+1,fI) hs ⟨hs,⟨by simp,by simp;omega⟩,rfl⟩ (by simp[Pv.look]) aR aR (by simp[aB]) ?_;rintro⟨q,mX⟩ ⟨a8,⟨bF,yz⟩,b0⟩;simp only at a8 bF yz b0;rw[Sort.shiftUp]at b0;have eq:((q:Int)-1)=(q-1:Nat):=by omega
         have BL:((q:Int)+1)=(q+1:Nat):=by omega
         simp[Pv.look,H.slc,H.ssc];((with_reducible repeat' first|refine aj ?_|simp[Pv.look,H.slc,H.ssc]|((first|apply bP|apply bR|apply bQ)<;>intro h<;>try simp at h))<;>(try exact cm))
         ·rw[if_pos (by omega)]at b0;rw[eq];refine H.lessA a8 q (q-1) (by omega) (by omega) fun o=>?_;cases br:lt mX[q]! mX[q-1]!
          ·rw[if_pos (by simp[br])]at b0;rw[←b0]at de;simp;(with_reducible repeat' first|refine aj ?_|simp);rw[es];refine bK.whl ((i,s+1),mX) (by simp;omega) ⟨a8,⟨by simp;omega,by simp;omega,by simp;omega⟩,by simp only[em];exact de⟩ (H.weakC aw (by simpa using a8) (by simp[aB]))
          ·rw[if_neg (by simp[br])]at b0;simp;(with_reducible repeat' first|refine aj ?_|simp[Pv.look,H.slc,H.ssc]);rw[eq];refine H.swapA a8 (by omega) q (q-1) (by omega) (by omega) fun o=>?_;simp;((with_reducible repeat' first|refine aj ?_|simp|((first|apply bP|apply bR|apply bQ)<;>intro h<;>try simp at h))<;>(try exact cm));rw[BL];refine bK.whl (q+1,Sort.swp mX q (q-1)) (by simp;omega) ⟨by rw[gN,a8],⟨by simp;omega,by simp;omega⟩,b0⟩ (H.weakC aw (by simp[gN,a8]) (by simp[aB]))
         ·rw[if_neg (by omega)]at b0;rw[←b0]at de;rw[es];refine bK.whl ((i,s+1),mX) (by simp;omega) ⟨a8,⟨by simp;omega,by simp;omega,by simp;omega⟩,by simp only[em];exact de⟩ (H.weakC aw (by simpa using a8) (by simp[aB]))
        ·rw[if_neg (by simp[aM])]at hd;simp;(with_reducible repeat' first|refine aj ?_|simp[Pv.look,H.slc,H.ssc]);try rw[oy]
         refine H.swapA hs U (j+1) j (by omega) (by omega) fun o=>?_;simp;((with_reducible repeat' first|refine aj ?_|simp|((first|apply bP|apply bR|apply bQ)<;>intro h<;>try simp at h))<;>(try exact cm));try rw[oy]
         refine bK.whl (j,Sort.swp fI (j+1) j) (by simp) ⟨by rw[gN,hs],by simp;omega,hd⟩ (H.weakC aw (by simp[gN,hs]) (by simp[aB]))
       ·obtain rfl:j=0:=by omega
        rw[Sort.shiftDown]at hd;rw[←hd]at de;try simp
        try(with_reducible repeat' first|refine aj ?_|simp[Pv.look,H.slc,H.ssc,s7])
        rw[pn];refine H.loopA aw [1,2,3,7,8] (fun(x:Nat×Array α)=>[(10,.int .i64 x.1)]) (·.2) (fun x=>b-x.1) (fun x=>x.2.size=n∧(i+1≤x.1∧x.1≤b)∧Sort.shiftUp lt b x.1 x.2=Sort.shiftUp lt b (i+1) fI) (i+1,fI) hs ⟨hs,⟨by simp,by simp;omega⟩,rfl⟩ (by simp[Pv.look]) aR aR (by simp[aB]) ?_;rintro⟨q,mX⟩ ⟨a8,⟨bF,yz⟩,b0⟩;simp only at a8 bF yz b0;rw[Sort.shiftUp]at b0;have eq:((q:Int)-1)=(q-1:Nat):=by omega
        have BL:((q:Int)+1)=(q+1:Nat):=by omega
        simp[Pv.look,H.slc,H.ssc];((with_reducible repeat' first|refine aj ?_|simp[Pv.look,H.slc,H.ssc]|((first|apply bP|apply bR|apply bQ)<;>intro h<;>try simp at h))<;>(try exact cm))
        ·rw[if_pos (by omega)]at b0;rw[eq];refine H.lessA a8 q (q-1) (by omega) (by omega) fun o=>?_;cases br:lt mX[q]! mX[q-1]!
         ·rw[if_pos (by simp[br])]at b0;rw[←b0]at de;simp;(with_reducible repeat' first|refine aj ?_|simp);rw[es];refine bK.whl ((i,s+1),mX) (by simp;omega) ⟨a8,⟨by simp;omega,by simp;omega,by simp;omega⟩,by simp only[em];exact de⟩ (H.weakC aw (by simpa using a8) (by simp[aB]))
         ·rw[if_neg (by simp[br])]at b0;simp;(with_reducible repeat' first|refine aj ?_|simp[Pv.look,H.slc,H.ssc]);rw[eq];refine H.swapA a8 (by omega) q (q-1) (by omega) (by omega) fun o=>?_;simp;((with_reducible repeat' first|refine aj ?_|simp|((first|apply bP|apply bR|apply bQ)<;>intro h<;>try simp at h))<;>(try exact cm));rw[BL];refine bK.whl (q+1,Sort.swp mX q (q-1)) (by simp;omega) ⟨by rw[gN,a8],⟨by simp;omega,by simp;omega⟩,b0⟩ (H.weakC aw (by simp[gN,a8]) (by simp[aB]))
        ·rw[if_neg (by omega)]at b0;rw[←b0]at de;rw[es];refine bK.whl ((i,s+1),mX) (by simp;omega) ⟨a8,⟨by simp;omega,by simp;omega,by simp;omega⟩,by simp only[em];exact de⟩ (H.weakC aw (by simpa using a8) (by simp[aB]))
      ·rw[if_neg Cg]at de;have xO:¬(2:Int)≤(i:Int)-a:=by omega
       simp;(with_reducible repeat' first|refine aj ?_|simp[xO,s7]);try simp
       try(with_reducible repeat' first|refine aj ?_|simp[Pv.look,H.slc,H.ssc,s7])
       rw[pn];refine H.loopA aw [1,2,3,7,8] (fun(x:Nat×Array α)=>[(10,.int .i64 x.1)]) (·.2) (fun x=>b-x.1) (fun x=>x.2.size=n∧(i+1≤x.1∧x.1≤b)∧Sort.shiftUp lt b x.1 x.2=Sort.shiftUp lt b (i+1) d2) (i+1,d2) s2 ⟨s2,⟨by simp,by simp;omega⟩,rfl⟩ (by simp[Pv.look]) aR aR (by simp[aB]) ?_;rintro⟨q,mX⟩ ⟨a8,⟨bF,yz⟩,b0⟩;simp only at a8 bF yz b0;rw[Sort.shiftUp]at b0;have eq:((q:Int)-1)=(q-1:Nat):=by omega
       have BL:((q:Int)+1)=(q+1:Nat):=by omega
       simp[Pv.look,H.slc,H.ssc];((with_reducible repeat' first|refine aj ?_|simp[Pv.look,H.slc,H.ssc]|((first|apply bP|apply bR|apply bQ)<;>intro h<;>try simp at h))<;>(try exact cm))
       ·rw[if_pos (by omega)]at b0;rw[eq];refine H.lessA a8 q (q-1) (by omega) (by omega) fun o=>?_;cases br:lt mX[q]! mX[q-1]!
        ·rw[if_pos (by simp[br])]at b0;rw[←b0]at de;simp;(with_reducible repeat' first|refine aj ?_|simp);rw[es];refine bK.whl ((i,s+1),mX) (by simp;omega) ⟨a8,⟨by simp;omega,by simp;omega,by simp;omega⟩,by simp only[em];exact de⟩ (H.weakC aw (by simpa using a8) (by simp[aB]))
        ·rw[if_neg (by simp[br])]at b0;simp;(with_reducible repeat' first|refine aj ?_|simp[Pv.look,H.slc,H.ssc]);rw[eq];refine H.swapA a8 (by omega) q (q-1) (by omega) (by omega) fun o=>?_;simp;((with_reducible repeat' first|refine aj ?_|simp|((first|apply bP|apply bR|apply bQ)<;>intro h<;>try simp at h))<;>(try exact cm));rw[BL];refine bK.whl (q+1,Sort.swp mX q (q-1)) (by simp;omega) ⟨by rw[gN,a8],⟨by simp;omega,by simp;omega⟩,b0⟩ (H.weakC aw (by simp[gN,a8]) (by simp[aB]))
       ·rw[if_neg (by omega)]at b0;rw[←b0]at de;rw[es];refine bK.whl ((i,s+1),mX) (by simp;omega) ⟨a8,⟨by simp;omega,by simp;omega,by simp;omega⟩,by simp only[em];exact de⟩ (H.weakC aw (by simpa using a8) (by simp[aB]))
     ·rw[if_neg lM]at de;have s7:¬(2:Int)≤(b:Int)-i:=by omega
      by_cases Cg:2≤i-a
      ·rw[if_pos Cg]at de;have xO:(2:Int)≤(i:Int)-a:=by omega
       simp;(with_reducible repeat' first|refine aj ?_|simp[xO]);rw[E5];refine H.loopA aw [1,2,3,7,8] (fun(x:Nat×Array α)=>[(9,.int .i64 x.1)]) (·.2) (fun x=>x.1) (fun x=>x.2.size=n∧x.1≤i-1∧Sort.shiftDown lt x.1 x.2=Sort.shiftDown lt (i-1) d2) (i-1,d2) s2 ⟨s2,by simp,rfl⟩ (by simp[Pv.look]) aR aR (by simp[aB]) ?_;rintro⟨j,fI⟩ ⟨hs,wm,hd⟩;simp only at hs wm hd;simp[Pv.look,H.slc,H.ssc];((with_reducible repeat' first|refine aj ?_|simp[Pv.look,H.slc,H.ssc,s7]|((first|apply bP|apply bR|apply bQ)<;>intro h<;>try simp at h))<;>(try exact cm))
       ·obtain⟨j,rfl⟩:∃dD,j=dD+1:=⟨j-1,by omega⟩;have oy:(((j+1:Nat):Int)-1)=(j:Nat):=by omega
        rw[Sort.shiftDown]at hd;try rw[oy]
        refine H.lessA hs (j+1) j (by omega) (by omega) fun o=>?_;cases aM:lt fI[j+1]! fI[j]!
        ·rw[if_pos (by simp[aM])]at hd;rw[←hd]at de;try simp
         try(with_reducible repeat' first|refine aj ?_|simp[Pv.look,H.slc,H.ssc,s7])
         rw[es];refine bK.whl ((i,s+1),fI) (by simp;omega) ⟨hs,⟨by simp;omega,by simp;omega,by simp;omega⟩,by simp only[em];exact de⟩ (H.weakC aw (by simpa using hs) (by simp[aB]))
        ·rw[if_neg (by simp[aM])]at hd;simp;(with_reducible repeat' first|refine aj ?_|simp[Pv.look,H.slc,H.ssc]);try rw[oy]
         refine H.swapA hs U (j+1) j (by omega) (by omega) fun o=>?_;simp;((with_reducible repeat' first|refine aj ?_|simp|((first|apply bP|apply bR|apply bQ)<;>intro h<;>try simp at h))<;>(try exact cm));try rw[oy]
         refine bK.whl (j,Sort.swp fI (j+1) j) (by simp) ⟨by rw[gN,hs],by simp;omega,hd⟩ (H.weakC aw (by simp[gN,hs]) (by simp[aB]))
       ·obtain rfl:j=0:=by omega
        rw[Sort.shiftDown]at hd;rw[←hd]at de;try simp
        try(with_reducible repeat' first|refine aj ?_|simp[Pv.look,H.slc,H.ssc,s7])
        rw[es];refine bK.whl ((i,s+1),fI) (by simp;omega) ⟨hs,⟨by simp;omega,by simp;omega,by simp;omega⟩,by simp only[em];exact de⟩ (H.weakC aw (by simpa using hs) (by simp[aB]))
      ·rw[if_neg Cg]at de;have xO:¬(2:Int)≤(i:Int)-a:=by omega
       simp;((with_reducible repeat' first|refine aj ?_|simp[xO,s7]|((first|apply bP|apply bR|apply bQ)<;>intro h<;>try simp at h))<;>(try exact cm));done
  ·rw[if_neg (by simp;omega)]at i3;simp only[←i3]at de;rw[if_pos (by omega)]at de;refine H.retR aw (d:=cq) aU (.inl rfl) ?_;simp[c1,G5,aX,aY,aW];rw[←de];exact⟨rfl,_,rfl,rfl,aU⟩
 ·have:5-s=0:=by omega
  rw[this,Sort.partialIns]at de;refine H.retR aw (d:=cq) aU (.inl rfl) ?_;simp[c1,G5,aX,aY,aW];rw[←de];exact⟨rfl,_,rfl,rfl,aU⟩
end Go.Proofs.YtahlgcidhnjlbaaGreat
namespace Go.Proofs.YtahlgcidhnjlbaaGreat
open Go Go.Pv
variable {α:Type} [Inhabited α] {S:List α→cK} {n g cc:Nat} {lc b6:List ah} {lt:α→α→Bool}
def e9(S:List α→cK)(d:Array α)(v:Nat):cK:=⟨(.obj 901,[.int .i64 v])::(S d.toList).b,(S d.toList).e⟩
def r5(S:List α→cK)(m:Nat):Prop:= ∀l,Pv.look (.obj m) (S l).b=none∧Pv.look (.obj m) (S l).e=none
theorem nJ(H:e4 S n g cc lc b6 lt)(d:Array α)(v:Nat):eh (e9 S d v):=by
 have h:=H.ok d.toList;have jr:∀k,inObs (S d.toList) k→inObs (e9 S d v) k:=fun k ab=>by
  rcases ab with ab|ab
  ·refine .inl ?_;simp only[e9,Pv.look];split
   ·rfl
   ·exact ab
  ·exact .inr ab
 refine⟨⟨fun m=>?_,h.obj.2⟩,fun k cs ab=>?_,fun k o ax xs af=>jZ jr _ (h.ke k o ax xs af)⟩
 ·simp[e9,Pv.look,h.obj.1 m]
 ·simp only[e9,Pv.look]at ab;split at ab
  ·cases ab;simp[aH,aB]
  ·exact jZ jr _ (h.kb k cs ab)
theorem sA(d:Array α)(v v':Nat):Same (e9 S d v) (e9 S d v'):=⟨fun k=>by simp only[e9,Pv.look];split<;>rfl,fun _=>rfl⟩
theorem JJ(H:e4 S n g cc lc b6 lt)(ab:r5 S 901)(d:Array α)(aQ:d.size=n)(a b v:Nat)(bz:a<n)(ad:b<n)(aF:v≤1000):
  bU ao 271 [eS g cc lc b6,.int .i64 a,.int .i64 b,.ptr (.obj 901) 0] (e9 S d v) fun r ai=>r= .tuple [.int .i64 (Sort.order2 lt d a b v).1,.int .i64 (Sort.order2 lt d a b v).2.1]∧ai=e9 S d (Sort.order2 lt d a b v).2.2:=by
 have ag:=H.ok d.toList;have aw:d.toList.length=n:=by simpa using aQ
 have ay:∀l m,Pv.look (.loc m) (S l).b=none:=fun l=>(H.ok l).obj.1;have hu:∀l m cs,cB (.loc m) cs (S l).b=(S l).b++[(.loc m,cs)]:=fun l m cs=>j8 (ay l m);have ax:∀m,aI.loc m∉cX (S d.toList):=j1 ag.obj;have gf:∀l,Pv.look (.obj 901) (S l).b=none:=fun l=>(ab l).1;have kh:∀l,Pv.look (.obj 901) (S l).e=none:=fun l=>(ab l).2;have hle:=H.le;have kC:=nJ H d v;obtain⟨R,bd⟩:∃R,R=Sort.order2 lt d a b v:=⟨_,rfl⟩;rw[←bd];unfold Sort.order2 at bd;refine bU.mk mixed n7 acH ajh (by simp) kC.obj fun aO cL=>?_;unfold PZ;have lG:aI.loc 0∉cX (e9 S d v):=j1 kC.obj 0;generalize uG:cX (e9 S d v)=ob at lG⊢;unfold e9;simp[eS,hu,lG,cI,ay,Pv.look,cB];rw[H.slc];refine c8.ob (H.less d.toList aw b a _ _ (y9 (by omega)) (y9 (by omega))) (H.ok _) (fun k cs af=>?_) (fun _ _ af=>af) (by simp[aB,aH,H.klc d.toList aw]) ?_
 ·simp only[Pv.look];split
  ·rename_i e;subst e;rw[gf]at af;cases af
  ·rw[cI,af]
 rintro r ai ⟨rfl,rfl⟩;refine⟨Same.refl _,?_⟩;have hw:cz (S d.toList).b ((aI.obj 901,[ah.int .i64 v])::((S d.toList).b++[(aI.loc 0,[ah.func g lc,ah.func cc b6])]))=[(aI.obj 901,[ah.int .i64 v]),(aI.loc 0,[ah.func g lc,ah.func cc b6])]:=by simp only[cz,gf];rw[iA,gW];simp[cz,ay]
 rw[hw,gW];have dx:∀(t:List (Nat×ah)) (o:List aI) (v':Nat) (D:List ah) (x y:Nat),Pv.get 8 t= .int .i64 x→Pv.get 9 t= .int .i64 y→R=(x,y,v')→
   cV Mi (e9 S d v) (fun r ai=>r= .tuple [.int .i64 R.1,.int .i64 R.2.1]∧ai=e9 S d R.2.2) .ret ⟨t,(aI.obj 901,[.int .i64 v'])::(aI.loc 0,D)::(S d.toList).b,(S d.toList).e,1,o⟩:=by
  rintro t o v' D x y af aM rfl;refine cV.at (e9 S d v') (.inl rfl) (nJ H d v') (sA _ _ _) (fun k cs au=>?_) (fun _ _ au=>au) ?_
  ·simp only[e9,Pv.look]at au⊢;split at au
   ·rename_i e;rw[if_pos e];exact au
   ·rename_i e;rw[if_neg e];split
    ·rename_i aE;subst aE;rw[ay]at au;cases au
    ·exact au
  ·simp[c1,Mi,aX,aY,aW,af,aM]
 cases af:lt d[b]! d[a]! with
 |true=>
  rw[if_pos af]at bd;simp[Pv.look,cB];(with_reducible repeat' first|refine aj ?_|simp[Pv.look,cB]);have ak:((v:Int)+1)=(v+1:Nat):=by omega
  rw[ak];exact dx _ _ (v+1) _ b a rfl rfl bd
 |false=>rw[if_neg (by simp[af])]at bd;simp[Pv.look,cB];exact dx _ _ v _ a b rfl rfl bd
theorem U2{s ai:cK}{f:Nat}{args:List ah}{r:ah}(aL:bU ao f args s fun eF dO=>eF=r∧dO=ai)(ag:eh s)(fc:Same s ai)(ab:aH (inObs s) args){t:List (Nat×ah)}{D:List ah}{o:List aI}{d:aZ Nat}{K:bs→Prop}
  (h:∀o,K ⟨eM d r t,(.loc 0,D)::ai.b,ai.e,1,o⟩):c8 ao f args ⟨t,s.b++[(.loc 0,D)],s.e,1,o⟩ d K:=by
 refine c8.ob aL ag (fun k cs af=>by rw[cI,af]) (fun _ _ af=>af) ab ?_;rintro r ai ⟨rfl,rfl⟩;refine⟨fc,?_⟩;have ak:cz s.b (s.b++[(.loc 0,D)])=[(.loc 0,D)]:=by rw[iA,gW];simp[cz,ag.obj.1 0]
 have aE:cz s.e s.e=[]:=gW _;simp only[ak,aE];exact h _
theorem Di{s ai:cK}{f:Nat}{args:List ah}{r:ah}(aL:bU ao f args s fun eF dO=>eF=r∧dO=ai)(ag:eh s)(fc:Same s ai)(ab:aH (inObs s) args){t:List (Nat×ah)}{D:List ah}{o:List aI}{d:aZ Nat}{K:bs→Prop}
  (h:∀o,K ⟨eM d r t,(.loc 0,D)::ai.b,ai.e,1,o⟩):c8 ao f args ⟨t,(.loc 0,D)::s.b,s.e,1,o⟩ d K:=by
 refine c8.ob aL ag (fun k cs af=>?_) (fun _ _ af=>af) ab ?_
 ·cases k with
  |loc m=>rw[ag.obj.1 m]at af;cases af
  |obj m=>simpa[Pv.look]using af
 rintro r ai ⟨rfl,rfl⟩;refine⟨fc,?_⟩;have ak:cz s.b ((.loc 0,D)::s.b)=[(.loc 0,D)]:=by have:=iA s.b [(aI.loc 0,D)] s.b;rw[gW]at this;simpa[cz,ag.obj.1 0]using this
 have aE:cz s.e s.e=[]:=gW _;simp only[ak,aE];exact h _
theorem AJ{d:Array α}{a b v n:Nat}(bz:a<n)(ad:b<n):(Sort.order2 lt d a b v).1<n∧(Sort.order2 lt d a b v).2.1<n∧(Sort.order2 lt d a b v).2.2≤v+1:=by unfold Sort.order2;split<;>simp<;>omega
theorem uR(H:e4 S n g cc lc b6 lt){d:Array α}(aQ:d.size=n){v:Nat}:aB (inObs (e9 S d v)) (eS g cc lc b6)∧aB (inObs (e9 S d v)) (.ptr (.obj 901) 0):=by
 refine⟨wx (fun k ab=>?_) _ (H.kdata (lk:=d.toList) (by simpa using aQ)),by simp[aB,inObs,e9,Pv.look]⟩;rcases ab with ab|ab
 ·refine .inl ?_;simp only[e9,Pv.look];split
  ·rfl
  ·exact ab
 ·exact .inr ab
theorem WQ(H:e4 S n g cc lc b6 lt){d:Array α}{v v':Nat}{fk:List bA}{Q:ah→cK→Prop}{t:List (Nat×ah)}{D:List ah}{o:List aI}(h:c1 ⟨t,(.loc 0,D)::(e9 S d v').b,(S d.toList).e,1,o⟩ fk fun r=>aB (inObs (e9 S d v')) r∧Q r (e9 S d v')):
  cV fk (e9 S d v) Q .ret ⟨t,(.loc 0,D)::(e9 S d v').b,(S d.toList).e,1,o⟩:=by
 refine cV.at (e9 S d v') (.inl rfl) (nJ H d v') (sA _ _ _) (fun k cs af=>?_) (fun _ _ au=>au) h;cases k with
 |loc m=>rw[(nJ H d v').obj.1 m]at af;cases af
 |obj m=>simpa[Pv.look]using af
theorem JG(H:e4 S n g cc lc b6 lt)(ab:r5 S 901)(d:Array α)(aQ:d.size=n)(a b c v:Nat)(bz:a<n)(ad:b<n)(au:c<n)(aF:v≤900):
  bU ao 256 [eS g cc lc b6,.int .i64 a,.int .i64 b,.int .i64 c,.ptr (.obj 901) 0] (e9 S d v) fun r ai=>r= .int .i64 (Sort.median lt d a b c v).1∧ai=e9 S d (Sort.median lt d a b c v).2:=by
 have kC:=nJ H d v;have nk:∀v m,Pv.look (.loc m) (e9 S d v).b=none:=fun v=>(nJ H d v).obj.1;have KD:∀v m cs,cB (.loc m) cs (e9 S d v).b=(e9 S d v).b++[(.loc m,cs)]:=fun v m cs=>j8 (nk v m);have lG:aI.loc 0∉cX (e9 S d v):=j1 kC.obj 0;obtain⟨R,bd⟩:∃R,R=Sort.median lt d a b c v:=⟨_,rfl⟩;rw[←bd];unfold Sort.median at bd;have a8:=AJ (lt:=lt) (d:=d) (v:=v) bz ad;have aU:=JJ H ab d aQ a b v bz ad (by omega);generalize Sort.order2 lt d a b v=dM at a8 aU bd;obtain⟨sp,kN,v1⟩:=dM;simp only at a8 aU bd;have bF:=AJ (lt:=lt) (d:=d) (v:=v1) a8.2.1 au;have bC:=JJ H ab d aQ kN c v1 a8.2.1 au (by omega);generalize Sort.order2 lt d kN c v1=ff at bF bC bd;obtain⟨yZ,o3,v2⟩:=ff;simp only at bF bC bd;have b0:=AJ (lt:=lt) (d:=d) (v:=v2) a8.1 bF.1;have cf:=JJ H ab d aQ sp yZ v2 a8.1 bF.1 (by omega);generalize Sort.order2 lt d sp yZ v2=k0 at b0 cf bd;obtain⟨sq,HU,v3⟩:=k0;simp only at b0 cf bd;refine bU.mk mixed n7 acF ajf (by simp) kC.obj fun aO cL=>?_;unfold PX;simp[eS,KD,lG,cI,nk];simp only[iq H,H.slc,H.ssc,ia];refine U2 aU (nJ H d v) (sA _ _ _) (by simp[aB,aH,(uR H aQ).1];exact(uR H aQ).2) fun o=>?_;simp[Pv.look];simp only[iq H,H.slc,H.ssc,ia];refine Di bC (nJ H d v1) (sA _ _ _) (by simp[aB,aH,(uR H aQ).1];exact(uR H aQ).2) fun o=>?_;simp[Pv.look];simp only[iq H,H.slc,H.ssc,ia];refine Di cf (nJ H d v2) (sA _ _ _) (by simp[aB,aH,(uR H aQ).1];exact(uR H aQ).2) fun o=>?_;simp;refine WQ H ?_;simp[c1,Wc,aX,aY,aW];rw[bd];exact⟨rfl,rfl⟩
theorem JH(H:e4 S n g cc lc b6 lt)(ab:r5 S 901)(d:Array α)(aQ:d.size=n)(a v:Nat)(bz:a+1<n)(lb:1≤a)(aF:v≤900):
  bU ao 255 [eS g cc lc b6,.int .i64 a,.ptr (.obj 901) 0] (e9 S d v) fun r ai=>r= .int .i64 (Sort.medianAdjacent lt d a v).1∧ai=e9 S d (Sort.medianAdjacent lt d a v).2:=by
 have kC:=nJ H d v;have nk:∀v m,Pv.look (.loc m) (e9 S d v).b=none:=fun v=>(nJ H d v).obj.1;have KD:∀v m cs,cB (.loc m) cs (e9 S d v).b=(e9 S d v).b++[(.loc m,cs)]:=fun v m cs=>j8 (nk v m);have lG:aI.loc 0∉cX (e9 S d v):=j1 kC.obj 0;have hle:=H.le;have aU:=JG H ab d aQ (a-1) a (a+1) v (by omega) (by omega) (by omega) aF;unfold Sort.medianAdjacent;refine bU.mk mixed n7 acE aje (by simp) kC.obj fun aO cL=>?_;unfold PW;have ak:((a:Int)-1)=(a-1:Nat):=by omega
 have aE:((a:Int)+1)=(a+1:Nat):=by omega
 simp[eS,KD,lG,cI,nk];(with_reducible repeat' first|refine aj ?_|simp);simp only[iq H,H.slc,H.ssc,ia,ak,aE];refine U2 aU (nJ H d v) (sA _ _ _) (by simp[aB,aH,(uR H aQ).1];exact(uR H aQ).2) fun o=>?_;simp;refine WQ H ?_;simp[c1,Wb,aX,aY,aW]
theorem U3{m:Nat}(h:r5 S m)(l:List α):aI.obj m∉cX (S l):=fun hm=>by
 rcases Tt hm with J|J
 ·rw[(h l).1]at J;cases J
 ·rw[(h l).2]at J;cases J
theorem C8{d:Array α}{a b c v n:Nat}(bz:a<n)(ad:b<n)(au:c<n):(Sort.median lt d a b c v).1<n∧(Sort.median lt d a b c v).2≤v+3:=by have a8:=AJ (lt:=lt) (d:=d) (v:=v) bz ad;have bF:=AJ (lt:=lt) (d:=d) (v:=(Sort.order2 lt d a b v).2.2) a8.2.1 au;have b0:=AJ (lt:=lt) (d:=d) (v:=(Sort.order2 lt d (Sort.order2 lt d a b v).2.1 c (Sort.order2 lt d a b v).2.2).2.2) a8.1 bF.1;refine⟨b0.2.1,jT b0.2.2 ?_⟩;omega
def zP:Sort.Hint→Int
 | .unknown=>0
 | .increasing=>1
 | .decreasing=>2
theorem adU(H:e4 S n g cc lc b6 lt)(ab:r5 S 901)(d:Array α)(aQ:d.size=n)(a b:Nat)(ng:a<b)(ad:b≤n):
  bU ao 240 [eS g cc lc b6,.int .i64 a,.int .i64 b] (S d.toList) fun r ai=>r= .tuple [.int .i64 (Sort.choosePivot lt d a b).1,.int .i64 (zP (Sort.choosePivot lt d a b).2)]∧ai=S d.toList:=by
 have ag:=H.ok d.toList;have aw:d.toList.length=n:=by simpa using aQ
 have ay:∀l m,Pv.look (.loc m) (S l).b=none:=fun l=>(H.ok l).obj.1;have hu:∀l m cs,cB (.loc m) cs (S l).b=(S l).b++[(.loc m,cs)]:=fun l m cs=>j8 (ay l m);have ax:∀m,aI.loc m∉cX (S d.toList):=j1 ag.obj;have gf:∀l,Pv.look (.obj 901) (S l).b=none:=fun l=>(ab l).1;have kh:∀l,Pv.look (.obj 901) (S l).e=none:=fun l=>(ab l).2;have hle:=H.le;have lG:=U3 ab d.toList;obtain⟨R,bd⟩:∃R,R=Sort.choosePivot lt d a b:=⟨_,rfl⟩;rw[←bd];unfold Sort.choosePivot at bd;refine bU.mk mixed n7 acC ajc (by simp) ag.obj fun aO cL=>?_;unfold PU;have x6:∀l D cs,cB (.obj 901) cs ((S l).b++[(.loc 0,D)])=(S l).b++[(.loc 0,D),(.obj 901,cs)]:=fun l D cs=>by rw[Bi (gf l)];rfl
 obtain⟨q,bo⟩:∃q,q=(b-a)/4:=⟨_,rfl⟩;have c2:pQ.wrap (((b:Int)-a).tdiv 4)=(q:Nat):=by rw[show((b:Int)-a)=((b-a:Nat):Int) by omega,Int.tdiv_eq_ediv_of_nonneg (by omega),oe _ (by omega)];omega
 simp[eS,hu,x6,ax,lG,cI,ay,gf,kh,Pv.look,cB];have dx:∀(t:List (Nat×ah)) (o:List aI) (b5:List (aI×List ah)) (x:Nat) (h:Sort.Hint),Pv.get 6 t= .int .i64 x→Pv.get 7 t= .int .i64 (zP h)→R=(x,h)→(∀k cs,Pv.look k (S d.toList).b=some cs→Pv.look k b5=some cs)→
   cV Mh (S d.toList) (fun r ai=>r= .tuple [.int .i64 R.1,.int .i64 (zP R.2)]∧ai=S d.toList) .ret ⟨t,b5,(S d.toList).e,1,o⟩:=by
  rintro t o b5 x h af aM rfl fV;refine cV.at (S d.toList) (.inl rfl) ag (Same.refl _) fV (fun _ _ au=>au) ?_;simp[c1,Mh,aX,aY,aW,af,aM]
 have zE:∀(D:List ah) (v:Nat) k cs,Pv.look k (S d.toList).b=some cs→Pv.look k ((.loc 0,D)::(e9 S d v).b)=some cs:=fun D v k cs h=>by
  simp only[e9,Pv.look];split
  ·rename_i e;subst e;rw[ay]at h;cases h
  ·split
   ·rename_i e;subst e;rw[gf]at h;cases h
   ·exact h
 have St:∀{f:Nat} {args:List ah} {r:ah} {v:Nat},(bU ao f args (e9 S d 0) fun eF dO=>eF=r∧dO=e9 S d v)→aH (inObs (e9 S d 0)) args→∀{t:List (Nat×ah)} {D:List ah} {o:List aI} {cg:aZ Nat} {K:bs→Prop},(∀o,K ⟨eM cg r t,(.loc 0,D)::(e9 S d v).b,(S d.toList).e,1,o⟩)→
   c8 ao f args ⟨t,(S d.toList).b++[(.loc 0,D),(.obj 901,[.int .i64 0])],(S d.toList).e,1,o⟩ cg K:=by
  intro f args r v aL hp t D o cg K h;refine c8.ob aL (nJ H d 0) (fun k cs af=>?_) (fun _ _ af=>af) hp ?_
  ·simp only[e9,Pv.look]at af;rw[cI];split at af
   ·rename_i e;subst e;rw[gf];simp[Pv.look];simpa using af
   ·rw[af]
  rintro r ai ⟨rfl,rfl⟩;refine⟨sA _ _ _,?_⟩;have ak:cz (e9 S d 0).b ((S d.toList).b++[(.loc 0,D),(.obj 901,[.int .i64 0])])=[(.loc 0,D)]:=by
   rw[iA];have:cz (e9 S d 0).b (S d.toList).b=[]:=NI _ _ fun k x hm=>by
    have:=uW hm;simp only[e9,Pv.look];split
    ·rfl
    ·exact this
   rw[this];simp[cz,e9,Pv.look,ay]
  have aE:cz (e9 S d 0).e (S d.toList).e=[]:=gW _;simp only[ak,aE];exact h _
 have hp:=fun(v:Nat)=>(uR H aQ (v:=v));have f1:((a:Int)+q)=(a+q:Nat):=by omega
 have f2:((a:Int)+q*2)=(a+q*2:Nat):=by omega
 have f3:((a:Int)+q*3)=(a+q*3:Nat):=by omega
 dsimp only at bd;rw[←bo,Nat.mul_one]at bd;by_cases nQ:b-a<8
 ·have Fm:¬(8:Int)≤(b:Int)-a:=by omega
  (with_reducible repeat' first|refine aj ?_|simp[Fm,c2,hu,x6,ax,lG,cI,ay,gf,kh,Pv.look,cB]);rw[f2];refine dx _ _ _ (a+q*2) .increasing rfl rfl (by rw[bd,if_neg (by omega)];simp) (fun k cs h=>by rw[cI,h])
 ·have Fm:(8:Int)≤(b:Int)-a:=by omega
  by_cases apG:b-a<50
  ·have JO:¬(50:Int)≤(b:Int)-a:=by omega
   (with_reducible repeat' first|refine aj ?_|simp[Fm,JO,c2,hu,x6,ax,lG,cI,ay,gf,kh,Pv.look,cB]);simp only[iq H,H.slc,H.ssc,ia,f1,f2,f3];have aU:=JG H ab d aQ (a+q) (a+q*2) (a+q*3) 0 (by omega) (by omega) (by omega) (by omega);have bC:=C8 (lt:=lt) (d:=d) (a:=a+q) (b:=a+q*2) (c:=a+q*3) (v:=0) (n:=n) (by omega) (by omega) (by omega);rw[if_pos (by omega),if_neg (by omega)]at bd;generalize Sort.median lt d (a+q) (a+q*2) (a+q*3) 0=m at aU bC bd;obtain⟨x,v⟩:=m;refine St aU (by simp[aB,aH,(hp 0).1];exact(hp 0).2) fun o=>?_;have x7:((v:Int)==0)=decide (v=0):=by rw[qq];simp
   have CN:((v:Int)==12)=decide (v=12):=by rw[qq];simp;omega
   simp[Pv.look,e9];rcases(by omega:v=0∨v=12∨(v≠0∧v≠12))with bn|bn|bn
   ·have af:((v:Int)==0)=true:=by rw[x7];simp[bn]
    (with_reducible repeat' first|refine aj ?_|simp[af]);all_goals exact dx _ _ _ x .increasing rfl rfl (by rw[bd];simp[bn]) (zE _ v)
   ·have af:((v:Int)==0)=false:=by rw[x7];simp[bn]
    have x8:((v:Int)==12)=true:=by rw[CN];simp[bn]
    (with_reducible repeat' first|refine aj ?_|simp[af,x8]);all_goals exact dx _ _ _ x .decreasing rfl rfl (by rw[bd];simp[bn]) (zE _ v)
   ·have af:((v:Int)==0)=false:=by rw[x7];simp[bn.1]
    have x8:((v:Int)==12)=false:=by rw[CN];simp[bn.2]
    (with_reducible repeat' first|refine aj ?_|simp[af,x8]);all_goals exact dx _ _ _ x .unknown rfl rfl (by rw[bd];simp[bn]) (zE _ v)
  ·have JO:(50:Int)≤(b:Int)-a:=by omega
   (with_reducible repeat' first|refine aj ?_|simp[Fm,JO,c2,hu,x6,ax,lG,cI,ay,gf,kh,Pv.look,cB]);simp only[iq H,H.slc,H.ssc,ia,f1,f2,f3];rw[if_pos (by omega),if_pos (by omega)]at bd;have aU:=JH H ab d aQ (a+q) 0 (by omega) (by omega) (by omega);have CW:=C8 (lt:=lt) (d:=d) (a:=a+q-1) (b:=a+q) (c:=a+q+1) (v:=0) (n:=n) (by omega) (by omega) (by omega);change (Sort.medianAdjacent lt d (a+q) 0).1<n∧(Sort.medianAdjacent lt d (a+q) 0).2≤0+3 at CW;generalize Sort.medianAdjacent lt d (a+q) 0=m1 at aU CW bd;obtain⟨sp,v1⟩:=m1;simp only at aU CW bd;have bC:=JH H ab d aQ (a+q*2) v1 (by omega) (by omega) (by omega);have CX:=C8 (lt:=lt) (d:=d) (a:=a+q*2-1) (b:=a+q*2) (c:=a+q*2+1) (v:=v1) (n:=n) (by omega) (by omega) (by omega);change (Sort.medianAdjacent lt d (a+q*2) v1).1<n∧(Sort.medianAdjacent lt d (a+q*2) v1).2≤v1+3 at CX;generalize Sort.medianAdjacent lt d (a+q*2) v1=m2 at bC CX bd;obtain⟨yZ,v2⟩:=m2;simp only at bC CX bd;have cf:=JH H ab d aQ (a+q*3) v2 (by omega) (by omega) (by omega);have CY:=C8 (lt:=lt) (d:=d) (a:=a+q*3-1) (b:=a+q*3) (c:=a+q*3+1) (v:=v2) (n:=n) (by omega) (by omega) (by omega);change (Sort.medianAdjacent lt d (a+q*3) v2).1<n∧(Sort.medianAdjacent lt d (a+q*3) v2).2≤v2+3 at CY;generalize Sort.medianAdjacent lt d (a+q*3) v2=m3 at cf CY bd;obtain⟨sq,v3⟩:=m3;simp only at cf CY bd;have eZ:=JG H ab d aQ sp yZ sq v3 CW.1 CX.1 CY.1 (by omega);have TR:=C8 (lt:=lt) (d:=d) (v:=v3) CW.1 CX.1 CY.1;generalize Sort.median lt d sp yZ sq v3=m4 at eZ TR bd;obtain⟨x,v⟩:=m4;simp only at eZ TR bd;refine St aU (by simp[aB,aH,(hp 0).1];exact(hp 0).2) fun o=>?_;simp[Pv.look];simp only[iq H,H.slc,H.ssc,ia,f1,f2,f3];refine Di bC (nJ H d v1) (sA _ _ _) (by simp[aB,aH,(hp v1).1];exact(hp v1).2) fun o=>?_;simp[Pv.look];simp only[iq H,H.slc,H.ssc,ia,f1,f2,f3];refine Di cf (nJ H d v2) (sA _ _ _) (by simp[aB,aH,(hp v2).1];exact(hp v2).2) fun o=>?_;simp[Pv.look];simp only[iq H,H.slc,H.ssc,ia,f1,f2,f3];refine Di eZ (nJ H d v3) (sA _ _ _) (by simp[aB,aH,(hp v3).1];exact(hp v3).2) fun o=>?_;have x7:((v:Int)==0)=decide (v=0):=by rw[qq];simp
   have CN:((v:Int)==12)=decide (v=12):=by rw[qq];simp;omega
   simp[Pv.look,e9];rcases(by omega:v=0∨v=12∨(v≠0∧v≠12))with bn|bn|bn
   ·have af:((v:Int)==0)=true:=by rw[x7];simp[bn]
    (with_reducible repeat' first|refine aj ?_|simp[af]);all_goals exact dx _ _ _ x .increasing rfl rfl (by rw[bd];simp[bn]) (zE _ v)
   ·have af:((v:Int)==0)=false:=by rw[x7];simp[bn]
    have x8:((v:Int)==12)=true:=by rw[CN];simp[bn]
    (with_reducible repeat' first|refine aj ?_|simp[af,x8]);all_goals exact dx _ _ _ x .decreasing rfl rfl (by rw[bd];simp[bn]) (zE _ v)
   ·have af:((v:Int)==0)=false:=by rw[x7];simp[bn.1]
    have x8:((v:Int)==12)=false:=by rw[CN];simp[bn.2]
    (with_reducible repeat' first|refine aj ?_|simp[af,x8]);all_goals exact dx _ _ _ x .unknown rfl rfl (by rw[bd];simp[bn]) (zE _ v)
end Go.Proofs.YtahlgcidhnjlbaaGreat
namespace Go.Proofs.YtahlgcidhnjlbaaGreat
open Go Go.Pv
variable {α:Type} [Inhabited α] {S:List α→cK} {n g cc:Nat} {lc b6:List ah} {lt:α→α→Bool}
theorem ams:∀x:Nat,x<256→((([0,1,2,2,3,3,3,3,4,4,4,4,4,4,4,4,5,5,5,5,5,5,5,5,5,5,5,5,5,5,5,5,6,6,6,6,6,6,6,6,6,6,6,6,6,6,6,6,6,6,6,6,6,6,6,6,6,6,6,6,6,6,6,6,7,7,7,7,7,7,7,7,7,7,7,7,7,7,7,7,7,7,7,7,7,7,7,7,7,7,7,7,7,7,7,7,7,7,7,7,7,7,7,7,7,7,7,7,7,7,7,7,7,7,7,7,7,7,7,7,7,7,7,7,7,7,7,7,8,8,8,8,8,8,8,8,8,8,8,8,8,8,8,8,8,8,8,8,8,8,8,8,8,8,8,8,8,8,8,8,8,8,8,8,8,8,8,8,8,8,8,8,8,8,8,8,8,8,8,8,8,8,8,8,8,8,8,8,8,8,8,8,8,8,8,8,8,8,8,8,8,8,8,8,8,8,8,8,8,8,8,8,8,8,8,8,8,8,8,8,8,8,8,8,8,8,8,8,8,8,8,8,8,8,8,8,8,8,8,8,8,8,8,8,8,8,8,8,8,8,8,8,8,8,8,8]:List dE)[x]?).getD 0).toNat=Sort.bitsLen x:=by decide+kernel
theorem BY(x:Int):x.fdiv (2 ^ (min 32 hl.bits))=x/4294967296:=by rw[show(2:Int) ^ (min 32 hl.bits)=4294967296 from by decide,Int.fdiv_eq_ediv_of_nonneg _ (by omega)]
theorem BX(x:Int):x.fdiv (2 ^ (min 16 hl.bits))=x/65536:=by rw[show(2:Int) ^ (min 16 hl.bits)=65536 from by decide,Int.fdiv_eq_ediv_of_nonneg _ (by omega)]
theorem BZ(x:Int):x.fdiv (2 ^ (min 8 hl.bits))=x/256:=by rw[show(2:Int) ^ (min 8 hl.bits)=256 from by decide,Int.fdiv_eq_ediv_of_nonneg _ (by omega)]
theorem D0(x:Nat)(h:x<256):IntKind.u8.wrap (x:Int)=x:=by simp[ss,od,sr];omega
theorem Ir(x k:Nat)(h:2 ^ k≤x):Sort.bitsLen x=Sort.bitsLen (x/2 ^ k)+k:=by
 have af:x≠0:=by have:=Nat.two_pow_pos k;omega
 have bo:x/2 ^ k≠0:=by have:=Nat.div_pos h (Nat.two_pow_pos k);omega
 unfold Sort.bitsLen;rw[if_neg af,if_neg bo];have aw:=Nat.log2_lt af (k:=Nat.log2 (x/2 ^ k)+k+1);have J:Nat.log2 (x/2 ^ k)+k≤Nat.log2 x:=by
  rw[Nat.le_log2 af,Nat.pow_add];have:=Nat.log2_self_le bo;calc 2 ^ (x/2 ^ k).log2*2 ^ k≤(x/2 ^ k)*2 ^ k:=qv _ this
   _≤x:=Nat.div_mul_le_self x _
 have U:Nat.log2 x<Nat.log2 (x/2 ^ k)+k+1:=by rw[aw,show Nat.log2 (x/2 ^ k)+k+1=(Nat.log2 (x/2 ^ k)+1)+k by omega,Nat.pow_add];have:=Nat.lt_log2_self (n:=x/2 ^ k);exact(Nat.div_lt_iff_lt_mul (Nat.two_pow_pos k)).1 this
 omega
set_option maxRecDepth 20000 in
theorem amS(x:Nat)(af:x<1099511627776):bH ao 237 [.int .u64 x] (.int .i64 (Sort.bitsLen x)):=by
 refine bH.mk mixed n7 acz ai9 (by simp) (by simp[aB]) fun aO=>?_;unfold PR;have aK:=ams;generalize Sk:([0,1,2,2,3,3,3,3,4,4,4,4,4,4,4,4,5,5,5,5,5,5,5,5,5,5,5,5,5,5,5,5,6,6,6,6,6,6,6,6,6,6,6,6,6,6,6,6,6,6,6,6,6,6,6,6,6,6,6,6,6,6,6,6,7,7,7,7,7,7,7,7,7,7,7,7,7,7,7,7,7,7,7,7,7,7,7,7,7,7,7,7,7,7,7,7,7,7,7,7,7,7,7,7,7,7,7,7,7,7,7,7,7,7,7,7,7,7,7,7,7,7,7,7,7,7,7,7,8,8,8,8,8,8,8,8,8,8,8,8,8,8,8,8,8,8,8,8,8,8,8,8,8,8,8,8,8,8,8,8,8,8,8,8,8,8,8,8,8,8,8,8,8,8,8,8,8,8,8,8,8,8,8,8,8,8,8,8,8,8,8,8,8,8,8,8,8,8,8,8,8,8,8,8,8,8,8,8,8,8,8,8,8,8,8,8,8,8,8,8,8,8,8,8,8,8,8,8,8,8,8,8,8,8,8,8,8,8,8,8,8,8,8,8,8,8,8,8,8,8,8,8,8,8,8,8]:List dE)=tab at aK⊢;have zC:tab.length=256:=by rw[←Sk];rfl
 clear Sk;simp[zC];have ad:∀y:Nat,y<256→Sort.bitsLen y≤8:=by decide+kernel
 have afR:4294967296≤x→Sort.bitsLen x=Sort.bitsLen (x/4294967296)+32:=fun h=>Ir x 32 h;have Tc:∀y,65536≤y→Sort.bitsLen y=Sort.bitsLen (y/65536)+16:=fun y h=>Ir y 16 h;have Tf:∀y,256≤y→Sort.bitsLen y=Sort.bitsLen (y/256)+8:=fun y h=>Ir y 8 h;by_cases J:4294967296≤x
 ·have nP:(4294967296:Int)≤x:=by omega
  have g1:¬(65536:Int)≤(x:Int)/4294967296:=by omega
  have g3:¬(256:Int)≤(x:Int)/4294967296:=by omega
  (with_reducible repeat' first|refine aj ?_|simp[nP,g1,g3,BY,BX,BZ,zC]);have aM:x/4294967296<256:=by omega
  have lB:=ad _ aM;have eK:(x:Int)/4294967296=((x/4294967296:Nat):Int):=by omega
  rw[eK,D0 _ aM,Int.toNat_natCast];refine⟨by omega,?_⟩;have e:=aK _ aM;rw[e,oe _ (by omega)];refine⟨by unfold ta;omega,?_⟩;simp[bt,AT,aX,aY,aW];try((rw[afR J])<;>omega)
 ·have nP:¬(4294967296:Int)≤x:=by omega
  by_cases U:65536≤x
  ·have g2:(65536:Int)≤x:=by omega
   by_cases ar:256≤x/65536
   ·have g3:(256:Int)≤(x:Int)/65536:=by omega
    (with_reducible repeat' first|refine aj ?_|simp[nP,g2,g3,BY,BX,BZ,zC]);have aM:x/65536/256<256:=by omega
    have lB:=ad _ aM;have eK:(x:Int)/65536/256=((x/65536/256:Nat):Int):=by omega
    rw[eK,D0 _ aM,Int.toNat_natCast];refine⟨by omega,?_⟩;have e:=aK _ aM;rw[e,oe _ (by omega)];refine⟨by unfold ta;omega,?_⟩;simp[bt,AT,aX,aY,aW];try((rw[Tc x U,Tf _ ar])<;>omega)
   ·have g3:¬(256:Int)≤(x:Int)/65536:=by omega
    (with_reducible repeat' first|refine aj ?_|simp[nP,g2,g3,BY,BX,BZ,zC]);have aM:x/65536<256:=by omega
    have lB:=ad _ aM;have eK:(x:Int)/65536=((x/65536:Nat):Int):=by omega
    rw[eK,D0 _ aM,Int.toNat_natCast];refine⟨by omega,?_⟩;have e:=aK _ aM;rw[e,oe _ (by omega)];refine⟨by unfold ta;omega,?_⟩;simp[bt,AT,aX,aY,aW];try((rw[Tc x U])<;>omega)
  ·have g2:¬(65536:Int)≤x:=by omega
   by_cases ar:256≤x
   ·have g3:(256:Int)≤x:=by omega
    (with_reducible repeat' first|refine aj ?_|simp[nP,g2,g3,BY,BX,BZ,zC]);have aM:x/256<256:=by omega
    have lB:=ad _ aM;have eK:(x:Int)/256=((x/256:Nat):Int):=by omega
    rw[eK,D0 _ aM,Int.toNat_natCast];refine⟨by omega,?_⟩;have e:=aK _ aM;rw[e,oe _ (by omega)];refine⟨by unfold ta;omega,?_⟩;simp[bt,AT,aX,aY,aW];try((rw[Tf x ar])<;>omega)
   ·have g3:¬(256:Int)≤x:=by omega
    (with_reducible repeat' first|refine aj ?_|simp[nP,g2,g3,BY,BX,BZ,zC]);have aM:x<256:=by omega
    have lB:=ad _ aM;have eK:(x:Int)=((x:Nat):Int):=by omega
    rw[eK,D0 _ aM,Int.toNat_natCast];refine⟨by omega,?_⟩;have e:=aK _ aM;rw[e,oe _ (by omega)];refine⟨by unfold ta;omega,?_⟩;simp[bt,AT,aX,aY,aW];try((rw[show Sort.bitsLen x=Sort.bitsLen x from rfl])<;>omega)
theorem amR(x:Nat)(af:x<1099511627776):bH ao 213 [.int .u64 x] (.int .i64 (Sort.bitsLen x)):=by refine bH.mk mixed n7 acy ai8 (by simp) (by simp[aB]) fun aO=>?_;unfold PQ;have Uk:=amS x af;exact bY
theorem Zl(x:Nat)(af:x<1099511627776):Sort.bitsLen x≤40:=by
 unfold Sort.bitsLen;split
 ·omega
 ·rename_i h;have:=(Nat.log2_lt h (k:=40)).2 (by omega);omega
theorem amy{x:Nat}(h:x≠0):2 ^ Sort.bitsLen x≤2*x∧x<2 ^ Sort.bitsLen x:=by unfold Sort.bitsLen;rw[if_neg h];have J:=Nat.log2_self_le h;have U:=Nat.lt_log2_self (n:=x);rw[Nat.pow_succ];rw[Nat.pow_succ]at U;omega
theorem anA(x:Nat)(af:x<1099511627776):bH ao 253 [.int .i64 x] (.int .u64 (1<<<Sort.bitsLen x:Nat)):=by
 have ad:=Zl x af;have ak:hl.wrap ((x:Nat):Int)=x:=by simp[ss,od,sr];omega
 have aE:hl.wrap ((Sort.bitsLen x:Nat):Int)=Sort.bitsLen x:=by simp[ss,od,sr];omega
 refine bH.mk mixed n7 acG ajg (by simp) (by simp[aB]) fun aO=>?_;unfold PY;simp[ak];refine c8.val (by simp) (amR x af) ?_;simp[ak,aE];simp[bt,Wd,aX,aY,aW];have hm:min (Sort.bitsLen x) hl.bits=Sort.bitsLen x:=by simp[od];omega
 have bG:2 ^ Sort.bitsLen x≤2 ^ 40:=Nat.pow_le_pow_right (by omega) ad;rw[hm];have au:((2:Int) ^ Sort.bitsLen x)=((2 ^ Sort.bitsLen x:Nat):Int):=by simp
 have sQ:((1<<<Sort.bitsLen x:Nat):Int)=((2 ^ Sort.bitsLen x:Nat):Int):=by rw[Nat.one_shiftLeft]
 have xM:hl.wrap ((2:Int) ^ Sort.bitsLen x)=((1<<<Sort.bitsLen x:Nat):Int):=by rw[au,sQ];generalize 2 ^ Sort.bitsLen x=y at bG;simp[ss,od,sr];omega
 simpa using xM
def mV(r:Nat):cK:=⟨[(.obj 902,[.int .u64 r])],[]⟩
theorem H7(r:Nat):eh (mV r):=by unfold mV;exact(eh.of ⟨by intro m;simp[Pv.look],by intro m;simp[Pv.look]⟩ (by simp[aH,aB,inObs,Pv.look]) (by simp[aH,aB,inObs,Pv.look]))
theorem NZ(a b:Nat):Same (mV a) (mV b):=⟨fun k=>by simp only[mV,Pv.look];split<;>rfl,fun _=>rfl⟩
theorem Iu(a b:Nat)(bz:a<18446744073709551616)(ad:b<18446744073709551616):hl.wrap ((qp hl.bits (a:Int) ^^^ qp hl.bits (b:Int)).toNat:Int)=(a ^^^ b:Nat):=by
 have ar:a ^^^ b<18446744073709551616:=Nat.xor_lt_two_pow (n:=64) bz ad;have e:(qp hl.bits (a:Int) ^^^ qp hl.bits (b:Int)).toNat=a ^^^ b:=by
  rw[BitVec.toNat_xor,BitVec.toNat_ofInt,BitVec.toNat_ofInt];have ak:((a:Int)%(2 ^ hl.bits:Nat)).toNat=a:=by simp[od];omega
  have aE:((b:Int)%(2 ^ hl.bits:Nat)).toNat=b:=by simp[od];omega
  rw[ak,aE]
 rw[e];generalize a ^^^ b=c at ar;simp[ss,od,sr];omega
theorem alM(r:Nat):hl.wrap ((r:Int)*2 ^ (min 13 hl.bits))=(r*8192%18446744073709551616:Nat):=by simp[ss,od,sr]
theorem alN(r:Nat):hl.wrap ((r:Int)*2 ^ (min 17 hl.bits))=(r*131072%18446744073709551616:Nat):=by simp[ss,od,sr]
theorem alO(r:Nat):((r:Int)).fdiv (2 ^ (min 7 hl.bits))=(r/128:Nat):=by rw[show(2:Int) ^ (min 7 hl.bits)=128 from by decide,Int.fdiv_eq_ediv_of_nonneg _ (by omega)];omega
theorem adO(r:Nat)(aJ:r<18446744073709551616):bU ao 254 [.ptr (.obj 902) 0] (mV r) fun eF ai=>eF= .int .u64 (Sort.xorNextN r)∧ai=mV (Sort.xorNextN r):=by
 have ag:=H7 r;unfold mV at ag⊢;refine bU.mk mixed n7 acS ajs (by simp) ag.obj fun aO cL=>?_;unfold Qa;obtain⟨m1,SQ⟩:∃m,m=r*8192%18446744073709551616:=⟨_,rfl⟩;have s1:=alM r;rw[←SQ]at s1;have jv:m1<18446744073709551616:=by omega
 obtain⟨bD,lb⟩:∃m,m=r ^^^ m1:=⟨_,rfl⟩;have t1:=Iu r m1 aJ jv;rw[←lb]at t1;have Ul:bD<18446744073709551616:=by rw[lb];exact Nat.xor_lt_two_pow (n:=64) aJ jv
 obtain⟨m2,FG⟩:∃m,m=bD/128:=⟨_,rfl⟩;have s2:=alO bD;rw[←FG]at s2;have gT:m2<18446744073709551616:=by omega
 obtain⟨a2,p1⟩:∃m,m=bD ^^^ m2:=⟨_,rfl⟩;have t2:=Iu bD m2 Ul gT;rw[←p1]at t2;have ag6:a2<18446744073709551616:=by rw[p1];exact Nat.xor_lt_two_pow (n:=64) Ul gT
 obtain⟨m3,SR⟩:∃m,m=a2*131072%18446744073709551616:=⟨_,rfl⟩;have s3:=alN a2;rw[←SR]at s3;have ag5:m3<18446744073709551616:=by omega
 obtain⟨a3,Fq⟩:∃m,m=a2 ^^^ m3:=⟨_,rfl⟩;have t3:=Iu a2 m3 ag6 ag5;rw[←Fq]at t3;have bd:Sort.xorNextN r=a3:=by unfold Sort.xorNextN;simp only[←SQ,←lb,←FG,←p1,←SR,←Fq]
 rw[bd];simp[-BitVec.toNat_xor,-BitVec.ofInt_natCast,s1,t1,s2,t2,s3,t3];have ba:=H7 a3;have b4:=NZ r a3;unfold mV at ba b4;refine cV.at _ (.inl rfl) ba b4 aR aR ?_;simp[c1,Wg,aX,aY,aW]
end Go.Proofs.YtahlgcidhnjlbaaGreat
namespace Go.Proofs.YtahlgcidhnjlbaaGreat
open Go Go.Pv
variable {α:Type} [Inhabited α] {S:List α→cK} {n g cc:Nat} {lc b6:List ah} {lt:α→α→Bool}
theorem Zc(a b:Nat)(bz:a<18446744073709551616)(ad:b<18446744073709551616):hl.wrap ((qp hl.bits (a:Int)&&& qp hl.bits (b:Int)).toNat:Int)=(a&&& b:Nat):=by
 have ar:a&&& b<18446744073709551616:=Nat.lt_of_le_of_lt Nat.and_le_left bz;have e:(qp hl.bits (a:Int)&&& qp hl.bits (b:Int)).toNat=a&&& b:=by
  rw[BitVec.toNat_and,BitVec.toNat_ofInt,BitVec.toNat_ofInt];have ak:((a:Int)%(2 ^ hl.bits:Nat)).toNat=a:=by simp[od];omega
  have aE:((b:Int)%(2 ^ hl.bits:Nat)).toNat=b:=by simp[od];omega
  rw[ak,aE]
 rw[e];generalize a&&& b=c at ar;simp[ss,od,sr];omega
def za(a len M i0:Nat)(d:Array α):Nat→UInt64×Array α
 |0=>(UInt64.ofNat len,d)
 |k+1=>Sort.breakStep a len M (za a len M i0 d k) (i0+k)
theorem Zp(d:Array α)(a b:Nat)(h:8≤b-a):Sort.breakPatterns d a b=(za a (b-a) (1<<<Sort.bitsLen (b-a)) (a+(b-a)/4*2-1) d 3).2:=by unfold Sort.breakPatterns;simp only[if_pos h,za];rfl
theorem Yj{ob O:List aI}{ai:cK}(fi:eh ai)(di:∀k,inObs ai k→k∈O)(uG:∀k∈ob,k∈O){st:bs}{dO:List (Nat×ah)}{L:List (aI×List ah)}{n:Nat}(aK:∀x∈dO,Pv.get x.1 st.t=x.2∧aB (me ai n) x.2)(jE:∀x∈L,Pv.look x.1 st.b=some x.2∧me ai n x.1∧aH (me ai n) x.2)
  (ad:∀k cs,Pv.look k ai.b=some cs→Pv.look k st.b=some cs) (he:∀k o,Pv.look k ai.e=some o→Pv.look k st.e=some o):iG ob st ⟨dO,L++ai.b,ai.e,n,O⟩:=by
 have l6:∀{k},me ai n k→¬fresh n O k:=by
  rintro k (h|⟨m,hm,rfl⟩)
  ·exact fun aL=>aL.2 (di k h)
  ·intro aL;have:=aL.1;simp at this;omega
 refine⟨fun x af=>⟨(aK x af).1,wx (fun k ab=>l6 ab) _ (aK x af).2⟩,fun k cs ab=>?_,fun k o ax=>?_,uG⟩
 ·simp only at ab;rw[cI]at ab;cases aw:Pv.look k L with
  |some x=>rw[aw]at ab;simp only[dL]at ab;subst ab;obtain⟨J,U,ar⟩:=jE _ (th aw);exact⟨J,l6 U,jZ (fun k ab=>l6 ab) _ ar⟩
  |none=>rw[aw]at ab;exact⟨ad k cs ab,l6 (.inl (.inl (by simp[ab]))),jZ (fun k ab=>l6 (.inl ab)) _ (fi.kb k cs ab)⟩
 ·exact⟨he k o ax,l6 (.inl (.inr (by simp at ax;simp[ax]))),fun xs af=>jZ (fun k ab=>l6 (.inl ab)) _ (fi.ke k o ax xs af)⟩
theorem NG{aog β:Type}(s:List (aI×β)):∀(l:List (aI×aog)),(∀k x,(k,x)∈l→Pv.look k s=none)→cz s l=l
 |[],_=>rfl
 |(k,x)::r,h=>by have J:=h k x (by simp);simp only[cz,J];rw[NG s r fun k x af=>h k x (by simp[af])]
def jn(S:List α→cK)(d:Array α)(r:Nat):cK:=⟨(.obj 902,[.int .u64 r])::(S d.toList).b,(S d.toList).e⟩
theorem Er(H:e4 S n g cc lc b6 lt)(d:Array α)(v:Nat):eh (jn S d v):=by
 have h:=H.ok d.toList;have jr:∀k,inObs (S d.toList) k→inObs (jn S d v) k:=fun k ab=>by
  rcases ab with ab|ab
  ·refine .inl ?_;simp only[jn,Pv.look];split
   ·rfl
   ·exact ab
  ·exact .inr ab
 refine⟨⟨fun m=>?_,h.obj.2⟩,fun k cs ab=>?_,fun k o ax xs af=>jZ jr _ (h.ke k o ax xs af)⟩
 ·simp[jn,Pv.look,h.obj.1 m]
 ·simp only[jn,Pv.look]at ab;split at ab
  ·cases ab;simp[aH,aB]
  ·exact jZ jr _ (h.kb k cs ab)
theorem Yi{ob O:List aI}{d2:Array α}{y:Nat}{D:List ah}(fi:eh (jn S d2 y))(di:∀k,inObs (jn S d2 y) k→k∈O)(uG:∀k∈ob,k∈O){st:bs}{dO:List (Nat×ah)}(aK:∀x∈dO,Pv.get x.1 st.t=x.2∧aB (me (jn S d2 y) 1) x.2)(bn:Pv.look (.loc 0) st.b=some D)(um:aH (me (jn S d2 y) 1) D)
  (ad:∀k cs,Pv.look k (jn S d2 y).b=some cs→Pv.look k st.b=some cs) (he:∀k o,Pv.look k (jn S d2 y).e=some o→Pv.look k st.e=some o):iG ob st ⟨dO,(.loc 0,D)::(.obj 902,[.int .u64 y])::(S d2.toList).b,(S d2.toList).e,1,O⟩:=
 Yj (L:=[(.loc 0,D)]) fi di uG aK (fun x af=>by simp only[List.mem_singleton]at af;subst af;exact⟨bn,U1 _ _ _ (by omega),um⟩) ad he
theorem adT(H:e4 S n g cc lc b6 lt)(ab:r5 S 902)(d:Array α)(aQ:d.size=n)(a b:Nat)(ng:a≤b)(ad:b≤n)(nQ:8≤b-a):
  bU ao 239 [eS g cc lc b6,.int .i64 a,.int .i64 b] (S d.toList) fun r ai=>r= .tuple []∧∃cg,ai=S cg.toList∧cg=Sort.breakPatterns d a b∧cg.size=n:=by
 have ag:=H.ok d.toList;have aw:d.toList.length=n:=by simpa using aQ
 have ay:∀l m,Pv.look (.loc m) (S l).b=none:=fun l=>(H.ok l).obj.1;have hu:∀l m cs,cB (.loc m) cs (S l).b=(S l).b++[(.loc m,cs)]:=fun l m cs=>j8 (ay l m);have ax:∀m,aI.loc m∉cX (S d.toList):=j1 ag.obj;have gf:∀l,Pv.look (.obj 902) (S l).b=none:=fun l=>(ab l).1;have kh:∀l,Pv.look (.obj 902) (S l).e=none:=fun l=>(ab l).2;have hle:=H.le;have lG:=U3 ab d.toList;rw[Zp d a b nQ];obtain⟨len,hlen⟩:∃len,len=b-a:=⟨_,rfl⟩;rw[←hlen];obtain⟨M,fB⟩:∃M,M=1<<<Sort.bitsLen len:=⟨_,rfl⟩;rw[←fB];have apH:len<M∧M≤2*len:=by have:=amy (x:=len) (by omega);rw[fB,Nat.one_shiftLeft];omega
 obtain⟨q,bo⟩:∃q,q=len/4:=⟨_,rfl⟩;rw[←bo];have x6:∀l D cs,cB (.obj 902) cs ((S l).b++[(.loc 0,D)])=(S l).b++[(.loc 0,D),(.obj 902,cs)]:=fun l D cs=>by rw[Bi (gf l)];rfl
 have Tl:∀l D x y,cB (.obj 902) y ((S l).b++[(.loc 0,D),(.obj 902,x)])=(S l).b++[(.loc 0,D),(.obj 902,y)]:=fun l D x y=>by rw[Bi (gf l)];simp[cB]
 have el:((b:Int)-a)=(len:Nat):=by omega
 have c2:pQ.wrap ((len:Int).tdiv 4)=(q:Nat):=by rw[Int.tdiv_eq_ediv_of_nonneg (by omega),oe _ (by omega)];omega
 have ew:hl.wrap (len:Int)=len:=by simp[ss,od,sr];omega
 refine bU.mk mixed n7 acB ajb (by simp) ag.obj fun aO cL=>?_;unfold PT;have oB:=anA len (by omega);rw[←fB]at oB;simp[eS,hu,x6,Tl,ax,lG,cI,ay,gf,kh,Pv.look,cB,el,ew];have ha:pQ.wrap ((len:Int)/4)=(q:Nat):=by rw[oe _ (by omega)];omega
 ((with_reducible repeat' first|refine aj ?_|refine aC oB ?_|refine aD oB ?_|simp[el,ew,c2,ha,hu,x6,Tl,ax,lG,cI,ay,gf,kh,Pv.look,cB]|((first|apply bP|apply bR|apply bQ)<;>intro h<;>try simp at h))<;>(try exact cm));obtain⟨i0,Cp⟩:∃i0,i0=a+q*2-1:=⟨_,rfl⟩;rw[←Cp];have aao:((a:Int)+q*2-1)=(i0:Nat):=by omega
 rw[aao];have di:∀(cq:Array α) r k,inObs (jn S cq r) k→cq.size=n→k∈aI.obj 902::cX (S d.toList):=fun cq r k h eW=>by
  have e6:=H.same d.toList cq.toList aw (by simpa using eW);rcases h with h|h
  ·simp only[jn,Pv.look]at h;split at h
   ·rename_i e;subst e;simp
   ·exact pS _ (tn (.inl (by rw[e6.b];exact h)))
  ·exact pS _ (tn (.inr (by rw[e6.e];exact h)))
 have xU:∀(cq:Array α) r,cq.size=n→aH (me (jn S cq r) 1) [.func g lc,.func cc b6]:=fun cq r eW=>by
  have J:=H.kdata (lk:=cq.toList) (by simpa using eW);have U:aH (inObs (S cq.toList)) [.func g lc,.func cc b6]:=by simpa[eS,aB,aH]using J
  refine jZ (fun k ab=>.inl ?_) _ U;rcases ab with ab|ab
  ·refine .inl ?_;simp only[jn,Pv.look];split
   ·rfl
   ·exact ab
  ·exact .inr ab
 have apV:∀(cq:Array α) r D k cs,Pv.look k (jn S cq r).b=some cs→Pv.look k ((.loc 0,D)::(jn S cq r).b)=some cs:=fun cq r D k cs h=>by
  cases k with
  |loc m=>rw[(Er H cq r).obj.1 m]at h;cases h
  |obj m=>simpa[Pv.look]using h
 refine oz (fun(x:Nat×UInt64×Array α)=>⟨[(1,.int .i64 a),(3,.ptr (.loc 0) 0),(6,.int .i64 len),(7,.ptr (.obj 902) 0),(8,.int .u64 M),(9,.int .i64 ((i0+x.1:Nat):Int))],[(.loc 0,[.func g lc,.func cc b6])]++(jn S x.2.2 x.2.1.toNat).b,(jn S x.2.2 x.2.1.toNat).e,1,aI.obj 902::cX (S d.toList)⟩) (fun x=>3-x.1)
  (fun x=>x.1≤3∧x.2.2.size=n∧za a len M i0 d x.1=x.2) (0,UInt64.ofNat len,d) ?_ ⟨by simp,aQ,rfl⟩ ?_
 ·refine Yj (Er H d _) (fun k h=>di d _ k h aQ) (fun k h=>pS _ h) (by simp[aB,inObs,jn,Pv.look,me]) ?_ ?_ aR
  ·intro x af;simp only[List.mem_singleton]at af;subst af;exact⟨by simp[cI,ay,Pv.look],U1 _ _ _ (by omega),xU d _ aQ⟩
  ·intro k cs h;simp only[jn,Pv.look]at h;rw[cI];split at h
   ·rename_i e;subst e;rw[gf];have:(UInt64.ofNat len).toNat=len:=by simp;omega
    rw[this]at h;simpa[Pv.look]using h
   ·rw[h]
 rintro⟨k,r,cq⟩ ⟨aU,bC,cf⟩ _;simp only at aU bC cf;have aJ:=r.toNat_lt;obtain⟨x,af⟩:∃x,x=r.toNat:=⟨_,rfl⟩;rw[←af]at aJ⊢;have zV:Sort.xorNextN x<18446744073709551616:=Sort.xorNextN_lt x (by omega);have Kl:(Sort.xorNext r).toNat=Sort.xorNextN x:=by rw[Sort.xorNext_toNat,←af]
 obtain⟨y,aM⟩:∃y,y=Sort.xorNextN x:=⟨_,rfl⟩;have aai:hl.wrap ((M:Int)-1)=(M-1:Nat):=by simp[ss,od,sr];omega
 have xK:=Zc y (M-1) (by omega) (by omega);obtain⟨z,br⟩:∃z,z=y&&& (M-1):=⟨_,rfl⟩;rw[←br]at xK;have ap4:z≤M-1:=by rw[br];exact Nat.and_le_right
 have nO:pQ.wrap (z:Int)=z:=by rw[oe _ (by omega)]
 by_cases aff:k=3
 ·subst aff;simp[jn,Pv.look,ha];((with_reducible repeat' first|refine aj ?_|simp[ha]|((first|apply bP|apply bR|apply bQ)<;>intro h<;>try simp at h))<;>(try exact cm));refine cV.at (S cq.toList) (.inr rfl) (H.ok _) (H.same _ _ aw (by simpa using bC)) (fun k cs h=>?_) (fun _ _ h=>h) ?_
  ·simp only[Pv.look];split
   ·rename_i e;subst e;rw[ay]at h;cases h
   ·split
    ·rename_i e;subst e;rw[gf]at h;cases h
    ·exact h
  ·simp[c1,Wa,aX,aY,aW];exact⟨cq,rfl,by rw[cf],bC⟩
 ·have qS:((i0+k:Nat):Int)≤(a:Int)+q*2+1:=by omega
  have SM:((i0:Int)+k)≤(a:Int)+q*2+1:=by omega
  simp[jn,Pv.look,ha,SM,qS];(with_reducible repeat' first|refine aj ?_|simp[ha,SM,qS,Pv.look]);have ap0:=H.same d.toList cq.toList aw (by simpa using bC);have af8:∀(fI:Array α) (v:List ah),cz [(aI.obj 902,v)] (S fI.toList).b=(S fI.toList).b:=fun fI v=>NG _ _ fun k x hm=>by
   have:=uW hm;simp only[Pv.look];split
   ·rename_i e;subst e;rw[gf]at this;cases this
   ·rfl
  refine c8.ob (adO x (by omega)) (H7 x) (fun k cs h=>?_) (fun k o h=>by simp[mV,Pv.look]at h) (by simp[aB,aH,inObs,mV,Pv.look]) ?_
  ·simp only[mV,Pv.look]at h⊢;split at h
   ·rename_i e;subst e;simpa using h
   ·cases h
  rintro eF ai ⟨rfl,rfl⟩;refine⟨NZ _ _,?_⟩;rw[←aM];have abi:cz (mV x).b ((aI.loc 0,[ah.func g lc,ah.func cc b6])::(aI.obj 902,[ah.int .u64 x])::(S cq.toList).b)=(aI.loc 0,[ah.func g lc,ah.func cc b6])::(S cq.toList).b:=by simp[mV,cz,Pv.look,af8]
  have abj:cz (mV x).e (S cq.toList).e=(S cq.toList).e:=NG _ _ fun _ _ _=>rfl;rw[abi,abj,show(mV y).b=[(aI.obj 902,[ah.int .u64 y])]from rfl,show(mV y).e=[]from rfl,List.append_nil];have apF:∀(v:List ah),Pv.look (.obj 902) ((aI.loc 0,[ah.func g lc,ah.func cc b6])::((S cq.toList).b++[(aI.obj 902,v)]))=some v:=fun v=>by simp[Pv.look,cI,gf]
  have Oy:∀o',o'<len→o'=(if z≥len then z-len else z)→Sort.breakStep a len M (r,cq) (i0+k)=(Sort.xorNext r,Sort.swp cq (i0+k) (a+o')):=fun o' J U=>by unfold Sort.breakStep;simp only[Kl,←aM,←br,←U]
  have Ra:((i0:Int)+k)=((i0+k:Nat):Int):=by omega
  simp only[eM,aI.obj.injEq];simp[-BitVec.toNat_and,-BitVec.ofInt_natCast,aai,xK,nO,Pv.look,H.ssc];by_cases ap5:len≤z
  ·have KH:(len:Int)≤z:=by omega
   have Jb:((a:Int)+(z-len))=((a+(z-len):Nat):Int):=by omega
   ((with_reducible repeat' first|refine aj ?_|simp[KH,Pv.look,H.ssc]|((first|apply bP|apply bR|apply bQ)<;>intro h<;>try simp at h))<;>(try exact cm));rw[Jb,Ra];refine c8.ob (H.swap cq.toList (by simpa using bC) (by omega) (i0+k) (a+(z-len)) (by omega) (by omega)) (H.ok _) (fun bS cs h=>?_) (fun _ _ h=>h) (by simp[aB,aH,H.ksc cq.toList (by simpa using bC)]) ?_
   ·simp only[Pv.look];split
    ·rename_i e;subst e;rw[ay]at h;cases h
    ·rw[cI,h]
   rintro eF ai ⟨rfl,rfl⟩;refine⟨H.same _ _ (by simpa using bC) (by simpa using bC),?_⟩;rw[Gs cq (by omega) (by omega)];obtain⟨d2,eJ⟩:∃d2,d2=Sort.swp cq (i0+k) (a+(z-len)):=⟨_,rfl⟩;have s2:d2.size=n:=by rw[eJ,gN,bC]
   rw[←eJ];have Jf:∀v:List ah,cz (S cq.toList).b ((aI.loc 0,[ah.func g lc,ah.func cc b6])::((S cq.toList).b++[(aI.obj 902,v)]))=[(aI.loc 0,[ah.func g lc,ah.func cc b6]),(aI.obj 902,v)]:=fun v=>by simp only[cz,ay];rw[iA,gW];simp[cz,gf]
   dsimp only;rw[Jf,gW];simp;(with_reducible repeat' first|refine aj ?_|simp);have I7:((i0:Int)+k+1)=((i0+(k+1):Nat):Int):=by omega
   rw[I7];refine bK.whl (k+1,Sort.xorNext r,d2) (by simp;omega) ⟨by simp;omega,s2,by simp only[za,cf];rw[Oy (z-len) (by omega) (by rw[if_pos (by omega)]),eJ]⟩ ?_;rw[Kl,←aM];refine Yi (Er H d2 y) (fun k h=>di d2 _ k h s2) (fun k h=>pS _ h) (by simp[aB,inObs,jn,Pv.look,me]) (by simp[Pv.look]) (xU d2 _ s2) ?_ (fun _ _ h=>h);intro k cs h;simp only[jn,Pv.look]at h⊢;split at h
   ·rename_i e;subst e;simpa using h
   ·rename_i e;split
    ·rename_i aE;subst aE;rw[ay]at h;cases h
    ·exact h
  ·have KH:¬(len:Int)≤z:=by omega
   have Jb:((a:Int)+z)=((a+z:Nat):Int):=by omega
   ((with_reducible repeat' first|refine aj ?_|simp[KH,Pv.look,H.ssc]|((first|apply bP|apply bR|apply bQ)<;>intro h<;>try simp at h))<;>(try exact cm));rw[Jb,Ra];refine c8.ob (H.swap cq.toList (by simpa using bC) (by omega) (i0+k) (a+z) (by omega) (by omega)) (H.ok _) (fun bS cs h=>?_) (fun _ _ h=>h) (by simp[aB,aH,H.ksc cq.toList (by simpa using bC)]) ?_
   ·simp only[Pv.look];split
    ·rename_i e;subst e;rw[ay]at h;cases h
    ·rw[cI,h]
   rintro eF ai ⟨rfl,rfl⟩;refine⟨H.same _ _ (by simpa using bC) (by simpa using bC),?_⟩;rw[Gs cq (by omega) (by omega)];obtain⟨d2,eJ⟩:∃d2,d2=Sort.swp cq (i0+k) (a+z):=⟨_,rfl⟩;have s2:d2.size=n:=by rw[eJ,gN,bC]
   rw[←eJ];have Jf:∀v:List ah,cz (S cq.toList).b ((aI.loc 0,[ah.func g lc,ah.func cc b6])::((S cq.toList).b++[(aI.obj 902,v)]))=[(aI.loc 0,[ah.func g lc,ah.func cc b6]),(aI.obj 902,v)]:=fun v=>by simp only[cz,ay];rw[iA,gW];simp[cz,gf]
   dsimp only;rw[Jf,gW];simp;(with_reducible repeat' first|refine aj ?_|simp);have I7:((i0:Int)+k+1)=((i0+(k+1):Nat):Int):=by omega
   rw[I7];refine bK.whl (k+1,Sort.xorNext r,d2) (by simp;omega) ⟨by simp;omega,s2,by simp only[za,cf];rw[Oy z (by omega) (by rw[if_neg (by omega)]),eJ]⟩ ?_;rw[Kl,←aM];refine Yi (Er H d2 y) (fun k h=>di d2 _ k h s2) (fun k h=>pS _ h) (by simp[aB,inObs,jn,Pv.look,me]) (by simp[Pv.look]) (xU d2 _ s2) ?_ (fun _ _ h=>h);intro k cs h;simp only[jn,Pv.look]at h⊢;split at h
   ·rename_i e;subst e;simpa using h
   ·rename_i e;split
    ·rename_i aE;subst aE;rw[ay]at h;cases h
    ·exact h
end Go.Proofs.YtahlgcidhnjlbaaGreat
namespace Go.Proofs.YtahlgcidhnjlbaaGreat
open Go Go.Pv
variable {α:Type} [Inhabited α] {S:List α→cK} {n g cc:Nat} {lc b6:List ah} {lt:α→α→Bool}
theorem e4.fnD{d d2:Array α}(H:e4 S n g cc lc b6 lt)(J:d.size=n){f:Nat}{args:List ah}{r:ah}(aL:bU ao f args (S d.toList) fun eF ai=>eF=r∧∃cg,ai=S cg.toList∧cg=d2∧cg.size=n)(ab:aH (inObs (S d.toList)) args){t:List (Nat×ah)}{D:List ah}{o:List aI}{cg:aZ Nat}{K:bs→Prop}
  (h:d2.size=n→∀o,K ⟨eM cg r t,(.loc 0,D)::(S d2.toList).b,(S d2.toList).e,1,o⟩):c8 ao f args ⟨t,(.loc 0,D)::(S d.toList).b,(S d.toList).e,1,o⟩ cg K:=
 H.call (by simpa using J) (R:=fun eF a1=>eF=r∧a1=d2.toList∧d2.size=n) (aL.mono fun r ai ⟨ak,cg,aE,bj,c2⟩=>⟨cg.toList,aE,ak,by rw[bj],by rw[←bj];exact c2⟩) (fun r a1 ⟨_,e,h⟩=>by rw[e];simpa using h) ab (by rintro eF a1 ⟨rfl,rfl,U⟩;exact h U _)
attribute [local simp] pz
def Bt(S:List α→cK)(n g cc:Nat)(lc b6:List ah)(lt:α→α→Bool)(m:Nat):Prop:=
 ∀k,k<m→∀(d:Array α),d.size=n→∀a b wB:Nat,b-a≤k→a≤b→b≤n→wB≤1000→Sort.Below lt a b d→
  bU ao 214 [eS g cc lc b6,.int .i64 a,.int .i64 b,.int .i64 wB] (S d.toList) fun r ai=>r= .tuple []∧∃cg,ai=S cg.toList∧Sort.PermIn a b d cg∧Sort.SortedIn lt a b cg
structure xe (S:List α→cK) (n g cc:Nat) (lc b6:List ah) (lt:α→α→Bool) (bp b5 lim:Nat) (d:Array α) (Q:Exit→bs→Prop):Prop where
 k:∀e,e= .normal∨e= .exit 1→∀(a2 b8:Nat) (w v:Bool) (L:Array α) (t:List (Nat×ah)) (o:List aI),L.size=n→a2≤b8→b8≤n→b8-a2<b5-bp→Sort.Below lt a2 b8 L→(∀R,Sort.PermIn a2 b8 L R→Sort.SortedIn lt a2 b8 R→Sort.PermIn bp b5 d R∧Sort.SortedIn lt bp b5 R)→
  Pv.get 1 t= .int .i64 a2→Pv.get 2 t= .int .i64 b8→Pv.get 3 t= .int .i64 lim→Pv.get 4 t= .ptr (.loc 0) 0→Pv.get 8 t= .bool w→Pv.get 9 t= .bool v→Q e ⟨t,(.loc 0,[.func g lc,.func cc b6])::(S L.toList).b,(S L.toList).e,1,o⟩
 r:∀(R:Array α) t o,Sort.PermIn bp b5 d R→Sort.SortedIn lt bp b5 R→Q .ret ⟨t,(.loc 0,[.func g lc,.func cc b6])::(S R.toList).b,(S R.toList).e,1,o⟩
theorem xe.mono{bp b5 lim:Nat}{d cg:Array α}{Q:Exit→bs→Prop}(h:xe S n g cc lc b6 lt bp b5 lim d Q)(p:Sort.PermIn bp b5 d cg):xe S n g cc lc b6 lt bp b5 lim cg Q:=⟨fun e he a2 b8 w v L t o ak aE bj c2 ha hP=>h.k e he a2 b8 w v L t o ak aE bj c2 ha fun R dM ff=>⟨Sort.permIn_trans _ _ _ bp b5 p (hP R dM ff).1,(hP R dM ff).2⟩,fun R t o dM ff=>h.r R t o (Sort.permIn_trans _ _ _ bp b5 p dM) ff⟩
structure y6 (t:List (Nat×ah)) (bp b5 lim:Nat):Prop where
 t1:Pv.get 1 t= .int .i64 bp
 t2:Pv.get 2 t= .int .i64 b5
 t3:Pv.get 3 t= .int .i64 lim
 t4:Pv.get 4 t= .ptr (.loc 0) 0
 t10:Pv.get 10 t= .int .i64 ((b5:Int)-bp)
section
variable {bp b5 lim:Nat} {cG:Array α} {t:List (Nat×ah)} {o:List aI} {ob:List aI} {Q:Exit→bs→Prop}
theorem Vv(H:e4 S n g cc lc b6 lt)(bE:Sort.SWO lt)(bO:Bt S n g cc lc b6 lt (b5-bp)){pv:Nat}(T:y6 t bp b5 lim)(t11:Pv.get 11 t= .int .i64 pv)(rP:lim≤1000)(oS:cG.size=n)(p3:bp≤pv∧pv<b5)(cf:b5≤n)(sM:12<b5-bp)(tM:Sort.Below lt bp b5 cG)(h0:xe S n g cc lc b6 lt bp b5 lim cG Q):
  cZ ao ob IK Q ⟨t,(.loc 0,[.func g lc,.func cc b6])::(S cG.toList).b,(S cG.toList).e,1,o⟩:=by
 obtain⟨t1,t2,t3,t4,t10⟩:=T;have sW:∀fI:Array α,fI.size=n→aB (inObs (S fI.toList)) (eS g cc lc b6):=fun fI h=>H.kdata (lk:=fI.toList) (by simpa using h);have hle:=H.le;unfold IK;simp[t1,t2,t4,t11,Pv.look,H.slc,H.ssc];simp only[iq H,H.slc,H.ssc,ia];have qZ:=ad4 H cG oS bp b5 pv p3.1 p3.2 (by omega) cf;have bo:Sort.partition lt cG bp b5 pv=((Sort.partition lt cG bp b5 pv).1,(Sort.partition lt cG bp b5 pv).2.1,(Sort.partition lt cG bp b5 pv).2.2):=rfl;generalize (Sort.partition lt cG bp b5 pv).1=mid at qZ bo;generalize (Sort.partition lt cG bp b5 pv).2.1=ap at qZ bo;generalize (Sort.partition lt cG bp b5 pv).2.2=d4 at qZ bo;obtain⟨g1,g2,g3,g4,g5,g6,g7⟩:=Sort.round_part bE (Sort.partition_holds lt) p3.1 p3.2 (by omega) tM bo;refine H.fnD oS qZ (by simp[aB,aH,sW cG oS]) fun s4 o=>?_;have em:((mid:Int)+1)=(mid+1:Nat):=by omega
 simp[t1,t2,t3,t4,t10];by_cases apW:mid-bp<b5-mid
 ·have Kd:(mid:Int)-bp<b5-mid:=by omega
  (with_reducible repeat' first|refine aj ?_|simp[Kd,Pv.look,t1,t2,t3,t4,t10]);simp only[iq H,H.slc,H.ssc,ia];refine H.doFn (lk:=d4.toList) (by simpa using s4) (R:=fun a1=> ∃L:Array α,a1=L.toList∧Sort.PermIn bp mid d4 L∧Sort.SortedIn lt bp mid L) ((bO (mid-bp) (by omega) d4 s4 bp mid lim (eR _) g1 (by omega) rP g4).mono fun r ai ⟨a8,cg,bF,b0,c0⟩=>⟨a8,cg.toList,bF,cg,rfl,b0,c0⟩) (by rintro a1 ⟨L,rfl,q,_⟩;simpa using q.1.trans s4) (by simp[aH,aB,sW d4 s4]) ?_;rintro a1 ⟨L,rfl,cP,dt⟩;obtain⟨kN,o3⟩:=g6 L cP dt;simp;(with_reducible repeat' first|refine aj ?_|simp[t1,t2,t3,t4]);rw[em];exact h0.k _ (.inl rfl) (mid+1) b5 _ ap L _ _ (cP.1.trans s4) (by omega) cf (by omega) kN o3 (by simp) (by simp[t2]) (by simp[t3]) (by simp[t4]) (by simp;rfl) (by simp)
 ·have Kd:¬(mid:Int)-bp<b5-mid:=by omega
  (with_reducible repeat' first|refine aj ?_|simp[Kd,Pv.look,t1,t2,t3,t4,t10]);simp only[iq H,H.slc,H.ssc,ia];rw[em];refine H.doFn (lk:=d4.toList) (by simpa using s4) (R:=fun a1=> ∃L:Array α,a1=L.toList∧Sort.PermIn (mid+1) b5 d4 L∧Sort.SortedIn lt (mid+1) b5 L) ((bO (b5-(mid+1)) (by omega) d4 s4 (mid+1) b5 lim (eR _) (by omega) cf rP g5).mono fun r ai ⟨a8,cg,bF,b0,c0⟩=>⟨a8,cg.toList,bF,cg,rfl,b0,c0⟩) (by rintro a1 ⟨L,rfl,q,_⟩;simpa using q.1.trans s4) (by simp[aH,aB,sW d4 s4]) ?_;rintro a1 ⟨L,rfl,cP,dt⟩;obtain⟨kN,o3⟩:=g7 L cP dt;simp;(with_reducible repeat' first|refine aj ?_|simp[t1,t2,t3,t4]);exact h0.k _ (.inl rfl) bp mid _ ap L _ _ (cP.1.trans s4) g1 (by omega) (by omega) kN o3 (by simp[t1]) (by simp) (by simp[t3]) (by simp[t4]) (by simp;rfl) (by simp)
theorem aj8(H:e4 S n g cc lc b6 lt)(bE:Sort.SWO lt)(bO:Bt S n g cc lc b6 lt (b5-bp)){pv:Nat}(T:y6 t bp b5 lim)(t11:Pv.get 11 t= .int .i64 pv){w v:Bool}(t8:Pv.get 8 t= .bool w)(t9:Pv.get 9 t= .bool v)(rP:lim≤1000)(oS:cG.size=n)(p3:bp≤pv∧pv<b5)(cf:b5≤n)(sM:12<b5-bp)(tM:Sort.Below lt bp b5 cG)(h0:xe S n g cc lc b6 lt bp b5 lim cG Q):
  cZ ao ob BF Q ⟨t,(.loc 0,[.func g lc,.func cc b6])::(S cG.toList).b,(S cG.toList).e,1,o⟩:=by
 obtain⟨t1,t2,t3,t4,t10⟩:=id T;have hle:=H.le;unfold BF;by_cases sP:0<bp
 ·have JV:(0:Int)<bp:=by omega
  simp[t1,t2,t4,t11,sP,JV,Pv.look,H.slc,H.ssc];(with_reducible repeat' first|refine aj ?_|simp[t1,t2,t4,t11,sP,JV,Pv.look,H.slc,H.ssc]);rw[show((bp:Int)-1)=((bp-1:Nat):Int) by omega];refine H.lessA oS (bp-1) pv (by omega) (by omega) fun o=>?_;cases jH:lt cG[bp-1]! cG[pv]!
  ·simp;(with_reducible repeat' first|refine aj ?_|simp[Pv.look,H.slc,H.ssc,t1,t2,t4,t11]);simp only[iq H,H.slc,H.ssc,ia];have qZ:=ad5 H cG oS bp b5 pv p3.1 p3.2 (by omega) cf;have bo:Sort.partitionEqual lt cG bp b5 pv=((Sort.partitionEqual lt cG bp b5 pv).1,(Sort.partitionEqual lt cG bp b5 pv).2):=rfl;generalize (Sort.partitionEqual lt cG bp b5 pv).1=mid at qZ bo;generalize (Sort.partitionEqual lt cG bp b5 pv).2=d4 at qZ bo;obtain⟨g1,g2,g3,g4,g5⟩:=Sort.round_eq bE (Sort.partitionEqual_holds lt) sP p3.1 p3.2 (by omega) tM jH bo;refine H.fnD oS qZ (by simp[aB,aH,H.kdata (lk:=cG.toList) (by simpa using oS)]) fun s4 o=>?_;simp[t1,t2,t3,t4];exact h0.k _ (.inr rfl) mid b5 w v d4 _ _ s4 g2 cf (by omega) g4 g5 (by simp) (by simp[t2]) (by simp[t3]) (by simp[t4]) (by simp[t8]) (by simp[t9])
  ·simp;exact Vv H bE bO ⟨by simp[t1],by simp[t2],by simp[t3],by simp[t4],by simp[t10]⟩ (by simp[t11]) rP oS p3 cf sM tM h0
 ·have JV:¬(0:Int)<bp:=by omega
  simp[t1,sP];exact Vv H bE bO ⟨by simp[t1],by simp[t2],by simp[t3],by simp[t4],by simp[t10]⟩ (by simp[t11]) rP oS p3 cf sM tM h0
theorem L1(H:e4 S n g cc lc b6 lt)(bE:Sort.SWO lt)(bO:Bt S n g cc lc b6 lt (b5-bp)){pv:Nat}(T:y6 t bp b5 lim)(t11:Pv.get 11 t= .int .i64 pv){h:Nat}(t12:Pv.get 12 t= .int .i64 h){w v:Bool}(t8:Pv.get 8 t= .bool w)(t9:Pv.get 9 t= .bool v)(rP:lim≤1000)(oS:cG.size=n)(p3:bp≤pv∧pv<b5)(cf:b5≤n)(sM:12<b5-bp)(tM:Sort.Below lt bp b5 cG)(h0:xe S n g cc lc b6 lt bp b5 lim cG Q):
  cZ ao ob IL Q ⟨t,(.loc 0,[.func g lc,.func cc b6])::(S cG.toList).b,(S cG.toList).e,1,o⟩:=by
 obtain⟨t1,t2,t3,t4,t10⟩:=id T;have hle:=H.le;unfold IL;have next:∀{d5:Array α} {t o},y6 t bp b5 lim→Pv.get 11 t= .int .i64 pv→Pv.get 8 t= .bool w→Pv.get 9 t= .bool v→d5.size=n→Sort.Below lt bp b5 d5→Sort.PermIn bp b5 cG d5→cZ ao ob BF Q ⟨t,(.loc 0,[.func g lc,.func cc b6])::(S d5.toList).b,(S d5.toList).e,1,o⟩:=fun ak aE bj c2 ha hP rr=>aj8 H bE bO ak aE bj c2 rP ha p3 cf sM hP (h0.mono rr)
 have skip:∀{t o},y6 t bp b5 lim→Pv.get 11 t= .int .i64 pv→Pv.get 8 t= .bool w→Pv.get 9 t= .bool v→cZ ao ob BF Q ⟨t,(.loc 0,[.func g lc,.func cc b6])::(S cG.toList).b,(S cG.toList).e,1,o⟩:=fun ak aE bj c2=>next ak aE bj c2 oS tM (Sort.permIn_refl _ _ _)
 by_cases au:(w=true∧v=true)∧h=1
 ·obtain⟨⟨rfl,rfl⟩,rfl⟩:=au;simp[t1,t2,t4,t8,t9,t12,Pv.look,H.slc,H.ssc];simp only[iq H,H.slc,H.ssc,ia];have qZ:=ad3 H cG oS bp b5 (by omega) cf (by omega);have bo:=Sort.partialInsertionSort_holds bE cG bp b5 (by omega) (by omega) tM;generalize (Sort.partialInsertionSort lt cG bp b5).1=d5 at qZ bo;generalize (Sort.partialInsertionSort lt cG bp b5).2=ok at qZ bo;refine H.fnD oS qZ (by simp[aB,aH,H.kdata (lk:=cG.toList) (by simpa using oS)]) fun alC o=>?_;cases ok
  ·simp;exact next ⟨by simp[t1],by simp[t2],by simp[t3],by simp[t4],by simp[t10]⟩ (by simp[t11]) (by simp[t8]) (by simp[t9]) alC (tM.perm (by omega) bo.1) bo.1
  ·simp;exact h0.r _ _ _ bo.1 (bo.2 rfl)
 ·cases w
  ·simp[t8,t9,t12];exact skip ⟨by simp[t1],by simp[t2],by simp[t3],by simp[t4],by simp[t10]⟩ (by simp[t11]) (by simp[t8]) (by simp[t9])
  ·cases v
   ·simp[t8,t9,t12];exact skip ⟨by simp[t1],by simp[t2],by simp[t3],by simp[t4],by simp[t10]⟩ (by simp[t11]) (by simp[t8]) (by simp[t9])
   ·have J:((h:Int)==1)=false:=by simp at au⊢;omega
    simp[t8,t9,t12,J];exact skip ⟨by simp[t1],by simp[t2],by simp[t3],by simp[t4],by simp[t10]⟩ (by simp[t11]) (by simp[t8]) (by simp[t9])
theorem Vw(H:e4 S n g cc lc b6 lt)(gf:r5 S 901)(bE:Sort.SWO lt)(bO:Bt S n g cc lc b6 lt (b5-bp))(T:y6 t bp b5 lim){w v:Bool}(t8:Pv.get 8 t= .bool w)(t9:Pv.get 9 t= .bool v)(rP:lim≤1000)(s1:cG.size=n)(cf:b5≤n)(sM:12<b5-bp)(HW:Sort.Below lt bp b5 cG)(h0:xe S n g cc lc b6 lt bp b5 lim cG Q):
  cZ ao ob IM Q ⟨t,(.loc 0,[.func g lc,.func cc b6])::(S cG.toList).b,(S cG.toList).e,1,o⟩:=by
 obtain⟨t1,t2,t3,t4,t10⟩:=id T;have hle:=H.le;have sW:∀fI:Array α,fI.size=n→aB (inObs (S fI.toList)) (eS g cc lc b6):=fun fI h=>H.kdata (lk:=fI.toList) (by simpa using h);unfold IM;simp[t1,t2,t4,Pv.look,H.slc,H.ssc];simp only[iq H,H.slc,H.ssc,ia];have uq:=Sort.choosePivot_holds lt cG bp b5 (by omega);have KV:=adU H gf cG s1 bp b5 (by omega) cf;generalize Sort.choosePivot lt cG bp b5=IY at KV uq;obtain⟨p,hint⟩:=IY;simp only at KV uq;refine H.fnA s1 s1 KV (by simp[aB,aH,sW cG s1]) fun o=>?_;cases hint
 ·simp[zP];exact L1 H bE bO ⟨by simp[t1],by simp[t2],by simp[t3],by simp[t4],by simp[t10]⟩ (pv:=p) (by simp) (h:=0) (by simp) (w:=w) (v:=v) (by simp[t8]) (by simp[t9]) rP s1 uq cf sM HW h0
 ·simp[zP];exact L1 H bE bO ⟨by simp[t1],by simp[t2],by simp[t3],by simp[t4],by simp[t10]⟩ (pv:=p) (by simp) (h:=1) (by simp) (w:=w) (v:=v) (by simp[t8]) (by simp[t9]) rP s1 uq cf sM HW h0
 ·simp[zP,t1,t2,t4,Pv.look,H.slc,H.ssc];simp only[iq H,H.slc,H.ssc,ia];refine H.fnD s1 (aea H cG s1 bp b5 (by omega) cf (by omega)) (by simp[aB,aH,sW cG s1]) fun s2 o=>?_;have aJ:=Sort.reverseRange_holds cG bp b5 (by omega) (by omega);have Re:((b5:Int)-1-(p-bp))=((b5-1)-(p-bp):Nat):=by omega
  simp[t1,t2,Re];(with_reducible repeat' first|refine aj ?_|simp[Re,t1,t2]);exact L1 H bE bO ⟨by simp[t1],by simp[t2],by simp[t3],by simp[t4],by simp[t10]⟩ (pv:=(b5-1)-(p-bp)) (by simp) (h:=1) (by simp) (w:=w) (v:=v) (by simp[t8]) (by simp[t9]) rP s2 (by omega) cf sM (HW.perm (by omega) aJ) (h0.mono aJ)
end
theorem ad6(H:e4 S n g cc lc b6 lt)(gf:r5 S 901)(kh:r5 S 902)(bE:Sort.SWO lt)(m:Nat):∀(d:Array α) (aQ:d.size=n) (a b wB:Nat) (hm:b-a≤m) (ng:a≤b) (ad:b≤n) (eX:wB≤1000) (zF:Sort.Below lt a b d),
  bU ao 214 [eS g cc lc b6,.int .i64 a,.int .i64 b,.int .i64 wB] (S d.toList) fun r ai=>r= .tuple []∧∃cg,ai=S cg.toList∧Sort.PermIn a b d cg∧Sort.SortedIn lt a b cg:=by
 induction m using Nat.strongRecOn with
 |ind m bO=>
 intro d aQ a b wB hm ng ad eX zF;have ag:=H.ok d.toList;have aw:d.toList.length=n:=by simpa using aQ
 have ay:∀l m,Pv.look (.loc m) (S l).b=none:=fun l=>(H.ok l).obj.1;have hu:∀l m cs,cB (.loc m) cs (S l).b=(S l).b++[(.loc m,cs)]:=fun l m cs=>j8 (ay l m);have ax:∀m,aI.loc m∉cX (S d.toList):=j1 ag.obj;have hle:=H.le;refine bU.mk mixed n7 acL ajl (by simp) ag.obj fun aO cL=>?_;unfold P3;simp[eS,hu,ax,cI,ay];refine H.loopA aw [4] (fun(x:((Nat×Nat×Nat)×Bool×Bool)×Array α)=>[(1,.int .i64 x.1.1.1),(2,.int .i64 x.1.1.2.1),(3,.int .i64 x.1.1.2.2),(8,.bool x.1.2.1),(9,.bool x.1.2.2)]) (·.2) (fun x=>x.1.1.2.1-x.1.1.1) (fun x=>x.2.size=n∧(x.1.1.1≤x.1.1.2.1∧x.1.1.2.1≤n∧x.1.1.2.1-x.1.1.1≤m∧x.1.1.2.2≤1000)∧Sort.Below lt x.1.1.1 x.1.1.2.1 x.2∧∀R,Sort.PermIn x.1.1.1 x.1.1.2.1 x.2 R→Sort.SortedIn lt x.1.1.1 x.1.1.2.1 R→Sort.PermIn a b d R∧Sort.SortedIn lt a b R)
  (((a,b,wB),true,true),d) aQ ⟨aQ,⟨ng,ad,hm,eX⟩,zF,fun R J U=>⟨J,U⟩⟩ (by simp[cI,ay]) aR aR (by simp[aB]) ?_
 rintro⟨⟨⟨bp,b5,uV⟩,an9,wp⟩,cq⟩ ⟨aU,⟨bC,cf,eZ,de⟩,KU,Gc⟩;simp only at aU bC cf eZ de KU Gc;have sW:∀fI:Array α,fI.size=n→aB (inObs (S fI.toList)) (eS g cc lc b6):=fun fI h=>H.kdata (lk:=fI.toList) (by simpa using h);have Hm:∀(R:Array α) t o,Sort.PermIn bp b5 cq R→Sort.SortedIn lt bp b5 R→cV We (S d.toList) (fun r ai=>r= .tuple []∧∃cg,ai=S cg.toList∧Sort.PermIn a b d cg∧Sort.SortedIn lt a b cg) .ret ⟨t,(.loc 0,[.func g lc,.func cc b6])::(S R.toList).b,(S R.toList).e,1,o⟩:=fun R t o J U=>by refine H.retA aw (by rw[J.1];exact aU) (.inl rfl) ⟨rfl,R,rfl,Gc R J U⟩
 simp;by_cases sM:b5-bp≤12
 ·have B5:(b5:Int)-bp≤12:=by omega
  (with_reducible repeat' first|refine aj ?_|simp[B5,Pv.look,H.slc,H.ssc]);simp only[iq H,H.slc,H.ssc,ia];refine H.fnD aU (adX H cq aU bp b5 bC cf) (by simp[aB,aH,sW cq aU]) fun s2 o=>?_;obtain⟨a8,bF⟩:=Sort.insertionSort_holds bE cq bp b5 bC (by omega);simp;exact Hm _ _ _ a8 bF
 have B5:¬(b5:Int)-bp≤12:=by omega
 by_cases zS:uV=0
 ·have FE:(((uV:Nat):Int)==0)=true:=by simp[zS]
  (with_reducible repeat' first|refine aj ?_|simp[B5,FE,Pv.look,H.slc,H.ssc]);simp only[iq H,H.slc,H.ssc,ia];refine H.fnD aU (adW H cq aU bp b5 bC cf (by omega)) (by simp[aB,aH,sW cq aU]) fun s2 o=>?_;obtain⟨a8,bF⟩:=Sort.heapSort_holds bE cq bp b5 bC (by omega);simp;exact Hm _ _ _ a8 bF
 have FE:(((uV:Nat):Int)==0)=false:=by simp[zS]
 have Tr:Bt S n g cc lc b6 lt (b5-bp):=fun k ab=>bO k (by omega);cases an9
 ·(with_reducible repeat' first|refine aj ?_|simp[B5,FE,Pv.look,H.slc,H.ssc]);simp only[iq H,H.slc,H.ssc,ia];refine H.fnD aU (adT H kh cq aU bp b5 bC cf (by omega)) (by simp[aB,aH,sW cq aU]) fun s1 o=>?_;have Ek:=Sort.breakPatterns_holds cq bp b5 bC (by omega);generalize Sort.breakPatterns cq bp b5=d1 at s1 Ek;have el:((uV:Int)-1)=(uV-1:Nat):=by omega
  simp[el];(with_reducible repeat' first|refine aj ?_|simp[el,Pv.look]);refine Vw (lim:=uV-1) H gf bE Tr ⟨by simp,by simp,by simp,by simp,by simp⟩ (w:=false) (v:=wp) (by simp) (by simp) (by omega) s1 cf (by omega) (KU.perm (by omega) Ek) ⟨?_,fun R t o dM ff=>?_⟩
  ·rintro e he a2 b8 w v L t o ak aE bj c2 ha hP t1 t2 t3 t4 t8 t9;rcases he with rfl|rfl<;>simp<;>exact bK.whl (((a2,b8,uV-1),w,v),L) (by simp;omega) ⟨ak,⟨aE,bj,by simp;omega,by simp;omega⟩,ha,fun R dM ff=>Gc R (Sort.permIn_trans _ _ _ bp b5 Ek (hP R dM ff).1) (hP R dM ff).2⟩ (H.weakC aw (by simpa using ak) (by simp[aB,t1,t2,t3,t4,t8,t9]))
  ·simpa using Hm R t o (Sort.permIn_trans _ _ _ bp b5 Ek dM) ff
 ·(with_reducible repeat' first|refine aj ?_|simp[B5,FE,Pv.look,H.slc,H.ssc]);refine Vw (lim:=uV) H gf bE Tr ⟨by simp,by simp,by simp,by simp,by simp⟩ (w:=true) (v:=wp) (by simp) (by simp) de aU cf (by omega) KU ⟨?_,fun R t o dM ff=>?_⟩
  ·rintro e he a2 b8 w v L t o ak aE bj c2 ha hP t1 t2 t3 t4 t8 t9;rcases he with rfl|rfl<;>simp<;>exact bK.whl (((a2,b8,uV),w,v),L) (by simp;omega) ⟨ak,⟨aE,bj,by simp;omega,de⟩,ha,fun R dM ff=>Gc R (hP R dM ff).1 (hP R dM ff).2⟩ (H.weakC aw (by simpa using ak) (by simp[aB,t1,t2,t3,t4,t8,t9]))
  ·simpa using Hm R t o dM ff
end Go.Proofs.YtahlgcidhnjlbaaGreat
namespace Go.Proofs.YtahlgcidhnjlbaaGreat
open Go Go.Pv
variable {α:Type} {S:List α→cK} {n g cc:Nat} {lc b6:List ah} {lt:α→α→Bool}
theorem ahs(bE:qy lt){l lk:List α}{a b i:Nat}(nh:a+1≤i)(zN:i≤b)(ad:b≤l.length)(ag:fa lt (a+1) b l){z:α}(br:l[a]? =some z)(Cq:∀h x,a+1≤h→h<i→l[h]? =some x→lt x z=true)(Co:∀h x,i≤h→h<b→l[h]? =some x→lt x z=false)
  (aJ:∀k,lk[k]? =l[hV a (a+1) i k]?):fa lt a b lk:=by
 intro p q x y bG kB bo af aM;rw[aJ]at af aM;simp only[hV]at af aM;rw[if_neg (by omega)]at af aM;by_cases a8:q<i-1
 ·rw[if_pos (by omega)]at af aM;exact ag _ _ _ _ (by omega) (by omega) (by omega) af aM
 ·rw[if_neg (by omega)]at aM;by_cases bF:q<i
  ·rw[if_pos bF,show q-(i-(a+1))=a by omega,br]at aM;cases aM;rw[if_pos (by omega)]at af;exact bE.asym _ _ (Cq _ _ (by omega) (by omega) af)
  ·rw[if_neg bF]at aM;by_cases cP:p<i-1
   ·rw[if_pos (by omega)]at af;exact ag _ _ _ _ (by omega) (by omega) (by omega) af aM
   ·rw[if_neg (by omega)]at af;by_cases dt:p<i
    ·rw[if_pos dt,show p-(i-(a+1))=a by omega,br]at af;cases af;exact Co _ _ (by omega) bo aM
    ·rw[if_neg dt]at af;exact ag _ _ _ _ (by omega) (by omega) bo af aM
theorem aht(bE:qy lt){l lk:List α}{a m i:Nat}(nh:a≤i)(apT:i≤m)(ad:m+1≤l.length)(ag:fa lt a m l){z:α}(br:l[m]? =some z)(Cq:∀h x,a≤h→h<i→l[h]? =some x→lt z x=false)(Co:∀h x,i≤h→h<m→l[h]? =some x→lt z x=true)
  (aJ:∀k,lk[k]? =l[hV i m (m+1) k]?):fa lt a (m+1) lk:=by
 intro p q x y bG kB bo af aM;rw[aJ]at af aM;simp only[hV]at af aM;by_cases a8:q<i
 ·rw[if_pos (by omega)]at af aM;exact ag _ _ _ _ bG kB (by omega) af aM
 ·rw[if_neg a8]at aM;by_cases bF:q=i
  ·rw[if_pos (by omega),show q+(m-i)=m by omega,br]at aM;cases aM;rw[if_pos (by omega)]at af;exact Cq _ _ bG (by omega) af
  ·rw[if_neg (by omega),if_pos (by omega)]at aM;by_cases cP:p<i
   ·rw[if_pos cP]at af;exact ag _ _ _ _ bG (by omega) (by omega) af aM
   ·rw[if_neg cP]at af;by_cases dt:p=i
    ·rw[if_pos (by omega),show p+(m-i)=m by omega,br]at af;cases af;exact bE.asym _ _ (Co _ _ (by omega) (by omega) aM)
    ·rw[if_neg (by omega),if_pos (by omega)]at af;exact ag _ _ _ _ (by omega) (by omega) (by omega) af aM
structure Ej (lt:α→α→Bool) (a s m e b mid:Nat) (lk:List α):Prop where
 s1:fa lt a s lk
 s2:fa lt s mid lk
 s3:fa lt mid e lk
 s4:fa lt e b lk
 cross:∀p q x y,a≤p→p<mid→mid≤q→q<b→lk[p]? =some x→lk[q]? =some y→lt y x=false
theorem fa.le(bE:qy lt){a b:Nat}{l:List α}(h:fa lt a b l){i j:Nat}{x y:α}(J:a≤i)(U:i≤j)(ar:j<b)(af:l[i]? =some x)(aM:l[j]? =some y):lt y x=false:=by
 by_cases e:i=j
 ·subst e;rw[af]at aM;cases aM;cases To:lt x x with
  |false=>rfl
  |true=>have:=bE.asym _ _ To;rw[To]at this;exact this
 ·exact h _ _ _ _ J (by omega) ar af aM
theorem ahC(bE:qy lt){l lk:List α}{a m b mid s e:Nat}(has:a≤s)(e6:s≤m)(apX:m≤e)(apR:e≤b)(ad:b≤l.length)(lJ:s+e=mid+m)(J:fa lt a m l)(U:fa lt m b l)
  (bL:s=a∨e=b∨ ∃x y,l[s-1]? =some x∧l[e]? =some y∧lt y x=false) (cp:s=m∨e=m∨ ∃x y,l[s]? =some x∧l[e-1]? =some y∧lt y x=true) (aJ:∀k,lk[k]? =l[hV s m e k]?):Ej lt a s m e b mid lk:=by
 have g1:∀p,p<s→lk[p]? =l[p]?:=fun p bG=>by rw[aJ];simp[hV,bG]
 have g2:∀p,s≤p→p<mid→lk[p]? =l[p+(m-s)]?:=fun p ar ba=>by rw[aJ];simp only[hV];rw[if_neg (by omega),if_pos (by omega)]
 have g3:∀p,mid≤p→p<e→lk[p]? =l[p-(e-m)]?:=fun p ar ba=>by rw[aJ];simp only[hV];rw[if_neg (by omega),if_neg (by omega),if_pos (by omega)]
 have g4:∀p,e≤p→lk[p]? =l[p]?:=fun p ar=>by
  rw[aJ];simp only[hV];rw[if_neg (by omega)];by_cases b4:p<s+(e-m)
  ·omega
  ·rw[if_neg b4,if_neg (by omega)]
 refine⟨fun p q x y bG kB bo af aM=>?_,fun p q x y bG kB bo af aM=>?_,fun p q x y bG kB bo af aM=>?_,fun p q x y bG kB bo af aM=>?_,fun p q x y bG afJ bo Kp af aM=>?_⟩
 ·rw[g1 _ (by omega)]at af aM;exact J _ _ _ _ bG kB (by omega) af aM
 ·rw[g2 _ (by omega) (by omega)]at af aM;exact U _ _ _ _ (by omega) (by omega) (by omega) af aM
 ·rw[g3 _ (by omega) (by omega)]at af aM;exact J _ _ _ _ (by omega) (by omega) (by omega) af aM
 ·rw[g4 _ (by omega)]at af aM;exact U _ _ _ _ (by omega) (by omega) (by omega) af aM
 ·by_cases cP:p<s
  ·rw[g1 _ cP]at af;by_cases a8:q<e
   ·rw[g3 _ bo a8]at aM;exact J _ _ _ _ bG (by omega) (by omega) af aM
   ·rw[g4 _ (by omega)]at aM;rcases bL with bL|bL|⟨u,v,aU,bC,cf⟩
    ·omega
    ·omega
    ·exact bE.ntr _ _ _ (bE.ntr _ _ _ (fa.le bE J bG (by omega) (by omega) af aU) cf) (fa.le bE U (by omega) (by omega) Kp bC aM)
  ·rw[g2 _ (by omega) afJ]at af;by_cases a8:q<e
   ·rw[g3 _ bo a8]at aM;rcases cp with cp|cp|⟨u,v,aU,bC,cf⟩
    ·omega
    ·omega
    ·exact bE.ntr _ _ _ (bE.ntr _ _ _ (fa.le bE U (by omega) (by omega) (by omega) af bC) (bE.asym _ _ cf)) (fa.le bE J (by omega) (by omega) (by omega) aU aM)
   ·rw[g4 _ (by omega)]at aM;exact U _ _ _ _ (by omega) (by omega) Kp af aM
theorem ahD{a mid b:Nat}(Cd:a≤mid){lk jv gT:List α}(J:gr a mid lk jv)(s1:fa lt a mid jv)(U:gr mid b jv gT)(s2:fa lt mid b gT)(aaf:∀p q x y,a≤p→p<mid→mid≤q→q<b→lk[p]? =some x→lk[q]? =some y→lt y x=false):fa lt a b gT:=by
 intro p q x y bG kB bo af aM;by_cases ar:q<mid
 ·rw[U.out _ (.inl (by omega))]at af;rw[U.out _ (.inl (by omega))]at aM;exact s1 _ _ _ _ bG kB ar af aM
 ·by_cases ba:mid≤p
  ·exact s2 _ _ _ _ ba kB bo af aM
  ·rw[U.out _ (.inl (by omega))]at af;refine U.all (fun y=>lt y x=false) (fun k y gf kh aM=>?_) q y (by omega) bo aM;rw[J.out _ (.inr gf)]at aM;exact J.all (fun x=>lt y x=false) (fun bS x afd afe af=>aaf bS k x y afd afe gf kh af aM) p x bG (by omega) af
end Go.Proofs.YtahlgcidhnjlbaaGreat
namespace Go.Proofs.YtahlgcidhnjlbaaGreat
open Go Go.Pv
variable {α:Type} {S:List α→cK} {n g cc:Nat} {lc b6:List ah} {lt:α→α→Bool}
def aml(lt:α→α→Bool)(l:List α)(mid m s0 r0:Nat)(x:Nat×Nat):Prop:=s0≤x.1∧x.1≤x.2∧x.2≤r0∧(x.1=s0∨ ∃u v,l[x.1-1]? =some u∧l[mid+m-x.1]? =some v∧lt v u=false)∧(x.2=r0∨ ∃u v,l[x.2]? =some u∧l[mid+m-x.2-1]? =some v∧lt v u=true)
attribute [local simp] pz
def Es(S:List α→cK)(n g cc:Nat)(lc b6:List ah)(lt:α→α→Bool)(d:Nat):Prop:=
 ∀(l:List α) (a m b:Nat),l.length=n→b-a≤d→a<m→m<b→b≤n→fa lt a m l→fa lt m b l→
  bU ao 232 [eS g cc lc b6,.int .i64 a,.int .i64 m,.int .i64 b] (S l) fun r ai=>r= .tuple []∧∃a1,ai=S a1∧gr a b l a1∧fa lt a b a1
def Et(S:List α→cK)(g cc:Nat)(lc b6:List ah)(lt:α→α→Bool)(a b:Nat)(l:List α)(Q:Exit→bs→Prop):Prop:=∀gT t o,gr a b l gT→fa lt a b gT→Q .normal ⟨t,(.loc 0,[.func g lc,.func cc b6])::(S gT).b,(S gT).e,1,o⟩
section
variable {a m b mid i e d:Nat} {l:List α} {t:List (Nat×ah)} {o:List aI} {ob:List aI} {Q:Exit→bs→Prop}
theorem alY(H:e4 S n g cc lc b6 lt)(bO:Es S n g cc lc b6 lt d)(t3:Pv.get 3 t= .int .i64 b)(t4:Pv.get 4 t= .ptr (.loc 0) 0)(t16:Pv.get 16 t= .int .i64 mid)(t22:Pv.get 22 t= .int .i64 e)(aw:l.length=n)(J:mid≤e)(U:e≤b)(ad:b≤n)(aQ:b-mid≤d)(Td:fa lt mid e l)(Te:fa lt e b l)(h0:Et S g cc lc b6 lt mid b l Q):
  cZ ao ob EN Q ⟨t,(.loc 0,[.func g lc,.func cc b6])::(S l).b,(S l).e,1,o⟩:=by
 unfold EN;by_cases lB:mid<e∧e<b
 ·simp[t3,t4,t16,t22,lB.1,lB.2,Pv.look];simp only[iq H,H.slc,H.ssc,ia];refine H.doFn aw (bO l mid e b aw aQ lB.1 lB.2 ad Td Te) (fun a1 h=>by rw[h.1.length];exact aw) (by simp[aH,aB,H.kdata aw]) ?_;rintro gT ⟨k4,z2⟩;simp;exact h0 _ _ _ k4 z2
 ·have p5:fa lt mid b l:=by
   by_cases pA:mid<e
   ·rwa[show e=b by omega]at Td
   ·rwa[show e=mid by omega]at Te
  by_cases pA:mid<e
  ·have aeI:¬e<b:=by omega
   simp[t3,t16,t22,pA,aeI];exact h0 _ _ _ (.refl _) p5
  ·simp[t16,t22,pA];exact h0 _ _ _ (.refl _) p5
theorem alZ(H:e4 S n g cc lc b6 lt)(bO:Es S n g cc lc b6 lt d)(t1:Pv.get 1 t= .int .i64 a)(t3:Pv.get 3 t= .int .i64 b)(t4:Pv.get 4 t= .ptr (.loc 0) 0)(t16:Pv.get 16 t= .int .i64 mid)(t18:Pv.get 18 t= .int .i64 i)(t22:Pv.get 22 t= .int .i64 e)(aw:l.length=n)(bn:a≤i∧i≤mid∧a≤m)(J:mid≤e)(U:e≤b)(ad:b≤n)(aQ:b-mid≤d)(my:mid-a≤d)(fB:Ej lt a i m e b mid l)(h0:Et S g cc lc b6 lt a b l Q):
  cZ ao ob EO Q ⟨t,(.loc 0,[.func g lc,.func cc b6])::(S l).b,(S l).e,1,o⟩:=by
 unfold EO;have next:∀{jv t o},Pv.get 3 t= .int .i64 b→Pv.get 4 t= .ptr (.loc 0) 0→Pv.get 16 t= .int .i64 mid→Pv.get 22 t= .int .i64 e→jv.length=n→gr a mid l jv→fa lt a mid jv→cZ ao ob EN Q ⟨t,(.loc 0,[.func g lc,.func cc b6])::(S jv).b,(S jv).e,1,o⟩:=fun ak aE bj c2 xV cP dt=>by
  refine alY H bO ak aE bj c2 xV J U ad aQ (fun p q x y J U ar af aM=>?_) (fun p q x y J U ar af aM=>?_) fun gT t o a8 bF=>?_
  ·rw[cP.out _ (.inr J)]at af;rw[cP.out _ (.inr (by omega))]at aM;exact fB.s3 p q x y J U ar af aM
  ·rw[cP.out _ (.inr (by omega))]at af;rw[cP.out _ (.inr (by omega))]at aM;exact fB.s4 p q x y J U ar af aM
  ·exact h0 gT t o ((cP.mono (by omega) (by omega)).trans (a8.mono (by omega) (by omega))) (ahD (by omega) cP dt a8 bF fB.cross)
 by_cases lb:a<i∧i<mid
 ·simp[t1,t4,t16,t18,lb.1,lb.2,Pv.look];simp only[iq H,H.slc,H.ssc,ia];refine H.doFn aw (bO l a i mid aw my lb.1 lb.2 (by omega) fB.s1 fB.s2) (fun a1 h=>by rw[h.1.length];exact aw) (by simp[aH,aB,H.kdata aw]) ?_;rintro jv ⟨cP,dt⟩;simp;exact next (by simp[t3]) (by simp[t4]) (by simp[t16]) (by simp[t22]) (by rw[cP.length];exact aw) cP dt
 ·have dt:fa lt a mid l:=by
   by_cases p1:a<i
   ·have:=fB.s1;rwa[show i=mid by omega]at this
   ·have:=fB.s2;rwa[show i=a by omega]at this
  by_cases p1:a<i
  ·have Fq:¬i<mid:=by omega
   simp[t1,t16,t18,p1,Fq];exact next (by simp[t3]) (by simp[t4]) (by simp[t16]) (by simp[t22]) aw (.refl _) dt
  ·simp[t1,t18,p1];exact next (by simp[t3]) (by simp[t4]) (by simp[t16]) (by simp[t22]) aw (.refl _) dt
theorem al0(H:e4 S n g cc lc b6 lt)(bO:Es S n g cc lc b6 lt d)(t1:Pv.get 1 t= .int .i64 a)(t2:Pv.get 2 t= .int .i64 m)(t3:Pv.get 3 t= .int .i64 b)(t4:Pv.get 4 t= .ptr (.loc 0) 0)(t16:Pv.get 16 t= .int .i64 mid)(t18:Pv.get 18 t= .int .i64 i)(t22:Pv.get 22 t= .int .i64 e)(aw:l.length=n)(bn:a≤i∧i≤mid∧a≤m)(J:mid≤e)(U:e≤b)(ad:b≤n)(aQ:b-mid≤d)(my:mid-a≤d)(SU:∀lk:List α,(∀k,lk[k]? =l[hV i m e k]?)→Ej lt a i m e b mid lk)(h0:Et S g cc lc b6 lt a b l Q):
  cZ ao ob IN Q ⟨t,(.loc 0,[.func g lc,.func cc b6])::(S l).b,(S l).e,1,o⟩:=by
 unfold IN;have next:∀{lk t o},Pv.get 1 t= .int .i64 a→Pv.get 3 t= .int .i64 b→Pv.get 4 t= .ptr (.loc 0) 0→Pv.get 16 t= .int .i64 mid→Pv.get 18 t= .int .i64 i→Pv.get 22 t= .int .i64 e→lk.length=n→Ej lt a i m e b mid lk→gr a b l lk→cZ ao ob EO Q ⟨t,(.loc 0,[.func g lc,.func cc b6])::(S lk).b,(S lk).e,1,o⟩:=fun ak aE bj c2 ha hP h1 fB aeF=>alZ H bO ak aE bj c2 ha hP h1 bn J U ad aQ my fB fun gT t o a8 bF=>h0 gT t o (aeF.trans a8) bF
 by_cases pC:i<m∧m<e
 ·simp[t2,t4,t18,t22,pC.1,pC.2,Pv.look];simp only[iq H,H.slc,H.ssc,ia];refine H.doFn aw (aeb H l aw i m e pC.1 pC.2 (by omega)) (fun a1 h=>by rw[h.1.length];exact aw) (by simp[aH,aB,H.kdata aw]) ?_;rintro lk ⟨a8,bF⟩;simp;exact next (by simp[t1]) (by simp[t3]) (by simp[t4]) (by simp[t16]) (by simp[t18]) (by simp[t22]) (by rw[a8.length];exact aw) (SU lk bF) (a8.mono (by omega) (by omega))
 ·have fB:=SU l (fun k=>by
   congr 1;simp only[hV];repeat' split
   all_goals omega)
  by_cases lI:i<m
  ·have afM:¬m<e:=by omega
   simp[t2,t18,t22,lI,afM];exact next (by simp[t1]) (by simp[t3]) (by simp[t4]) (by simp[t16]) (by simp[t18]) (by simp[t22]) aw fB (.refl _)
  ·simp[t2,t18,lI];exact next (by simp[t1]) (by simp[t3]) (by simp[t4]) (by simp[t16]) (by simp[t18]) (by simp[t22]) aw fB (.refl _)
theorem W1{bb:List (aI×List ah)}(H:e4 S n g cc lc b6 lt)(vO:Pv.look (.loc 0) bb=some [.func g lc,.func cc b6])(cL:∀k cs,Pv.look k (S l).b=some cs→Pv.look k bb=some cs)(bE:qy lt)(bO:Es S n g cc lc b6 lt d){s0 r0:Nat}(t1:Pv.get 1 t= .int .i64 a)(t2:Pv.get 2 t= .int .i64 m)(t3:Pv.get 3 t= .int .i64 b)(t4:Pv.get 4 t= .ptr (.loc 0) 0)(t16:Pv.get 16 t= .int .i64 mid)(t17:Pv.get 17 t= .int .i64 ((mid:Int)+m))(t18:Pv.get 18 t= .int .i64 s0)(t19:Pv.get 19 t= .int .i64 r0)(aw:l.length=n)(bn:a<m∧m<b∧mid=(a+b)/2)(J:mid<m∧s0=mid+m-b∧r0=mid∨m≤mid∧s0=a∧r0=m)(ad:b≤n)(aQ:b-a≤d+1)(kC:fa lt a m l)(pD:fa lt m b l)(h0:Et S g cc lc b6 lt a b l Q):
  cZ ao (cX (S l)) IP Q ⟨t,bb,(S l).e,1,o⟩:=by
 have hle:=H.le;unfold IP;simp[t17];(with_reducible repeat' first|refine aj ?_|simp[t17]);refine oz (fun(x:Nat×Nat)=>⟨[(1,.int .i64 a),(2,.int .i64 m),(3,.int .i64 b),(4,.ptr (.loc 0) 0),(16,.int .i64 mid),(17,.int .i64 (mid+m)),(20,.int .i64 (mid+m-1)),(18,.int .i64 x.1),(19,.int .i64 x.2)],(.loc 0,[.func g lc,.func cc b6])::(S l).b,(S l).e,1,cX (S l)⟩) (fun x=>x.2-x.1)
  (aml lt l mid m s0 r0) (s0,r0) (H.weak aw aw (by simp[aB,t1,t2,t3,t4,t16,t17,t18,t19]) vO cL fun _ _ h=>h) ⟨by simp,by simp;omega,by simp,.inl rfl,.inl rfl⟩ ?_
 rintro⟨i,j⟩ ⟨aU,bC,cf,eZ,de⟩ _;simp only at aU bC cf eZ de;have oJ:=Ft i j (by omega);by_cases lF:i<j
 ·simp[lF];(with_reducible repeat' first|refine aj ?_|simp[Pv.look]);obtain⟨c,au⟩:∃c,c=(i+j)/2:=⟨_,rfl⟩;rw[←au]at oJ;simp only[oJ];(with_reducible repeat' first|refine aj ?_|simp[Pv.look]);obtain⟨u,KE⟩:∃u,l[c]? =some u:=⟨_,bZ (by omega)⟩;obtain⟨v,wg⟩:∃v,l[mid+m-1-c]? =some v:=⟨_,bZ (by omega)⟩;have c2:((mid:Int)+m-1-c)=(mid+m-1-c:Nat):=by omega
  simp only[H.slc,c2];refine H.doLess aw (mid+m-1-c) c wg KE ?_;simp;cases rV:lt v u with
  |false=>simp;(with_reducible repeat' first|refine aj ?_|simp);refine bK.whl (c+1,j) (by simp;omega) ⟨by simp;omega,by simp;omega,cf,.inr ⟨u,v,by simpa using KE,?_,rV⟩,de⟩ (H.weakC aw aw (by simp[aB]));simp only;rw[show mid+m-(c+1)=mid+m-1-c by omega];exact wg
  |true=>simp;(with_reducible repeat' first|refine aj ?_|simp);refine bK.whl (i,c) (by simp;omega) ⟨aU,by simp;omega,by simp;omega,eZ,.inr ⟨u,v,KE,?_,rV⟩⟩ (H.weakC aw aw (by simp[aB]));simp only;rw[show mid+m-c-1=mid+m-1-c by omega];exact wg
 ·obtain rfl:i=j:=by omega
  obtain⟨e,he⟩:∃e,e=mid+m-i:=⟨_,rfl⟩;have ha:((mid:Int)+m-i)=(e:Nat):=by omega
  have bL:i=a∨e=b∨ ∃x y,l[i-1]? =some x∧l[e]? =some y∧lt y x=false:=by
   rcases eZ with eZ|⟨u,v,a8,bF,b0⟩
   ·omega
   ·exact .inr (.inr ⟨u,v,a8,by rw[he];exact bF,b0⟩)
  have cp:i=m∨e=m∨ ∃x y,l[i]? =some x∧l[e-1]? =some y∧lt y x=true:=by
   rcases de with de|⟨u,v,a8,bF,b0⟩
   ·omega
   ·exact .inr (.inr ⟨u,v,a8,by rw[he];exact bF,b0⟩)
  simp[lF];(with_reducible repeat' first|refine aj ?_|simp);rw[ha];exact al0 H bO (a:=a) (m:=m) (b:=b) (mid:=mid) (i:=i) (e:=e) (by simp) (by simp) (by simp) (by simp) (by simp) (by simp) (by simp) aw (by omega) (by omega) (by omega) ad (by omega) (by omega) (fun lk aJ=>ahC bE (by omega) (by omega) (by omega) (by omega) (by omega) (by omega) kC pD bL cp aJ) h0
end
theorem R7(H:e4 S n g cc lc b6 lt)(bE:qy lt)(d:Nat):∀(l:List α) (a m b:Nat),l.length=n→b-a≤d→a<m→m<b→b≤n→fa lt a m l→fa lt m b l→
  bU ao 232 [eS g cc lc b6,.int .i64 a,.int .i64 m,.int .i64 b] (S l) fun r ai=>r= .tuple []∧∃a1,ai=S a1∧gr a b l a1∧fa lt a b a1:=by
 induction d with
 |zero=>intro l a m b aw aQ Cd pB;omega
 |succ d bO=>
 intro l a m b aw aQ Cd pB ad kC pD;have ag:=H.ok l;have ay:∀l m,Pv.look (.loc m) (S l).b=none:=fun l=>(H.ok l).obj.1;have hu:∀l m cs,cB (.loc m) cs (S l).b=(S l).b++[(.loc m,cs)]:=fun l m cs=>j8 (ay l m);have ax:∀m,aI.loc m∉cX (S l):=j1 ag.obj;have hle:=H.le;refine bU.mk mixed Be acR ajr (by simp) ag.obj fun aO cL=>?_;unfold P9;simp[eS,hu,ax,cI,ay];(with_reducible repeat' first|((first|apply bP|apply bR|apply bQ)<;>intro h<;>try simp at h)|refine aj ?_|simp[hu,ax,cI,ay])
 ·obtain rfl:m=a+1:=by omega
  have Kt:∀k,hV a (a+1) (a+1) k=k:=by
   intro k;simp only[hV];repeat' split
   all_goals omega
  obtain⟨z,br⟩:∃z,l[a]? =some z:=⟨_,bZ (by omega)⟩;refine oz (fun(x:Nat×Nat)=>⟨[(1,.int .i64 a),(4,.ptr (.loc 0) 0),(8,.int .i64 x.1),(9,.int .i64 x.2)],(.loc 0,[.func g lc,.func cc b6])::(S l).b,(S l).e,1,cX (S l)⟩) (fun x=>x.2-x.1)
   (fun x=>a+1≤x.1∧x.1≤x.2∧x.2≤b∧(∀h y,a+1≤h→h<x.1→l[h]? =some y→lt y z=true)∧(∀h y,x.2≤h→h<b→l[h]? =some y→lt y z=false)) (a+1,b)
   (H.weak aw aw (by simp[aB]) (by simp[cI,ay]) aR aR) ⟨by simp,by simp;omega,by simp,fun h y J U=>by simp at U;omega,fun h y J U=>by simp at J;omega⟩ ?_
  rintro⟨i,j⟩ ⟨aU,bC,cf,eZ,de⟩ _;simp only at aU bC cf eZ de;have hw:=Ft i j (by omega);simp[Pv.look];(with_reducible repeat' first|((first|apply bP|apply bR|apply bQ)<;>intro h<;>try simp at h)|refine aj ?_|simp[Pv.look])
  ·obtain⟨c,au⟩:∃c,c=(i+j)/2:=⟨_,rfl⟩;rw[←au]at hw;obtain⟨y,aM⟩:∃y,l[c]? =some y:=⟨_,bZ (by omega)⟩;simp only[hw,H.slc];refine H.doLess aw c a aM br ?_;simp;cases rV:lt y z with
   |true=>
    simp;(with_reducible repeat' first|refine aj ?_|simp);refine bK.whl (c+1,j) (by simp;omega) ⟨by simp;omega,by simp;omega,cf,fun h u J U hu=>?_,de⟩ (H.weakC aw aw (by simp[aB]));cases e:lt u z with
    |true=>rfl
    |false=>simp only at U;have:=bE.ntr _ _ _ e (fa.le bE pD J (by omega) (by omega) hu aM);rw[rV]at this;cases this
   |false=>simp;(with_reducible repeat' first|refine aj ?_|simp);refine bK.whl (i,c) (by simp;omega) ⟨aU,by simp;omega,by simp;omega,eZ,fun h u J U hu=>?_⟩ (H.weakC aw aw (by simp[aB]));exact bE.ntr _ _ _ rV (fa.le bE pD (by omega) J U aM hu)
  ·obtain rfl:i=j:=by omega
   refine oz (fun(x:Nat×List α)=>⟨[(4,.ptr (.loc 0) 0),(8,.int .i64 i),(11,.int .i64 x.1)],(.loc 0,[.func g lc,.func cc b6])::(S x.2).b,(S x.2).e,1,cX (S l)⟩) (fun x=>i-x.1)
    (fun x=>x.2.length=n∧a≤x.1∧x.1<i∧gr a b l x.2∧∀k,x.2[k]? =l[hV a (a+1) (x.1+1) k]?) (a,l)
    (H.weakC aw aw (by simp[aB])) ⟨aw,by simp,by simp;omega,.refl _,fun k=>by simp[Kt]⟩ ?_
   rintro⟨k,lk⟩ ⟨a8,bF,b0,c0,da⟩ _;simp only at a8 bF b0 c0 da;simp[Pv.look];((with_reducible repeat' first|refine aj ?_|simp[Pv.look]|((first|apply bP|apply bR|apply bQ)<;>intro h<;>try simp at h))<;>(try exact cm))
   ·have bj:((k:Int)+1)=(k+1:Nat):=by omega
    rw[H.ssc,bj];refine H.doSwap a8 k (k+1) (by omega) (by omega) (by omega) ?_;simp;(with_reducible repeat' first|((first|apply bP|apply bR|apply bQ)<;>intro h<;>try simp at h)|refine aj ?_|simp);refine bK.whl (k+1,hf lk k (k+1)) (by simp;omega) ⟨by simp[a8],by simp;omega,by simp;omega,.step c0 (by omega) (by omega) (by omega) (by omega) (by omega) (by omega),fun t=>?_⟩ (H.weakC aw (by simp[a8]) (by simp[aB]));rw[Aq _ _ _ _ (by omega) (by omega),da,da,da];have:hV a (a+1) (k+1+1) t=if t=k then hV a (a+1) (k+1) (k+1)else if t=k+1 then hV a (a+1) (k+1) k else hV a (a+1) (k+1) t:=by
     simp only[hV];repeat' split
     all_goals omega
    rw[this];split
    ·rfl
    ·split<;>rfl
   ·obtain rfl:i=k+1:=by omega
    refine H.ret aw a8 (.inl rfl) ⟨rfl,lk,rfl,c0,ahs bE (by omega) cf (by omega) pD br eZ de da⟩
 ·obtain rfl:b=m+1:=by omega
  have Kt:∀k,hV m m (m+1) k=k:=by
   intro k;simp only[hV];repeat' split
   all_goals omega
  obtain⟨z,br⟩:∃z,l[m]? =some z:=⟨_,bZ (by omega)⟩;refine oz (fun(x:Nat×Nat)=>⟨[(2,.int .i64 m),(4,.ptr (.loc 0) 0),(12,.int .i64 x.1),(13,.int .i64 x.2)],(.loc 0,[.func g lc,.func cc b6])::(S l).b,(S l).e,1,cX (S l)⟩) (fun x=>x.2-x.1)
   (fun x=>a≤x.1∧x.1≤x.2∧x.2≤m∧(∀h y,a≤h→h<x.1→l[h]? =some y→lt z y=false)∧(∀h y,x.2≤h→h<m→l[h]? =some y→lt z y=true)) (a,m)
   (H.weak aw aw (by simp[aB]) (by simp[cI,ay]) aR aR) ⟨by simp,by simp;omega,by simp,fun h y J U=>by simp at U;omega,fun h y J U=>by simp at J;omega⟩ ?_
  rintro⟨i,j⟩ ⟨aU,bC,cf,eZ,de⟩ _;simp only at aU bC cf eZ de;have hw:=Ft i j (by omega);simp[Pv.look];(with_reducible repeat' first|((first|apply bP|apply bR|apply bQ)<;>intro h<;>try simp at h)|refine aj ?_|simp[Pv.look])
  ·obtain⟨c,au⟩:∃c,c=(i+j)/2:=⟨_,rfl⟩;rw[←au]at hw;obtain⟨y,aM⟩:∃y,l[c]? =some y:=⟨_,bZ (by omega)⟩;simp only[hw,H.slc];refine H.doLess aw m c br aM ?_;simp;cases rV:lt z y with
   |false=>simp;((with_reducible repeat' first|refine aj ?_|simp|((first|apply bP|apply bR|apply bQ)<;>intro h<;>try simp at h))<;>(try exact cm));refine bK.whl (c+1,j) (by simp;omega) ⟨by simp;omega,by simp;omega,cf,fun h u J U hu=>?_,de⟩ (H.weakC aw aw (by simp[aB]));simp only at U;exact bE.ntr _ _ _ (fa.le bE kC J (by omega) (by omega) hu aM) rV
   |true=>
    simp;((with_reducible repeat' first|refine aj ?_|simp|((first|apply bP|apply bR|apply bQ)<;>intro h<;>try simp at h))<;>(try exact cm));refine bK.whl (i,c) (by simp;omega) ⟨aU,by simp;omega,by simp;omega,eZ,fun h u J U hu=>?_⟩ (H.weakC aw aw (by simp[aB]));cases e:lt z u with
    |true=>rfl
    |false=>have:=bE.ntr _ _ _ (fa.le bE kC (by omega) J U aM hu) e;rw[rV]at this;cases this
  ·obtain rfl:i=j:=by omega
   refine oz (fun(x:Nat×List α)=>⟨[(4,.ptr (.loc 0) 0),(12,.int .i64 i),(15,.int .i64 x.1)],(.loc 0,[.func g lc,.func cc b6])::(S x.2).b,(S x.2).e,1,cX (S l)⟩) (fun x=>x.1)
    (fun x=>x.2.length=n∧i≤x.1∧x.1≤m∧gr a (m+1) l x.2∧∀k,x.2[k]? =l[hV x.1 m (m+1) k]?) (m,l)
    (H.weakC aw aw (by simp[aB])) ⟨aw,by simp;omega,by simp,.refl _,fun k=>by simp[Kt]⟩ ?_
   rintro⟨k,lk⟩ ⟨a8,bF,b0,c0,da⟩ _;simp only at a8 bF b0 c0 da;simp[Pv.look];((with_reducible repeat' first|refine aj ?_|simp[Pv.look]|((first|apply bP|apply bR|apply bQ)<;>intro h<;>try simp at h))<;>(try exact cm))
   ·have bj:((k:Int)-1)=(k-1:Nat):=by omega
    rw[H.ssc,bj];refine H.doSwap a8 k (k-1) (by omega) (by omega) (by omega) ?_;simp;(with_reducible repeat' first|refine aj ?_|simp);refine bK.whl (k-1,hf lk k (k-1)) (by simp;omega) ⟨by simp[a8],by simp;omega,by simp;omega,.step c0 (by omega) (by omega) (by omega) (by omega) (by omega) (by omega),fun t=>?_⟩ (H.weakC aw (by simp[a8]) (by simp[aB];omega));rw[Aq _ _ _ _ (by omega) (by omega),da,da,da];have:hV (k-1) m (m+1) t=if t=k then hV k m (m+1) (k-1)else if t=k-1 then hV k m (m+1) k else hV k m (m+1) t:=by
     simp only[hV];repeat' split
     all_goals omega
    rw[this];split
    ·rfl
    ·split<;>rfl
   ·obtain rfl:i=k:=by omega
    refine H.ret aw a8 (.inl rfl) ⟨rfl,lk,rfl,c0,aht bE (by omega) cf (by omega) kC br eZ de da⟩
 ·obtain⟨mid,Kf⟩:∃mid,mid=(a+b)/2:=⟨_,rfl⟩;have hw:=Ft a b (by omega);rw[←Kf]at hw;simp only[hw];(with_reducible repeat' first|((first|apply bP|apply bR|apply bQ)<;>intro h<;>try simp at h)|refine aj ?_|simp[hu,ax,cI,ay])
  ·exact W1 (s0:=mid+m-b) (r0:=mid) H (by simp[cI,ay]) aR bE bO (a:=a) (m:=m) (b:=b) (mid:=mid) (by simp) (by simp) (by simp) (by simp) (by simp) (by simp) (by simp;omega) (by simp) aw ⟨Cd,pB,Kf⟩ (by omega) ad aQ kC pD fun gT t o a8 bF=>H.ret aw (by rw[a8.length];exact aw) (.inr rfl) ⟨rfl,gT,rfl,a8,bF⟩
  ·exact W1 (s0:=a) (r0:=m) H (by simp[cI,ay]) aR bE bO (a:=a) (m:=m) (b:=b) (mid:=mid) (by simp) (by simp) (by simp) (by simp) (by simp) (by simp) (by simp) (by simp) aw ⟨Cd,pB,Kf⟩ (by omega) ad aQ kC pD fun gT t o a8 bF=>H.ret aw (by rw[a8.length];exact aw) (.inr rfl) ⟨rfl,gT,rfl,a8,bF⟩
end Go.Proofs.YtahlgcidhnjlbaaGreat
namespace Go.Proofs.YtahlgcidhnjlbaaGreat
open Go Go.Pv
variable {α:Type} {S:List α→cK} {n g cc:Nat} {lc b6:List ah} {lt:α→α→Bool}
def o9(lt:α→α→Bool)(z a b:Nat)(l:List α):Prop:= ∀i j x y,a≤i→i<j→j<b→i/z=j/z→l[i]? =some x→l[j]? =some y→lt y x=false
theorem o9.snoc{z q:Nat}(br:0<z){l a1:List α}(h:o9 lt z 0 (q*z) l){b:Nat}(ag:gr (q*z) b l a1)(U:fa lt (q*z) b a1):o9 lt z 0 b a1:=by
 intro i j x y hi lF ae aQ af aM;by_cases SJ:j<q*z
 ·rw[ag.out _ (.inl (by omega))]at af;rw[ag.out _ (.inl SJ)]at aM;exact h i j x y hi lF SJ aQ af aM
 ·have ar:q≤j/z:=(Nat.le_div_iff_mul_le br).2 (by omega);have ba:q*z≤i:=(Nat.le_div_iff_mul_le br).1 (by omega);exact U i j x y ba lF ae af aM
theorem o9.srt{z q:Nat}(br:0<z){l:List α}{a b:Nat}(h:o9 lt z a b l){c:Nat}(apL:a≤q*z)(au:c≤(q+1)*z)(apN:c≤b):fa lt (q*z) c l:=by intro i j x y hi lF ae af aM;have hC:i/z=q:=Nat.div_eq_of_lt_le hi (by omega);have ky:j/z=q:=Nat.div_eq_of_lt_le (by omega) (by omega);exact h i j x y (by omega) lF (by omega) (by omega) af aM
theorem o9.after{z a b bp b5:Nat}{l a1:List α}(h:o9 lt z a b l)(ag:gr a bp l a1)(bz:a≤bp)(ad:b5≤b):o9 lt z bp b5 a1:=by intro i j x y hi lF ae aQ af aM;rw[ag.out _ (.inr (by omega))]at af;rw[ag.out _ (.inr (by omega))]at aM;exact h i j x y (by omega) lF (by omega) aQ af aM
theorem JK(H:e4 S n g cc lc b6 lt)(bE:qy lt)(l:List α)(aw:l.length=n):
  bU ao 199 [eS g cc lc b6,.int .i64 n] (S l) fun r ai=>r= .tuple []∧∃a1,ai=S a1∧gr 0 n l a1∧fa lt 0 n a1:=by
 have ag:=H.ok l;have ay:∀l m,Pv.look (.loc m) (S l).b=none:=fun l=>(H.ok l).obj.1;have hu:∀l m cs,cB (.loc m) cs (S l).b=(S l).b++[(.loc m,cs)]:=fun l m cs=>j8 (ay l m);have ax:∀m,aI.loc m∉cX (S l):=j1 ag.obj;have hle:=H.le;refine bU.mk mixed Be acP ajp (by simp) ag.obj fun aO cL=>?_;unfold P7;simp[eS,hu,ax,cI,ay];refine oz (fun(x:Nat×List α)=>⟨[(1,.int .i64 n),(2,.ptr (.loc 0) 0),(4,.int .i64 20),(5,.int .i64 (x.1*20)),(6,.int .i64 (x.1*20+20))],(.loc 0,[.func g lc,.func cc b6])::(S x.2).b,(S x.2).e,1,cX (S l)⟩) (fun x=>n+20-x.1*20)
  (fun x=>x.2.length=n∧x.1*20≤n∧gr 0 n l x.2∧o9 lt 20 0 (x.1*20) x.2) (0,l)
  (H.weak aw aw (by simp[aB]) (by simp[cI,ay]) aR aR) ⟨aw,by simp,.refl _,fun i j x y J U ar=>by simp at ar⟩ ?_
 rintro⟨q,lk⟩ ⟨J,U,ar,ba⟩ _;simp only at J U ar ba;simp[Pv.look];((with_reducible repeat' first|refine aj ?_|simp[Pv.look]|((first|apply bP|apply bR|apply bQ)<;>intro h<;>try simp at h))<;>(try exact cm))
 ·have ak:((q:Int)*20)=(q*20:Nat):=by omega
  have aE:((q:Int)*20+20)=(q*20+20:Nat):=by omega
  simp only[iq H,H.slc,H.ssc,ia,aE];simp only[ak];refine H.doFn J (RY H bE lk J (q*20) (q*20+20) (by omega) (by omega)) (fun a1 h=>by rw[h.1.length];exact J) (by simp[aH,aB,H.kdata J]) ?_;rintro a1 ⟨cP,dt⟩;have sX:a1.length=n:=by rw[cP.length];exact J
  simp;((with_reducible repeat' first|refine aj ?_|simp|((first|apply bP|apply bR|apply bQ)<;>intro h<;>try simp at h))<;>(try exact cm));refine bK.whl (q+1,a1) (by simp;omega) ⟨sX,by simp;omega,ar.trans (cP.mono (by omega) (by omega)),?_⟩ (H.weakC aw sX (by simp[aB];omega));have:=ba.snoc (by omega) cP dt;rwa[show q*20+20=(q+1)*20 by omega]at this
 ·have ak:((q:Int)*20)=(q*20:Nat):=by omega
  simp only[iq H,H.slc,H.ssc,ia,ak];refine H.doFn J (RY H bE lk J (q*20) n (by omega) (by omega)) (fun a1 h=>by rw[h.1.length];exact J) (by simp[aH,aB,H.kdata J]) ?_;rintro a1 ⟨cP,dt⟩;have sX:a1.length=n:=by rw[cP.length];exact J
  have fb:=ba.snoc (by omega) cP dt;simp;refine oz (fun(x:Nat×List α)=>⟨[(1,.int .i64 n),(2,.ptr (.loc 0) 0),(4,.int .i64 x.1)],(.loc 0,[.func g lc,.func cc b6])::(S x.2).b,(S x.2).e,1,cX (S l)⟩) (fun x=>1099511627776-x.1)
   (fun x=>x.2.length=n∧20≤x.1∧x.1≤2*n+20∧gr 0 n l x.2∧o9 lt x.1 0 n x.2) (20,a1)
   (H.weakC aw sX (by simp[aB])) ⟨sX,by simp,by simp,ar.trans (cP.mono (by omega) (by omega)),fb⟩ ?_
  rintro⟨z,UA⟩ ⟨k4,z2,z3,z4,z5⟩ _;simp only at k4 z2 z3 z4 z5;simp[Pv.look];((with_reducible repeat' first|refine aj ?_|simp[Pv.look]|((first|apply bP|apply bR|apply bQ)<;>intro h<;>try simp at h))<;>(try exact cm))
  ·refine oz (fun(x:Nat×List α)=>⟨[(1,.int .i64 n),(2,.ptr (.loc 0) 0),(4,.int .i64 z),(5,.int .i64 (x.1*(2*z):Nat)),(6,.int .i64 (x.1*(2*z)+2*z:Nat))],(.loc 0,[.func g lc,.func cc b6])::(S x.2).b,(S x.2).e,1,cX (S l)⟩) (fun x=>n+2*z-x.1*(2*z))
    (fun x=>x.2.length=n∧x.1*(2*z)≤n∧gr 0 n l x.2∧o9 lt (2*z) 0 (x.1*(2*z)) x.2∧o9 lt z (x.1*(2*z)) n x.2) (0,UA)
    (H.weakC aw k4 (by simp[aB])) ⟨k4,by simp,z4,fun i j x y J U ar=>by simp at ar,by simpa using z5⟩ ?_
   rintro⟨p,C4⟩ ⟨eg,dv,nE,mP,Eb⟩ _;simp only at eg dv nE mP Eb;obtain⟨A,bk⟩:∃A,A=p*(2*z):=⟨_,rfl⟩;have Fo:A=(2*p)*z:=by rw[bk,Nat.mul_comm 2 p,Nat.mul_assoc]
   have JP:(2*p+1)*z=A+z:=by rw[o8,←Fo,Nat.one_mul]
   have aev:(2*p+2)*z=A+2*z:=by rw[o8,←Fo]
   have zB:(p+1)*(2*z)=A+2*z:=by rw[o8,←bk,Nat.one_mul]
   have kC:∀c,c≤A+z→c≤n→fa lt A c C4:=fun c au zI=>by have:=o9.srt (q:=2*p) (by omega) Eb (c:=c) (by rw[←Fo,bk];omega) (by rw[JP];exact au) zI;rwa[←Fo]at this
   have pD:∀c,c≤A+2*z→c≤n→fa lt (A+z) c C4:=fun c au zI=>by have:=o9.srt (q:=2*p+1) (by omega) Eb (c:=c) (by rw[JP,bk];omega) (by rw[aev];exact au) zI;rwa[JP]at this
   rw[←bk]at dv mP Eb;simp only[←bk];simp[Pv.look];((with_reducible repeat' first|refine aj ?_|simp[Pv.look]|((first|apply bP|apply bR|apply bQ)<;>intro h<;>try simp at h))<;>(try exact cm))
   ·have bj:((A:Int)+z)=(A+z:Nat):=by omega
    have c2:((A:Int)+2*z)=(A+2*z:Nat):=by omega
    simp only[iq H,H.slc,H.ssc,ia,bj,c2];refine H.doFn eg (R7 H bE (A+2*z-A) C4 A (A+z) (A+2*z) eg (by omega) (by omega) (by omega) (by omega) (kC _ (by omega) (by omega)) (pD _ (by omega) (by omega))) (fun a1 h=>by rw[h.1.length];exact eg) (by simp[aH,aB,H.kdata eg]) ?_;rintro gT ⟨kN,o3⟩;have nS:gT.length=n:=by rw[kN.length];exact eg
    simp;(with_reducible repeat' first|refine aj ?_|simp);refine bK.whl (p+1,gT) (by simp only[zB,←bk];omega) ⟨nS,by simp only[zB];omega,nE.trans (kN.mono (by omega) (by omega)),?_,?_⟩ ?_
    ·simp only[zB];rw[bk]at mP kN o3;have:=mP.snoc (by omega) kN o3;rwa[←bk]at this
    ·simp only[zB];exact Eb.after kN (by omega) (by omega)
    ·simp only[zB];have aew:((p:Int)+1)*(2*(z:Int))=(A:Int)+2*z:=by have h:=eB (Nat.cast:Nat→Int) zB;push_cast at h;exact h
     exact H.weakC aw nS (by simp[aB,aew])
   ·have bj:((A:Int)+z)=(A+z:Nat):=by omega
    simp only[iq H,H.slc,H.ssc,ia,bj];refine H.doFn eg (R7 H bE (n-A) C4 A (A+z) n eg (by omega) (by omega) (by omega) (by omega) (kC _ (by omega) (by omega)) (pD _ (by omega) (by omega))) (fun a1 h=>by rw[h.1.length];exact eg) (by simp[aH,aB,H.kdata eg]) ?_;rintro gT ⟨kN,o3⟩;have nS:gT.length=n:=by rw[kN.length];exact eg
    simp;((with_reducible repeat' first|refine aj ?_|simp|((first|apply bP|apply bR|apply bQ)<;>intro h<;>try simp at h))<;>(try exact cm));refine bK.whl (2*z,gT) (by simp;omega) ⟨nS,by simp;omega,by simp;omega,nE.trans (kN.mono (by omega) (by omega)),?_⟩ (H.weakC aw nS (by simp[aB];omega));rw[bk]at mP kN o3;exact mP.snoc (by omega) kN o3
   ·refine bK.whl (2*z,C4) (by simp;omega) ⟨eg,by simp;omega,by simp;omega,nE,?_⟩ (H.weakC aw eg (by simp[aB];omega));have b4:=kC n (by omega) (by omega);rw[bk]at mP b4;exact mP.snoc (by omega) (.refl _) b4
  ·refine H.ret aw k4 (.inr rfl) ?_;refine⟨rfl,UA,rfl,z4,fun i j x y J U ar=>z5 i j x y J U ar ?_⟩;rw[Nat.div_eq_of_lt (by omega),Nat.div_eq_of_lt (by omega)]
end Go.Proofs.YtahlgcidhnjlbaaGreat
namespace Go.Proofs.YtahlgcidhnjlbaaGreat
open Go Go.Pv Go.Sort Go.RowKit
theorem afF{w:World}{base:Nat}{e:fZ}{sz:Nat}{v:Value}{n:Nat}{us:List Value}(h:w.ownsRow base e sz v n us)(aF:v≠ .slice none 0 0):
  ∃g cap,v= .slice (some ⟨g,0,none⟩) n cap∧g<w.heap.size∧cap≤maxLen∧n≤cap∧us.length=n*sz∧Holds id w g 0 us.toArray:=by
 rcases h.2 with⟨fo,_⟩|⟨g,cap,cur,rfl,ad,a7,ay,hm,ag,aK⟩
 ·exact absurd fo aF
 ·have bE:g<w.heap.size:=by
   rcases Nat.lt_or_ge g w.heap.size with cb|cb
   ·exact cb
   ·rw[Array.getElem?_eq_none cb]at a7;cases a7
  refine⟨g,cap,rfl,bE,hm,ay,h.1,fun j ae=>?_⟩;have js:j<us.length:=by simpa using ae
  have aw:=h.1;refine⟨?_,by simp[World.frozen?,a7]⟩;have ak:(cur.toList.take (n*sz))[j]? =us[j]?:=by rw[aK]
  rw[List.getElem?_take,if_pos (by omega),tL,bZ js]at ak;simp only[World.cell?,a7,Nat.zero_add];simp only[ml,gX,if_false];rw[ak];simp[getElem!_pos,js]
theorem aj6{w:World}{base:Nat}{e:fZ}{sz g n cap q:Nat}{us:List Value}{F:Array Value}(h:w.ownsRow base e sz (.slice (some ⟨g,0,none⟩) n cap) n us)(gK:F.size=n*sz):
  (putRow id (Sort.ahead w q) g 0 F).ownsRow base e sz (.slice (some ⟨g,0,none⟩) n cap) n F.toList:=by
 rcases h.2 with⟨fo,_⟩|⟨eI,EW,cur,fo,ad,a7,ay,hm,ag,aK⟩
 ·cases fo
 ·injection fo with ak _ bj;injection ak with ak;injection ak with ak;subst ak;subst bj;refine⟨by simpa using gK,.inr ⟨g,cap,putCells id 0 F cur,rfl,ad,?_,ay,hm,by simpa[putCells]using ag,?_⟩⟩
  ·simp[putRow,mapBlock,Sort.ahead,Array.getElem?_modify,a7,onCells]
  ·have hle:n*sz≤cur.size:=by rw[ag];exact qv _ ay
   apply List.ext_getElem?;intro j;rw[List.getElem?_take,tL,tL];by_cases ae:j<n*sz
   ·have afa:j<cur.size:=by omega
    simp only[if_pos ae,putCells,Array.getElem?_mapIdx,Array.getElem?_eq_getElem afa,oh];rw[if_pos (by omega)];simp[getElem!_pos,show j<F.size by omega]
   ·simp[ae];omega
end Go.Proofs.YtahlgcidhnjlbaaGreat
namespace Go.Pv
open Go Go.RowKit Go.Lib Go.Sort Go.Proofs.YtahlgcidhnjlbaaGreat
theorem T4{S:aI→Prop}:∀{l:List ah},aH S l↔∀x∈l,aB S x
 |[]=>by simp[aH]
 |x::r=>by simp only[aH,T4 (l:=r),fR,forall_eq_or_imp]
theorem TW{α:Type}{s:cK}{l:List (aI×α)}:mc s l↔∀k,(look k l).isSome→inObs s k:=by
 refine⟨fun h k ab=>Aj h k ab,fun h=>?_⟩;have:∀a1:List (aI×α),(∀x∈a1,inObs s x.1)→mc s a1:=by
  intro a1;induction a1 with
  |nil=>intro _;trivial
  |cons x r bO=>obtain⟨k,x⟩:=x;exact fun h=>⟨h (k,x) (by simp),bO fun y aM=>h y (by simp[aM])⟩
 exact this l fun x af=>h x.1 (uW (x:=x.2) af)
theorem MD{w:World}{ν:bf}{sz:Nat}:∀{xs:List ah} {us:List Value} {i:Nat} {p:ah},dB w ν sz xs us→xs[i]? =some p→∃u,(us.drop (i*sz)).take sz=u.cells.toList∧bc w ν p u∧u.cells.size=sz∧∀c∈u.cells.toList,c.oneCell'=true
 |[],_,_,_,_,bG=>by simp at bG
 |x::xs,us,0,p,h,bG=>by simp only[dB]at h;obtain⟨u,cn,rfl,⟨J,U,ar⟩,_⟩:=h;simp at bG;subst bG;refine⟨u,?_,J,U,ar⟩;simp only[Nat.zero_mul,List.drop_zero];rw[List.take_append_of_le_length (by simp[U])];exact hG (by simp[U])
 |x::xs,us,i+1,p,h,bG=>by simp only[dB]at h;obtain⟨u,cn,rfl,⟨J,U,ar⟩,b4⟩:=h;obtain⟨v,ak,aE⟩:=MD (i:=i) b4 (by simpa using bG);refine⟨v,?_,aE⟩;rw[←ak,Nat.succ_mul,Nat.add_comm,←List.drop_drop];congr 2;rw[List.drop_append_of_le_length (by simp[U]),List.drop_of_length_le (by simp[U])];rfl
theorem MT:∀(aV:List Value) (s:Nat) (F:Array Value),s+aV.length≤F.size→(setMany F s aV).toList=F.toList.take s++aV++F.toList.drop (s+aV.length)
 |[],s,F,h=>by simp[setMany]
 |v::r,s,F,h=>by
  simp only[o6]at h;rw[setMany,MT r (s+1) _ (by simp;omega)];have bE:s<F.toList.length:=by simp;omega
  have ak:(F.setIfInBounds s v).toList=F.toList.set s v:=by simp
  rw[ak];have aE:(F.toList.set s v).take (s+1)=F.toList.take s++[v]:=by rw[List.take_succ,List.getElem?_set_self bE,List.take_set_of_le (eR _)];simp
  have bj:(F.toList.set s v).drop (s+1+r.length)=F.toList.drop (s+(v::r).length):=by rw[List.drop_set_of_lt (by omega)];congr 1;simp;omega
  rw[aE,bj];simp
theorem YX(w:World):Sort.ahead w 0=w:=by simp[Sort.ahead]
theorem R6{P:cE}(xF:Bool)(cc:Nat)(af:∀args W,(callFunc cc args).run P W=((Eh xF args).run P W).andThen fun v w'=>.ok (.value v) w')(e:fZ)(er:TypeInfo)(sV:P.info? e=some er)(xJ:(∀w,(Go.isAgg e).run P w= .ok true w)∨(er.size=1∧∀w,(Go.isAgg e).run P w= .ok false w)){s:cK}(ag:eh s){K n el sz:Nat}(ee:er.size=sz){xs:List ah}(ab:look (.obj K) s.e=some ⟨n,el,sz,some xs⟩)
  (i j:Nat) (hi:i<n) (ae:j<n):bU P cc [.int .i64 i,.int .i64 j,.row sz (.obj K) n,.cst (typeHandle P e)] s fun r ai=>r= .tuple []∧ai=⟨s.b,cB (.obj K) ⟨n,el,sz,some (hf xs i j)⟩ s.e⟩:=by
 subst ee;refine bU.sem ag.obj fun w ν aV kX aJ=>?_;right;have s0:=aJ.slot 0;have s1:=aJ.slot 1;have s2:=aJ.slot 2;have s3:=aJ.slot 3;simp[kn,get,bc]at s0 s1 s2 s3;obtain⟨v,us,a8,bF,b0,c0⟩:=aJ.good.own (.obj K) _ ab;obtain⟨da,nZ,u5⟩:=c0 _ rfl;simp only at da nZ a8 bF;obtain⟨⟨g0,Zv,vO⟩,_,n',e8,ak,aE,bj⟩:=s2;rw[a8]at ak;simp only[dL,jy]at ak;obtain⟨rfl,rfl⟩:=ak;have aF:=bj rfl;have cF:v≠ .slice none 0 0:=by rw[←aF,vO];simp
 obtain⟨g,cap,rfl,qR,rM,ae2,Cl,B8⟩:=afF bF cF;have af5:aV= #[.int .i64 i,.int .i64 j,.slice (some ⟨g,0,none⟩) n cap,typeHandle P e]:=by
  have J:aV.size=4:=by simpa using kX
  apply Array.ext (by simpa using J);intro t U ar;simp at ar;rcases(by omega:t=0∨t=1∨t=2∨t=3)with rfl|rfl|rfl|rfl
  ·simpa[Array.getD,J]using s0
  ·simpa[Array.getD,J]using s1
  ·simpa[Array.getD,J]using aF
  ·simpa[Array.getD,J]using s3
 subst af5;obtain⟨p,bG⟩:∃p,xs[i]? =some p:=⟨_,bZ (by omega)⟩;obtain⟨q,bo⟩:∃q,xs[j]? =some q:=⟨_,bZ (by omega)⟩;obtain⟨u,iU,jx,qm,yV⟩:=MD nZ bG;obtain⟨x,sp,yZ,sq,HT⟩:=MD nZ bo;have FH:i*er.size+er.size≤n*er.size:=by have:=qv er.size (show i+1≤n from hi);rwa[o8,Nat.one_mul]at this
 have SV:j*er.size+er.size≤n*er.size:=by have:=qv er.size (show j+1≤n from ae);rwa[o8,Nat.one_mul]at this
 have cell:∀t v,us[t]? =some v→w.cell? ⟨g,t,none⟩=some v:=fun t v aK=>by obtain⟨J,U⟩:=e1.1 aK;have:=(B8 t (by simpa using J)).1;simp at this;rw[this];simp[getElem!_pos,J,U]
 have Fh:∀t,t<n*er.size→w.frozen? ⟨g,t,none⟩=false:=fun t aK=>by have:=(B8 t (by simpa[Cl]using aK)).2;simpa using this
 have run:(Eh xF #[.int .i64 i,.int .i64 j,.slice (some ⟨g,0,none⟩) n cap,typeHandle P e]).run P w= .ok (.tuple #[]) ((w.setCells g (0+i*er.size) x.cells.toList).setCells g (0+j*er.size) u.cells.toList):=by
  rcases xJ with xJ|⟨Fl,xJ⟩
  ·exact run_swap_cells (P:=P) xF e er sV xJ g 0 n cap i j hi ae u.cells.toList x.cells.toList (by simp[qm]) (by simp[sq]) yV HT w
     (fun k v aF=>by
      rw[←iU,List.getElem?_take]at aF;split at aF
      ·rw[List.getElem?_drop]at aF;simpa using cell _ _ aF
      ·cases aF)
     (fun k v aF=>by
      rw[←sp,List.getElem?_take]at aF;split at aF
      ·rw[List.getElem?_drop]at aF;simpa using cell _ _ aF
      ·cases aF)
     (fun k ab=>by simpa using Fh (i*er.size+k) (by omega)) (fun k ab=>by simpa using Fh (j*er.size+k) (by omega))
  ·rw[Fl]at iU qm sp sq⊢;obtain⟨E1,JZ⟩:∃c,u.cells.toList=[c]:=List.length_eq_one_iff.1 (by simpa using qm);obtain⟨pj,lE⟩:∃c,x.cells.toList=[c]:=List.length_eq_one_iff.1 (by simpa using sq);rw[JZ]at iU yV⊢;rw[lE]at sp HT⊢;simp only[World.setCells,Nat.mul_one]at iU sp⊢;have R9:us[i]? =some E1:=by have:=eB (·[0]?) iU;simpa using this
   have Sb:us[j]? =some pj:=by have:=eB (·[0]?) sp;simpa using this
   have:=run_swap_one (P:=P) xF e er sV Fl xJ g 0 n cap i j hi ae E1 pj (yV E1 (by simp)) (HT pj (by simp)) w (by simpa using cell i E1 R9) (by simpa using cell j pj Sb) (by simpa using Fh i (by rw[Fl];omega)) (by simpa using Fh j (by rw[Fl];omega));simpa using this
 have af7:putRow id w g 0 us.toArray=w:=putRow_self id w g 0 _ B8;have afX:us.toArray.size=n*er.size:=by simpa using Cl
 have FX:w.setCells g (0+i*er.size) x.cells.toList=putRow id w g 0 (setMany us.toArray (i*er.size) x.cells.toList):=by have J:=setCells_putRow w g 0 x.cells.toList (i*er.size) us.toArray (by simp[sq,Cl];exact FH);rw[af7]at J;exact J
 obtain⟨h7,nb⟩:∃h7,h7=setMany us.toArray (i*er.size) x.cells.toList:=⟨_,rfl⟩;have aeA:h7.toList=us.take (i*er.size)++x.cells.toList++us.drop (i*er.size+er.size):=by rw[nb,MT _ _ _ (by simp[sq,Cl];exact FH)];simp[sq]
 have JT:h7.size=n*er.size:=by rw[nb,size_setMany];exact afX
 have oJ:(w.setCells g (0+i*er.size) x.cells.toList).setCells g (0+j*er.size) u.cells.toList=putRow id w g 0 (setMany h7 (j*er.size) u.cells.toList):=by rw[FX,←nb,setCells_putRow w g 0 u.cells.toList (j*er.size) h7 (by simp[qm,JT];exact SV)]
 obtain⟨ir,B7⟩:∃ir,ir=setMany h7 (j*er.size) u.cells.toList:=⟨_,rfl⟩;have aeB:ir.toList=h7.toList.take (j*er.size)++u.cells.toList++h7.toList.drop (j*er.size+er.size):=by rw[B7,MT _ _ _ (by simp[qm,JT];exact SV)];simp[qm]
 have aeC:ir.size=n*er.size:=by rw[B7,size_setMany];exact JT
 have dM:=Hf nZ bG yZ sq HT;rw[←aeA]at dM;have ff:=Hf (i:=j) (q:=q) dM (by rw[List.getElem?_set];split;(rename_i e;subst e;rw[if_pos (by omega)]);exact bo) jx qm yV;rw[←aeB]at ff;have CI:(xs.set i q).set j p=hf xs i j:=by simp[hf,bG,bo]
 rw[CI]at ff;have hlen:(hf xs i j).length=n:=by simpa using da
 have lH:=aj6 (q:=0) (F:=ir) bF aeC;rw[YX]at lH;obtain⟨kN,o3,_⟩:=aJ.setRowM (w':=putRow id w g 0 ir) ab rfl a8 (bl:=g) rfl (v':= .slice (some ⟨g,0,none⟩) n cap) rfl (xs':=hf xs i j) (us:=ir.toList) (.inl ⟨hlen,rfl⟩) rfl rfl rfl
  (fun t aK=>by simp[putRow,mapBlock,Array.getElem?_modify,k6 aK]) (by simp[putRow,mapBlock]) (by rw[hlen];exact lH) ff
 refine⟨.tuple #[],putRow id w g 0 ir,?_,?_⟩
 ·rw[af,run,oJ,←B7];rfl
 ·have jr:∀k,inObs ⟨s.b,cB (.obj K) ⟨n,el,er.size,some (hf xs i j)⟩ s.e⟩ k↔inObs s k:=fun k=>by
   unfold inObs;simp only[iP];by_cases c3:aI.obj K=k
   ·subst c3;simp[ab]
   ·simp[c3]
  refine⟨_,_,_,_,.tuple [],⟨s.b,cB (.obj K) ⟨n,el,er.size,some (hf xs i j)⟩ s.e⟩,rfl,kN,by simp[bc,cQ],TW.2 fun k nR=>(jr k).2 (.inl nR),TW.2 fun k nR=>(jr k).2 (.inr nR),fun k cs au=>⟨au,(jr k).2 (.inl (by simp at au;simp[au])),jZ (fun k h=>(jr k).2 h) _ (ag.kb k cs au)⟩,fun k o ax=>⟨by simpa[hlen]using ax,?_,fun ys aM=>?_⟩,⟨ag.obj.1,fun m=>?_⟩,by simp[aB,aH],rfl,rfl⟩
  ·exact(.inr (by simp at ax;simp[ax]))
  ·simp only[iP]at ax;split at ax
   ·cases ax;simp only[dL]at aM;subst aM;have SO:=ag.ke _ _ ab xs rfl;refine jZ (fun k h=>(jr k).2 h) _ ?_;rw[T4]at SO⊢;exact fun z br=>SO z ((Uz xs i j).mem_iff.1 br)
   ·exact jZ (fun k h=>(jr k).2 h) _ (ag.ke k o ax ys aM)
  ·simp only[iP];simp[ag.obj.2 m]
theorem R5{P:cE}(xF:Bool)(cc:Nat)(af:∀args W,(callFunc cc args).run P W=((Eh xF args).run P W).andThen fun v w'=>.ok (.value v) w')(e:fZ)(er:TypeInfo)(sV:P.info? e=some er)(xJ:∀w,(Go.isAgg e).run P w= .ok true w){s:cK}(ag:eh s){K n el sz:Nat}(ee:er.size=sz){xs:List ah}(ab:look (.obj K) s.e=some ⟨n,el,sz,some xs⟩)
  (i j:Nat) (hi:i<n) (ae:j<n):bU P cc [.int .i64 i,.int .i64 j,.row sz (.obj K) n,.cst (typeHandle P e)] s fun r ai=>r= .tuple []∧ai=⟨s.b,cB (.obj K) ⟨n,el,sz,some (hf xs i j)⟩ s.e⟩:=R6 xF cc af e er sV (.inl xJ) ag ee ab i j hi ae
end Go.Pv
namespace Go.Proofs.YtahlgcidhnjlbaaGreat
open Go Go.RowKit Go.Lib Go.Sort Go.Pv
set_option maxRecDepth 100000 in
theorem alT(t e:fZ)(i er:TypeInfo)(hi:ao.info? t=some i)(aQ:i.desc= .slice e)(Cz:ao.packed t=false)(sV:ao.info? e=some er)(ke:Nat)(uE:∀w,(Ys e).run ao w= .ok ke w)
  (p:aZ Addr) (n c:Nat) (ay:n<4611686018427387904) (f:Nat) (aL:ao.funcs.findIdx? (·.name== "internal/reflectlite" ++ ".Swapper$" ++toString (swapperK n er ke))=some f) (Uv:Fn) (K4 q0:Array Value) (w:World) (R:World→Prop)
  (bG:Calls ao 199 #[.agg #[.func Uv K4 q0,.func (.func f) #[] (sliceBound ao e er ke p n c)],.int .i64 n] ((w.alloc (.cells #[.slice p n c] t)).alloc (.cells #[typeHandle ao t,.pointer (some ⟨w.heap.size,0,none⟩),.int .u64 151] 179)) fun e w'=>e= .returned (.tuple #[])∧R w'):
  Calls ao 140 #[.iface t (.slice p n c),.func Uv K4 q0] w fun e w'=>e= .returned (.tuple #[])∧R w':=by
 have aF:=run_valueOf_slice (P:=ao) t e i hi aQ p n c w;have ag:=fun w=>run_swapper_slice (P:=ao) t e i er hi aQ sV ke uE p n c f aL w;have aw:=fun a w bz=>run_valueLen_slice (P:=ao) t e i hi aQ Cz a p n c w bz;unfold sliceBound at bG;generalize (if swapperK n er ke≤2 then(#[]:Array Value)else #[.slice p n c,typeHandle ao e])=B at ag bG;have ae5:ao.globals.size=0:=by kernel_rfl
 simp only[typeHandle,ae5]at aF aw bG;have E4:∀args w,(callFunc 199 args).run ao w= .ok (.enter 199 args) w:=enters_of Tryz.func199 (by kernel_rfl) rfl;go_enter Tryz.func140,Tryz.ntmps140;go_wp2;rw[run_callFunc_extern Tryz.func197 (by kernel_rfl) (by kernel_rfl) (by kernel_rfl) (e:=fun args=>aoj (args.getD 0 (.tuple #[]))) (by kernel_rfl),
  show Sem.run ao ((fun args:Array Value=>aoj (args.getD 0 (.tuple #[]))) #[.iface t (.slice p n c)]) w=_ from aF]
 simp only[Result.andThen];rw[Oper.upon_value];go_wp2;rw[run_callFunc_extern Tryz.func198 (by kernel_rfl) (by kernel_rfl) (by kernel_rfl) (e:=atH "internal/reflectlite" (aok "Swapper")) (by kernel_rfl),ag];simp only[Result.andThen];rw[Oper.upon_value];go_wp2;rw[run_callFunc_extern Tryz.func200 (by kernel_rfl) (by kernel_rfl) (by kernel_rfl) (e:=atJ (aok "reflectlite.Value.Len" 0) atI) (by kernel_rfl),
  aw _ _ (by simp)]
 simp only[Result.andThen];rw[Oper.upon_value];go_wp2_with (go_at_fn 199;refine bG.mono ?_;rintro e w' ⟨rfl,bd⟩);go_end0;exact⟨rfl,bd⟩
theorem _root_.Go.Pv.Good.prMono{pr Dz:Nat→Prop}{w:World}{ν:bf}{b:List (aI×List ah)}{e:List (aI×fN)}(h:Pv.Good pr w ν b e)(bG:∀bl,pr bl→fx ν ⟨b,e⟩ bl→Dz bl):Pv.Good Dz w ν b e:=by
 refine⟨h.alt,fun k cs ab=>?_,h.inj,fun g o a7=>?_,h.oinj,h.obx,h.one,h.otr⟩
 ·obtain⟨bl,us,el,f1,f2,f3⟩:=h.box k cs ab;exact⟨bl,us,el,f1,bG bl f2 (.inl ⟨k,by simp[ab],f1⟩),f3⟩
 ·obtain⟨v,us,f1,f2,f3,f4⟩:=h.own g o a7;exact⟨v,us,f1,f2,fun bl ad=>⟨bG bl (f3 bl ad).1 (.inr ⟨g,o.n,v,by simp[a7],f1,ad⟩),(f3 bl ad).2⟩,f4⟩
theorem Sc(w:World)(gU gM:Obj):w.grownBy ((w.alloc gU).alloc gM) none:=by
 have J:w.heap.size≤(w.alloc gU).heap.size:=by simp
 have U:(w.alloc gU).heap.size≤((w.alloc gU).alloc gM).heap.size:=by simp
 exact⟨rfl,rfl,rfl,jT J U,fun k ab _=>(Below.heap_alloc _ gM k (Nat.lt_of_lt_of_le ab J)).trans (Below.heap_alloc w gU k ab)⟩
def dV{α:Type}(e:α→ah)(K B el sz:Nat)(l:List α):cK:=⟨[(.obj B,[.row sz (.obj K) l.length])],[(.obj K,⟨l.length,el,sz,some (l.map e)⟩)]⟩
section
variable {α:Type} {e:α→ah} (he:∀S x,aB S (e x)) {K B el sz:Nat}
include he
theorem agU(S:aI→Prop)(l:List α):aH S (l.map e):=by
 induction l with
 |nil=>simp[aH]
 |cons x r bO=>simp only[gO,aH];exact⟨he S x,bO⟩
theorem xi(l:List α):eh (dV e K B el sz l):=by unfold dV;refine eh.of ⟨by intro m;simp[Pv.look],by intro m;simp[Pv.look]⟩ (by simp[aH,aB,inObs,Pv.look]) ?_;intro x af xs ij;simp at af;subst af;simp at ij;subst ij;exact agU he _ l
omit he in
theorem xj(l a1:List α):Same (dV e K B el sz l) (dV e K B el sz a1):=by
 refine⟨fun k=>?_,fun k=>?_⟩
 ·simp only[dV,Pv.look];split<;>rfl
 ·simp only[dV,Pv.look];split<;>rfl
theorem adQ(t:fZ)(i er:TypeInfo)(hi:ao.info? t=some i)(aQ:i.desc= .slice el)(Cz:ao.packed t=false)(sV:ao.info? el=some er)(ke:Nat)(uE:∀w,(Ys el).run ao w= .ok ke w)(sO:∀n,2≤n→swapperK n er ke=9)
  (g:Nat) (lt:α→α→Bool) (bE:qy lt) (l:List α) (aw:l.length≤68719476736)
  (xW:∀a1:List α,a1.length=l.length→∀(i j:Nat) x y,a1[i]? =some x→a1[j]? =some y→bU ao g [.int .i64 i,.int .i64 j,.ptr (.obj B) 0] (dV e K B el sz a1) fun r ai=>r= .bool (lt x y)∧ai=dV e K B el sz a1)
  (z7:∀a1:List α,a1.length=l.length→∀i j:Nat,i<l.length→j<l.length→bU ao 230 [.int .i64 i,.int .i64 j,.row sz (.obj K) l.length,.cst (typeHandle ao el)] (dV e K B el sz a1) fun r ai=>r= .tuple []∧ai=dV e K B el sz (hf a1 i j)):
  bU ao 140 [.iface t (.row sz (.obj K) l.length),.func g [.ptr (.obj B) 0]] (dV e K B el sz l) fun r ai=>r= .tuple []∧∃a1,ai=dV e K B el sz a1∧a1.Perm l∧a1.Pairwise fun x y=>lt y x=false:=by
 have Ch:ao.funcs.findIdx? (·.name== "internal/reflectlite" ++ ".Swapper$" ++toString 1)=some 222:=by kernel_rfl
 have ux:ao.funcs.findIdx? (·.name== "internal/reflectlite" ++ ".Swapper$" ++toString 2)=some 223:=by kernel_rfl
 have J3:ao.funcs.findIdx? (·.name== "internal/reflectlite" ++ ".Swapper$" ++toString 9)=some 230:=by kernel_rfl
 have Ky:∃f b6,ao.funcs.findIdx? (·.name== "internal/reflectlite" ++ ".Swapper$" ++toString (swapperK l.length er ke))=some f∧(b6=(if swapperK l.length er ke≤2 then []else [ah.row sz (.obj K) l.length,.cst (typeHandle ao el)]))∧
   bU ao 199 [eS g f [.ptr (.obj B) 0] b6,.int .i64 l.length] (dV e K B el sz l) fun r ai=>r= .tuple []∧∃a1,ai=dV e K B el sz a1∧gr 0 l.length l a1∧fa lt 0 l.length a1:=by
  have eY:=fun a1=>xi (K:=K) (B:=B) (el:=el) (sz:=sz) he a1;rcases(by omega:l.length=0∨l.length=1∨2≤l.length)with bn|J|U
  ·refine⟨222,[],by rw[bn];exact Ch,by rw[bn];rfl,JK (lt:=lt) ⟨eY,fun jv gT _ _=>xj jv gT,fun a1 _=>by simp[aH,aB,inObs,dV,Pv.look],fun a1 _=>by simp[aH],by simp[dm,cR],rfl,aw,fun a1 h=>xW a1 h,fun a1 _ U i j hi=>by omega⟩ bE l rfl⟩
  ·refine⟨223,[],by rw[J];exact ux,by rw[J];rfl,JK (lt:=lt) ⟨eY,fun jv gT _ _=>xj jv gT,fun a1 _=>by simp[aH,aB,inObs,dV,Pv.look],fun a1 _=>by simp[aH],by simp[dm,cR],rfl,aw,fun a1 h=>xW a1 h,fun a1 _ U i j hi ae=>by omega⟩ bE l rfl⟩
  ·refine⟨230,_,by rw[sO _ U];exact J3,rfl,?_⟩;rw[sO _ U];simp only[show¬((9:Nat)≤2)from by decide,if_false];exact JK (lt:=lt) ⟨eY,fun jv gT _ _=>xj jv gT,fun a1 _=>by simp[aH,aB,inObs,dV,Pv.look],fun a1 _=>by simp[aH,aB,inObs,dV,Pv.look],by simp[dm,cR],by simp[dm,cR],aw,fun a1 h=>xW a1 h,fun a1 h _ i j hi ae=>z7 a1 h i j hi ae⟩ bE l rfl
 obtain⟨f,b6,aL,Ku,dd⟩:=Ky;intro w ν aV a7 af aJ;have p4:=cU.start (xi he l).obj a7 af aJ;have Kq:=aJ;simp only[cQ,bc]at aJ;obtain⟨v0,vs1,hv0,⟨u,rfl,⟨b,cap,rfl⟩,eX,n',e8,ak,aE,bj⟩,v1,vs2,hv1,⟨q0,rfl,qT⟩,rfl⟩:=aJ;have kX:aV= #[.iface t (.slice (some ⟨b,0,none⟩) l.length cap),.func (.func g) #[] q0]:=by apply Array.ext';rw[hv0,hv1]
 subst kX;have qQ:∃fn,ao.funcs[(140:Nat)]? =some fn∧fn.body.isSome=true∧(fn.name== "runtime.NumGoroutine")=false:=⟨_,Tryz.func140,by kernel_rfl,by kernel_rfl⟩;refine .inl ⟨qQ,?_⟩;obtain⟨dv,oJ⟩:∃dv,dv=(w.alloc (.cells #[.slice (some ⟨b,0,none⟩) l.length cap] t)).alloc (.cells #[typeHandle ao t,.pointer (some ⟨w.heap.size,0,none⟩),.int .u64 151] 179):=⟨_,rfl⟩;have jV:w.grownBy dv none:=by rw[oJ];exact Sc _ _ _
 have Ks:=p4.grown jV;have kW:lv w ν dv ν:=⟨fun b o bk=>⟨bk,EX jV (a7.alt b o bk)⟩,fun _ _ _ h=>h,fun _ n u _ h=>⟨n,u,h,.inl ⟨rfl,rfl⟩⟩,fun b o bk=>wV (jV.block b (a7.alt b o bk) (by simp)),fun _ _ _ _ h=>h⟩;have rM:Pv.Good (fx ν (dV e K B el sz l)) dv ν (dV e K B el sz l).b (dV e K B el sz l).e:=Ks.good.prMono fun bl _ h=>h;have lf:=Hk kW Kq;simp only[cQ]at lf;obtain⟨a0,Y8,sP,CB,bD,Y9,lb,afN,rfl⟩:=lf;simp at sP;obtain⟨rfl,rfl⟩:=sP;simp at lb;subst lb;have CD:bc dv ν (.row sz (.obj K) l.length) (.slice (some ⟨b,0,none⟩) l.length cap):=by simp only[bc]at CB;obtain⟨u,hu,h⟩:=CB;simp at hu;obtain⟨_,rfl⟩:=hu;simp only[bc];exact h
 have lg:cQ dv ν b6 (sliceBound ao el er ke (some ⟨b,0,none⟩) l.length cap).toList:=by
  unfold sliceBound;rw[Ku];split
  ·simp[cQ]
  ·simp only[cQ];exact⟨_,_,rfl,CD,_,_,rfl,by simp[bc],rfl⟩
 have uo:cQ dv ν [eS g f [.ptr (.obj B) 0] b6,.int .i64 l.length] (#[.agg #[.func (.func g) #[] q0,.func (.func f) #[] (sliceBound ao el er ke (some ⟨b,0,none⟩) l.length cap)],.int .i64 l.length]:Array Value).toList:=by simp only[cQ,eS];refine⟨_,_,rfl,?_,_,_,rfl,by simp[bc],rfl⟩;simp only[bc,c7];exact⟨_,rfl,_,_,rfl,⟨⟨q0,rfl,Hk kW qT⟩,rfl⟩,_,_,rfl,⟨⟨_,rfl,lg⟩,rfl⟩,rfl⟩
 have J0:=dd dv ν _ rM af uo;have E4:∀args w,(callFunc 199 args).run ao w= .ok (.enter 199 args) w:=enters_of Tryz.func199 (by kernel_rfl) rfl;rcases J0 with⟨_,au⟩|⟨v,w',au,_⟩
 ·have Ke:=alT t el i er hi aQ Cz sV ke uE (some ⟨b,0,none⟩) l.length cap (by omega) f aL (.func g) #[] q0 w
   (fun w'=> ∃ai bq,(∃a1,ai=dV e K B el sz a1∧gr 0 l.length l a1∧fa lt 0 l.length a1)∧Pv.Good (fun bl=>fx ν (dV e K B el sz l) bl∨dv.heap.size≤bl) w' bq ai.b ai.e∧pt bq ai∧iQ ai∧qx ⟨dv,ν,fx ν (dV e K B el sz l),0,cX (dV e K B el sz l)⟩ w' bq) (by
    rw[←oJ];refine au.mono ?_;rintro e w' ⟨v,r,ai,bq,rfl,⟨rfl,bo⟩,wa,ba,b4,c9,ej⟩;simp only[bc,cQ]at wa;obtain⟨us,rfl,qV⟩:=wa;have:us= #[]:=by apply Array.ext';simpa using qV
    subst this;exact⟨rfl,ai,bq,bo,ba,b4,c9,ej⟩)
  refine Ke.mono ?_;rintro e w' ⟨rfl,ai,bq,⟨a1,rfl,FV,z6⟩,ba,b4,c9,ej⟩;refine⟨.tuple #[],.tuple [],_,bq,rfl,⟨rfl,a1,rfl,FV.perm,?_⟩,by simp[bc,cQ],ba.prMono fun bl h _=>?_,b4,c9,⟨ej.os.trans jV.os,ej.tape.trans jV.tape,ej.output.trans jV.output,jT jV.size ej.size,fun k ab hm=>?_,fun b o bk=>?_,fun b o bk=>?_,ej.obj,ej.obn,ej.row,ej.obr,ej.trd,fun k j b ad=>⟨(ej.trb k j b ad).1.imp id (fun h=>jT jV.size h),(ej.trb k j b ad).2⟩,ej.trn,fun b o bk=>(ej.sh b o bk).trans (kW.sh b o bk)⟩⟩
  ·have xX:=FV.length;rw[←xX]at z6;exact z6.pairwise
  ·rcases h with h|h
   ·exact .inl h
   ·exact .inr (jT jV.size h)
  ·rw[ej.block k (Nat.lt_of_lt_of_le ab jV.size) hm];exact jV.block k ab (by simp)
  ·obtain⟨aU,bC⟩:=ej.keep b o bk;exact⟨aU,bC.trans (kW.A b o bk).2⟩
  ·rcases ej.fresh b o bk with h|h|h
   ·exact .inl h
   ·exact .inr (.inl h)
   ·exact .inr (.inr (jT jV.size h))
 ·rw[E4]at au;cases au
end
end Go.Proofs.YtahlgcidhnjlbaaGreat
namespace Go.Proofs
open Go.Shelf
def Tryz.lays6_ren:Go.Shelf.Ren:=⟨fun|6=>182|10=>197|11=>198|12=>200|13=>213|14=>214|24=>236|25=>237|26=>231|27=>238|28=>239|29=>240|30=>241|31=>242|32=>243|33=>244|34=>252|35=>253|36=>254|37=>255|38=>256|39=>271|n=>n,fun|20=>20|26=>143|35=>179|0=>0|37=>181|3=>3|41=>192|44=>185|49=>206|51=>208|4=>4|54=>210|53=>209|58=>214|5=>5|9=>9|60=>222|64=>226|66=>235|67=>236|17=>17|32=>176|33=>177|82=>256|12=>12|75=>249|76=>250|77=>251|78=>252|79=>253|80=>254|n=>n,fun|n=>n⟩
theorem Tryz.lays6:Go.Proofs.LaysGg.n6 ao Tryz.lays6_ren:={
 mixed:=by kernel_rfl
 f6:=Tryz.func182.trans (eB some (by kernel_rfl))
 f10:=Tryz.func197.trans (eB some (by kernel_rfl))
 f11:=Tryz.func198.trans (eB some (by kernel_rfl))
 f12:=Tryz.func200.trans (eB some (by kernel_rfl))
 f13:=Tryz.func213.trans (eB some (by kernel_rfl))
 f14:=Tryz.func214.trans (eB some (by kernel_rfl))
 f24:=Tryz.func236.trans (eB some (by kernel_rfl))
 f25:=Tryz.func237.trans (eB some (by kernel_rfl))
 f26:=Tryz.func231.trans (eB some (by kernel_rfl))
 f27:=Tryz.func238.trans (eB some (by kernel_rfl))
 f28:=Tryz.func239.trans (eB some (by kernel_rfl))
 f29:=Tryz.func240.trans (eB some (by kernel_rfl))
 f30:=Tryz.func241.trans (eB some (by kernel_rfl))
 f31:=Tryz.func242.trans (eB some (by kernel_rfl))
 f32:=Tryz.func243.trans (eB some (by kernel_rfl))
 f33:=Tryz.func244.trans (eB some (by kernel_rfl))
 f34:=Tryz.func252.trans (eB some (by kernel_rfl))
 f35:=Tryz.func253.trans (eB some (by kernel_rfl))
 f36:=Tryz.func254.trans (eB some (by kernel_rfl))
 f37:=Tryz.func255.trans (eB some (by kernel_rfl))
 f38:=Tryz.func256.trans (eB some (by kernel_rfl))
 f39:=Tryz.func271.trans (eB some (by kernel_rfl))
 t0:=Tryz.underlying0
 a0:=Tryz.isAgg0
 z0:=Tryz.sizeOf0
 v0:=Tryz.zeroValue0
 i0:=by kernel_rfl
 t3:=Tryz.underlying3
 a3:=Tryz.isAgg3
 z3:=Tryz.sizeOf3
 v3:=Tryz.zeroValue3
 i3:=by kernel_rfl
 t4:=Tryz.underlying4
 a4:=Tryz.isAgg4
 z4:=Tryz.sizeOf4
 v4:=Tryz.zeroValue4
 i4:=by kernel_rfl
 t5:=Tryz.underlying5
 a5:=Tryz.isAgg5
 z5:=Tryz.sizeOf5
 v5:=Tryz.zeroValue5
 i5:=by kernel_rfl
 t9:=Tryz.underlying9
 a9:=Tryz.isAgg9
 z9:=Tryz.sizeOf9
 v9:=Tryz.zeroValue9
 i9:=by kernel_rfl
 t12:=Tryz.underlying12
 a12:=Tryz.isAgg12
 z12:=Tryz.sizeOf12
 v12:=Tryz.zeroValue12
 i12:=by kernel_rfl
 t17:=Tryz.underlying17
 a17:=Tryz.isAgg17
 z17:=Tryz.sizeOf17
 v17:=Tryz.zeroValue17
 i17:=by kernel_rfl
 t20:=Tryz.underlying20
 a20:=Tryz.isAgg20
 z20:=Tryz.sizeOf20
 v20:=Tryz.zeroValue20
 i20:=by kernel_rfl
 t26:=Tryz.underlying143
 a26:=Tryz.isAgg143
 z26:=Tryz.sizeOf143
 v26:=Tryz.zeroValue143
 i26:=by kernel_rfl
 t32:=Tryz.underlying176
 a32:=Tryz.isAgg176
 z32:=Tryz.sizeOf176
 v32:=Tryz.zeroValue176
 i32:=by kernel_rfl
 t33:=Tryz.underlying177
 a33:=Tryz.isAgg177
 z33:=Tryz.sizeOf177
 v33:=Tryz.zeroValue177
 i33:=by kernel_rfl
 t35:=Tryz.underlying179
 a35:=Tryz.isAgg179
 z35:=Tryz.sizeOf179
 v35:=Tryz.zeroValue179
 i35:=by kernel_rfl
 t37:=Tryz.underlying181
 a37:=Tryz.isAgg181
 z37:=Tryz.sizeOf181
 v37:=Tryz.zeroValue181
 i37:=by kernel_rfl
 t41:=Tryz.underlying192
 a41:=Tryz.isAgg192
 z41:=Tryz.sizeOf192
 v41:=Tryz.zeroValue192
 i41:=by kernel_rfl
 t44:=Tryz.underlying185
 a44:=Tryz.isAgg185
 z44:=Tryz.sizeOf185
 v44:=Tryz.zeroValue185
 i44:=by kernel_rfl
 t49:=Tryz.underlying206
 a49:=Tryz.isAgg206
 z49:=Tryz.sizeOf206
 v49:=Tryz.zeroValue206
 i49:=by kernel_rfl
 t51:=Tryz.underlying208
 a51:=Tryz.isAgg208
 z51:=Tryz.sizeOf208
 v51:=Tryz.zeroValue208
 i51:=by kernel_rfl
 t53:=Tryz.underlying209
 a53:=Tryz.isAgg209
 z53:=Tryz.sizeOf209
 v53:=Tryz.zeroValue209
 i53:=by kernel_rfl
 t54:=Tryz.underlying210
 a54:=Tryz.isAgg210
 z54:=Tryz.sizeOf210
 v54:=Tryz.zeroValue210
 i54:=by kernel_rfl
 t58:=Tryz.underlying214
 a58:=Tryz.isAgg214
 z58:=Tryz.sizeOf214
 v58:=Tryz.zeroValue214
 i58:=by kernel_rfl
 t60:=Tryz.underlying222
 a60:=Tryz.isAgg222
 z60:=Tryz.sizeOf222
 v60:=Tryz.zeroValue222
 i60:=by kernel_rfl
 t64:=Tryz.underlying226
 a64:=Tryz.isAgg226
 z64:=Tryz.sizeOf226
 v64:=Tryz.zeroValue226
 i64:=by kernel_rfl
 t66:=Tryz.underlying235
 a66:=Tryz.isAgg235
 z66:=Tryz.sizeOf235
 v66:=Tryz.zeroValue235
 i66:=by kernel_rfl
 t67:=Tryz.underlying236
 a67:=Tryz.isAgg236
 z67:=Tryz.sizeOf236
 v67:=Tryz.zeroValue236
 i67:=by kernel_rfl
 t75:=Tryz.underlying249
 a75:=Tryz.isAgg249
 z75:=Tryz.sizeOf249
 v75:=Tryz.zeroValue249
 i75:=by kernel_rfl
 t76:=Tryz.underlying250
 a76:=Tryz.isAgg250
 z76:=Tryz.sizeOf250
 v76:=Tryz.zeroValue250
 i76:=by kernel_rfl
 t77:=Tryz.underlying251
 a77:=Tryz.isAgg251
 z77:=Tryz.sizeOf251
 v77:=Tryz.zeroValue251
 i77:=by kernel_rfl
 t78:=Tryz.underlying252
 a78:=Tryz.isAgg252
 z78:=Tryz.sizeOf252
 v78:=Tryz.zeroValue252
 i78:=by kernel_rfl
 t79:=Tryz.underlying253
 a79:=Tryz.isAgg253
 z79:=Tryz.sizeOf253
 v79:=Tryz.zeroValue253
 i79:=by kernel_rfl
 t80:=Tryz.underlying254
 a80:=Tryz.isAgg254
 z80:=Tryz.sizeOf254
 v80:=Tryz.zeroValue254
 i80:=by kernel_rfl
 t82:=Tryz.underlying256
 a82:=Tryz.isAgg256
 z82:=Tryz.sizeOf256
 v82:=Tryz.zeroValue256
 i82:=by kernel_rfl}
end Go.Proofs
namespace Go.Proofs.YtahlgcidhnjlbaaGreat
open Go Go.RowKit Go.Lib Go.Pv Go.Proofs
theorem Zk(n:Nat)(h:n<1099511627776):Lib.bitLen n≤1000:=by
 have:∀f x,bitLenAux f x≤f:=by
  intro f;induction f with
  |zero=>intro x;simp[bitLenAux]
  |succ f bO=>
   intro x;rw[bitLenAux];split
   ·omega
   ·have:=bO (x/2);omega
 have:=this 64 n;unfold Lib.bitLen;omega
theorem aj9{α:Type}[Inhabited α]{lt:α→α→Bool}{l:List α}{cg:Array α}(h:Sort.PermIn 0 l.length l.toArray cg)(ag:Sort.SortedIn lt 0 l.length cg):cg.toList.Perm l∧cg.toList.Pairwise fun x y=>lt y x=false:=by
 obtain⟨k4,_,z3⟩:=h;have ee:cg.size=l.length:=by simpa using k4
 have ak:cg.extract 0 l.length=cg:=by rw[←ee];simp
 have aE:l.toArray.extract 0 l.length=l.toArray:=by simp
 rw[ak,aE]at z3;refine⟨by simpa using z3,?_⟩;rw[o7];intro i j hi ae lF;have J:=ag i j (by omega) lF (by simpa[ee]using ae);have sU:i<cg.size:=by simpa using hi
 have js:j<cg.size:=by simpa using ae
 rw[getElem!_pos cg i sU,getElem!_pos cg j js]at J;simpa using J
section
variable {α:Type} {e:α→ah} (he:∀S x,aB S (e x)) {K B el sz:Nat}
include he
theorem RV[Inhabited α](Sh:K≠901∧K≠902)(Sg:B≠901∧B≠902)(t:fZ)(i er:TypeInfo)(hi:ao.info? t=some i)(aQ:i.desc= .slice el)(Cz:ao.packed t=false)(sV:ao.info? el=some er)(ke:Nat)(uE:∀w,(Ys el).run ao w= .ok ke w)(sO:∀n,2≤n→swapperK n er ke=9)
  (g:Nat) (lt:α→α→Bool) (bE:Sort.SWO lt) (l:List α) (aw:l.length≤68719476736)
  (xW:∀a1:List α,a1.length=l.length→∀(i j:Nat) x y,a1[i]? =some x→a1[j]? =some y→bU ao g [.int .i64 i,.int .i64 j,.ptr (.obj B) 0] (dV e K B el sz a1) fun r ai=>r= .bool (lt x y)∧ai=dV e K B el sz a1)
  (z7:∀a1:List α,a1.length=l.length→∀i j:Nat,i<l.length→j<l.length→bU ao 230 [.int .i64 i,.int .i64 j,.row sz (.obj K) l.length,.cst (typeHandle ao el)] (dV e K B el sz a1) fun r ai=>r= .tuple []∧ai=dV e K B el sz (hf a1 i j)):
  bU ao 182 [.iface t (.row sz (.obj K) l.length),.func g [.ptr (.obj B) 0]] (dV e K B el sz l) fun r ai=>r= .tuple []∧∃a1,ai=dV e K B el sz a1∧a1.Perm l∧a1.Pairwise fun x y=>lt y x=false:=by
 have Ch:ao.funcs.findIdx? (·.name== "internal/reflectlite" ++ ".Swapper$" ++toString 1)=some 222:=by kernel_rfl
 have ux:ao.funcs.findIdx? (·.name== "internal/reflectlite" ++ ".Swapper$" ++toString 2)=some 223:=by kernel_rfl
 have J3:ao.funcs.findIdx? (·.name== "internal/reflectlite" ++ ".Swapper$" ++toString 9)=some 230:=by kernel_rfl
 have x2:r5 (dV e K B el sz) 901:=fun l=>⟨by simp[dV,Pv.look,Sg.1],by simp[dV,Pv.look,Sh.1]⟩;have x3:r5 (dV e K B el sz) 902:=fun l=>⟨by simp[dV,Pv.look,Sg.2],by simp[dV,Pv.look,Sh.2]⟩;have fb:=Zk l.length (by omega);have Ky:∃f b6,ao.funcs.findIdx? (·.name== "internal/reflectlite" ++ ".Swapper$" ++toString (swapperK l.length er ke))=some f∧(b6=(if swapperK l.length er ke≤2 then []else [ah.row sz (.obj K) l.length,.cst (typeHandle ao el)]))∧
   bU ao 214 [eS g f [.ptr (.obj B) 0] b6,.int .i64 0,.int .i64 l.length,.int .i64 (Lib.bitLen l.length)] (dV e K B el sz l) fun r ai=>r= .tuple []∧∃a1,ai=dV e K B el sz a1∧a1.Perm l∧a1.Pairwise fun x y=>lt y x=false:=by
  have eY:=fun a1=>xi (K:=K) (B:=B) (el:=el) (sz:=sz) he a1;have key:∀{cc:Nat} {b6:List ah},e4 (dV e K B el sz) l.length g cc [.ptr (.obj B) 0] b6 lt→bU ao 214 [eS g cc [.ptr (.obj B) 0] b6,.int .i64 0,.int .i64 l.length,.int .i64 (Lib.bitLen l.length)] (dV e K B el sz l) fun r ai=>r= .tuple []∧∃a1,ai=dV e K B el sz a1∧a1.Perm l∧a1.Pairwise fun x y=>lt y x=false:=by intro cc b6 H;have:=ad6 H x2 x3 bE l.length l.toArray (by simp) 0 l.length (Lib.bitLen l.length) (by omega) (by omega) (eR _) (by omega) (.inl rfl);simp only[Int.ofNat_zero,Int.natCast_zero,Int.cast_ofNat_Int]at this;refine bU.mono this ?_;rintro r ai ⟨a8,cg,bF,b0,c0⟩;obtain⟨cP,dt⟩:=aj9 b0 c0;exact⟨a8,cg.toList,bF,cP,dt⟩
  rcases(by omega:l.length=0∨l.length=1∨2≤l.length)with bn|J|U
  ·refine⟨222,[],by rw[bn];exact Ch,by rw[bn];rfl,key ⟨eY,fun jv gT _ _=>xj jv gT,fun a1 _=>by simp[aH,aB,inObs,dV,Pv.look],fun a1 _=>by simp[aH],by simp[dm,cR],rfl,aw,fun a1 h=>xW a1 h,fun a1 _ U i j hi=>by omega⟩⟩
  ·refine⟨223,[],by rw[J];exact ux,by rw[J];rfl,key ⟨eY,fun jv gT _ _=>xj jv gT,fun a1 _=>by simp[aH,aB,inObs,dV,Pv.look],fun a1 _=>by simp[aH],by simp[dm,cR],rfl,aw,fun a1 h=>xW a1 h,fun a1 _ U i j hi ae=>by omega⟩⟩
  ·refine⟨230,_,by rw[sO _ U];exact J3,rfl,?_⟩;rw[sO _ U];simp only[show¬((9:Nat)≤2)from by decide,if_false];exact key ⟨eY,fun jv gT _ _=>xj jv gT,fun a1 _=>by simp[aH,aB,inObs,dV,Pv.look],fun a1 _=>by simp[aH,aB,inObs,dV,Pv.look],by simp[dm,cR],by simp[dm,cR],aw,fun a1 h=>xW a1 h,fun a1 h _ i j hi ae=>z7 a1 h i j hi ae⟩
 obtain⟨f,b6,aL,Ku,dd⟩:=Ky;intro w ν aV a7 af aJ;have p4:=cU.start (xi he l).obj a7 af aJ;have Kq:=aJ;simp only[cQ,bc]at aJ;obtain⟨v0,vs1,hv0,⟨u,rfl,⟨b,cap,rfl⟩,eX,n',e8,ak,aE,bj⟩,v1,vs2,hv1,⟨q0,rfl,qT⟩,rfl⟩:=aJ;have kX:aV= #[.iface t (.slice (some ⟨b,0,none⟩) l.length cap),.func (.func g) #[] q0]:=by apply Array.ext';rw[hv0,hv1]
 subst kX;have qQ:∃fn,ao.funcs[(182:Nat)]? =some fn∧fn.body.isSome=true∧(fn.name== "runtime.NumGoroutine")=false:=⟨_,Tryz.func182,by kernel_rfl,by kernel_rfl⟩;refine .inl ⟨qQ,?_⟩;obtain⟨dv,oJ⟩:∃dv,dv=sliceWorld ao Tryz.lays6_ren t (some ⟨b,0,none⟩) l.length cap w:=⟨_,rfl⟩;have jV:w.grownBy dv none:=by rw[oJ];unfold sliceWorld;exact Sc _ _ _
 have Ks:=p4.grown jV;have kW:lv w ν dv ν:=⟨fun b o bk=>⟨bk,EX jV (a7.alt b o bk)⟩,fun _ _ _ h=>h,fun _ n u _ h=>⟨n,u,h,.inl ⟨rfl,rfl⟩⟩,fun b o bk=>wV (jV.block b (a7.alt b o bk) (by simp)),fun _ _ _ _ h=>h⟩;have rM:Pv.Good (fx ν (dV e K B el sz l)) dv ν (dV e K B el sz l).b (dV e K B el sz l).e:=Ks.good.prMono fun bl _ h=>h;have lf:=Hk kW Kq;simp only[cQ]at lf;obtain⟨a0,Y8,sP,CB,bD,Y9,lb,afN,rfl⟩:=lf;simp at sP;obtain⟨rfl,rfl⟩:=sP;simp at lb;subst lb;have CD:bc dv ν (.row sz (.obj K) l.length) (.slice (some ⟨b,0,none⟩) l.length cap):=by simp only[bc]at CB;obtain⟨u,hu,h⟩:=CB;simp at hu;obtain⟨_,rfl⟩:=hu;simp only[bc];exact h
 have lg:cQ dv ν b6 (sliceBound ao el er ke (some ⟨b,0,none⟩) l.length cap).toList:=by
  unfold sliceBound;rw[Ku];split
  ·simp[cQ]
  ·simp only[cQ];exact⟨_,_,rfl,CD,_,_,rfl,by simp[bc],rfl⟩
 have uo:cQ dv ν [eS g f [.ptr (.obj B) 0] b6,.int .i64 0,.int .i64 l.length,.int .i64 (Lib.bitLen l.length)] (#[.agg #[.func (.func g) #[] q0,.func (.func f) #[] (sliceBound ao el er ke (some ⟨b,0,none⟩) l.length cap)],.int .i64 0,.int .i64 l.length,.int .i64 (Lib.bitLen l.length)]:Array Value).toList:=by simp only[cQ,eS];refine⟨_,_,rfl,?_,_,_,rfl,by simp[bc],_,_,rfl,by simp[bc],_,_,rfl,by simp[bc],rfl⟩;simp only[bc,c7];exact⟨_,rfl,_,_,rfl,⟨⟨q0,rfl,Hk kW qT⟩,rfl⟩,_,_,rfl,⟨⟨_,rfl,lg⟩,rfl⟩,rfl⟩
 have J0:=dd dv ν _ rM af uo;have E4:∀args w,(callFunc 214 args).run ao w= .ok (.enter 214 args) w:=enters_of Tryz.func214 (by kernel_rfl) rfl;rcases J0 with⟨_,au⟩|⟨v,w',au,_⟩
 ·have Ke:=Any.sort_Slice_of_pdq Tryz.lays6 t el i er hi aQ Cz sV ke uE (some ⟨b,0,none⟩) l.length cap (by omega) f aL (.func g) #[] q0 w
   (fun w'=> ∃ai bq,(∃a1,ai=dV e K B el sz a1∧a1.Perm l∧a1.Pairwise fun x y=>lt y x=false)∧Pv.Good (fun bl=>fx ν (dV e K B el sz l) bl∨dv.heap.size≤bl) w' bq ai.b ai.e∧pt bq ai∧iQ ai∧qx ⟨dv,ν,fx ν (dV e K B el sz l),0,cX (dV e K B el sz l)⟩ w' bq) (by
    rw[←oJ];refine au.mono ?_;rintro e w' ⟨v,r,ai,bq,rfl,⟨rfl,bo⟩,wa,ba,b4,c9,ej⟩;simp only[bc,cQ]at wa;obtain⟨us,rfl,qV⟩:=wa;have:us= #[]:=by apply Array.ext';simpa using qV
    subst this;exact⟨rfl,ai,bq,bo,ba,b4,c9,ej⟩)
  refine Ke.mono ?_;rintro e w' ⟨rfl,ai,bq,⟨a1,rfl,FV,z6⟩,ba,b4,c9,ej⟩;refine⟨.tuple #[],.tuple [],_,bq,rfl,⟨rfl,a1,rfl,FV,z6⟩,by simp[bc,cQ],ba.prMono fun bl h _=>?_,b4,c9,⟨ej.os.trans jV.os,ej.tape.trans jV.tape,ej.output.trans jV.output,jT jV.size ej.size,fun k ab hm=>?_,fun b o bk=>?_,fun b o bk=>?_,ej.obj,ej.obn,ej.row,ej.obr,ej.trd,fun k j b ad=>⟨(ej.trb k j b ad).1.imp id (fun h=>jT jV.size h),(ej.trb k j b ad).2⟩,ej.trn,fun b o bk=>(ej.sh b o bk).trans (kW.sh b o bk)⟩⟩
  ·rcases h with h|h
   ·exact .inl h
   ·exact .inr (jT jV.size h)
  ·rw[ej.block k (Nat.lt_of_lt_of_le ab jV.size) hm];exact jV.block k ab (by simp)
  ·obtain⟨aU,bC⟩:=ej.keep b o bk;exact⟨aU,bC.trans (kW.A b o bk).2⟩
  ·rcases ej.fresh b o bk with h|h|h
   ·exact .inl h
   ·exact .inr (.inl h)
   ·exact .inr (.inr (jT jV.size h))
 ·rw[E4]at au;cases au
end
end Go.Proofs.YtahlgcidhnjlbaaGreat
namespace Go.Proofs.YtahlgcidhnjlbaaGreat
open Go Go.Pv Go.Lib
abbrev xh(l:List bm):cK:=dV bm.e 814 815 100 2 l
theorem UW:∀(S:aI→Prop) (x:bm),aB S x.e:=fun S x=>by simp
theorem H5(l:List bm):eh (xh l):=xi UW l
theorem ahg:Sort.SWO (hL fe):=by
 refine⟨fun x=>?_,fun x y z J U=>?_,fun x y z J U=>?_⟩
 ·simp only[hL,gI];have:=lR.refl x;omega
 ·simp only[hL,e2]at*;exact lR.ltr J (by omega)
 ·simp only[hL,gI]at*;have ak:=lR.neg x y;have aE:=lR.neg y z;have bj:=lR.neg x z;have:=lR.tr z y x (by omega) (by omega);omega
theorem adL(l:List bm)(i j:Nat)(x y:bm)(aw:l.length≤68719476736)(hi:l[i]? =some x)(ae:l[j]? =some y):bU ao 185 [.int .i64 i,.int .i64 j,.ptr (.obj 815) 0] (xh l) fun r ai=>r= .bool (hL fe x y)∧ai=xh l:=by have ag:=H5 l;obtain⟨ie,hC⟩:=e1.1 hi;obtain⟨dU,ky⟩:=e1.1 ae;unfold xh dV at ag⊢;refine bU.mk mixed j6 abo ah1 (by simp) ag.obj fun aO cL=>?_;unfold OH;simp[ie,dU,hC,ky];(with_reducible repeat' first|refine aj ?_|refine aC (Bj _ _) ?_|refine aD (Bj _ _) ?_|simp[ie,dU,hC,ky]);refine cV.at _ (.inl rfl) ag (Same.refl _) aR aR ?_;simp[c1,VF,aX,aY,aW]
noncomputable def Tryz.maT:TypeInfo:=(ao.info? 49).get (by kernel_rfl)
noncomputable def Tryz.maE:TypeInfo:=(ao.info? 100).get (by kernel_rfl)
theorem Tryz.maK(n:Nat)(U:2≤n):Lib.swapperK n Tryz.maE 25=9:=by
 have a:Tryz.maE.hasPointers=true:=by kernel_rfl
 have b:Tryz.maE.bytes=24:=by kernel_rfl
 have c:(n==0)=false:=by simp;omega
 have d:(n==1)=false:=by simp;omega
 simp[Lib.swapperK,a,b,c,d]
theorem Uy{α β:Type}(f:α→β)(l:List α)(i j:Nat):(hf l i j).map f=hf (l.map f) i j:=by
 unfold hf;simp only[ri];cases l[i]? with
 |none=>simp
 |some x=>
  cases l[j]? with
  |none=>simp
  |some y=>simp[List.map_set]
theorem aei(l:List bm)(aw:l.length≤68719476736):bU ao 182 [.iface 49 (.row 2 (.obj 814) l.length),.func 185 [.ptr (.obj 815) 0]] (xh l) fun r ai=>r= .tuple []∧ai=xh (oT fe l):=by
 refine(RV UW (K:=814) (B:=815) (sz:=2) (by decide) (by decide) 49 Tryz.maT Tryz.maE (by kernel_rfl) (by kernel_rfl) (by kernel_rfl) (by kernel_rfl) 25 (fun _=>by kernel_rfl) Tryz.maK 185 (hL fe) ahg l aw (fun a1 h i j x y hi ae=>adL a1 i j x y (by omega) hi ae) (fun a1 h i j hi ae=>?_)).mono ?_
 ·have:=R5 (P:=ao) false 230 (fun args W=>run_callFunc_extern Tryz.func230 (by kernel_rfl) (by kernel_rfl) (by kernel_rfl) (e:=Eh false) (by kernel_rfl) args W)
   100 Tryz.maE (by kernel_rfl) (fun _=>by kernel_rfl) (H5 a1) (K:=814) (n:=l.length) (el:=100) (sz:=2) (by kernel_rfl) (xs:=a1.map bm.e) (by simp[dV,Pv.look,h]) i j hi ae
  refine this.mono ?_;rintro r ai ⟨rfl,rfl⟩;refine⟨rfl,?_⟩;simp[dV,cB,Uy,h]
 ·rintro r ai ⟨rfl,a1,rfl,J,U⟩;exact⟨rfl,by rw[W7 lR J U]⟩
def nX(l:List bm):List ah:= .hdm l.length (List.range l.length)::l.flatMap fun m=>[m.e,.bool true]
def k8(m:bm)(l:List bm):List bm:=if m∈l then l else l++[m]
theorem agQ(a b:bm):te (.a [false,true]) a.e b.e=some (decide (a=b)):=by simp only[bm.e,te,kd,if_true,oh];congr 1;rw[qq];cases a;cases b;simp
theorem agR(a:bm):uO (.a [false,true]) a.e=true:=by simp[bm.e,uO,kd,-Ij]
theorem U0(m:bm):∀l:List bm,u0 (.a [false,true]) m.e (.bool true) (l.flatMap fun m=>[m.e,.bool true])=some (if m∈l then some (l.flatMap fun m=>[m.e,.bool true])else none)
 |[]=>rfl
 |a::l=>by
  simp only[List.flatMap_cons,bX,b2,u0,agQ];by_cases h:m=a
  ·subst h;simp
  ·have cb:decide (m=a)=false:=by simp[h]
   rw[cb];simp only[U0 m l];by_cases hm:m∈l
   ·simp[hm]
   ·simp[hm,h]
@[simp] theorem arz(m:bm)(l:List bm):oO (.a [false,true]) m.e (.bool true) (nX l)=some (nX (k8 m l)):=by
 simp only[nX,oO,agR,Bool.true_eq_false,reduceCtorEq,if_false,U0,k8];by_cases h:m∈l
 ·simp[h]
 ·simp[h,List.range_succ]
end Go.Proofs.YtahlgcidhnjlbaaGreat
namespace Go.Proofs.YtahlgcidhnjlbaaGreat
open Go Go.Pv
@[simp] theorem Am(S:aI→Prop)(l:List bm):aH S (nX l)=True:=by
 refine eq_true ?_;unfold nX;have:∀l:List bm,aH S (l.flatMap fun m=>[m.e,ah.bool true]):=fun l=>by
  induction l with
  |nil=>simp[aH]
  |cons x r bO=>simp only[List.flatMap_cons,bX,b2,aH,agV,aB,true_and];exact bO
 simp only[aH,aB,true_and];exact this l
@[simp] theorem ard:[ah.hdm 0 []]=nX []:=rfl
def oo(tag:List dE)(l:List bm):cK:=⟨[(.obj 811,[.str tag]),(.obj 812,nX l),(.obj 813,[.gmap (.obj 812)])],[]⟩
theorem Ep(tag:List dE)(l:List bm):eh (oo tag l):=by unfold oo;refine eh.of ⟨by intro m;simp[Pv.look],by intro m;simp[Pv.look]⟩ (by simp[aH,aB,inObs,Pv.look]) (by simp)
theorem H6(tag:List dE)(l a1:List bm):Same (oo tag l) (oo tag a1):=Same.keys (by simp[oo]) (by simp[oo])
theorem adK(tag:List dE)(v:Int)(l:List bm):bU ao 184 [.int .i64 v,.ptr (.obj 813) 0,.ptr (.obj 811) 0] (oo tag l) fun r ai=>r= .tuple []∧ai=oo tag (k8 ⟨v,tag⟩ l):=by have ag:=Ep tag l;have fi:=Ep tag (k8 ⟨v,tag⟩ l);have e6:=H6 tag l (k8 ⟨v,tag⟩ l);unfold oo at ag fi e6⊢;refine bU.mk mixed j6 abn ah0 (by simp) ag.obj fun aO cL=>?_;unfold OG;simp;refine cV.at _ (.inr rfl) fi e6 aR aR ?_;simp[c1,VE,aX,aY,aW]
end Go.Proofs.YtahlgcidhnjlbaaGreat
namespace Go.Proofs.YtahlgcidhnjlbaaGreat
open Go Go.Pv Go.Lib
abbrev vs(l:List bM):cK:=dV bM.e 803 804 98 2 l
theorem TT:∀(S:aI→Prop) (x:bM),aB S x.e:=fun S x=>by simp
theorem En(l:List bM):eh (vs l):=xi TT l
def wC(x y:bM):Bool:=decide (x.v<y.v)
theorem ahf:Sort.SWO wC:=⟨fun x=>by simp[wC],fun x y z J U=>by simp[wC]at*;omega,fun x y z J U=>by simp[wC]at*;omega⟩
theorem adM(l:List bM)(i j:Nat)(x y:bM)(aw:l.length≤68719476736)(hi:l[i]? =some x)(ae:l[j]? =some y):bU ao 183 [.int .i64 i,.int .i64 j,.ptr (.obj 804) 0] (vs l) fun r ai=>r= .bool (wC x y)∧ai=vs l:=by have ag:=En l;obtain⟨ie,hC⟩:=e1.1 hi;obtain⟨dU,ky⟩:=e1.1 ae;unfold vs dV at ag⊢;refine bU.mk mixed j6 abp ah2 (by simp) ag.obj fun aO cL=>?_;unfold OI;simp[ie,dU,hC,ky];(with_reducible repeat' first|refine aj ?_|simp);refine cV.at _ (.inl rfl) ag (Same.refl _) aR aR ?_;simp[c1,VG,aX,aY,aW,wC]
noncomputable def Tryz.vkT:TypeInfo:=(ao.info? 48).get (by kernel_rfl)
noncomputable def Tryz.vkE:TypeInfo:=(ao.info? 98).get (by kernel_rfl)
theorem Tryz.vkK(n:Nat)(U:2≤n):Lib.swapperK n Tryz.vkE 25=9:=by
 have a:Tryz.vkE.hasPointers=false:=by kernel_rfl
 have b:Tryz.vkE.bytes=16:=by kernel_rfl
 have c:(n==0)=false:=by simp;omega
 have d:(n==1)=false:=by simp;omega
 simp[Lib.swapperK,a,b,c,d]
theorem ahe{α β:Type}(f:α→β)(l:List α)(i j:Nat):(hf l i j).map f=hf (l.map f) i j:=by
 unfold hf;simp only[ri];cases l[i]? with
 |none=>simp
 |some x=>
  cases l[j]? with
  |none=>simp
  |some y=>simp[List.map_set]
theorem R4(l:List bM)(aw:l.length≤68719476736):bU ao 182 [.iface 48 (.row 2 (.obj 803) l.length),.func 183 [.ptr (.obj 804) 0]] (vs l) fun r ai=>r= .tuple []∧∃a1,ai=vs a1∧a1.Perm l∧a1.Pairwise fun x y=>wC y x=false:=by
 refine(RV TT (K:=803) (B:=804) (sz:=2) (by decide) (by decide) 48 Tryz.vkT Tryz.vkE (by kernel_rfl) (by kernel_rfl) (by kernel_rfl) (by kernel_rfl) 25 (fun _=>by kernel_rfl) Tryz.vkK 183 wC ahf l aw (fun a1 h i j x y hi ae=>adM a1 i j x y (by omega) hi ae) (fun a1 h i j hi ae=>?_));have:=R5 (P:=ao) false 230 (fun args W=>run_callFunc_extern Tryz.func230 (by kernel_rfl) (by kernel_rfl) (by kernel_rfl) (e:=Eh false) (by kernel_rfl) args W)
  98 Tryz.vkE (by kernel_rfl) (fun _=>by kernel_rfl) (En a1) (K:=803) (n:=l.length) (el:=98) (sz:=2) (by kernel_rfl) (xs:=a1.map bM.e) (by simp[dV,Pv.look,h]) i j hi ae
 refine this.mono ?_;rintro r ai ⟨rfl,rfl⟩;refine⟨rfl,?_⟩;simp[dV,cB,ahe,h]
end Go.Proofs.YtahlgcidhnjlbaaGreat
namespace Go.Proofs.YtahlgcidhnjlbaaGreat
open Go Go.Pv
def fY(o:aZ (List bM)):ah:= .tuple [.slice 2 .no ((o.getD []).map bM.e),.bool o.isSome]
@[simp] theorem aqV(S:aI→Prop)(o:aZ (List bM)):aB S (fY o)=True:=by simp[fY]
theorem XE{l:List bM}(h:fO l):bH ao 87 [.slice 2 .no (l.map bM.e)] (.bool true):=by have:=XD l;simpa only[h,decide_true]using this
theorem HL{t:T}(h:t.fit=true):bH ao 64 [t.e] (.bool true):=by have:=amX t;rwa[h]at this
set_option maxRecDepth 4000 in
theorem amI{s:List al}(ag:eG s){l:List bM}(aw:fO l)(t:T)(aK:t.fit=true)(k:Int):
  bH ao 118 [.slice 5 .no (s.map al.e),.slice 2 .no (l.map bM.e),t.e,.int .i64 k] (fY (if(k=2∨k=3)∧(t.ap (bV s)).size≤5000 then ko l (t.ap (bV s)) k else none)):=by
 have xX:=td aw;have c4:=pP ag;have dp:=HL aK;have dk:=XE aw;have fm:=yX s t ag.len ag.sol.asc ag.fit;generalize af:t.ap (bV s)=x at fm⊢;generalize di:(if(k=2∨k=3)∧x.size≤5000 then ko l x k else none)=O;by_cases ab:k=2∨k=3;rotate_left
 ·have gf:(k !=2)=true:=by simp;omega
  have kh:(k !=3)=true:=by simp;omega
  rw[if_neg (fun h=>ab h.1)]at di;rw[←di];refine bh j6 rB r6 fun aO=>?_;unfold qE;simp;(with_reducible repeat' first|refine aj ?_|refine aC c4 ?_|refine aD c4 ?_|refine aC dp ?_|refine aD dp ?_|refine aC dk ?_|refine aD dk ?_|simp[gf,kh]);simp[bt,j2,aX,aY,aW];simp[fY]
 by_cases br:x.size≤5000;rotate_left
 ·rw[if_neg (fun h=>br h.2)]at di;rw[←di];rw[if_neg br,iB br]at fm;refine bh j6 rB r6 fun aO=>?_;unfold qE;simp;rcases ab with rfl|rfl;all_goals(with_reducible repeat' first|refine aj ?_|refine aC c4 ?_|refine aD c4 ?_|refine aC dp ?_|refine aD dp ?_|refine aC dk ?_|refine aD dk ?_|refine aC fm ?_|refine aD fm ?_|simp)
  all_goals simp[bt,j2,aX,aY,aW]
  all_goals simp[fY]
 rw[if_pos ⟨ab,br⟩]at di;rw[if_pos br,gJ br]at fm;have qS:(k !=2)=true→(k !=3)=false:=fun h=>by simp at h⊢;omega
 have uD:((k !=2)=false)∨((k !=2)=true∧(k !=3)=false):=by
  rcases ab with rfl|rfl
  ·left;rfl
  ·right;exact⟨rfl,rfl⟩
 clear qS;cases x with
 |var n=>
  have dW:O=match ll l n with|some bS=>if bS=k then some l else none|none=>some (lN ⟨n,k⟩ l):=by rw[←di];rfl
  refine bh j6 rB r6 fun aO=>?_;unfold qE;simp;rcases uD with bo|⟨bo,jI⟩
  ·(with_reducible repeat' first|refine aj ?_|refine aC c4 ?_|refine aD c4 ?_|refine aC dp ?_|refine aD dp ?_|refine aC dk ?_|refine aD dk ?_|refine aC fm ?_|refine aD fm ?_|simp[bo]);refine dw [3,10,12,55,56] (fun i (_:Unit)=>[(57,.int .i64 i)]) l.length (fun i _=> ∀j y,j<i→l[j]? =some y→y.v≠n) () bN (fun j y ae=>by omega) (fun _ ae _=>?_) (fun i _ hi ae _=>?_)
   ·have a7:ll l n=none:=yg.2 fun y aM=>by obtain⟨m,hm,e⟩:=nG aM;exact ae m y hm (by rw[bZ hm,e])
    rw[a7]at dW;simp only at dW;simp;(with_reducible repeat' first|refine aj ?_|simp);all_goals first|(refine⟨by unfold lim;omega,?_⟩)|skip
    have key:=R4 (l++[⟨n,k⟩]) (by simp;omega);have eY:=En (l++[⟨n,k⟩]);have hlen:(l++[(⟨n,k⟩:bM)]).length=l.length+1:=by simp
    unfold vs dV at key eY;rw[hlen,qu,gO,List.map_nil]at key eY;refine c8.ob key eY aR aR (by simp[inObs,Pv.look]) ?_;rintro r ai ⟨rfl,a1,rfl,J,U⟩;have sX:a1=lN ⟨n,k⟩ l:=TU (J.trans ((List.perm_append_comm (l₁:=l) (l₂:=[⟨n,k⟩])).trans (KN ⟨n,k⟩ l).symm)) (F2 aw.asc (yg.1 a7)) U;subst sX;refine⟨Same.keys (by simp) (by simp),?_⟩;rw[dW];simp[cz];(with_reducible repeat' first|refine aj ?_|simp);simp[bt,j2,aX,aY,aW];simp[fY]
   ·obtain⟨b,ad,cA⟩:=dT hi;by_cases nj:b.v=n
    ·have a7:ll l n=some b.k:=by rw[←nj];exact Gf aw.asc (dK ad)
     rw[a7]at dW;simp only at dW;by_cases oD:b.k=k
     ·rw[if_pos oD]at dW;rw[dW];have xL:(b.k !=k)=false:=by simp[oD]
      have rK:(b.v==n)=true:=by simp[nj]
      simp[hi,cA];(with_reducible repeat' first|refine aj ?_|simp[cA,hi,xL,rK,oD,nj]);simp[bt,j2,aX,aY,aW];simp[fY]
     ·rw[if_neg oD]at dW;rw[dW];have xL:(b.k !=k)=true:=by simp[oD]
      have rK:(b.v==n)=true:=by simp[nj]
      simp[hi,cA];(with_reducible repeat' first|refine aj ?_|simp[cA,hi,xL,rK,oD,nj]);simp[bt,j2,aX,aY,aW];simp[fY]
    ·have rK:(b.v==n)=false:=by simp[nj]
     simp[hi,cA];(with_reducible repeat' first|refine aj ?_|simp[cA,hi,rK,nj]);exact bK.rng () hi (fun j y js aM=>by
      rcases(by omega:j<i∨j=i)with h|rfl
      ·exact ae j y h aM
      ·rw[ad]at aM;cases aM;exact nj) bN
  ·(with_reducible repeat' first|refine aj ?_|refine aC c4 ?_|refine aD c4 ?_|refine aC dp ?_|refine aD dp ?_|refine aC dk ?_|refine aD dk ?_|refine aC fm ?_|refine aD fm ?_|simp[bo,jI]);refine dw [3,10,12,55,56] (fun i (_:Unit)=>[(57,.int .i64 i)]) l.length (fun i _=> ∀j y,j<i→l[j]? =some y→y.v≠n) () bN (fun j y ae=>by omega) (fun _ ae _=>?_) (fun i _ hi ae _=>?_)
   ·have a7:ll l n=none:=yg.2 fun y aM=>by obtain⟨m,hm,e⟩:=nG aM;exact ae m y hm (by rw[bZ hm,e])
    rw[a7]at dW;simp only at dW;simp;(with_reducible repeat' first|refine aj ?_|simp);all_goals first|(refine⟨by unfold lim;omega,?_⟩)|skip
    have key:=R4 (l++[⟨n,k⟩]) (by simp;omega);have eY:=En (l++[⟨n,k⟩]);have hlen:(l++[(⟨n,k⟩:bM)]).length=l.length+1:=by simp
    unfold vs dV at key eY;rw[hlen,qu,gO,List.map_nil]at key eY;refine c8.ob key eY aR aR (by simp[inObs,Pv.look]) ?_;rintro r ai ⟨rfl,a1,rfl,J,U⟩;have sX:a1=lN ⟨n,k⟩ l:=TU (J.trans ((List.perm_append_comm (l₁:=l) (l₂:=[⟨n,k⟩])).trans (KN ⟨n,k⟩ l).symm)) (F2 aw.asc (yg.1 a7)) U;subst sX;refine⟨Same.keys (by simp) (by simp),?_⟩;rw[dW];simp[cz];(with_reducible repeat' first|refine aj ?_|simp);simp[bt,j2,aX,aY,aW];simp[fY]
   ·obtain⟨b,ad,cA⟩:=dT hi;by_cases nj:b.v=n
    ·have a7:ll l n=some b.k:=by rw[←nj];exact Gf aw.asc (dK ad)
     rw[a7]at dW;simp only at dW;by_cases oD:b.k=k
     ·rw[if_pos oD]at dW;rw[dW];have xL:(b.k !=k)=false:=by simp[oD]
      have rK:(b.v==n)=true:=by simp[nj]
      simp[hi,cA];(with_reducible repeat' first|refine aj ?_|simp[cA,hi,xL,rK,oD,nj]);simp[bt,j2,aX,aY,aW];simp[fY]
     ·rw[if_neg oD]at dW;rw[dW];have xL:(b.k !=k)=true:=by simp[oD]
      have rK:(b.v==n)=true:=by simp[nj]
      simp[hi,cA];(with_reducible repeat' first|refine aj ?_|simp[cA,hi,xL,rK,oD,nj]);simp[bt,j2,aX,aY,aW];simp[fY]
    ·have rK:(b.v==n)=false:=by simp[nj]
     simp[hi,cA];(with_reducible repeat' first|refine aj ?_|simp[cA,hi,rK,nj]);exact bK.rng () hi (fun j y js aM=>by
      rcases(by omega:j<i∨j=i)with h|rfl
      ·exact ae j y h aM
      ·rw[ad]at aM;cases aM;exact nj) bN
 |nil=>
  have dW:O=if T.nil.kind=k then some l else none:=by rw[←di];rfl
  by_cases hq:T.nil.kind=k
  ·rw[if_pos hq]at dW;rw[dW];refine bh j6 rB r6 fun aO=>?_;unfold qE;simp;simp at hq;rcases uD with bo|⟨bo,jI⟩
   ·((with_reducible repeat' first|refine aj ?_|refine aC c4 ?_|refine aD c4 ?_|refine aC dp ?_|refine aD dp ?_|refine aC dk ?_|refine aD dk ?_|refine aC fm ?_|refine aD fm ?_|simp[bo,hq]|((first|apply bP|apply bR|apply bQ)<;>intro h<;>try simp at h))<;>(try exact cm));all_goals simp[bt,j2,aX,aY,aW]
    all_goals simp[fY]
   ·((with_reducible repeat' first|refine aj ?_|refine aC c4 ?_|refine aD c4 ?_|refine aC dp ?_|refine aD dp ?_|refine aC dk ?_|refine aD dk ?_|refine aC fm ?_|refine aD fm ?_|simp[bo,jI,hq]|((first|apply bP|apply bR|apply bQ)<;>intro h<;>try simp at h))<;>(try exact cm));all_goals simp[bt,j2,aX,aY,aW]
    all_goals simp[fY]
  ·rw[if_neg hq]at dW;rw[dW];refine bh j6 rB r6 fun aO=>?_;unfold qE;simp;simp at hq;rcases uD with bo|⟨bo,jI⟩
   ·((with_reducible repeat' first|refine aj ?_|refine aC c4 ?_|refine aD c4 ?_|refine aC dp ?_|refine aD dp ?_|refine aC dk ?_|refine aD dk ?_|refine aC fm ?_|refine aD fm ?_|simp[bo,hq]|((first|apply bP|apply bR|apply bQ)<;>intro h<;>try simp at h))<;>(try exact cm));all_goals simp[bt,j2,aX,aY,aW]
    all_goals simp[fY]
   ·((with_reducible repeat' first|refine aj ?_|refine aC c4 ?_|refine aD c4 ?_|refine aC dp ?_|refine aD dp ?_|refine aC dk ?_|refine aD dk ?_|refine aC fm ?_|refine aD fm ?_|simp[bo,jI,hq]|((first|apply bP|apply bR|apply bQ)<;>intro h<;>try simp at h))<;>(try exact cm));all_goals simp[bt,j2,aX,aY,aW]
    all_goals simp[fY]
 |sym a=>
  have dW:O=if(T.sym a).kind=k then some l else none:=by rw[←di];rfl
  by_cases hq:(T.sym a).kind=k
  ·rw[if_pos hq]at dW;rw[dW];refine bh j6 rB r6 fun aO=>?_;unfold qE;simp;simp at hq;rcases uD with bo|⟨bo,jI⟩
   ·((with_reducible repeat' first|refine aj ?_|refine aC c4 ?_|refine aD c4 ?_|refine aC dp ?_|refine aD dp ?_|refine aC dk ?_|refine aD dk ?_|refine aC fm ?_|refine aD fm ?_|simp[bo,hq]|((first|apply bP|apply bR|apply bQ)<;>intro h<;>try simp at h))<;>(try exact cm));all_goals simp[bt,j2,aX,aY,aW]
    all_goals simp[fY]
   ·((with_reducible repeat' first|refine aj ?_|refine aC c4 ?_|refine aD c4 ?_|refine aC dp ?_|refine aD dp ?_|refine aC dk ?_|refine aD dk ?_|refine aC fm ?_|refine aD fm ?_|simp[bo,jI,hq]|((first|apply bP|apply bR|apply bQ)<;>intro h<;>try simp at h))<;>(try exact cm));all_goals simp[bt,j2,aX,aY,aW]
    all_goals simp[fY]
  ·rw[if_neg hq]at dW;rw[dW];refine bh j6 rB r6 fun aO=>?_;unfold qE;simp;simp at hq;rcases uD with bo|⟨bo,jI⟩
   ·((with_reducible repeat' first|refine aj ?_|refine aC c4 ?_|refine aD c4 ?_|refine aC dp ?_|refine aD dp ?_|refine aC dk ?_|refine aD dk ?_|refine aC fm ?_|refine aD fm ?_|simp[bo,hq]|((first|apply bP|apply bR|apply bQ)<;>intro h<;>try simp at h))<;>(try exact cm));all_goals simp[bt,j2,aX,aY,aW]
    all_goals simp[fY]
   ·((with_reducible repeat' first|refine aj ?_|refine aC c4 ?_|refine aD c4 ?_|refine aC dp ?_|refine aD dp ?_|refine aC dk ?_|refine aD dk ?_|refine aC fm ?_|refine aD fm ?_|simp[bo,jI,hq]|((first|apply bP|apply bR|apply bQ)<;>intro h<;>try simp at h))<;>(try exact cm));all_goals simp[bt,j2,aX,aY,aW]
    all_goals simp[fY]
 |num a=>
  have dW:O=if(T.num a).kind=k then some l else none:=by rw[←di];rfl
  by_cases hq:(T.num a).kind=k
  ·rw[if_pos hq]at dW;rw[dW];refine bh j6 rB r6 fun aO=>?_;unfold qE;simp;simp at hq;rcases uD with bo|⟨bo,jI⟩
   ·((with_reducible repeat' first|refine aj ?_|refine aC c4 ?_|refine aD c4 ?_|refine aC dp ?_|refine aD dp ?_|refine aC dk ?_|refine aD dk ?_|refine aC fm ?_|refine aD fm ?_|simp[bo,hq]|((first|apply bP|apply bR|apply bQ)<;>intro h<;>try simp at h))<;>(try exact cm));all_goals simp[bt,j2,aX,aY,aW]
    all_goals simp[fY]
   ·((with_reducible repeat' first|refine aj ?_|refine aC c4 ?_|refine aD c4 ?_|refine aC dp ?_|refine aD dp ?_|refine aC dk ?_|refine aD dk ?_|refine aC fm ?_|refine aD fm ?_|simp[bo,jI,hq]|((first|apply bP|apply bR|apply bQ)<;>intro h<;>try simp at h))<;>(try exact cm));all_goals simp[bt,j2,aX,aY,aW]
    all_goals simp[fY]
  ·rw[if_neg hq]at dW;rw[dW];refine bh j6 rB r6 fun aO=>?_;unfold qE;simp;simp at hq;rcases uD with bo|⟨bo,jI⟩
   ·((with_reducible repeat' first|refine aj ?_|refine aC c4 ?_|refine aD c4 ?_|refine aC dp ?_|refine aD dp ?_|refine aC dk ?_|refine aD dk ?_|refine aC fm ?_|refine aD fm ?_|simp[bo,hq]|((first|apply bP|apply bR|apply bQ)<;>intro h<;>try simp at h))<;>(try exact cm));all_goals simp[bt,j2,aX,aY,aW]
    all_goals simp[fY]
   ·((with_reducible repeat' first|refine aj ?_|refine aC c4 ?_|refine aD c4 ?_|refine aC dp ?_|refine aD dp ?_|refine aC dk ?_|refine aD dk ?_|refine aC fm ?_|refine aD fm ?_|simp[bo,jI,hq]|((first|apply bP|apply bR|apply bQ)<;>intro h<;>try simp at h))<;>(try exact cm));all_goals simp[bt,j2,aX,aY,aW]
    all_goals simp[fY]
 |pair a b=>
  have dW:O=if(T.pair a b).kind=k then some l else none:=by rw[←di];rfl
  by_cases hq:(T.pair a b).kind=k
  ·rw[if_pos hq]at dW;rw[dW];refine bh j6 rB r6 fun aO=>?_;unfold qE;simp;simp at hq;rcases uD with bo|⟨bo,jI⟩
   ·((with_reducible repeat' first|refine aj ?_|refine aC c4 ?_|refine aD c4 ?_|refine aC dp ?_|refine aD dp ?_|refine aC dk ?_|refine aD dk ?_|refine aC fm ?_|refine aD fm ?_|simp[bo,hq]|((first|apply bP|apply bR|apply bQ)<;>intro h<;>try simp at h))<;>(try exact cm));all_goals simp[bt,j2,aX,aY,aW]
    all_goals simp[fY]
   ·((with_reducible repeat' first|refine aj ?_|refine aC c4 ?_|refine aD c4 ?_|refine aC dp ?_|refine aD dp ?_|refine aC dk ?_|refine aD dk ?_|refine aC fm ?_|refine aD fm ?_|simp[bo,jI,hq]|((first|apply bP|apply bR|apply bQ)<;>intro h<;>try simp at h))<;>(try exact cm));all_goals simp[bt,j2,aX,aY,aW]
    all_goals simp[fY]
  ·rw[if_neg hq]at dW;rw[dW];refine bh j6 rB r6 fun aO=>?_;unfold qE;simp;simp at hq;rcases uD with bo|⟨bo,jI⟩
   ·((with_reducible repeat' first|refine aj ?_|refine aC c4 ?_|refine aD c4 ?_|refine aC dp ?_|refine aD dp ?_|refine aC dk ?_|refine aD dk ?_|refine aC fm ?_|refine aD fm ?_|simp[bo,hq]|((first|apply bP|apply bR|apply bQ)<;>intro h<;>try simp at h))<;>(try exact cm));all_goals simp[bt,j2,aX,aY,aW]
    all_goals simp[fY]
   ·((with_reducible repeat' first|refine aj ?_|refine aC c4 ?_|refine aD c4 ?_|refine aC dp ?_|refine aD dp ?_|refine aC dk ?_|refine aD dk ?_|refine aC fm ?_|refine aD fm ?_|simp[bo,jI,hq]|((first|apply bP|apply bR|apply bQ)<;>intro h<;>try simp at h))<;>(try exact cm));all_goals simp[bt,j2,aX,aY,aW]
    all_goals simp[fY]
def jj(o:aZ (List bm)):ah:= .tuple [.slice 2 .no ((o.getD []).map bm.e),.bool o.isSome]
@[simp] theorem aqX(S:aI→Prop)(o:aZ (List bm)):aB S (jj o)=True:=by simp[jj]
theorem XG{l:List bm}(h:il l):bH ao 88 [.slice 2 .no (l.map bm.e)] (.bool true):=by have:=XF l;simpa only[h,decide_true]using this
theorem amP{s:List dE}(h:jJ s=true):bH ao 160 [.str s] (.bool true):=by have:=tI s;rwa[h]at this
def C6(l:List bm):List ah:=l.flatMap fun m=>[m.e,.bool true]
theorem UB(l:List bm):nX l= .hdm l.length (List.range l.length)::C6 l:=rfl
theorem Ll(b:Nat):∀(n:Nat) (l:List bm),mL b (List.range' n l.length) (C6 l)=(if n≤b then(l[b-n]?).map fun x=>.tuple [x.e,.bool true]else none)
 |n,[]=>by simp[mL,C6]
 |n,x::r=>by
  have e:C6 (x::r)=x.e:: .bool true::C6 r:=rfl;simp only[o6,List.range'_succ,e,mL];by_cases h:n=b
  ·subst h;simp
  ·rw[if_neg h,Ll b (n+1) r];by_cases U:n≤b
   ·rw[if_pos U,if_pos (by omega)];have:b-n=(b-(n+1))+1:=by omega
    rw[this];simp
   ·rw[if_neg U,if_neg (by omega)]
@[simp] theorem arL(l:List bm):hU (nX l)=false:=rfl
@[simp] theorem asw(m:aI)(l:List bm):wR m (nX l)=some (b9 l.length [] m):=rfl
theorem ahr(f:aI→aZ (List ah))(fl mk:aI)(n:Nat)(seen:List Nat)(b:Nat)(l:List bm)(x:bm)(hi:f fl=some (b9 n (seen++[b]) mk))(hm:f mk=some (nX l))(ay:n=l.length)(af:l[b]? =some x):pG f (.ptr fl 0)=some (True,.tuple [x.e,.bool true]):=by subst ay;simp only[UL,hi,hm,b9,UB,List.getLast?_append,List.getLast?_singleton,Option.some_or,List.range_eq_range',Ll,Nat.zero_le,if_true,Nat.sub_zero,Option.map_map];simp[af]
theorem aax{st:bs}{d:Nat}{K:bs→Prop}{fl mk:aI}{n:Nat}{seen:List Nat}{l:List bm}(hi:Pv.look fl st.b=some (b9 n seen mk))(hm:Pv.look mk st.b=some (nX l))(ay:n=l.length)
  (J:(∀b,b<l.length→b∈seen)→K {st with t:=Pv.put d (.tuple [.bool false]) st.t}) (U:∀b x,l[b]? =some x→b∉seen→K {st with t:=Pv.put d (.tuple [.bool true,x.e,.bool true]) st.t,b:=cB fl (b9 n (seen++[b]) mk) st.b}):
  sK st d (.ptr fl 0) K:=by
 subst ay;simp only[sK,hi,b9,hm,UB,Ly,and_self,true_and];refine⟨fun h=>J fun b ad=>h b (by simpa using ad),fun b k v xZ ad=>?_⟩;rw[List.range_eq_range',Ll]at xZ;simp only[Nat.zero_le,if_true,Nat.sub_zero,gz,ah.tuple.injEq,qs,and_true]at xZ;obtain⟨x,ak,aE,bj⟩:=xZ;subst aE bj;exact U b x ak ad
theorem ahm{m x:bm}{l:List bm}:x∈k8 m l↔x=m∨x∈l:=by
 unfold k8;split
 ·constructor
  ·exact .inr
  ·rintro(rfl|h)<;>assumption
 ·simp[or_comm]
theorem YW{m:bm}{l:List bm}(h:l.Nodup):(k8 m l).Nodup:=by
 unfold k8;split
 ·exact h
 ·rw[List.nodup_append];exact⟨h,by simp,fun a bz b ad=>by simp at ad;subst ad;intro e;subst e;contradiction⟩
theorem YV(m:bm)(l:List bm):(k8 m l).length≤l.length+1:=by unfold k8;split<;>simp
theorem adC(s:List dE)(t:T):∀l:List bm,(t.fold (fun v l=>k8 ⟨v,s⟩ l) l).length≤l.length+t.size:=by
 induction t with
 |var n=>intro l;simp only[T.fold,T.size];exact YV _ _
 |pair a b dX dY=>intro l;simp only[T.fold,T.size];have:=dX l;have:=dY (a.fold (fun v l=>k8 ⟨v,s⟩ l) l);omega
 |_=>intro l;simp[T.fold,T.size]
theorem adD(s:List dE)(t:T):∀{l:List bm},l.Nodup→(t.fold (fun v l=>k8 ⟨v,s⟩ l) l).Nodup:=by
 induction t with
 |var n=>intro l h;exact YW h
 |pair a b dX dY=>intro l h;exact dY (dX h)
 |_=>intro l h;exact h
theorem ahn(s:List dE)(t:T)(x:bm):∀{l:List bm},x∈t.fold (fun v l=>k8 ⟨v,s⟩ l) l↔x∈l∨(x.s=s∧t.occ x.v=true):=by
 induction t with
 |var n=>
  intro l;simp only[T.fold,ahm,T.occ,dQ];constructor
  ·rintro(rfl|h)
   ·exact .inr ⟨rfl,rfl⟩
   ·exact .inl h
  ·rintro(h|⟨J,U⟩)
   ·exact .inr h
   ·left;cases x;simp at J U;subst J U;rfl
 |pair a b dX dY=>
  intro l;simp only[T.fold,dY,dX,T.occ,lX];constructor
  ·rintro((h|h)|h)
   ·exact .inl h
   ·exact .inr ⟨h.1,.inl h.2⟩
   ·exact .inr ⟨h.1,.inr h.2⟩
  ·rintro(h|⟨J,U|U⟩)
   ·exact .inl (.inl h)
   ·exact .inl (.inr ⟨J,U⟩)
   ·exact .inr ⟨J,U⟩
 |_=>intro l;simp[T.fold,T.occ]
def agv(M:List bm)(k:Nat)(st:bs):Prop:=∃(seen:List Nat) (xs:List bm),seen.Nodup∧(∀b∈seen,b<M.length)∧k=M.length-seen.length∧xs=seen.filterMap (fun b=>M[b]?)∧xs.length=seen.length∧st=⟨[(15,.ptr (.obj 815) 0),(63,.ptr (.loc 2) 0)],[(.obj 812,nX M),(.loc 2,b9 M.length seen (.obj 812)),(.obj 815,[.row 2 (.obj 814) xs.length])],[(.obj 814,⟨xs.length,100,2,some (xs.map bm.e)⟩)],3,[.obj 815,.obj 814,.obj 813,.obj 812,.obj 811]⟩
set_option maxRecDepth 4000 in
theorem amH{s:List al}(ag:eG s){l:List bm}(aw:il l)(xX:l.length≤68719470000)(t:T)(aK:t.fit=true){g:List dE}(a7:jJ g=true):
  bH ao 120 [.slice 5 .no (s.map al.e),.slice 2 .no (l.map bm.e),t.e,.str g] (jj (if(t.ap (bV s)).size≤5000 then l0 l (t.ap (bV s)) g else none)):=by
 have c4:=pP ag;have dp:=HL aK;have eb:=XG aw;have hT:=amP a7;have fm:=yX s t ag.len ag.sol.asc ag.fit;generalize af:t.ap (bV s)=x at fm⊢;generalize di:(if x.size≤5000 then l0 l x g else none)=O;by_cases br:x.size≤5000;rotate_left
 ·rw[if_neg br]at di;rw[←di];rw[if_neg br,iB br]at fm;refine bh j6 Jg LF fun aO=>?_;unfold EC;simp;(with_reducible repeat' first|refine aj ?_|refine aC c4 ?_|refine aD c4 ?_|refine aC dp ?_|refine aD dp ?_|refine aC eb ?_|refine aD eb ?_|refine aC hT ?_|refine aD hT ?_|refine aC fm ?_|refine aD fm ?_|simp);simp[bt,GS,aX,aY,aW];simp[jj]
 rw[if_pos br]at di;rw[if_pos br,gJ br]at fm;have Ak:=XR g x;cases cw:x.has g;rotate_left
 ·rw[cw]at Ak;have dW:O=none:=by rw[←di];unfold l0;rw[cw];rfl
  rw[dW];refine bh j6 Jg LF fun aO=>?_;unfold EC;simp;(with_reducible repeat' first|refine aj ?_|refine aC c4 ?_|refine aD c4 ?_|refine aC dp ?_|refine aD dp ?_|refine aC eb ?_|refine aD eb ?_|refine aC hT ?_|refine aD hT ?_|refine aC fm ?_|refine aD fm ?_|refine aC Ak ?_|refine aD Ak ?_|simp);simp[bt,GS,aX,aY,aW];simp[jj]
 rw[cw]at Ak;refine bh j6 Jg LF fun aO=>?_;unfold EC;simp;(with_reducible repeat' first|refine aj ?_|refine aC c4 ?_|refine aD c4 ?_|refine aC dp ?_|refine aD dp ?_|refine aC eb ?_|refine aD eb ?_|refine aC hT ?_|refine aD hT ?_|refine aC fm ?_|refine aD fm ?_|refine aC Ak ?_|refine aD Ak ?_|simp);have Cs:l.Nodup:=hN.nodup lR aw.asc;have ij:∀xs:List bm,xs.Perm (x.fold (fun v l=>k8 ⟨v,g⟩ l) l)→O=some (oT fe xs):=fun xs bG=>by
  rw[←di];refine Ie cw ?_ fun y=>?_
  ·have J:=MY lR xs;have U:(oT fe xs).Nodup:=(((yP fe xs).trans bG).nodup_iff).2 (adD g x Cs);exact(J.and U).imp fun{a b} h=>by have:=mt (lR.zero a b).1 h.2;omega
  ·rw[((yP fe xs).trans bG).mem_iff,ahn]
 have hlen:(x.fold (fun v l=>k8 ⟨v,g⟩ l) l).length≤68719475000:=by have:=adC g x l;omega
 rw[show jL []=nX []from rfl];refine ho (fun i (_:Unit)=>⟨[(7,.ptr (.obj 811) 0),(10,.ptr (.loc 1) 0),(12,.ptr (.obj 813) 0),(49,.slice 2 .no (l.map bm.e)),(50,.int .i64 l.length),(51,.int .i64 i)],[(.obj 811,[.str g]),(.loc 1,[.int .i64 x.kind,.int .i64 x.int,.str x.name,.slice 4 .no (x.args.map T.e)]),(.obj 812,nX (l.take i)),(.obj 813,[.gmap (.obj 812)])],[],2,[.obj 813,.obj 812,.obj 811]⟩) l.length (fun _ _=>True) () bN trivial (fun _ _ _=>?_) (fun i _ hi _ _=>?_)
 ·rw[mj];simp;(with_reducible repeat' first|refine aj ?_|simp);have key:=JE (oo g) (Ep g) (H6 g) 184 [.ptr (.obj 813) 0,.ptr (.obj 811) 0] (by intro a;simp[inObs,oo,Pv.look,aH,aB]) (by simp) (fun v l=>k8 ⟨v,g⟩ l) (fun v a=>adK g v a) x l;refine c8.ob key (Ep g l) (by unfold oo;exact aR) (by unfold oo;exact aR) (by simp[inObs,oo,Pv.look]) ?_;rintro r ai ⟨rfl,rfl⟩;refine⟨H6 g _ _,?_⟩;unfold oo;generalize fB:x.fold (fun v l=>k8 ⟨v,g⟩ l) l=M at ij hlen⊢;simp[cz];(with_reducible repeat' first|refine aj ?_|simp);refine ps (agv M) M.length _ ⟨by simp[fresh,aH,aB,b9,inObs,Pv.look,Am],dZ (by simp[fresh,aH,aB,b9,inObs,Pv.look,Am]),ea (by simp[fresh,aH,aB,dN,inObs,Pv.look,Am]),by simp⟩ ⟨[],[],by simp,by simp,by simp,by simp,by simp,rfl⟩ ?_;rintro k st ⟨seen,xs,aQ,bE,ab,Tn,kj,rfl⟩ kU cL;clear kU cL;have hle:=Hq aQ bE;simp;refine aax (mk:= .obj 812) (seen:=seen) (l:=M) (by simp) (by simp) rfl (fun lA=>?_) (fun b y aM ad=>?_)
  ·have v7:=MR aQ bE lA;rw[←Tn]at v7;have dx:=ij xs v7;simp;(with_reducible repeat' first|refine aj ?_|simp);have key:=aei xs (by omega);have eY:=H5 xs;unfold xh dV at key eY;refine c8.ob key eY aR aR (by simp[inObs,Pv.look]) ?_;rintro r ai ⟨rfl,rfl⟩;refine⟨Same.keys (by simp) (by simp),?_⟩;rw[dx];simp[cz];(with_reducible repeat' first|refine aj ?_|simp);simp[bt,GS,aX,aY,aW];simp[jj]
  ·have zU:∀f:aI→aZ (List ah),f (.loc 2)=some (b9 M.length (seen++[b]) (.obj 812))→f (.obj 812)=some (nX M)→pG f (.ptr (.loc 2) 0)=some (True,.tuple [y.e,.bool true]):=fun f J U=>ahr f (.loc 2) (.obj 812) M.length seen b M y J U rfl aM;have fb:b<M.length:=(e1.1 aM).1;have p5:=MS aQ bE fb ad;simp[zU];(with_reducible repeat' first|refine aj ?_|simp[zU]);all_goals first|(refine⟨by unfold lim;omega,?_⟩)|skip
   have xU:∀S:aI→Prop,aH S (xs.map bm.e++[y.e])=True:=fun S=>by
    have e:xs.map bm.e++[y.e]=(xs++[y]).map bm.e:=by simp
    rw[e];simp[-qu]
   refine bK.next (M.length-(seen.length+1)) (by omega) ⟨seen++[b],xs++[y],LC aQ ad,(by simp;intro c au;rcases au with au|rfl;exact bE c au;exact fb),by simp,by rw[List.filterMap_append,←Tn];simp[aM],by simp[kj],rfl⟩ ⟨by simp[fresh,aH,aB,b9,inObs,Pv.look,Am,xU],dZ (by simp[fresh,aH,aB,b9,inObs,Pv.look,Am,xU]),ea (by simp[fresh,aH,aB,dN,inObs,Pv.look,Am,xU]),by simp⟩
 ·obtain⟨b,ad,cA⟩:=dT hi;have kA:k8 b (l.take i)=l.take (i+1):=by
   have J:b∉l.take i:=fun h=>by
    obtain⟨j,ae,e⟩:=nG h;have js:j<i:=by simp at ae;omega
    rw[List.getElem_take]at e;have:=(List.nodup_iff_pairwise_ne.1 Cs);exact(o7.1 this j i (by omega) hi js) (by rw[e,cA])
   rw[List.take_succ,ad];simp[k8,J]
  exact gg
def OX:C:=(aa [be 4 false] (.seq (aa [I 7 0,b7 8 7,bJ 9 0] (e0 10 9 8 (.seq (.block 1 (aa [cd 11 5 7 9,a6 12 5 11,dg 6 ik,bT 5 6 12] (aa [aG 13 0 1 6,av 14 1 13,I 15 1,bg 16 .geq 14 15,I 17 16,aq 17 false (gD 18 1 4 6),aq 17 false (a6 19 4 18),ys 17 false (.bsl 20 4 30 [.t 19]),aq 17 false (cJ 21 162 20),bW 17 false 22 1,aq 17 false (bg 23 .gtr 21 22),cY 24 17 23] (aT 24 (aa [be 4 false] .ret) .skip)))) (.region [aS 25 .add 9 1,I 9 25])))) (aa [be 4 true] .ret)))
@[simp] def akt:List bA:=[.tmp 4]
def OV:C:=(aa [bJ 2 0] (.seq (aa [I 6 0,cJ 7 172 6,cy 8 7] (aT 8 (aa [bJ 2 (-1)] .ret) .skip)) (aa [cW (.alloc 3 (some 831) (.int .i64 0)),cW (.store 1 (.t 3) (fQ 0))] (.seq (aa [I 9 0,b7 10 9,bJ 11 0] (e0 12 11 10 (.seq (.block 1 (aa [cd 13 4 9 11,a6 14 4 13,dg 5 ds,bT 4 5 14] (.region [a6 15 4 5,ca 16 (.mkf 204 [.t 3]),b3 17 134 15 16]))) (.region [aS 18 .add 11 1,I 11 18])))) (aa [av 19 1 3,I 2 19] .ret)))))
@[simp] def akr:List bA:=[.tmp 2]
def OR:C:=(aa [eN 4 2,be 5 false] (.seq (aa [I 11 0,cJ 12 86 11,cy 13 12,I 14 13,bW 14 false 15 1,aq 14 false (cJ 16 87 15),aq 14 false (cy 17 16),cY 18 14 17] (aT 18 (aa [eN 4 2,be 5 false] .ret) .skip)) (aa [eD 19 2 98 [],I 6 19] (.seq (.seq (.fg false 6 (.region [I 20 1,b7 21 20,bJ 22 0])) (e0 23 22 21 (.seq (.block 1 (aa [cd 24 2 20 22,a6 25 2 24,cW (.alloc 8 none (.agg [.int .i64 0,.int .i64 0])),bT 2 8 25] (.seq (.drawn true 42 [I 27 0,I 28 6,aG 29 0 1 8,av 30 1 29,cJ 31 116 30,aG 32 1 1 8,av 33 1 32,dJ 34 118 [.t 27,.t 28,.t 31,.t 33],I 26 34,cH 35 0 26,cH 36 1 26,I 9 35,I 10 36]) (.seq (aa [I 37 10,cy 38 37] (aT 38 (aa [eN 4 2,be 5 false] .ret) .skip)) (.region [I 39 9,I 6 39]))))) (.region [aS 40 .add 22 1,I 22 40])))) (aa [I 41 6,I 4 41,be 5 true] .ret)))))
@[simp] def L7:List bA:=[.tmp 4,.tmp 5]
def OS:C:=(aa [eN 4 2,be 5 false] (.seq (aa [I 11 0,cJ 12 86 11,cy 13 12,I 14 13,bW 14 false 15 1,aq 14 false (cJ 16 88 15),aq 14 false (cy 17 16),cY 18 14 17] (aT 18 (aa [eN 4 2,be 5 false] .ret) .skip)) (aa [eD 19 2 100 [],I 6 19] (.seq (.seq (.fg false 6 (.region [I 20 1,b7 21 20,bJ 22 0])) (e0 23 22 21 (.seq (.block 1 (aa [cd 24 2 20 22,a6 25 2 24,cW (.alloc 8 none (.agg [.int .i64 0,.str []])),bT 2 8 25] (.seq (.drawn true 42 [I 27 0,I 28 6,aG 29 0 1 8,av 30 1 29,cJ 31 116 30,aG 32 1 1 8,av 33 1 32,dJ 34 120 [.t 27,.t 28,.t 31,.t 33],I 26 34,cH 35 0 26,cH 36 1 26,I 9 35,I 10 36]) (.seq (aa [I 37 10,cy 38 37] (aT 38 (aa [eN 4 2,be 5 false] .ret) .skip)) (.region [I 39 9,I 6 39]))))) (.region [aS 40 .add 22 1,I 22 40])))) (aa [I 41 6,I 4 41,be 5 true] .ret)))))
@[simp] def L8:List bA:=[.tmp 4,.tmp 5]
def OO:C:=(aa [eN 2 1] (.seq (aa [I 12 0,b7 13 12,bJ 14 0] (e0 15 14 13 (.seq (.block 1 (aa [cd 16 1 12 14,av 17 1 16,I 4 17] (aa [I 18 4,cJ 19 86 18,cy 20 19] (aT 20 (aa [eN 2 1] .ret) .skip)))) (.region [aS 21 .add 14 1,I 14 21])))) (aa [cW (.bslm 22 (some 821) 1 46 []),I 23 0,cW (.appm 24 none 1 46 (.t 22) (.t 23)),cW (.alloc 5 (some 822) (.slice 1 .nil [])),bT 1 5 24] (aa [av 25 1 5,ca 26 (.mkif 47 (.t 25)),ca 27 (.mkf 206 [.t 5]),b3 28 140 26 27] (aa [eD 29 1 46 [],I 6 29] (.seq (aa [av 30 1 5,b7 31 30,bJ 32 0] (.block 2 (.loop (aa [bg 33 .lss 32 31] (.seq (aT 33 .skip (.exit 2)) (.seq (.block 3 (aa [I 34 32,cd 35 1 30 32,av 36 1 35,I 7 34,I 8 36] (.seq (aa [I 37 7,aS 38 .gtr 37 0,I 39 38,aq 39 true (av 40 1 5),bW 39 true 41 7,aq 39 true (aS 42 .sub 41 1),aq 39 true (cd 43 1 40 42),aq 39 true (av 44 1 43),bW 39 true 45 8,aq 39 true (b3 46 207 44 45),aq 39 true (aS 47 .eql 46 0),du 48 39 47] (aT 48 (.exit 3) .skip)) (aa [be 9 true] (.seq (aa [av 49 1 5,b7 50 49,bJ 51 0] (.block 4 (.loop (aa [bg 52 .lss 51 50] (.seq (aT 52 .skip (.exit 4)) (.seq (.block 5 (aa [cd 53 1 49 51,av 54 1 53,I 11 54] (aa [I 55 11,I 56 8,b3 57 207 55 56,aS 58 .neq 57 0,I 59 58,bW 59 true 60 11,bW 59 true 61 8,aq 59 true (b3 62 208 60 61),du 63 59 62] (aT 63 (.region [be 9 false]) .skip)))) (.region [aS 64 .add 51 1,I 51 64]))))))) (aa [I 65 9] (aT 65 (.region [I 66 6,I 67 8,cJ 68 168 67,eD 69 1 46 [.t 68],hF 70 1 46 66 69,I 6 70]) .skip))))))) (.region [aS 71 .add 32 1,I 32 71]))))))) (aa [I 72 6,I 2 72] .ret)))))))
@[simp] def akn:List bA:=[.tmp 2]
def Iz:C:=(.region [av 3 1 1,I 4 0,aS 5 .add 4 1,ca 6 (.max2 (.t 3) (.t 5)),bT 1 1 6])
@[simp] def Mb:List bA:=[]
def OP:C:=(aa [be 5 false] (.seq (.drawn true 16 [av 6 1 2,I 7 0,cd 8 1 6 7,av 9 1 8,av 10 1 2,I 11 1,cd 12 1 10 11,av 13 1 12,b3 14 207 9 13,aS 15 .lss 14 0,I 5 15]) .ret))
@[simp] def VM:List bA:=[.tmp 5]
def w2:List (Nat×dF):=[
 (3,⟨1,8,.int .i64,.int .i64 0⟩),
 (9,⟨1,16,.str,.str []⟩),
 (27,⟨1,24,.slice 30,.slice 4 .nil []⟩),
 (30,⟨4,56,.struct [(0,3),(1,3),(2,9),(3,27)],.agg [.int .i64 0,.int .i64 0,.str [],.slice 4 .nil []]⟩),
 (46,⟨1,24,.slice 113,.slice 5 .nil []⟩),
 (47,⟨1,24,.slice 46,.slice 1 .nil []⟩),
 (48,⟨1,24,.slice 98,.slice 2 .nil []⟩),
 (49,⟨1,24,.slice 100,.slice 2 .nil []⟩),
 (98,⟨2,16,.struct [(0,3),(1,3)],.agg [.int .i64 0,.int .i64 0]⟩),
 (100,⟨2,24,.struct [(0,3),(1,9)],.agg [.int .i64 0,.str []]⟩),
 (113,⟨5,64,.struct [(0,3),(1,30)],.agg [.int .i64 0,.int .i64 0,.int .i64 0,.str [],.slice 4 .nil []]⟩)]
theorem w4:fP ao w2=true:=by kernel_rfl
theorem aii:b1 w2 OX akt 2 Tryz.f89=true:=by kernel_rfl
theorem abF:ao.funcs[(89:Nat)]? =some Tryz.f89:=Tryz.func89
theorem aif:b1 w2 OV akr 1 Tryz.f162=true:=by kernel_rfl
theorem abD:ao.funcs[(162:Nat)]? =some Tryz.f162:=Tryz.func162
theorem aib:b1 w2 OR L7 2 Tryz.f163=true:=by kernel_rfl
theorem abz:ao.funcs[(163:Nat)]? =some Tryz.f163:=Tryz.func163
theorem aic:b1 w2 OS L8 2 Tryz.f164=true:=by kernel_rfl
theorem abA:ao.funcs[(164:Nat)]? =some Tryz.f164:=Tryz.func164
theorem ah8:b1 w2 OO akn 1 Tryz.f167=true:=by kernel_rfl
theorem abw:ao.funcs[(167:Nat)]? =some Tryz.f167:=Tryz.func167
theorem U9:b1 w2 Iz Mb 2 Tryz.f204=true:=by kernel_rfl
theorem Rs:ao.funcs[(204:Nat)]? =some Tryz.f204:=Tryz.func204
theorem ah9:b1 w2 OP VM 3 Tryz.f206=true:=by kernel_rfl
theorem abx:ao.funcs[(206:Nat)]? =some Tryz.f206:=Tryz.func206
def TF(s:List al)(l:List bM)(i:Nat)(a:List bM):Prop:=fO a∧gh s (l.drop i) a=gh s l []
theorem XH{s:List al}(ag:eG s){l:List bM}(aw:fO l):bH ao 163 [.slice 5 .no (s.map al.e),.slice 2 .no (l.map bM.e)] (fY (gh s l [])):=by
 have xX:=td aw;have c4:=pP ag;have dk:=XE aw;refine bh w4 abz aib fun aO=>?_;unfold OR;simp;(with_reducible repeat' first|refine aj ?_|refine aC c4 ?_|refine aD c4 ?_|refine aC dk ?_|refine aD dk ?_|simp);refine dw [0,20,21] (fun i (a:List bM)=>[(6,.slice 2 .no (a.map bM.e)),(22,.int .i64 i)]) l.length (TF s l) [] bN ⟨⟨by simp,by simp⟩,rfl⟩ (fun a ae _=>?_) (fun i a hi ae _=>?_)
 ·obtain⟨_,ae⟩:=ae;rw[sv]at ae;simp only[gh]at ae;rw[←ae];simp;(with_reducible repeat' first|refine aj ?_|simp);simp[bt,L7,aX,aY,aW];simp[fY]
 ·obtain⟨bz,ae⟩:=ae;obtain⟨b,ad,cA⟩:=dT hi;have oC:=aw.at' b (dK ad);rw[kP hi,cA]at ae;simp only[gh]at ae;have fC:=amI ag bz (.var b.v) (by simp[T.fit,T.ok,T.size,oC.1]) b.k;have br:((T.var b.v).ap (bV s)).size≤5000:=DR ag b.v;rw[if_pos ⟨oC.2,br⟩,show(T.var b.v).ap (bV s)=bV s b.v from rfl]at fC;simp[hi,cA];cases dW:ko a (bV s b.v) b.k with
  |none=>rw[dW]at ae fC;simp only at ae;rw[←ae];simp only[fY]at fC;(with_reducible repeat' first|refine aj ?_|refine aC (jl _) ?_|refine aD (jl _) ?_|refine aC fC ?_|refine aD fC ?_|simp[cA,hi]);simp[bt,L7,aX,aY,aW];simp[fY]
  |some bp=>rw[dW]at ae fC;simp only[fY]at fC;(with_reducible repeat' first|refine aj ?_|refine aC (jl _) ?_|refine aD (jl _) ?_|refine aC fC ?_|refine aD fC ?_|simp[cA,hi]);exact bK.rng bp hi ⟨Ic bz (A7 ag oC.1) oC.2 dW,ae⟩ bN
def TG(s:List al)(G:List (List dE))(l:List bm)(i:Nat)(a:List bm):Prop:=il a∧n5 G a∧gi s (l.drop i) a=gi s l []
theorem XI{s:List al}(ag:eG s){l:List bm}(aw:il l){G:List (List dE)}(nc:G.length≤687000)(a7:n5 G l):bH ao 164 [.slice 5 .no (s.map al.e),.slice 2 .no (l.map bm.e)] (jj (gi s l [])):=by
 have hlen:∀{a:List bm},il a→n5 G a→a.length≤68719470000:=fun J U=>by have:=C7 J U;omega
 have xX:=hlen aw a7;have c4:=pP ag;have dk:=XG aw;refine bh w4 abA aic fun aO=>?_;unfold OS;simp;(with_reducible repeat' first|refine aj ?_|refine aC c4 ?_|refine aD c4 ?_|refine aC dk ?_|refine aD dk ?_|simp);refine dw [0,20,21] (fun i (a:List bm)=>[(6,.slice 2 .no (a.map bm.e)),(22,.int .i64 i)]) l.length (TG s G l) [] bN ⟨⟨by simp,by simp[hN]⟩,fun x af=>by simp at af,rfl⟩ (fun a ae _=>?_) (fun i a hi ae _=>?_)
 ·obtain⟨_,_,ae⟩:=ae;rw[sv]at ae;simp only[gi]at ae;rw[←ae];simp;(with_reducible repeat' first|refine aj ?_|simp);simp[bt,L8,aX,aY,aW];simp[jj]
 ·obtain⟨bz,CJ,ae⟩:=ae;obtain⟨b,ad,cA⟩:=dT hi;have oC:=aw.at' b (dK ad);have JY:=a7 b (dK ad);rw[kP hi,cA]at ae;simp only[gi]at ae;have fC:=amH ag bz (hlen bz CJ) (.var b.v) (by simp[T.fit,T.ok,T.size,oC.1]) oC.2;have br:((T.var b.v).ap (bV s)).size≤5000:=DR ag b.v;rw[if_pos br,show(T.var b.v).ap (bV s)=bV s b.v from rfl]at fC;simp[hi,cA];cases dW:l0 a (bV s b.v) b.s with
  |none=>rw[dW]at ae fC;simp only at ae;rw[←ae];simp only[jj]at fC;(with_reducible repeat' first|refine aj ?_|refine aC (jl _) ?_|refine aD (jl _) ?_|refine aC fC ?_|refine aD fC ?_|simp[cA,hi]);simp[bt,L8,aX,aY,aW];simp[jj]
  |some bp=>rw[dW]at ae fC;simp only[jj]at fC;(with_reducible repeat' first|refine aj ?_|refine aC (jl _) ?_|refine aD (jl _) ?_|refine aC fC ?_|refine aD fC ?_|simp[cA,hi]);exact bK.rng bp hi ⟨If bz (A7 ag oC.1) oC.2 dW,Ig CJ JY dW,ae⟩ bN
end Go.Proofs.YtahlgcidhnjlbaaGreat
namespace Go.Proofs.YtahlgcidhnjlbaaGreat
open Go Go.Pv Go.Lib
def cO(d:List al):ah:= .slice 5 .no (d.map al.e)
@[simp] theorem aqH(S:aI→Prop)(d:List al):aB S (cO d)=True:=by simp[cO]
@[simp] theorem aoN(d:List al):cells (cO d)=[cO d]:=rfl
@[simp] theorem asS(d:List al):ec (cO d)=true:=rfl
@[simp] theorem atl(d:List al):dm (cO d)=cO d:=by simp[cO]
theorem Q5:∀(S:aI→Prop) (x:List al),aB S (cO x):=fun S x=>by simp
theorem K2(S:aI→Prop):∀l:List (List al),aH S (l.map cO)
 |[]=>by simp[aH]
 |x::xs=>by simp[aH,K2 S xs]
@[simp] theorem Ue(S:aI→Prop)(l:List (List al)):aH S (l.map cO)=True:=eq_true (K2 S l)
@[simp] theorem M3:∀l:List (List al),cR (l.map cO)=l.map cO
 |[]=>rfl
 |x::xs=>by simp[cR,M3 xs]
def gb(d:List cT):ah:= .slice 5 .no (d.map cT.e)
@[simp] theorem aoQ(d:List cT):cells (gb d)=[gb d]:=rfl
@[simp] theorem asV(d:List cT):ec (gb d)=true:=rfl
theorem I3(d:List al):gb (d.map al.b)=cO d:=by simp only[gb,cO,r1]
theorem I4(l:List (List al)):(l.map fun d=>d.map al.b).map gb=l.map cO:=by rw[List.map_map];exact List.map_congr_left fun d _=>I3 d
@[simp] theorem aqK(S:aI→Prop)(d:List cT):aB S (gb d)=True:=by simp[gb]
@[simp] theorem ato(d:List cT):dm (gb d)=gb d:=by simp[gb]
theorem Ug(S:aI→Prop):∀l:List (List cT),aH S (l.map gb)
 |[]=>by simp[aH]
 |x::xs=>by simp[aH,Ug S xs]
@[simp] theorem aqC(S:aI→Prop)(l:List (List cT)):aH S (l.map gb)=True:=eq_true (Ug S l)
abbrev tS(l:List (List al)):cK:=dV cO 821 822 46 1 l
theorem H0(l:List (List al)):eh (tS l):=xi Q5 l
theorem adN(l:List (List al))(aw:l.length≤68719476736)(i j:Nat)(x y:List al)(hi:l[i]? =some x)(ae:l[j]? =some y):bU ao 206 [.int .i64 i,.int .i64 j,.ptr (.obj 822) 0] (tS l) fun r ai=>r= .bool (hL ev x y)∧ai=tS l:=by have ag:=H0 l;obtain⟨ie,hC⟩:=e1.1 hi;obtain⟨dU,ky⟩:=e1.1 ae;have aU:bH ao 207 [cO x,cO y] (.int .i64 (ev x y)):=HR x y;unfold tS dV at ag⊢;refine bU.mk mixed w4 abx ah9 (by simp) ag.obj fun aO cL=>?_;unfold OP;simp[ie,dU,hC,ky];(with_reducible repeat' first|refine aj ?_|refine aC aU ?_|refine aD aU ?_|simp[ie,dU,hC,ky]);refine cV.at _ (.inl rfl) ag (Same.refl _) aR aR ?_;simp[c1,VM,aX,aY,aW,hL]
noncomputable def Tryz.dsT:TypeInfo:=(ao.info? 47).get (by kernel_rfl)
noncomputable def Tryz.dsE:TypeInfo:=(ao.info? 46).get (by kernel_rfl)
theorem Tryz.dsK(n:Nat)(U:2≤n):Lib.swapperK n Tryz.dsE 23=9:=by
 have a:Tryz.dsE.hasPointers=true:=by kernel_rfl
 have b:Tryz.dsE.bytes=24:=by kernel_rfl
 have c:(n==0)=false:=by simp;omega
 have d:(n==1)=false:=by simp;omega
 simp[Lib.swapperK,a,b,c,d]
theorem aeg(l:List (List al))(aw:l.length≤68719476736):bU ao 140 [.iface 47 (.row 1 (.obj 821) l.length),.func 206 [.ptr (.obj 822) 0]] (tS l) fun r ai=>r= .tuple []∧ai=tS (oT ev l):=by
 refine(adQ Q5 (K:=821) (B:=822) (sz:=1) 47 Tryz.dsT Tryz.dsE (by kernel_rfl) (by kernel_rfl) (by kernel_rfl) (by kernel_rfl) 23 (fun _=>by kernel_rfl) Tryz.dsK 206 (hL ev) lQ.ltOk l aw (fun a1 h i j x y hi ae=>adN a1 (by omega) i j x y hi ae) (fun a1 h i j hi ae=>?_)).mono ?_
 ·have:=R6 (P:=ao) false 230 (fun args W=>run_callFunc_extern Tryz.func230 (by kernel_rfl) (by kernel_rfl) (by kernel_rfl) (e:=Eh false) (by kernel_rfl) args W)
   46 Tryz.dsE (by kernel_rfl) (.inr ⟨by kernel_rfl,fun _=>by kernel_rfl⟩) (H0 a1) (K:=821) (n:=l.length) (el:=46) (sz:=1) (by kernel_rfl) (xs:=a1.map cO) (by simp[dV,Pv.look,h]) i j hi ae
  refine this.mono ?_;rintro r ai ⟨rfl,rfl⟩;refine⟨rfl,?_⟩;simp[dV,cB,Uy,h]
 ·rintro r ai ⟨rfl,a1,rfl,J,U⟩;exact⟨rfl,by rw[W7 lQ J U]⟩
end Go.Proofs.YtahlgcidhnjlbaaGreat
namespace Go.Proofs.YtahlgcidhnjlbaaGreat
open Go Go.Pv
inductive gY where
 |s (l:List dE)
 |b (x:ByteArray)
def gY.e:gY→ah
 | .s l=>.str l
 | .b x=>.cst (.string x)
def gY.len:gY→Int
 | .s l=>l.length
 | .b x=>x.size
def mO(n:Nat):Prop:=lim<n∧n≤9223372036854775807
def gY.wf:gY→Prop
 | .s _=>True
 | .b x=>mO x.size
inductive cN (α:Type) where
 |l (xs:List α)
 |b (p:aZ Addr) (n cap:Nat)
def cN.e{α:Type}(sz:Nat)(f:α→ah):cN α→ah
 | .l xs=>.slice sz .no (xs.map f)
 | .b p n cap=>.cst (.slice p n cap)
def cN.wf{α:Type}(P:α→Prop):cN α→Prop
 | .l xs=> ∀x∈xs,P x
 | .b _ n _=>mO n
inductive ck where
 |mk (k n:Int) (s:gY) (a:List ck)
 |big (k n:Int) (s:gY) (p:aZ Addr) (len cap:Nat)
mutual
def ck.e:ck→ah
 | .mk k n s a=>.agg [.int .i64 k,.int .i64 n,s.e,.slice 4 .no (ck.eL a)]
 | .big k n s p len cap=>.agg [.int .i64 k,.int .i64 n,s.e,.cst (.slice p len cap)]
def ck.eL:List ck→List ah
 |[]=>[]
 |x::xs=>x.e::ck.eL xs
end
theorem ck.eL_map:∀l,ck.eL l=l.map ck.e
 |[]=>rfl
 |x::xs=>by simp[ck.eL,ck.eL_map xs]
def ck.kind:ck→Int| .mk k _ _ _=>k| .big k _ _ _ _ _=>k
def ck.num:ck→Int| .mk _ n _ _=>n| .big _ n _ _ _ _=>n
def ck.name:ck→gY| .mk _ _ s _=>s| .big _ _ s _ _ _=>s
def ck.args:ck→cN ck| .mk _ _ _ a=>.l a| .big _ _ _ p l c=>.b p l c
theorem ck.e_eq(t:ck):t.e= .agg [.int .i64 t.kind,.int .i64 t.num,t.name.e,t.args.e 4 ck.e]:=by
 cases t with
 |mk k n s a=>simp only[ck.e,ck.eL_map];rfl
 |big=>rfl
@[simp] theorem aqO(S:aI→Prop)(s:gY):aB S s.e=True:=by cases s<;>simp[gY.e,aB]
@[simp] theorem atr(s:gY):dm s.e=s.e:=by cases s<;>simp[gY.e,dm]
mutual
theorem Ui(S:aI→Prop):∀t:ck,aB S t.e
 | .mk k n s a=>by simp[ck.e,aB,aH,K3 S a]
 | .big k n s p l c=>by simp[ck.e,aB,aH]
theorem K3(S:aI→Prop):∀l:List ck,aH S (ck.eL l)
 |[]=>by simp[ck.eL,aH]
 |x::xs=>by simp[ck.eL,aH,Ui S x,K3 S xs]
end
mutual
theorem Xc:∀t:ck,dm t.e=t.e
 | .mk k n s a=>by simp[ck.e,dm,cR,M4 a]
 | .big k n s p l c=>by simp[ck.e,dm,cR]
theorem M4:∀l:List ck,cR (ck.eL l)=ck.eL l
 |[]=>by simp[ck.eL,cR]
 |x::xs=>by simp[ck.eL,cR,Xc x,M4 xs]
end
@[simp] theorem aq2(S:aI→Prop)(t:ck):aB S t.e=True:=eq_true (Ui S t)
@[simp] theorem aqA(S:aI→Prop)(l:List ck):aH S (l.map ck.e)=True:=by rw[←ck.eL_map];exact eq_true (K3 S l)
@[simp] theorem atz(t:ck):dm t.e=t.e:=Xc t
@[simp] theorem ath(l:List ck):cR (l.map ck.e)=l.map ck.e:=by rw[←ck.eL_map];exact M4 l
@[simp] theorem atd(t:ck):ec t.e=true:=by rw[ck.e_eq];rfl
@[simp] theorem aqj(t:ck):Pv.isAgg 4 t.e:=by rw[ck.e_eq];exact⟨_,rfl,rfl⟩
@[simp] theorem ao9(t:ck):cells t.e=[.int .i64 t.kind,.int .i64 t.num,t.name.e,t.args.e 4 ck.e]:=by rw[ck.e_eq];rfl
@[simp] theorem aqN(S:aI→Prop)(x:cN ck):aB S (x.e 4 ck.e)=True:=by cases x<;>simp[cN.e,aB]
@[simp] theorem atq(x:cN ck):dm (x.e 4 ck.e)=x.e 4 ck.e:=by cases x<;>simp[cN.e,dm]
mutual
def ck.sz:ck→Nat
 | .mk _ _ _ a=>1+ck.szL a
 | .big _ _ _ _ _ _=>1
def ck.szL:List ck→Nat
 |[]=>0
 |x::xs=>x.sz+ck.szL xs
end
theorem ck.szL_mem:∀{l:List ck} {x:ck},x∈l→x.sz≤ck.szL l
 |y::l,x,h=>by
  rcases fR.1 h with rfl|h
  ·simp[ck.szL]
  ·have:=ck.szL_mem h;simp[ck.szL];omega
mutual
def ck.wf:ck→Prop
 | .mk _ _ s a=>s.wf∧ck.wfL a
 | .big _ _ s _ l _=>s.wf∧mO l
def ck.wfL:List ck→Prop
 |[]=>True
 |x::xs=>x.wf∧ck.wfL xs
end
theorem ck.wfL_iff:∀{l:List ck},ck.wfL l↔∀x∈l,x.wf
 |[]=>by simp[ck.wfL]
 |x::l=>by simp[ck.wfL,ck.wfL_iff (l:=l)]
def j5{α:Type}(f:α→Int→Int):List α→Int→Int
 |[],m=>m
 |x::xs,m=>if f x m<0 then-1 else j5 f xs (f x m)
def oX{α:Type}(f:α→Int→Int)(l:List α)(m:Int):Int:=if m-l.length<0 then-1 else j5 f l (m-l.length)
def gE{α:Type}(f:α→Int→Int):cN α→Int→Int
 | .l xs,m=>oX f xs m
 | .b _ _ _,_=> -1
theorem Xi{α:Type}{f:α→Int→Int}(aL:∀x m,0≤m→ -1≤f x m∧f x m≤m):∀(l:List α) (m:Int),0≤m→ -1≤j5 f l m∧j5 f l m≤m
 |[],m,h=>by simp only[j5];omega
 |x::xs,m,h=>by
  have J:=aL x m h;simp only[j5];split
  ·omega
  ·have U:=Xi aL xs (f x m) (by omega);omega
theorem amo{α:Type}{f:α→Int→Int}(aL:∀x m,0≤m→ -1≤f x m∧f x m≤m)(l:List α)(m:Int)(h:0≤m): -1≤oX f l m∧oX f l m≤m:=by
 unfold oX;split
 ·omega
 ·have:=Xi aL l (m-l.length) (by omega);omega
theorem tz{α:Type}{f:α→Int→Int}(aL:∀x m,0≤m→ -1≤f x m∧f x m≤m)(l:cN α)(m:Int)(h:0≤m): -1≤gE f l m∧gE f l m≤m:=by
 cases l with
 |l xs=>exact amo aL xs m h
 |b=>simp only[gE];omega
mutual
def hM:ck→Int→Int
 | .mk _ _ s a,m=>if m-s.len<0 then-1 else if m-s.len-a.length<0 then-1 else tA a (m-s.len-a.length)
 | .big _ _ s _ _ _,m=>if m-s.len<0 then-1 else-1
def tA:List ck→Int→Int
 |[],m=>m
 |x::xs,m=>if hM x m<0 then-1 else tA xs (hM x m)
end
theorem Xk:∀(l:List ck) (m:Int),tA l m=j5 hM l m
 |[],m=>rfl
 |x::xs,m=>by simp only[tA,j5,Xk xs]
theorem HD(t:ck)(m:Int):hM t m=if m-t.name.len<0 then-1 else gE hM t.args (m-t.name.len):=by
 cases t with
 |mk=>simp only[hM,gE,oX,Xk,ck.name,ck.args];rfl
 |big=>simp only[hM,gE,ck.name,ck.args];rfl
theorem gY.len_nn(s:gY):0≤s.len:=by cases s<;>simp[gY.len]
mutual
theorem vm:∀(t:ck) (m:Int),0≤m→ -1≤hM t m∧hM t m≤m
 | .mk _ _ s a,m,h=>by
  have:=s.len_nn;simp only[hM];split
  ·omega
  ·split
   ·omega
   ·have:=Xl a (m-s.len-a.length) (by omega);omega
 | .big _ _ s _ _ _,m,h=>by simp only[hM];split<;>omega
theorem Xl:∀(l:List ck) (m:Int),0≤m→ -1≤tA l m∧tA l m≤m
 |[],m,h=>by simp only[tA];omega
 |x::xs,m,h=>by
  have J:=vm x m h;simp only[tA];split
  ·omega
  ·have U:=Xl xs (hM x m) (by omega);omega
end
theorem gY.small{s:gY}(hw:s.wf){m:Int}(bn:m≤1048576)(h:0≤m-s.len):∃l,s= .s l:=by
 cases s with
 |s l=>exact⟨l,rfl⟩
 |b x=>simp only[gY.wf,mO,lim]at hw;simp only[gY.len]at h;omega
mutual
def vo:bI→ck
 | .mk k n s a=>.mk k n (.s s) (Bb a)
def Bb:List bI→List ck
 |[]=>[]
 |x::xs=>vo x::Bb xs
end
mutual
theorem Ng:∀t:bI,(vo t).e=enc t
 | .mk k n s a=>by simp only[vo,ck.e,enc,Xt a];rfl
theorem Xt:∀l:List bI,ck.eL (Bb l)=po l
 |[]=>rfl
 |x::xs=>by simp only[Bb,ck.eL,po,Ng x,Xt xs]
end
mutual
theorem Na:∀(t:ck) (m:Int),t.wf→m≤1048576→0≤m→0≤hM t m→∃u:bI,t=vo u
 | .mk k n s a,m,hw,J,bn,h=>by
  simp only[ck.wf]at hw;simp only[hM]at h;have:=s.len_nn;split at h
  ·omega
  rename_i g;obtain⟨l,rfl⟩:=gY.small hw.1 J (by omega);split at h
  ·omega
  obtain⟨b,ad⟩:=Xm a _ hw.2 (by omega) (by omega) h;exact⟨.mk k n l b,by simp only[vo,ad]⟩
 | .big _ _ s _ _ _,m,_,_,_,h=>by simp only[hM]at h;split at h<;>omega
theorem Xm:∀(l:List ck) (m:Int),ck.wfL l→m≤1048576→0≤m→0≤tA l m→∃u:List bI,l=Bb u
 |[],_,_,_,_,_=>⟨[],rfl⟩
 |x::xs,m,hw,J,bn,h=>by
  simp only[ck.wfL]at hw;simp only[tA]at h;have U:=vm x m bn;split at h
  ·omega
  obtain⟨u,hu⟩:=Na x m hw.1 J bn (by omega);obtain⟨v,aF⟩:=Xm xs _ hw.2 (by omega) (by omega) h;exact⟨u::v,by simp only[Bb,hu,aF]⟩
end
theorem Xj{α β:Type}{f:α→Int→Int}{P:α→Prop}{g:β→α}(hle:∀x m,0≤m→ -1≤f x m∧f x m≤m)(ag:∀x m,P x→m≤1048576→0≤m→0≤f x m→∃y,x=g y):∀(l:List α) (m:Int),(∀x∈l,P x)→m≤1048576→0≤m→0≤j5 f l m→∃u:List β,l=u.map g
 |[],_,_,_,_,_=>⟨[],rfl⟩
 |x::xs,m,hw,J,bn,h=>by
  simp only[j5]at h;have U:=hle x m bn;split at h
  ·omega
  obtain⟨u,hu⟩:=ag x m (hw x (by simp)) J bn (by omega);obtain⟨v,aF⟩:=Xj hle ag xs _ (fun y aM=>hw y (by simp[aM])) (by omega) (by omega) h;exact⟨u::v,by rw[gO,←hu,←aF]⟩
theorem HC{α β:Type}{f:α→Int→Int}{P:α→Prop}{g:β→α}(hle:∀x m,0≤m→ -1≤f x m∧f x m≤m)(ag:∀x m,P x→m≤1048576→0≤m→0≤f x m→∃y,x=g y)(l:cN α)(m:Int)(hw:l.wf P)(J:m≤1048576)(bn:0≤m)(h:0≤gE f l m):∃u:List β,l= .l (u.map g):=by
 cases l with
 |b=>simp only[gE]at h;omega
 |l xs=>
  simp only[gE,oX]at h;split at h
  ·omega
  obtain⟨u,hu⟩:=Xj hle ag xs _ hw (by omega) (by omega) h;exact⟨u,by rw[hu]⟩
end Go.Proofs.YtahlgcidhnjlbaaGreat
namespace Go.Proofs.YtahlgcidhnjlbaaGreat
open Go Go.Pv Go.ChangeShapes Go.WideShapes Go.ChangeAt Go.RowKit Go.Deep
def qJ(W:World):bf:=⟨fun b o=> ∃u,W.cell? ⟨b,o,none⟩=some u,fun _=>none,fun _=>none,fun _ _ _=>eQ⟩
theorem Um(W:World)(b:Nat):∀(us:List Value) (off:Nat),(∀i u,us[i]? =some u→W.cell? ⟨b,off+i,none⟩=some u)→lO W (qJ W).A b off us
 |[],_,_=>trivial
 |u::us,off,h=>by
  have bn:W.cell? ⟨b,off,none⟩=some u:=by simpa using h 0 u rfl
  exact⟨⟨⟨u,bn⟩,bn⟩,Um W b us (off+1) fun i e8 hu=>by have:=h (i+1) e8 (by simpa using hu);rwa[show off+(i+1)=off+1+i from by omega]at this⟩
section
variable {H:Type} {enc:fZ×Value→H} {W:World} {spare:Nat→Bool} {held:Bool}
def reads(W:World)(p:ah)(cs:List Value):Prop:= ∃v:Value,v.cells.toList=cs∧bc W (qJ W) p v∧∀c∈cs,c.oneCell'=true
theorem AZ{W:World}{cx:List ah}{cs:List Value}(h:c7 W (qJ W) cx cs):reads W (.agg cx) cs:=by
 refine⟨.agg cs.toArray,by simp[pR],by simp only[bc];exact⟨cs.toArray,rfl,by simpa using h⟩,?_⟩;have:∀(cx:List ah) (cs:List Value),c7 W (qJ W) cx cs→∀c∈cs,c.oneCell'=true:=by
  intro cx;induction cx with
  |nil=>intro cs h;simp only[c7]at h;subst h;simp
  |cons p cx bO=>
   intro cs h c au;simp only[c7]at h;obtain⟨u,us,rfl,J,U⟩:=h;rcases fR.1 au with rfl|au
   ·exact J.2
   ·exact bO us U c au
 exact this cx cs h
def vb(W:World)(p:ah)(v:Value):Prop:=bc W (qJ W) p v∧v.oneCell'=true∧v.cells= #[v]
theorem vb.reads{W:World}{p:ah}{v:Value}(h:vb W p v):reads W p [v]:=⟨v,by rw[h.2.2],h.1,fun c au=>by simp at au;subst au;exact h.2.1⟩
theorem Zx{W:World}{xk xm k j:Nat}:W.cell? (((⟨xk,xm,none⟩:Addr).add k).add j)=W.cell? ⟨xk,xm+(k+j),none⟩:=by rw[add_add,Addr.add_lit]
theorem A9{α:Type}{t e:fZ}{sz:Nat}(f:α→ah)(Q:α→Prop)(aK:ao.underlying t=some (.slice e))(au:ao.cellsOf e=sz)(ee:0<sz){fuel:Nat}
  (aeV:∀n cs x,n<fuel→iX enc ao W 0 spare held n e cs=some x→∃a:α,Q a∧reads W (f a) cs)
  {cs:List Value} {x:DataW H×List MemPlace} (h:iX enc ao W 0 spare held fuel t cs=some x):∃l:cN α,l.wf Q∧∃v,cs=[v]∧vb W (l.e sz f) v:=by
 rcases DataW.trod_slice aK h with⟨rfl,_⟩|⟨a,len,cap,elems,rest,n,rfl,rfl,_,_,aw,hm,hlen,SC,_,_⟩
 ·refine⟨.l [],by simp[cN.wf],_,rfl,?_,rfl,rfl⟩;simp only[cN.e,List.map_nil,bc];exact⟨⟨none,0,rfl,by simp,⟨by simp[maxLen],by simp[lim]⟩,.inl (by simp)⟩,fun e=>(by cases e),fun g e=>(by cases e),fun _ _ e=>(by cases e),fun _ e=>(by cases e)⟩
 by_cases Fv:lim<len
 ·refine⟨.b (some a) len cap,⟨Fv,by unfold maxLen at hm;omega⟩,_,rfl,?_,rfl,rfl⟩;simp only[cN.e,bc]
 rcases Nat.eq_zero_or_pos len with rfl|fs
 ·refine⟨.l [],by simp[cN.wf],_,rfl,?_,rfl,rfl⟩;simp only[cN.e,List.map_nil,bc];exact⟨⟨some a,cap,rfl,by simp,⟨hm,by simp[lim]⟩,.inl (by simp)⟩,fun e=>(by cases e),fun g e=>(by cases e),fun _ _ e=>(by cases e),fun _ e=>(by cases e)⟩
 rw[au]at SC;have hb:∀i,i<len→∃cs',cs'.length=sz∧(∀j,j<sz→W.cell? ((a.add (i*sz)).add j)=cs'[j]?)∧∃b:α,Q b∧reads W (f b) cs':=by intro i hi;have J:=SC i hi;rw[bZ (by omega)]at J;obtain⟨cs',U,ar⟩:=mS.1 J;obtain⟨_,ba,b4⟩:=World.cells?_some U;exact⟨cs',ba,b4,aeV n cs' _ (by omega) ar⟩
 obtain⟨xk,xm,spot⟩:=a;have afU:spot=none:=by obtain⟨cs',J,U,_⟩:=hb 0 fs;have ar:=U 0 ee;rw[bZ (by omega)]at ar;simpa[Addr.add]using World.cell?_spot ar
 subst afU;have ZE:∀d,d≤len→∃xs:List α,xs.length=d∧(∀x∈xs,Q x)∧∃us:List Value,us.length=d*sz∧dB W (qJ W) sz (xs.map f) us∧∀j u,us[j]? =some u→W.cell? ⟨xk,xm+((len-d)*sz+j),none⟩=some u:=by
  intro d;induction d with
  |zero=>intro _;exact⟨[],rfl,by simp,[],by simp,by simp[dB],by simp⟩
  |succ d bO=>
   intro aQ;obtain⟨xs,ak,aE,us,bj,c2,ha⟩:=bO (by omega);obtain⟨cs',bL,cp,b,ad,v,v1,v2,v3⟩:=hb (len-(d+1)) (by omega);have hmul:(len-d)*sz=(len-(d+1))*sz+sz:=by rw[show len-d=(len-(d+1))+1 from by omega,Nat.succ_mul]
   refine⟨b::xs,by simp[ak],fun x af=>?_,cs'++us,by rw[o5,bL,bj,Nat.succ_mul];omega,?_,fun j u ae=>?_⟩
   ·rcases fR.1 af with rfl|af
    ·exact ad
    ·exact aE x af
   ·simp only[gO,dB];exact⟨v,us,by rw[v1],⟨v2,by rw[←bL,←v1];simp,by rw[v1];exact v3⟩,c2⟩
   ·rcases Nat.lt_or_ge j sz with bE|uz
    ·rw[List.getElem?_append_left (by omega)]at ae;have:=cp j bE;rw[Zx]at this;rw[this];exact ae
    ·rw[List.getElem?_append_right (by omega),bL]at ae;have:=ha (j-sz) u ae;rwa[show(len-d)*sz+(j-sz)=(len-(d+1))*sz+j from by omega]at this
 obtain⟨xs,ak,aE,us,bj,c2,ha⟩:=ZE len (eR _);refine⟨.l xs,aE,_,rfl,?_,rfl,rfl⟩;simp only[cN.e,bc];refine⟨⟨some ⟨xk,xm,none⟩,cap,by rw[rj,ak],by rw[rj,ak];exact aw,⟨hm,by rw[rj,ak];omega⟩,.inr ⟨xk,xm,us,rfl,Um W xk us xm fun i u hu=>?_,c2⟩⟩,fun e=>(by cases e),fun g e=>(by cases e),fun _ _ e=>(by cases e),fun _ e=>(by cases e)⟩;have:=ha i u hu;simpa using this
end
end Go.Proofs.YtahlgcidhnjlbaaGreat
namespace Go.Proofs.YtahlgcidhnjlbaaGreat
open Go Go.Pv
@[simp] def asb:List bA:=[.tmp 2]
def ub:C:=(aa [cM 2 0,bJ 4 0] (aa [I 5 1,aG 6 2 1 2,av 7 1 6,ca 8 (.slen (.t 7)),bg 9 .sub 5 8,I 1 9] (.seq (aa [I 10 1,aS 11 .lss 10 0] (aT 11 (aa [bJ 4 (-1)] .ret) .skip)) (aa [aG 12 3 1 2,av 13 1 12,I 14 1,b3 15 16 13 14,I 1 15] (.seq (aa [I 16 1,aS 17 .lss 16 0] (aT 17 (aa [bJ 4 (-1)] .ret) .skip)) (aa [I 18 1,I 4 18] .ret))))))
@[simp] def akO:List bA:=[.tmp 4]
def IH:C:=(aa [bJ 4 0] (aa [I 6 1,I 7 0,b7 8 7,bg 9 .sub 6 8,I 1 9] (.seq (aa [I 10 1,aS 11 .lss 10 0] (aT 11 (aa [bJ 4 (-1)] .ret) .skip)) (.seq (aa [bJ 5 0] (.block 0 (.loop (.seq (aa [I 12 5,I 13 0,b7 14 13,bg 15 .lss 12 14] (aT 15 .skip (.exit 0))) (.seq (.block 1 (aa [I 18 0,I 19 5,cd 20 4 18 19,a6 21 4 20,I 22 1,b3 23 15 21 22,I 1 23] (aa [I 24 1,aS 25 .lss 24 0] (aT 25 (aa [bJ 4 (-1)] .ret) .skip)))) (.region [I 16 5,aS 17 .add 16 1,I 5 17])))))) (aa [I 26 1,I 4 26] .ret)))))
@[simp] def akP:List bA:=[.tmp 4]
def PL:C:=(aa [cM 1 0,dg 2 ds] (aa [dg 3 ds] (aa [aG 4 0 1 1,av 5 1 4,aG 6 0 1 3,bT 1 6 5] (aa [aG 7 1 1 1,av 8 1 7,aG 9 1 1 3,bT 1 9 8] (aa [aG 10 2 1 1,av 11 1 10,aG 12 2 1 3,bT 1 12 11] (aa [aG 13 3 1 1,av 14 1 13,cJ 15 19 14,aG 16 3 1 3,bT 1 16 15] (aa [a6 17 4 3,bT 4 2 17] .ret)))))))
@[simp] def akX:List bA:=[.cell 2 true 4]
def PM:C:=(aa [eN 2 4] (aa [I 5 0,b7 6 5,cW (.mks 7 none 4 30 (.agg ds) (.t 6)),I 3 7] (.seq (aa [bJ 4 0] (.block 0 (.loop (.seq (aa [I 8 4,I 9 0,b7 10 9,bg 11 .lss 8 10] (aT 11 .skip (.exit 0))) (.seq (.block 1 (.region [I 14 3,I 15 4,I 16 0,I 17 4,cd 18 4 16 17,a6 19 4 18,cJ 20 18 19,cd 21 4 14 15,bT 4 21 20])) (.region [I 12 4,aS 13 .add 12 1,I 4 13])))))) (.seq (.pub 3 (.region [I 22 3,I 2 22])) .ret))))
@[simp] def akY:List bA:=[.tmp 2]
def PC:C:=(aa [be 4 false] (.seq (aa [I 6 0,b7 7 6,I 8 1,b7 9 8,bg 10 .neq 7 9] (aT 10 (aa [be 4 false] .ret) .skip)) (.seq (aa [bJ 5 0] (.block 0 (.loop (.seq (aa [I 11 5,I 12 0,b7 13 12,bg 14 .lss 11 13] (aT 14 .skip (.exit 0))) (.seq (.block 1 (.seq (.drawn true 27 [I 17 0,I 18 5,cd 19 4 17 18,a6 20 4 19,I 21 1,I 22 5,cd 23 4 21 22,a6 24 4 23,b3 25 22 20 24,cy 26 25]) (aT 26 (aa [be 4 false] .ret) .skip))) (.region [I 15 5,aS 16 .add 15 1,I 5 16])))))) (aa [be 4 true] .ret))))
@[simp] def akG:List bA:=[.tmp 4]
def PB:C:=(aa [cM 2 0,cM 3 1,be 4 false] (.seq (aa [aG 5 0 1 2,av 6 1 5,aG 7 0 1 3,av 8 1 7,bg 9 .neq 6 8] (aT 9 (aa [be 4 false] .ret) .skip)) (.seq (aa [aG 10 1 1 2,av 11 1 10,aG 12 1 1 3,av 13 1 12,bg 14 .neq 11 13] (aT 14 (aa [be 4 false] .ret) .skip)) (.seq (aa [aG 15 2 1 2,av 16 1 15,aG 17 2 1 3,av 18 1 17,bg 19 .neq 16 18] (aT 19 (aa [be 4 false] .ret) .skip)) (.seq (aa [aG 20 3 1 2,av 21 1 20,aG 22 3 1 3,av 23 1 22,b3 24 21 21 23,cy 25 24] (aT 25 (aa [be 4 false] .ret) .skip)) (aa [be 4 true] .ret))))))
@[simp] def akF:List bA:=[.tmp 4]
def zg:C:=(aa [cM 2 0,bJ 4 0] (aa [aG 5 1 1 2,av 6 1 5,I 7 1,b3 8 33 6 7,I 1 8] (.seq (aa [I 9 1,aS 10 .lss 9 0] (aT 10 (aa [bJ 4 (-1)] .ret) .skip)) (aa [aG 11 2 1 2,av 12 1 11,I 13 1,b3 14 72 12 13,I 1 14] (.seq (aa [I 15 1,aS 16 .lss 15 0] (aT 16 (aa [bJ 4 (-1)] .ret) .skip)) (aa [aG 17 3 1 2,av 18 1 17,I 19 1,b3 20 73 18 19,I 1 20] (.seq (aa [I 21 1,aS 22 .lss 21 0] (aT 22 (aa [bJ 4 (-1)] .ret) .skip)) (aa [aG 23 4 1 2,av 24 1 23,I 25 1,b3 26 74 24 25,I 1 26] (.seq (aa [I 27 1,aS 28 .lss 27 0] (aT 28 (aa [bJ 4 (-1)] .ret) .skip)) (aa [I 29 1,I 4 29] .ret))))))))))
@[simp] def akN:List bA:=[.tmp 4]
def PK:C:=(aa [cM 1 0,dg 2 oM] (aa [dg 3 oM] (aa [aG 4 0 1 1,av 5 1 4,aG 6 0 1 3,bT 1 6 5] (aa [aG 7 1 1 1,av 8 1 7,cJ 9 35 8,aG 10 1 1 3,bT 1 10 9] (aa [aG 11 2 1 1,av 12 1 11,cJ 13 83 12,aG 14 2 1 3,bT 1 14 13] (aa [aG 15 3 1 1,av 16 1 15,cJ 17 84 16,aG 18 3 1 3,bT 1 18 17] (aa [aG 19 4 1 1,av 20 1 19,cJ 21 85 20,aG 22 4 1 3,bT 1 22 21] (aa [a6 23 5 3,bT 5 2 23] .ret))))))))
@[simp] def akW:List bA:=[.cell 2 true 5]
def PA:C:=(aa [cM 2 0,cM 3 1,be 4 false] (.seq (aa [aG 5 0 1 2,av 6 1 5,aG 7 0 1 3,av 8 1 7,bg 9 .neq 6 8] (aT 9 (aa [be 4 false] .ret) .skip)) (.seq (aa [aG 10 1 1 2,av 11 1 10,aG 12 1 1 3,av 13 1 12,b3 14 37 11 13,cy 15 14] (aT 15 (aa [be 4 false] .ret) .skip)) (.seq (aa [aG 16 2 1 2,av 17 1 16,aG 18 2 1 3,av 19 1 18,b3 20 92 17 19,cy 21 20] (aT 21 (aa [be 4 false] .ret) .skip)) (.seq (aa [aG 22 3 1 2,av 23 1 22,aG 24 3 1 3,av 25 1 24,b3 26 93 23 25,cy 27 26] (aT 27 (aa [be 4 false] .ret) .skip)) (.seq (aa [aG 28 4 1 2,av 29 1 28,aG 30 4 1 3,av 31 1 30,b3 32 94 29 31,cy 33 32] (aT 33 (aa [be 4 false] .ret) .skip)) (aa [be 4 true] .ret)))))))
@[simp] def akE:List bA:=[.tmp 4]
def IE:C:=(aa [bJ 4 0] (aa [I 6 1,I 7 0,b7 8 7,bg 9 .sub 6 8,I 1 9] (.seq (aa [I 10 1,aS 11 .lss 10 0] (aT 11 (aa [bJ 4 (-1)] .ret) .skip)) (.seq (aa [bJ 5 0] (.block 0 (.loop (.seq (aa [I 12 5,I 13 0,b7 14 13,bg 15 .lss 12 14] (aT 15 .skip (.exit 0))) (.seq (.block 1 (aa [I 18 0,I 19 5,cd 20 5 18 19,a6 21 5 20,I 22 1,b3 23 97 21 22,I 1 23] (aa [I 24 1,aS 25 .lss 24 0] (aT 25 (aa [bJ 4 (-1)] .ret) .skip)))) (.region [I 16 5,aS 17 .add 16 1,I 5 17])))))) (aa [I 26 1,I 4 26] .ret)))))
@[simp] def akJ:List bA:=[.tmp 4]
def PG:C:=(aa [eN 2 5] (aa [I 5 0,b7 6 5,cW (.mks 7 none 5 113 (.agg ik) (.t 6)),I 3 7] (.seq (aa [bJ 4 0] (.block 0 (.loop (.seq (aa [I 8 4,I 9 0,b7 10 9,bg 11 .lss 8 10] (aT 11 .skip (.exit 0))) (.seq (.block 1 (.region [I 14 3,I 15 4,I 16 0,I 17 4,cd 18 5 16 17,a6 19 5 18,cJ 20 101 19,cd 21 5 14 15,bT 5 21 20])) (.region [I 12 4,aS 13 .add 12 1,I 4 13])))))) (.seq (.pub 3 (.region [I 22 3,I 2 22])) .ret))))
@[simp] def akS:List bA:=[.tmp 2]
def Pw:C:=(aa [be 4 false] (.seq (aa [I 6 0,b7 7 6,I 8 1,b7 9 8,bg 10 .neq 7 9] (aT 10 (aa [be 4 false] .ret) .skip)) (.seq (aa [bJ 5 0] (.block 0 (.loop (.seq (aa [I 11 5,I 12 0,b7 13 12,bg 14 .lss 11 13] (aT 14 .skip (.exit 0))) (.seq (.block 1 (.seq (.drawn true 27 [I 17 0,I 18 5,cd 19 5 17 18,a6 20 5 19,I 21 1,I 22 5,cd 23 5 21 22,a6 24 5 23,b3 25 103 20 24,cy 26 25]) (aT 26 (aa [be 4 false] .ret) .skip))) (.region [I 15 5,aS 16 .add 15 1,I 5 16])))))) (aa [be 4 true] .ret))))
@[simp] def akA:List bA:=[.tmp 4]
def IF:C:=(aa [bJ 4 0] (aa [I 6 1,I 7 0,b7 8 7,bg 9 .sub 6 8,I 1 9] (.seq (aa [I 10 1,aS 11 .lss 10 0] (aT 11 (aa [bJ 4 (-1)] .ret) .skip)) (.seq (aa [bJ 5 0] (.block 0 (.loop (.seq (aa [I 12 5,I 13 0,b7 14 13,bg 15 .lss 12 14] (aT 15 .skip (.exit 0))) (.seq (.block 1 (aa [I 18 0,I 19 5,cd 20 1 18 19,av 21 1 20,I 22 1,b3 23 33 21 22,I 1 23] (aa [I 24 1,aS 25 .lss 24 0] (aT 25 (aa [bJ 4 (-1)] .ret) .skip)))) (.region [I 16 5,aS 17 .add 16 1,I 5 17])))))) (aa [I 26 1,I 4 26] .ret)))))
@[simp] def akK:List bA:=[.tmp 4]
def EM:C:=(aa [bJ 4 0] (aa [I 5 1,I 6 0,b7 7 6,bg 8 .sub 5 7,I 1 8] (.seq (aa [I 9 1,aS 10 .lss 9 0] (aT 10 (aa [bJ 4 (-1)] .ret) .skip)) (aa [I 11 1,I 4 11] .ret))))
@[simp] def akQ:List bA:=[.tmp 4]
def IG:C:=(aa [bJ 4 0] (aa [I 6 1,I 7 0,b7 8 7,bg 9 .sub 6 8,I 1 9] (.seq (aa [I 10 1,aS 11 .lss 10 0] (aT 11 (aa [bJ 4 (-1)] .ret) .skip)) (.seq (aa [bJ 5 0] (.block 0 (.loop (.seq (aa [I 12 5,I 13 0,b7 14 13,bg 15 .lss 12 14] (aT 15 .skip (.exit 0))) (.seq (.block 1 (aa [I 18 0,I 19 5,cd 20 2 18 19,a6 21 2 20,I 22 1,b3 23 144 21 22,I 1 23] (aa [I 24 1,aS 25 .lss 24 0] (aT 25 (aa [bJ 4 (-1)] .ret) .skip)))) (.region [I 16 5,aS 17 .add 16 1,I 5 17])))))) (aa [I 26 1,I 4 26] .ret)))))
@[simp] def akM:List bA:=[.tmp 4]
def PH:C:=(aa [eN 2 1] (aa [I 5 0,b7 6 5,cW (.mks 7 none 1 46 (.slice 5 .nil []) (.t 6)),I 3 7] (.seq (aa [bJ 4 0] (.block 0 (.loop (.seq (aa [I 8 4,I 9 0,b7 10 9,bg 11 .lss 8 10] (aT 11 .skip (.exit 0))) (.seq (.block 1 (.region [I 14 3,I 15 4,I 16 0,I 17 4,cd 18 1 16 17,av 19 1 18,cJ 20 35 19,cd 21 1 14 15,bT 1 21 20])) (.region [I 12 4,aS 13 .add 12 1,I 4 13])))))) (.seq (.pub 3 (.region [I 22 3,I 2 22])) .ret))))
@[simp] def akT:List bA:=[.tmp 2]
def PO:C:=(aa [eN 2 2] (aa [I 5 0,b7 6 5,cW (.mks 7 none 2 98 (.agg [.int .i64 0,.int .i64 0]) (.t 6)),I 3 7] (.seq (aa [bJ 4 0] (.block 0 (.loop (.seq (aa [I 8 4,I 9 0,b7 10 9,bg 11 .lss 8 10] (aT 11 .skip (.exit 0))) (.seq (.block 1 (.region [I 14 3,I 15 4,I 16 0,I 17 4,cd 18 2 16 17,a6 19 2 18,cJ 20 156 19,cd 21 2 14 15,bT 2 21 20])) (.region [I 12 4,aS 13 .add 12 1,I 4 13])))))) (.seq (.pub 3 (.region [I 22 3,I 2 22])) .ret))))
@[simp] def ak0:List bA:=[.tmp 2]
def PJ:C:=(aa [eN 2 2] (aa [I 5 0,b7 6 5,cW (.mks 7 none 2 100 (.agg [.int .i64 0,.str []]) (.t 6)),I 3 7] (.seq (aa [bJ 4 0] (.block 0 (.loop (.seq (aa [I 8 4,I 9 0,b7 10 9,bg 11 .lss 8 10] (aT 11 .skip (.exit 0))) (.seq (.block 1 (.region [I 14 3,I 15 4,I 16 0,I 17 4,cd 18 2 16 17,a6 19 2 18,cJ 20 157 19,cd 21 2 14 15,bT 2 21 20])) (.region [I 12 4,aS 13 .add 12 1,I 4 13])))))) (.seq (.pub 3 (.region [I 22 3,I 2 22])) .ret))))
@[simp] def akV:List bA:=[.tmp 2]
def Px:C:=(aa [be 4 false] (.seq (aa [I 6 0,b7 7 6,I 8 1,b7 9 8,bg 10 .neq 7 9] (aT 10 (aa [be 4 false] .ret) .skip)) (.seq (aa [bJ 5 0] (.block 0 (.loop (.seq (aa [I 11 5,I 12 0,b7 13 12,bg 14 .lss 11 13] (aT 14 .skip (.exit 0))) (.seq (.block 1 (.seq (.drawn true 27 [I 17 0,I 18 5,cd 19 1 17 18,av 20 1 19,I 21 1,I 22 5,cd 23 1 21 22,av 24 1 23,b3 25 37 20 24,cy 26 25]) (aT 26 (aa [be 4 false] .ret) .skip))) (.region [I 15 5,aS 16 .add 15 1,I 5 16])))))) (aa [be 4 true] .ret))))
@[simp] def akB:List bA:=[.tmp 4]
def PE:C:=(aa [be 4 false] (.seq (aa [I 6 0,b7 7 6,I 8 1,b7 9 8,bg 10 .neq 7 9] (aT 10 (aa [be 4 false] .ret) .skip)) (.seq (aa [bJ 5 0] (.block 0 (.loop (.seq (aa [I 11 5,I 12 0,b7 13 12,bg 14 .lss 11 13] (aT 14 .skip (.exit 0))) (.seq (.block 1 (.seq (.drawn true 27 [I 17 0,I 18 5,cd 19 2 17 18,a6 20 2 19,I 21 1,I 22 5,cd 23 2 21 22,a6 24 2 23,b3 25 170 20 24,cy 26 25]) (aT 26 (aa [be 4 false] .ret) .skip))) (.region [I 15 5,aS 16 .add 15 1,I 5 16])))))) (aa [be 4 true] .ret))))
@[simp] def akI:List bA:=[.tmp 4]
def Pz:C:=(aa [be 4 false] (.seq (aa [I 6 0,b7 7 6,I 8 1,b7 9 8,bg 10 .neq 7 9] (aT 10 (aa [be 4 false] .ret) .skip)) (.seq (aa [bJ 5 0] (.block 0 (.loop (.seq (aa [I 11 5,I 12 0,b7 13 12,bg 14 .lss 11 13] (aT 14 .skip (.exit 0))) (.seq (.block 1 (.seq (.drawn true 27 [I 17 0,I 18 5,cd 19 2 17 18,a6 20 2 19,I 21 1,I 22 5,cd 23 2 21 22,a6 24 2 23,b3 25 171 20 24,cy 26 25]) (aT 26 (aa [be 4 false] .ret) .skip))) (.region [I 15 5,aS 16 .add 15 1,I 5 16])))))) (aa [be 4 true] .ret))))
@[simp] def akD:List bA:=[.tmp 4]
def ID:C:=(aa [cM 2 0,bJ 4 0] (aa [gD 5 1 4 2,a6 6 4 5,I 7 1,b3 8 15 6 7,I 1 8] (.seq (aa [I 9 1,aS 10 .lss 9 0] (aT 10 (aa [bJ 4 (-1)] .ret) .skip)) (aa [I 11 1,I 4 11] .ret))))
@[simp] def Mg:List bA:=[.tmp 4]
def PF:C:=(aa [cM 1 0,dg 2 ik] (aa [dg 3 ik] (aa [aG 4 0 1 1,av 5 1 4,aG 6 0 1 3,bT 1 6 5] (aa [gD 7 1 4 1,a6 8 4 7,cJ 9 18 8,gD 10 1 4 3,bT 4 10 9] (aa [a6 11 5 3,bT 5 2 11] .ret)))))
@[simp] def akR:List bA:=[.cell 2 true 5]
def Pu:C:=(aa [cM 2 0,cM 3 1,be 4 false] (.seq (aa [aG 5 0 1 2,av 6 1 5,aG 7 0 1 3,av 8 1 7,bg 9 .neq 6 8] (aT 9 (aa [be 4 false] .ret) .skip)) (.seq (aa [gD 10 1 4 2,a6 11 4 10,gD 12 1 4 3,a6 13 4 12,b3 14 22 11 13,cy 15 14] (aT 15 (aa [be 4 false] .ret) .skip)) (aa [be 4 true] .ret))))
@[simp] def akz:List bA:=[.tmp 4]
def EL:C:=(aa [cM 2 0,bJ 4 0] (aa [I 5 1,aG 6 1 1 2,av 7 1 6,ca 8 (.slen (.t 7)),bg 9 .sub 5 8,I 1 9] (.seq (aa [I 10 1,aS 11 .lss 10 0] (aT 11 (aa [bJ 4 (-1)] .ret) .skip)) (aa [I 12 1,I 4 12] .ret))))
@[simp] def akL:List bA:=[.tmp 4]
def PN:C:=(aa [cM 1 0,cW (.alloc 2 none (.agg [.int .i64 0,.int .i64 0]))] (aa [cW (.alloc 3 none (.agg [.int .i64 0,.int .i64 0]))] (aa [aG 4 0 1 1,av 5 1 4,aG 6 0 1 3,bT 1 6 5] (aa [aG 7 1 1 1,av 8 1 7,aG 9 1 1 3,bT 1 9 8] (aa [a6 10 2 3,bT 2 2 10] .ret)))))
@[simp] def akZ:List bA:=[.cell 2 true 2]
def PI:C:=(aa [cM 1 0,cW (.alloc 2 none (.agg [.int .i64 0,.str []]))] (aa [cW (.alloc 3 none (.agg [.int .i64 0,.str []]))] (aa [aG 4 0 1 1,av 5 1 4,aG 6 0 1 3,bT 1 6 5] (aa [aG 7 1 1 1,av 8 1 7,aG 9 1 1 3,bT 1 9 8] (aa [a6 10 2 3,bT 2 2 10] .ret)))))
@[simp] def akU:List bA:=[.cell 2 true 2]
def PD:C:=(aa [cM 2 0,cM 3 1,be 4 false] (.seq (aa [aG 5 0 1 2,av 6 1 5,aG 7 0 1 3,av 8 1 7,bg 9 .neq 6 8] (aT 9 (aa [be 4 false] .ret) .skip)) (.seq (aa [aG 10 1 1 2,av 11 1 10,aG 12 1 1 3,av 13 1 12,bg 14 .neq 11 13] (aT 14 (aa [be 4 false] .ret) .skip)) (aa [be 4 true] .ret))))
@[simp] def akH:List bA:=[.tmp 4]
def Py:C:=(aa [cM 2 0,cM 3 1,be 4 false] (.seq (aa [aG 5 0 1 2,av 6 1 5,aG 7 0 1 3,av 8 1 7,bg 9 .neq 6 8] (aT 9 (aa [be 4 false] .ret) .skip)) (.seq (aa [aG 10 1 1 2,av 11 1 10,aG 12 1 1 3,av 13 1 12,bg 14 .neq 11 13] (aT 14 (aa [be 4 false] .ret) .skip)) (aa [be 4 true] .ret))))
@[simp] def akC:List bA:=[.tmp 4]
def iz:List (Nat×dF):=[
 (3,⟨1,8,.int .i64,.int .i64 0⟩),
 (4,⟨1,1,.bool,.bool false⟩),
 (9,⟨1,16,.str,.str []⟩),
 (22,⟨1,24,.slice 24,.slice 4 .nil []⟩),
 (24,⟨4,56,.struct [(0,3),(1,3),(2,9),(3,22)],.agg [.int .i64 0,.int .i64 0,.str [],.slice 4 .nil []]⟩),
 (27,⟨1,24,.slice 30,.slice 4 .nil []⟩),
 (30,⟨4,56,.struct [(0,3),(1,3),(2,9),(3,27)],.agg [.int .i64 0,.int .i64 0,.str [],.slice 4 .nil []]⟩),
 (38,⟨1,24,.slice 111,.slice 5 .nil []⟩),
 (39,⟨1,24,.slice 38,.slice 1 .nil []⟩),
 (40,⟨1,24,.slice 158,.slice 2 .nil []⟩),
 (41,⟨1,24,.slice 146,.slice 2 .nil []⟩),
 (43,⟨5,104,.struct [(0,3),(1,38),(2,39),(3,40),(4,41)],.agg [.int .i64 0,.slice 5 .nil [],.slice 1 .nil [],.slice 2 .nil [],.slice 2 .nil []]⟩),
 (46,⟨1,24,.slice 113,.slice 5 .nil []⟩),
 (47,⟨1,24,.slice 46,.slice 1 .nil []⟩),
 (48,⟨1,24,.slice 98,.slice 2 .nil []⟩),
 (49,⟨1,24,.slice 100,.slice 2 .nil []⟩),
 (51,⟨5,104,.struct [(0,3),(1,46),(2,47),(3,48),(4,49)],.agg [.int .i64 0,.slice 5 .nil [],.slice 1 .nil [],.slice 2 .nil [],.slice 2 .nil []]⟩),
 (98,⟨2,16,.struct [(0,3),(1,3)],.agg [.int .i64 0,.int .i64 0]⟩),
 (100,⟨2,24,.struct [(0,3),(1,9)],.agg [.int .i64 0,.str []]⟩),
 (111,⟨5,64,.struct [(0,3),(1,24)],.agg [.int .i64 0,.int .i64 0,.int .i64 0,.str [],.slice 4 .nil []]⟩),
 (113,⟨5,64,.struct [(0,3),(1,30)],.agg [.int .i64 0,.int .i64 0,.int .i64 0,.str [],.slice 4 .nil []]⟩),
 (146,⟨2,24,.struct [(0,3),(1,9)],.agg [.int .i64 0,.str []]⟩),
 (158,⟨2,16,.struct [(0,3),(1,3)],.agg [.int .i64 0,.int .i64 0]⟩)]
theorem fE:fP ao iz=true:=by kernel_rfl
theorem wI:b1 iz ub akO 2 Tryz.f15=true:=by kernel_rfl
theorem vG:ao.funcs[(15:Nat)]? =some Tryz.f15:=Tryz.func15
theorem Vh:b1 iz IH akP 2 Tryz.f16=true:=by kernel_rfl
theorem RA:ao.funcs[(16:Nat)]? =some Tryz.f16:=Tryz.func16
theorem ai4:b1 iz PL akX 1 Tryz.f18=true:=by kernel_rfl
theorem acu:ao.funcs[(18:Nat)]? =some Tryz.f18:=Tryz.func18
theorem ai5:b1 iz PM akY 1 Tryz.f19=true:=by kernel_rfl
theorem acv:ao.funcs[(19:Nat)]? =some Tryz.f19:=Tryz.func19
theorem aiV:b1 iz PC akG 2 Tryz.f21=true:=by kernel_rfl
theorem acj:ao.funcs[(21:Nat)]? =some Tryz.f21:=Tryz.func21
theorem aiU:b1 iz PB akF 2 Tryz.f22=true:=by kernel_rfl
theorem aci:ao.funcs[(22:Nat)]? =some Tryz.f22:=Tryz.func22
theorem Dm:b1 iz zg akN 2 Tryz.f26=true:=by kernel_rfl
theorem BQ:ao.funcs[(26:Nat)]? =some Tryz.f26:=Tryz.func26
theorem ai3:b1 iz PK akW 1 Tryz.f28=true:=by kernel_rfl
theorem acs:ao.funcs[(28:Nat)]? =some Tryz.f28:=Tryz.func28
theorem aiT:b1 iz PA akE 2 Tryz.f30=true:=by kernel_rfl
theorem ach:ao.funcs[(30:Nat)]? =some Tryz.f30:=Tryz.func30
theorem Ve:b1 iz IE akJ 2 Tryz.f33=true:=by kernel_rfl
theorem Rx:ao.funcs[(33:Nat)]? =some Tryz.f33:=Tryz.func33
theorem aiZ:b1 iz PG akS 1 Tryz.f35=true:=by kernel_rfl
theorem aco:ao.funcs[(35:Nat)]? =some Tryz.f35:=Tryz.func35
theorem aiP:b1 iz Pw akA 2 Tryz.f37=true:=by kernel_rfl
theorem acd:ao.funcs[(37:Nat)]? =some Tryz.f37:=Tryz.func37
theorem Vf:b1 iz IF akK 2 Tryz.f72=true:=by kernel_rfl
theorem Ry:ao.funcs[(72:Nat)]? =some Tryz.f72:=Tryz.func72
theorem LP:b1 iz EM akQ 2 Tryz.f73=true:=by kernel_rfl
theorem Jq:ao.funcs[(73:Nat)]? =some Tryz.f73:=Tryz.func73
theorem Vg:b1 iz IG akM 2 Tryz.f74=true:=by kernel_rfl
theorem Rz:ao.funcs[(74:Nat)]? =some Tryz.f74:=Tryz.func74
theorem ai0:b1 iz PH akT 1 Tryz.f83=true:=by kernel_rfl
theorem acp:ao.funcs[(83:Nat)]? =some Tryz.f83:=Tryz.func83
theorem ai7:b1 iz PO ak0 1 Tryz.f84=true:=by kernel_rfl
theorem acx:ao.funcs[(84:Nat)]? =some Tryz.f84:=Tryz.func84
theorem ai2:b1 iz PJ akV 1 Tryz.f85=true:=by kernel_rfl
theorem acr:ao.funcs[(85:Nat)]? =some Tryz.f85:=Tryz.func85
theorem aiQ:b1 iz Px akB 2 Tryz.f92=true:=by kernel_rfl
theorem ace:ao.funcs[(92:Nat)]? =some Tryz.f92:=Tryz.func92
theorem aiX:b1 iz PE akI 2 Tryz.f93=true:=by kernel_rfl
theorem acm:ao.funcs[(93:Nat)]? =some Tryz.f93:=Tryz.func93
theorem aiS:b1 iz Pz akD 2 Tryz.f94=true:=by kernel_rfl
theorem acg:ao.funcs[(94:Nat)]? =some Tryz.f94:=Tryz.func94
theorem Vd:b1 iz ID Mg 2 Tryz.f97=true:=by kernel_rfl
theorem Rw:ao.funcs[(97:Nat)]? =some Tryz.f97:=Tryz.func97
theorem aiY:b1 iz PF akR 1 Tryz.f101=true:=by kernel_rfl
theorem acn:ao.funcs[(101:Nat)]? =some Tryz.f101:=Tryz.func101
theorem aiO:b1 iz Pu akz 2 Tryz.f103=true:=by kernel_rfl
theorem acb:ao.funcs[(103:Nat)]? =some Tryz.f103:=Tryz.func103
theorem LO:b1 iz EL akL 2 Tryz.f144=true:=by kernel_rfl
theorem Jp:ao.funcs[(144:Nat)]? =some Tryz.f144:=Tryz.func144
theorem ai6:b1 iz PN akZ 1 Tryz.f156=true:=by kernel_rfl
theorem acw:ao.funcs[(156:Nat)]? =some Tryz.f156:=Tryz.func156
theorem ai1:b1 iz PI akU 1 Tryz.f157=true:=by kernel_rfl
theorem acq:ao.funcs[(157:Nat)]? =some Tryz.f157:=Tryz.func157
theorem aiW:b1 iz PD akH 2 Tryz.f170=true:=by kernel_rfl
theorem ack:ao.funcs[(170:Nat)]? =some Tryz.f170:=Tryz.func170
theorem aiR:b1 iz Py akC 2 Tryz.f171=true:=by kernel_rfl
theorem acf:ao.funcs[(171:Nat)]? =some Tryz.f171:=Tryz.func171
def im{α:Type}(f:α→ah)(z:ah)(l:List α)(i:Nat):List ah:=(l.take i).map f++rk (l.length-i) z
theorem oN{α:Type}(f:α→ah)(z:ah)(l:List α):im f z l 0=rk l.length z:=by simp[im]
theorem Dc{α:Type}(f:α→ah)(z:ah)(l:List α):im f z l l.length=l.map f:=by simp[im]
theorem Dd{α:Type}(f:α→ah)(z:ah)(l:List α){i:Nat}(hi:i<l.length):(im f z l i)[i]? =some z:=by
 unfold im;have h:((l.take i).map f).length=i:=by simp;omega
 rw[List.getElem?_append_right (by omega),h,Nat.sub_self,List.getElem?_replicate,if_pos (by omega)]
theorem De{α:Type}(f:α→ah)(z:ah)(l:List α){i:Nat}{x:α}(af:l[i]? =some x):(im f z l i).set i (f x)=im f z l (i+1):=by
 have hi:=(e1.1 af).1;unfold im;have h:((l.take i).map f).length=i:=by simp;omega
 rw[List.set_append_right _ _ (by omega),h,Nat.sub_self,oY af,qu,List.append_assoc];congr 1;obtain⟨m,hm⟩:∃m,l.length-i=m+1:=⟨l.length-i-1,by omega⟩;rw[hm,show l.length-(i+1)=m from by omega,List.replicate_succ,List.set_cons_zero];rfl
theorem T3(S:aI→Prop):∀{a b:List ah},aH S (a++b)↔aH S a∧aH S b
 |[],b=>by simp[aH]
 |x::a,b=>by simp[aH,T3 S (a:=a),and_assoc]
theorem T5{α:Type}(S:aI→Prop)(f:α→ah)(aL:∀x,aB S (f x)):∀l:List α,aH S (l.map f)
 |[]=>by simp[aH]
 |x::xs=>by simp[aH,T5 S f aL xs,aL]
theorem yi(S:aI→Prop)(z:ah)(br:aB S z):∀n,aH S (rk n z)
 |0=>by simp[aH]
 |n+1=>by simp[List.replicate_succ,aH,yi S z br n,br]
theorem C0{α:Type}(S:aI→Prop)(f:α→ah)(z:ah)(l:List α)(i:Nat)(aL:∀x,aB S (f x))(br:aB S z):aH S (im f z l i):=by unfold im;rw[T3];exact⟨T5 S f aL _,yi S z br _⟩
theorem Nx(l:cN ck)(hw:∀p n cap,l= .b p n cap→mO n)(aL:∀xs,l= .l xs→∀x∈xs,∀m,0≤m→m≤1048576→bH ao 15 [ck.e x,.int .i64 m] (.int .i64 (hM x m)))(m:Int)(bn:0≤m)(J:m≤1048576):bH ao 16 [l.e 4 ck.e,.int .i64 m] (.int .i64 (gE hM l m)):=by
 cases l with
 |b p n cap=>
  have ay:=hw p n cap rfl;simp only[mO,lim]at ay;have g:m-n<0:=by omega
  simp only[cN.e,gE];clear hw aL;refine bh fE RA Vh fun aO=>?_;unfold IH;exact bY
 |l l=>
 have aL:=aL l rfl;clear hw;simp only[cN.e,gE];generalize bd:oX hM l m=R;unfold oX at bd;refine bh fE RA Vh fun aO=>?_;unfold IH;have eX:l.length≤68719476736:=by simp[eu,ed,ep,lim]at aO;omega
 simp;by_cases g:m-l.length<0
 ·rw[if_pos g]at bd;subst bd;exact bY
 rw[if_neg g]at bd;(with_reducible repeat' first|refine aj ?_|simp[g]);refine dw [0] (fun i (k:Int)=>[(1,.int .i64 k),(5,.int .i64 i)]) l.length (fun i k=>(0≤k∧k≤1048576)∧j5 hM (l.drop i) k=R) (m-l.length) bN ⟨⟨by omega,by omega⟩,by simpa using bd⟩ (fun k ae _=>?_) (fun i k hi ae _=>?_)
 ·obtain⟨_,ae⟩:=ae;rw[sv]at ae;simp only[j5]at ae;subst ae;exact bY
 ·obtain⟨⟨fj,aU⟩,ae⟩:=ae;obtain⟨x,af,cD⟩:=dT hi;have key:=aL x (dK af) k fj aU;have hle:=vm x k fj;rw[tg af]at ae;simp only[j5]at ae;generalize hM x k=q at key hle ae;clear af;by_cases bo:q<0
  ·rw[if_pos bo]at ae;subst ae;exact bY
  ·rw[if_neg bo]at ae;simp[hi,cD];((with_reducible repeat' first|refine aj ?_|refine aC key ?_|refine aD key ?_|simp[hi,cD,bo]|((first|apply bP|apply bR|apply bQ)<;>intro h<;>try simp at h))<;>(try exact cm));all_goals exact bK.rng q hi ⟨⟨by omega,by omega⟩,ae⟩ bN
theorem Yc(l:List bI)(aL:∀x∈l,bH ao 18 [enc x] (enc x)):bH ao 19 [.slice 4 .no (l.map enc)] (.slice 4 .no (l.map enc)):=by
 refine bh fE acv ai5 fun aO=>?_;unfold PM;have eX:l.length≤68719476736:=by simp[eu,ed,ep,lim]at aO;omega
 simp;all_goals first|(refine⟨by unfold lim;omega,?_⟩)|skip
 (with_reducible repeat' first|refine aj ?_|simp);have fo:∀(S:aI→Prop) (n:Nat),aH S (rk n (.agg [.int .i64 0,.int .i64 0,.str [],.slice 4 .nil []]))=True:=fun S n=>eq_true (yi S _ (by simp[aB,aH]) n);refine ho (fun i (_:Unit)=>⟨[(0,.slice 4 .no (l.map enc)),(3,.row 4 (.loc 0) l.length),(4,.int .i64 i)],[],[(.loc 0,⟨l.length,30,4,some (im enc (.agg [.int .i64 0,.int .i64 0,.str [],.slice 4 .nil []]) l i)⟩)],1,[]⟩) l.length (fun _ _=>True) () ⟨by simp[fresh,aH,aB,b9,inObs,Pv.look,oN,fo],dZ (by simp[fresh,aH,aB,b9,inObs,Pv.look,oN,fo]),ea (by simp[fresh,aH,aB,dN,inObs,Pv.look,oN,fo]),by simp⟩ trivial (fun _ _ _=>?_) (fun i _ hi _ _=>?_)
 ·rw[Dc];exact bY
 ·obtain⟨x,af,cD⟩:=dT hi;have key:=aL x (dK af);have ak:=Dd enc (.agg [.int .i64 0,.int .i64 0,.str [],.slice 4 .nil []]) l hi;have aE:=De enc (.agg [.int .i64 0,.int .i64 0,.str [],.slice 4 .nil []]) l af;have bj:∀S:aI→Prop,aH S (im enc (.agg [.int .i64 0,.int .i64 0,.str [],.slice 4 .nil []]) l (i+1)):=fun S=>C0 S _ _ _ _ (fun x=>by simp) (by simp[aB,aH]);generalize im enc (.agg [.int .i64 0,.int .i64 0,.str [],.slice 4 .nil []]) l i=r0 at ak aE;generalize pC:im enc (.agg [.int .i64 0,.int .i64 0,.str [],.slice 4 .nil []]) l (i+1)=dM at aE bj;clear af;simp[hi,cD];(with_reducible repeat' first|refine aj ?_|refine aC key ?_|refine aD key ?_|simp[hi,cD,ak,aE]);all_goals refine bK.rng () hi trivial ?_
  all_goals rw[pC]
  all_goals first
   |exact⟨by simp[fresh,aH,aB,b9,inObs,Pv.look,bj],dZ (by simp[fresh,aH,aB,b9,inObs,Pv.look,bj]),ea (by simp[fresh,aH,aB,dN,inObs,Pv.look,bj]),by simp⟩
   |exact⟨by simp[fresh,aH,aB,b9,inObs,Pv.look,bj],dZ (by simp[fresh,aH,aB,b9,inObs,Pv.look,bj]),ea (by simp[fresh,aH,aB,dN,inObs,Pv.look,bj];exact aE),by simp⟩
theorem XP(l:List bI)(aL:∀x∈l,bH ao 22 [enc x,enc x] (.bool true)):bH ao 21 [.slice 4 .no (l.map enc),.slice 4 .no (l.map enc)] (.bool true):=by
 refine bh fE acj aiV fun aO=>?_;unfold PC;have eX:l.length≤68719476736:=by simp[eu,ed,ep,lim]at aO;omega
 simp;(with_reducible repeat' first|refine aj ?_|simp);refine dw [0,1] (fun i (_:Unit)=>[(5,.int .i64 i)]) l.length (fun _ _=>True) () bN trivial (fun _ _ _=>?_) (fun i _ hi _ _=>?_)
 ·exact bY
 ·obtain⟨x,af,cD⟩:=dT hi;have key:=aL x (dK af);clear af;exact gg
theorem X9(t:ck)(hw:t.wf):∀m:Int,0≤m→m≤1048576→bH ao 15 [t.e,.int .i64 m] (.int .i64 (hM t m)):=by
 suffices H:∀(k:Nat) (t:ck),t.sz≤k→t.wf→∀m:Int,0≤m→m≤1048576→bH ao 15 [t.e,.int .i64 m] (.int .i64 (hM t m))from H _ t (eR _) hw
 intro k;clear hw t;induction k with
 |zero=>intro t aK;cases t<;>simp[ck.sz]at aK
 |succ k bO=>
  intro t aK hw m bn J;cases t with
  |mk tD tE s a=>
   simp only[ck.wf,ck.wfL_iff]at hw;obtain⟨CI,Ce⟩:=hw;have ku:m-s.len<0→hM (.mk tD tE s a) m= -1:=fun g=>by rw[HD];exact if_pos g
   have kv:¬m-s.len<0→hM (.mk tD tE s a) m=gE hM (.l a) (m-s.len):=fun g=>by rw[HD];exact if_neg g
   generalize hM (.mk tD tE s a) m=R at ku kv;have Cv:=s.len_nn;have key:=fun h=>Nx (.l a) (fun p n c e=>by cases e) (fun xs e x af=>by cases e;exact bO x (by have:=ck.szL_mem af;simp only[ck.sz]at aK;omega) (Ce x af)) (m-s.len) h (by omega);have hle:=fun h=>tz vm (.l a) (m-s.len) h;simp only[ck.e,ck.eL_map];simp only[cN.e]at key;clear aK Ce;cases s with
   |b x=>
    simp only[gY.wf,mO,lim]at CI;have g:m-x.size<0:=by omega
    have bd:=ku g;subst bd;clear ku kv;clear key hle bO;simp only[gY.e];refine bh fE vG wI fun aO=>?_;unfold ub;exact bY
   |s l=>
    simp only[gY.len]at ku kv key hle;simp only[gY.e];by_cases g:m-l.length<0
    ·have bd:=ku g;subst bd;clear ku kv;clear key hle bO;refine bh fE vG wI fun aO=>?_;unfold ub;have eX:l.length≤68719476736:=by simp[eu,ed,ep,lim]at aO;omega
     exact bY
    ·have bd:=kv g;clear ku kv;have key:=key (by omega);have hle:=hle (by omega);rw[←bd]at key hle;clear bd bO;by_cases bo:R<0
     ·have:R= -1:=by omega
      subst this;refine bh fE vG wI fun aO=>?_;unfold ub;have eX:l.length≤68719476736:=by simp[eu,ed,ep,lim]at aO;omega
      exact bY
     ·refine bh fE vG wI fun aO=>?_;unfold ub;have eX:l.length≤68719476736:=by simp[eu,ed,ep,lim]at aO;omega
      exact bY
  |big tD tE s p n c=>
   simp only[ck.wf]at hw;obtain⟨CI,Ce⟩:=hw;have ku:m-s.len<0→hM (.big tD tE s p n c) m= -1:=fun g=>by rw[HD];exact if_pos g
   have kv:¬m-s.len<0→hM (.big tD tE s p n c) m=gE hM (.b p n c) (m-s.len):=fun g=>by rw[HD];exact if_neg g
   generalize hM (.big tD tE s p n c) m=R at ku kv;have Cv:=s.len_nn;have key:=fun h=>Nx (.b p n c) (fun p n c e=>by cases e;exact Ce) (fun xs e=>by cases e) (m-s.len) h (by omega);have hle:=fun h=>tz vm (.b p n c) (m-s.len) h;simp only[ck.e];simp only[cN.e]at key;clear aK Ce;cases s with
   |b x=>
    simp only[gY.wf,mO,lim]at CI;have g:m-x.size<0:=by omega
    have bd:=ku g;subst bd;clear ku kv;clear key hle bO;simp only[gY.e];refine bh fE vG wI fun aO=>?_;unfold ub;exact bY
   |s l=>
    simp only[gY.len]at ku kv key hle;simp only[gY.e];by_cases g:m-l.length<0
    ·have bd:=ku g;subst bd;clear ku kv;clear key hle bO;refine bh fE vG wI fun aO=>?_;unfold ub;have eX:l.length≤68719476736:=by simp[eu,ed,ep,lim]at aO;omega
     exact bY
    ·have bd:=kv g;clear ku kv;have key:=key (by omega);have hle:=hle (by omega);rw[←bd]at key hle;clear bd bO;by_cases bo:R<0
     ·have:R= -1:=by omega
      subst this;refine bh fE vG wI fun aO=>?_;unfold ub;have eX:l.length≤68719476736:=by simp[eu,ed,ep,lim]at aO;omega
      exact bY
     ·refine bh fE vG wI fun aO=>?_;unfold ub;have eX:l.length≤68719476736:=by simp[eu,ed,ep,lim]at aO;omega
      exact bY
theorem Yb(t:bI):bH ao 18 [enc t] (enc t):=by
 suffices H:∀(k:Nat) (t:bI),t.sz≤k→bH ao 18 [enc t] (enc t)from H _ t (eR _)
 intro k;induction k with
 |zero=>intro t aK;cases t;simp[bI.sz]at aK
 |succ k bO=>intro t aK;have key:=Yc t.args (fun x af=>bO x (by have:=Nb af;omega));clear bO;refine bh fE acu ai4 fun aO=>?_;unfold PL;exact bY
theorem XO(t:bI):bH ao 22 [enc t,enc t] (.bool true):=by
 suffices H:∀(k:Nat) (t:bI),t.sz≤k→bH ao 22 [enc t,enc t] (.bool true)from H _ t (eR _)
 intro k;induction k with
 |zero=>intro t aK;cases t;simp[bI.sz]at aK
 |succ k bO=>intro t aK;have key:=XP t.args (fun x af=>bO x (by have:=Nb af;omega));clear bO;refine bh fE aci aiU fun aO=>?_;unfold PB;exact bY
structure e3 where
 v:Int
 t:ck
def e3.e(b:e3):ah:= .agg [.int .i64 b.v,.int .i64 b.t.kind,.int .i64 b.t.num,b.t.name.e,b.t.args.e 4 ck.e]
@[simp] theorem aqF(S:aI→Prop)(b:e3):aB S b.e=True:=by simp[e3.e,aB,aH]
@[simp] theorem atj(b:e3):dm b.e=b.e:=by simp[e3.e,dm,cR]
theorem T7(S:aI→Prop):∀l:List e3,aH S (l.map e3.e)
 |[]=>by simp[aH]
 |x::xs=>by simp[aH,T7 S xs]
@[simp] theorem aqu(S:aI→Prop)(l:List e3):aH S (l.map e3.e)=True:=eq_true (T7 S l)
@[simp] theorem asN(b:e3):ec b.e=true:=rfl
@[simp] theorem aqc(b:e3):Pv.isAgg 5 b.e:=⟨_,rfl,rfl⟩
@[simp] theorem aoK(b:e3):cells b.e=[.int .i64 b.v,.int .i64 b.t.kind,.int .i64 b.t.num,b.t.name.e,b.t.args.e 4 ck.e]:=rfl
structure hn where
 v:Int
 s:gY
def hn.e(b:hn):ah:= .agg [.int .i64 b.v,b.s.e]
@[simp] theorem aqR(S:aI→Prop)(b:hn):aB S b.e=True:=by simp[hn.e,aB,aH]
@[simp] theorem atv(b:hn):dm b.e=b.e:=by simp[hn.e,dm,cR]
theorem Uc(S:aI→Prop):∀l:List hn,aH S (l.map hn.e)
 |[]=>by simp[aH]
 |x::xs=>by simp[aH,Uc S xs]
@[simp] theorem aqz(S:aI→Prop)(l:List hn):aH S (l.map hn.e)=True:=eq_true (Uc S l)
@[simp] theorem as5(b:hn):ec b.e=true:=rfl
@[simp] theorem aqh(b:hn):Pv.isAgg 2 b.e:=⟨_,rfl,rfl⟩
@[simp] theorem ao1(b:hn):cells b.e=[.int .i64 b.v,b.s.e]:=rfl
def sg(b:e3)(m:Int):Int:=hM b.t m
theorem M8(b:e3)(m:Int)(h:0≤m): -1≤sg b m∧sg b m≤m:=vm b.t m h
def lU(b:hn)(m:Int):Int:=if m-b.s.len<0 then-1 else m-b.s.len
theorem DZ(b:hn)(m:Int)(h:0≤m): -1≤lU b m∧lU b m≤m:=by have:=b.s.len_nn;unfold lU;split<;>omega
theorem Ew(t:ck):ah.agg [.int .i64 t.kind,.int .i64 t.num,t.name.e,t.args.e 4 ck.e]=t.e:=(ck.e_eq t).symm
theorem anQ(b:e3)(hw:b.t.wf)(m:Int)(bn:0≤m)(J:m≤1048576):bH ao 97 [b.e,.int .i64 m] (.int .i64 (sg b m)):=by
 have key:=X9 b.t hw m bn J;have hle:=vm b.t m bn;unfold sg;generalize hM b.t m=q at key hle⊢;by_cases bo:q<0
 ·have:q= -1:=by omega
  subst this;refine bh fE Rw Vd fun aO=>?_;unfold ID;simp[Ew];(with_reducible repeat' first|refine aj ?_|refine aC key ?_|refine aD key ?_|simp[Ew]);all_goals simp[bt,Mg,aX,aY,aW]
 ·refine bh fE Rw Vd fun aO=>?_;unfold ID;simp[Ew];(with_reducible repeat' first|refine aj ?_|refine aC key ?_|refine aD key ?_|simp[bo,Ew]);all_goals simp[bt,Mg,aX,aY,aW]
theorem anZ(b:cT):bH ao 101 [b.e] b.e:=by have key:=Yb b.t;refine bh fE acn aiY fun aO=>?_;unfold PF;exact bY
theorem am0(b:cT):bH ao 103 [b.e,b.e] (.bool true):=by have key:=XO b.t;refine bh fE acb aiO fun aO=>?_;unfold Pu;exact bY
theorem anT(b:hn)(hw:b.s.wf)(m:Int)(bn:0≤m)(J:m≤1048576):bH ao 144 [b.e,.int .i64 m] (.int .i64 (lU b m)):=by
 have ku:m-b.s.len<0→lU b m= -1:=fun g=>if_pos g;have kv:¬m-b.s.len<0→lU b m=m-b.s.len:=fun g=>if_neg g;generalize lU b m=R at ku kv;obtain⟨v,s⟩:=b;simp only[hn.e]at hw ku kv⊢;cases s with
 |b x=>
  simp only[gY.wf,mO,lim]at hw;have g:m-x.size<0:=by omega
  have bd:=ku g;subst bd;clear ku kv;simp only[gY.e];refine bh fE Jp LO fun aO=>?_;unfold EL;exact bY
 |s l=>
  simp only[gY.e];by_cases g:m-l.length<0
  ·have bd:=ku g;subst bd;clear ku kv hw;refine bh fE Jp LO fun aO=>?_;unfold EL;have eX:l.length≤68719476736:=by simp[eu,ed,ep,lim]at aO;omega
   exact bY
  ·have bd:R=m-l.length:=kv g;subst bd;clear ku kv hw;refine bh fE Jp LO fun aO=>?_;unfold EL;have eX:l.length≤68719476736:=by simp[eu,ed,ep,lim]at aO;omega
   exact bY
theorem an6(b:bM):bH ao 156 [b.e] b.e:=by refine bh fE acw ai6 fun aO=>?_;unfold PN;exact bY
theorem an2(b:bm):bH ao 157 [b.e] b.e:=by refine bh fE acq ai1 fun aO=>?_;unfold PI;exact bY
theorem am7(b:bM):bH ao 170 [b.e,b.e] (.bool true):=by refine bh fE ack aiW fun aO=>?_;unfold PD;exact bY
theorem am3(b:bm):bH ao 171 [b.e,b.e] (.bool true):=by refine bh fE acf aiR fun aO=>?_;unfold Py;exact bY
@[simp high] theorem asE(x y:bm):mN x.e 0 [.int .i64 y.v,.str y.s]=y.e:=rfl
@[simp high] theorem asD(x y:bM):mN x.e 0 [.int .i64 y.v,.int .i64 y.k]=y.e:=rfl
theorem anR(l:cN e3)(hw:∀p n cap,l= .b p n cap→mO n)(aL:∀xs,l= .l xs→∀x∈xs,∀m,0≤m→m≤1048576→bH ao 97 [e3.e x,.int .i64 m] (.int .i64 (sg x m)))(m:Int)(bn:0≤m)(J:m≤1048576):bH ao 33 [l.e 5 e3.e,.int .i64 m] (.int .i64 (gE sg l m)):=by
 cases l with
 |b p n cap=>
  have ay:=hw p n cap rfl;simp only[mO,lim]at ay;have g:m-n<0:=by omega
  simp only[cN.e,gE];clear hw aL;refine bh fE Rx Ve fun aO=>?_;unfold IE;exact bY
 |l l=>
 have aL:=aL l rfl;clear hw;simp only[cN.e,gE];generalize bd:oX sg l m=R;unfold oX at bd;refine bh fE Rx Ve fun aO=>?_;unfold IE;have eX:l.length≤68719476736:=by simp[eu,ed,ep,lim]at aO;omega
 simp;by_cases g:m-l.length<0
 ·rw[if_pos g]at bd;subst bd;exact bY
 rw[if_neg g]at bd;(with_reducible repeat' first|refine aj ?_|simp[g]);refine dw [0] (fun i (k:Int)=>[(1,.int .i64 k),(5,.int .i64 i)]) l.length (fun i k=>(0≤k∧k≤1048576)∧j5 sg (l.drop i) k=R) (m-l.length) bN ⟨⟨by omega,by omega⟩,by simpa using bd⟩ (fun k ae _=>?_) (fun i k hi ae _=>?_)
 ·obtain⟨_,ae⟩:=ae;rw[sv]at ae;simp only[j5]at ae;subst ae;exact bY
 ·obtain⟨⟨fj,aU⟩,ae⟩:=ae;obtain⟨x,af,cD⟩:=dT hi;have key:=aL x (dK af) k fj aU;have hle:=M8 x k fj;rw[tg af]at ae;simp only[j5]at ae;generalize sg x k=q at key hle ae;clear af;by_cases bo:q<0
  ·rw[if_pos bo]at ae;subst ae;exact bY
  ·rw[if_neg bo]at ae;simp[hi,cD];((with_reducible repeat' first|refine aj ?_|refine aC key ?_|refine aD key ?_|simp[hi,cD,bo]|((first|apply bP|apply bR|apply bQ)<;>intro h<;>try simp at h))<;>(try exact cm));all_goals exact bK.rng q hi ⟨⟨by omega,by omega⟩,ae⟩ bN
theorem an0(l:List cT)(aL:∀x∈l,bH ao 101 [cT.e x] (cT.e x)):bH ao 35 [.slice 5 .no (l.map cT.e)] (.slice 5 .no (l.map cT.e)):=by
 refine bh fE aco aiZ fun aO=>?_;unfold PG;have eX:l.length≤68719476736:=by simp[eu,ed,ep,lim]at aO;omega
 simp;all_goals first|(refine⟨by unfold lim;omega,?_⟩)|skip
 (with_reducible repeat' first|refine aj ?_|simp);have fo:∀(S:aI→Prop) (n:Nat),aH S (rk n (.agg [.int .i64 0,.int .i64 0,.int .i64 0,.str [],.slice 4 .nil []]))=True:=fun S n=>eq_true (yi S _ (by simp[aB,aH]) n);refine ho (fun i (_:Unit)=>⟨[(0,.slice 5 .no (l.map cT.e)),(3,.row 5 (.loc 0) l.length),(4,.int .i64 i)],[],[(.loc 0,⟨l.length,113,5,some (im cT.e (.agg [.int .i64 0,.int .i64 0,.int .i64 0,.str [],.slice 4 .nil []]) l i)⟩)],1,[]⟩) l.length (fun _ _=>True) () ⟨by simp[fresh,aH,aB,b9,inObs,Pv.look,oN,fo],dZ (by simp[fresh,aH,aB,b9,inObs,Pv.look,oN,fo]),ea (by simp[fresh,aH,aB,dN,inObs,Pv.look,oN,fo]),by simp⟩ trivial (fun _ _ _=>?_) (fun i _ hi _ _=>?_)
 ·rw[Dc];exact bY
 ·obtain⟨x,af,cD⟩:=dT hi;have key:=aL x (dK af);have ak:=Dd cT.e (.agg [.int .i64 0,.int .i64 0,.int .i64 0,.str [],.slice 4 .nil []]) l hi;have aE:=De cT.e (.agg [.int .i64 0,.int .i64 0,.int .i64 0,.str [],.slice 4 .nil []]) l af;have bj:∀S:aI→Prop,aH S (im cT.e (.agg [.int .i64 0,.int .i64 0,.int .i64 0,.str [],.slice 4 .nil []]) l (i+1)):=fun S=>C0 S _ _ _ _ (fun x=>by simp) (by simp[aB,aH]);generalize im cT.e (.agg [.int .i64 0,.int .i64 0,.int .i64 0,.str [],.slice 4 .nil []]) l i=r0 at ak aE;generalize pC:im cT.e (.agg [.int .i64 0,.int .i64 0,.int .i64 0,.str [],.slice 4 .nil []]) l (i+1)=dM at aE bj;clear af;simp[hi,cD];(with_reducible repeat' first|refine aj ?_|refine aC key ?_|refine aD key ?_|simp[hi,cD,ak,aE]);all_goals refine bK.rng () hi trivial ?_
  all_goals rw[pC]
  all_goals first
   |exact⟨by simp[fresh,aH,aB,b9,inObs,Pv.look,bj],dZ (by simp[fresh,aH,aB,b9,inObs,Pv.look,bj]),ea (by simp[fresh,aH,aB,dN,inObs,Pv.look,bj]),by simp⟩
   |exact⟨by simp[fresh,aH,aB,b9,inObs,Pv.look,bj],dZ (by simp[fresh,aH,aB,b9,inObs,Pv.look,bj]),ea (by simp[fresh,aH,aB,dN,inObs,Pv.look,bj];exact aE),by simp⟩
theorem am1(l:List cT)(aL:∀x∈l,bH ao 103 [cT.e x,cT.e x] (.bool true)):bH ao 37 [.slice 5 .no (l.map cT.e),.slice 5 .no (l.map cT.e)] (.bool true):=by
 refine bh fE acd aiP fun aO=>?_;unfold Pw;have eX:l.length≤68719476736:=by simp[eu,ed,ep,lim]at aO;omega
 simp;(with_reducible repeat' first|refine aj ?_|simp);refine dw [0,1] (fun i (_:Unit)=>[(5,.int .i64 i)]) l.length (fun _ _=>True) () bN trivial (fun _ _ _=>?_) (fun i _ hi _ _=>?_)
 ·exact bY
 ·obtain⟨x,af,cD⟩:=dT hi;have key:=aL x (dK af);clear af;exact gg
theorem anU(l:cN hn)(hw:∀p n cap,l= .b p n cap→mO n)(aL:∀xs,l= .l xs→∀x∈xs,∀m,0≤m→m≤1048576→bH ao 144 [hn.e x,.int .i64 m] (.int .i64 (lU x m)))(m:Int)(bn:0≤m)(J:m≤1048576):bH ao 74 [l.e 2 hn.e,.int .i64 m] (.int .i64 (gE lU l m)):=by
 cases l with
 |b p n cap=>
  have ay:=hw p n cap rfl;simp only[mO,lim]at ay;have g:m-n<0:=by omega
  simp only[cN.e,gE];clear hw aL;refine bh fE Rz Vg fun aO=>?_;unfold IG;exact bY
 |l l=>
 have aL:=aL l rfl;clear hw;simp only[cN.e,gE];generalize bd:oX lU l m=R;unfold oX at bd;refine bh fE Rz Vg fun aO=>?_;unfold IG;have eX:l.length≤68719476736:=by simp[eu,ed,ep,lim]at aO;omega
 simp;by_cases g:m-l.length<0
 ·rw[if_pos g]at bd;subst bd;exact bY
 rw[if_neg g]at bd;(with_reducible repeat' first|refine aj ?_|simp[g]);refine dw [0] (fun i (k:Int)=>[(1,.int .i64 k),(5,.int .i64 i)]) l.length (fun i k=>(0≤k∧k≤1048576)∧j5 lU (l.drop i) k=R) (m-l.length) bN ⟨⟨by omega,by omega⟩,by simpa using bd⟩ (fun k ae _=>?_) (fun i k hi ae _=>?_)
 ·obtain⟨_,ae⟩:=ae;rw[sv]at ae;simp only[j5]at ae;subst ae;exact bY
 ·obtain⟨⟨fj,aU⟩,ae⟩:=ae;obtain⟨x,af,cD⟩:=dT hi;have key:=aL x (dK af) k fj aU;have hle:=DZ x k fj;rw[tg af]at ae;simp only[j5]at ae;generalize lU x k=q at key hle ae;clear af;by_cases bo:q<0
  ·rw[if_pos bo]at ae;subst ae;exact bY
  ·rw[if_neg bo]at ae;simp[hi,cD];((with_reducible repeat' first|refine aj ?_|refine aC key ?_|refine aD key ?_|simp[hi,cD,bo]|((first|apply bP|apply bR|apply bQ)<;>intro h<;>try simp at h))<;>(try exact cm));all_goals exact bK.rng q hi ⟨⟨by omega,by omega⟩,ae⟩ bN
theorem an3(l:List bm)(aL:∀x∈l,bH ao 157 [bm.e x] (bm.e x)):bH ao 85 [.slice 2 .no (l.map bm.e)] (.slice 2 .no (l.map bm.e)):=by
 refine bh fE acr ai2 fun aO=>?_;unfold PJ;have eX:l.length≤68719476736:=by simp[eu,ed,ep,lim]at aO;omega
 simp;all_goals first|(refine⟨by unfold lim;omega,?_⟩)|skip
 (with_reducible repeat' first|refine aj ?_|simp);have fo:∀(S:aI→Prop) (n:Nat),aH S (rk n ((⟨0,[]⟩:bm).e))=True:=fun S n=>eq_true (yi S _ (by simp[aB,aH]) n);refine ho (fun i (_:Unit)=>⟨[(0,.slice 2 .no (l.map bm.e)),(3,.row 2 (.loc 0) l.length),(4,.int .i64 i)],[],[(.loc 0,⟨l.length,100,2,some (im bm.e ((⟨0,[]⟩:bm).e) l i)⟩)],1,[]⟩) l.length (fun _ _=>True) () ⟨by simp[fresh,aH,aB,b9,inObs,Pv.look,oN,fo],dZ (by simp[fresh,aH,aB,b9,inObs,Pv.look,oN,fo]),ea (by simp[fresh,aH,aB,dN,inObs,Pv.look,oN,fo]),by simp⟩ trivial (fun _ _ _=>?_) (fun i _ hi _ _=>?_)
 ·rw[Dc];exact bY
 ·obtain⟨x,af,cD⟩:=dT hi;have key:=aL x (dK af);have ak:=Dd bm.e ((⟨0,[]⟩:bm).e) l hi;have aE:=De bm.e ((⟨0,[]⟩:bm).e) l af;have bj:∀S:aI→Prop,aH S (im bm.e ((⟨0,[]⟩:bm).e) l (i+1)):=fun S=>C0 S _ _ _ _ (fun x=>by simp) (by simp[aB,aH]);generalize im bm.e ((⟨0,[]⟩:bm).e) l i=r0 at ak aE;generalize pC:im bm.e ((⟨0,[]⟩:bm).e) l (i+1)=dM at aE bj;clear af;simp[hi,cD];(with_reducible repeat' first|refine aj ?_|refine aC key ?_|refine aD key ?_|simp[hi,cD,ak,aE,-mN]);all_goals refine bK.rng () hi trivial ?_
  all_goals rw[pC]
  all_goals first
   |exact⟨by simp[fresh,aH,aB,b9,inObs,Pv.look,bj],dZ (by simp[fresh,aH,aB,b9,inObs,Pv.look,bj]),ea (by simp[fresh,aH,aB,dN,inObs,Pv.look,bj]),by simp⟩
   |exact⟨by simp[fresh,aH,aB,b9,inObs,Pv.look,bj],dZ (by simp[fresh,aH,aB,b9,inObs,Pv.look,bj]),ea (by simp[fresh,aH,aB,dN,inObs,Pv.look,bj];exact aE),by simp⟩
theorem am4(l:List bm)(aL:∀x∈l,bH ao 171 [bm.e x,bm.e x] (.bool true)):bH ao 94 [.slice 2 .no (l.map bm.e),.slice 2 .no (l.map bm.e)] (.bool true):=by
 refine bh fE acg aiS fun aO=>?_;unfold Pz;have eX:l.length≤68719476736:=by simp[eu,ed,ep,lim]at aO;omega
 simp;(with_reducible repeat' first|refine aj ?_|simp);refine dw [0,1] (fun i (_:Unit)=>[(5,.int .i64 i)]) l.length (fun _ _=>True) () bN trivial (fun _ _ _=>?_) (fun i _ hi _ _=>?_)
 ·exact bY
 ·obtain⟨x,af,cD⟩:=dT hi;have key:=aL x (dK af);clear af;exact gg
theorem an7(l:List bM)(aL:∀x∈l,bH ao 156 [bM.e x] (bM.e x)):bH ao 84 [.slice 2 .no (l.map bM.e)] (.slice 2 .no (l.map bM.e)):=by
 refine bh fE acx ai7 fun aO=>?_;unfold PO;have eX:l.length≤68719476736:=by simp[eu,ed,ep,lim]at aO;omega
 simp;all_goals first|(refine⟨by unfold lim;omega,?_⟩)|skip
 (with_reducible repeat' first|refine aj ?_|simp);have fo:∀(S:aI→Prop) (n:Nat),aH S (rk n ((⟨0,0⟩:bM).e))=True:=fun S n=>eq_true (yi S _ (by simp[aB,aH]) n);refine ho (fun i (_:Unit)=>⟨[(0,.slice 2 .no (l.map bM.e)),(3,.row 2 (.loc 0) l.length),(4,.int .i64 i)],[],[(.loc 0,⟨l.length,98,2,some (im bM.e ((⟨0,0⟩:bM).e) l i)⟩)],1,[]⟩) l.length (fun _ _=>True) () ⟨by simp[fresh,aH,aB,b9,inObs,Pv.look,oN,fo],dZ (by simp[fresh,aH,aB,b9,inObs,Pv.look,oN,fo]),ea (by simp[fresh,aH,aB,dN,inObs,Pv.look,oN,fo]),by simp⟩ trivial (fun _ _ _=>?_) (fun i _ hi _ _=>?_)
 ·rw[Dc];exact bY
 ·obtain⟨x,af,cD⟩:=dT hi;have key:=aL x (dK af);have ak:=Dd bM.e ((⟨0,0⟩:bM).e) l hi;have aE:=De bM.e ((⟨0,0⟩:bM).e) l af;have bj:∀S:aI→Prop,aH S (im bM.e ((⟨0,0⟩:bM).e) l (i+1)):=fun S=>C0 S _ _ _ _ (fun x=>by simp) (by simp[aB,aH]);generalize im bM.e ((⟨0,0⟩:bM).e) l i=r0 at ak aE;generalize pC:im bM.e ((⟨0,0⟩:bM).e) l (i+1)=dM at aE bj;clear af;simp[hi,cD];(with_reducible repeat' first|refine aj ?_|refine aC key ?_|refine aD key ?_|simp[hi,cD,ak,aE,-mN]);all_goals refine bK.rng () hi trivial ?_
  all_goals rw[pC]
  all_goals first
   |exact⟨by simp[fresh,aH,aB,b9,inObs,Pv.look,bj],dZ (by simp[fresh,aH,aB,b9,inObs,Pv.look,bj]),ea (by simp[fresh,aH,aB,dN,inObs,Pv.look,bj]),by simp⟩
   |exact⟨by simp[fresh,aH,aB,b9,inObs,Pv.look,bj],dZ (by simp[fresh,aH,aB,b9,inObs,Pv.look,bj]),ea (by simp[fresh,aH,aB,dN,inObs,Pv.look,bj];exact aE),by simp⟩
theorem am8(l:List bM)(aL:∀x∈l,bH ao 170 [bM.e x,bM.e x] (.bool true)):bH ao 93 [.slice 2 .no (l.map bM.e),.slice 2 .no (l.map bM.e)] (.bool true):=by
 refine bh fE acm aiX fun aO=>?_;unfold PE;have eX:l.length≤68719476736:=by simp[eu,ed,ep,lim]at aO;omega
 simp;(with_reducible repeat' first|refine aj ?_|simp);refine dw [0,1] (fun i (_:Unit)=>[(5,.int .i64 i)]) l.length (fun _ _=>True) () bN trivial (fun _ _ _=>?_) (fun i _ hi _ _=>?_)
 ·exact bY
 ·obtain⟨x,af,cD⟩:=dT hi;have key:=aL x (dK af);clear af;exact gg
def oW:cN bM→Int→Int
 | .l l,m=>if m-l.length<0 then-1 else m-l.length
 | .b _ _ _,_=> -1
theorem M9(l:cN bM)(m:Int)(h:0≤m): -1≤oW l m∧oW l m≤m:=by
 cases l with
 |l l=>simp only[oW];split<;>omega
 |b=>simp only[oW];omega
theorem anX(l:cN bM)(hw:∀p n cap,l= .b p n cap→mO n)(m:Int)(bn:0≤m)(J:m≤1048576):bH ao 73 [l.e 2 bM.e,.int .i64 m] (.int .i64 (oW l m)):=by
 cases l with
 |b p n cap=>
  have ay:=hw p n cap rfl;simp only[mO,lim]at ay;have g:m-n<0:=by omega
  simp only[cN.e,oW];clear hw;refine bh fE Jq LP fun aO=>?_;unfold EM;exact bY
 |l l=>
  simp only[cN.e,oW];clear hw;by_cases g:m-l.length<0
  ·rw[if_pos g];refine bh fE Jq LP fun aO=>?_;unfold EM;have eX:l.length≤68719476736:=by simp[eu,ed,ep,lim]at aO;omega
   exact bY
  ·rw[if_neg g];refine bh fE Jq LP fun aO=>?_;unfold EM;have eX:l.length≤68719476736:=by simp[eu,ed,ep,lim]at aO;omega
   exact bY
def kq(d:cN e3):ah:=d.e 5 e3.e
@[simp] theorem aqI(S:aI→Prop)(d:cN e3):aB S (kq d)=True:=by cases d<;>simp[kq,cN.e,aB]
@[simp] theorem atm(d:cN e3):dm (kq d)=kq d:=by
 cases d with
 |l l=>
  have:∀l:List e3,cR (l.map e3.e)=l.map e3.e:=by
   intro l;induction l with
   |nil=>rfl
   |cons x l bO=>simp[cR,bO]
  simp[kq,cN.e,dm,this]
 |b=>simp[kq,cN.e,dm]
theorem Uf(S:aI→Prop):∀l:List (cN e3),aH S (l.map kq)
 |[]=>by simp[aH]
 |x::xs=>by simp[aH,Uf S xs]
@[simp] theorem aqB(S:aI→Prop)(l:List (cN e3)):aH S (l.map kq)=True:=eq_true (Uf S l)
@[simp] theorem asT(d:cN e3):ec (kq d)=true:=by cases d<;>rfl
@[simp] theorem aoO(d:cN e3):cells (kq d)=[kq d]:=by cases d<;>rfl
def h3(d:cN e3)(m:Int):Int:=gE sg d m
theorem w1(d:cN e3)(m:Int)(h:0≤m): -1≤h3 d m∧h3 d m≤m:=tz M8 d m h
def w9(d:cN e3):Prop:=d.wf fun b=>b.t.wf
@[simp] theorem ami:∀l:List (List cT),cR (l.map gb)=l.map gb
 |[]=>rfl
 |x::xs=>by simp[cR,ami xs]
theorem X8(d:cN e3)(hw:w9 d)(m:Int)(bn:0≤m)(J:m≤1048576):bH ao 33 [kq d,.int .i64 m] (.int .i64 (h3 d m)):=anR d (fun p n c e=>by subst e;exact hw) (fun xs e x af m bn J=>by subst e;exact anQ x (hw x af) m bn J) m bn J
theorem Ya(d:List cT):bH ao 35 [gb d] (gb d):=an0 d fun x _=>anZ x
theorem XN(d:List cT):bH ao 37 [gb d,gb d] (.bool true):=am1 d fun x _=>am0 x
theorem anS(l:cN (cN e3))(hw:∀p n cap,l= .b p n cap→mO n)(aL:∀xs,l= .l xs→∀x∈xs,∀m,0≤m→m≤1048576→bH ao 33 [kq x,.int .i64 m] (.int .i64 (h3 x m)))(m:Int)(bn:0≤m)(J:m≤1048576):bH ao 72 [l.e 1 kq,.int .i64 m] (.int .i64 (gE h3 l m)):=by
 cases l with
 |b p n cap=>
  have ay:=hw p n cap rfl;simp only[mO,lim]at ay;have g:m-n<0:=by omega
  simp only[cN.e,gE];clear hw aL;refine bh fE Ry Vf fun aO=>?_;unfold IF;exact bY
 |l l=>
 have aL:=aL l rfl;clear hw;simp only[cN.e,gE];generalize bd:oX h3 l m=R;unfold oX at bd;refine bh fE Ry Vf fun aO=>?_;unfold IF;have eX:l.length≤68719476736:=by simp[eu,ed,ep,lim]at aO;omega
 simp;by_cases g:m-l.length<0
 ·rw[if_pos g]at bd;subst bd;exact bY
 rw[if_neg g]at bd;(with_reducible repeat' first|refine aj ?_|simp[g]);refine dw [0] (fun i (k:Int)=>[(1,.int .i64 k),(5,.int .i64 i)]) l.length (fun i k=>(0≤k∧k≤1048576)∧j5 h3 (l.drop i) k=R) (m-l.length) bN ⟨⟨by omega,by omega⟩,by simpa using bd⟩ (fun k ae _=>?_) (fun i k hi ae _=>?_)
 ·obtain⟨_,ae⟩:=ae;rw[sv]at ae;simp only[j5]at ae;subst ae;exact bY
 ·obtain⟨⟨fj,aU⟩,ae⟩:=ae;obtain⟨x,af,cD⟩:=dT hi;have key:=aL x (dK af) k fj aU;have hle:=w1 x k fj;rw[tg af]at ae;simp only[j5]at ae;generalize h3 x k=q at key hle ae;clear af;by_cases bo:q<0
  ·rw[if_pos bo]at ae;subst ae;exact bY
  ·rw[if_neg bo]at ae;simp[hi,cD];((with_reducible repeat' first|refine aj ?_|refine aC key ?_|refine aD key ?_|simp[hi,cD,bo]|((first|apply bP|apply bR|apply bQ)<;>intro h<;>try simp at h))<;>(try exact cm));all_goals exact bK.rng q hi ⟨⟨by omega,by omega⟩,ae⟩ bN
theorem an1(l:List (List cT))(aL:∀x∈l,bH ao 35 [gb x] (gb x)):bH ao 83 [.slice 1 .no (l.map gb)] (.slice 1 .no (l.map gb)):=by
 refine bh fE acp ai0 fun aO=>?_;unfold PH;have eX:l.length≤68719476736:=by simp[eu,ed,ep,lim]at aO;omega
 simp;all_goals first|(refine⟨by unfold lim;omega,?_⟩)|skip
 (with_reducible repeat' first|refine aj ?_|simp);have fo:∀(S:aI→Prop) (n:Nat),aH S (rk n (.slice 5 .nil []))=True:=fun S n=>eq_true (yi S _ (by simp[aB,aH]) n);refine ho (fun i (_:Unit)=>⟨[(0,.slice 1 .no (l.map gb)),(3,.row 1 (.loc 0) l.length),(4,.int .i64 i)],[],[(.loc 0,⟨l.length,46,1,some (im gb (.slice 5 .nil []) l i)⟩)],1,[]⟩) l.length (fun _ _=>True) () ⟨by simp[fresh,aH,aB,b9,inObs,Pv.look,oN,fo],dZ (by simp[fresh,aH,aB,b9,inObs,Pv.look,oN,fo]),ea (by simp[fresh,aH,aB,dN,inObs,Pv.look,oN,fo]),by simp⟩ trivial (fun _ _ _=>?_) (fun i _ hi _ _=>?_)
 ·rw[Dc];exact bY
 ·obtain⟨x,af,cD⟩:=dT hi;have key:=aL x (dK af);have ak:=Dd gb (.slice 5 .nil []) l hi;have aE:=De gb (.slice 5 .nil []) l af;have bj:∀S:aI→Prop,aH S (im gb (.slice 5 .nil []) l (i+1)):=fun S=>C0 S _ _ _ _ (fun x=>by simp) (by simp[aB,aH]);generalize im gb (.slice 5 .nil []) l i=r0 at ak aE;generalize pC:im gb (.slice 5 .nil []) l (i+1)=dM at aE bj;clear af;simp[hi,cD];(with_reducible repeat' first|refine aj ?_|refine aC key ?_|refine aD key ?_|simp[hi,cD,ak,aE]);all_goals refine bK.rng () hi trivial ?_
  all_goals rw[pC]
  all_goals first
   |exact⟨by simp[fresh,aH,aB,b9,inObs,Pv.look,bj],dZ (by simp[fresh,aH,aB,b9,inObs,Pv.look,bj]),ea (by simp[fresh,aH,aB,dN,inObs,Pv.look,bj]),by simp⟩
   |exact⟨by simp[fresh,aH,aB,b9,inObs,Pv.look,bj],dZ (by simp[fresh,aH,aB,b9,inObs,Pv.look,bj]),ea (by simp[fresh,aH,aB,dN,inObs,Pv.look,bj];exact aE),by simp⟩
theorem am2(l:List (List cT))(aL:∀x∈l,bH ao 37 [gb x,gb x] (.bool true)):bH ao 92 [.slice 1 .no (l.map gb),.slice 1 .no (l.map gb)] (.bool true):=by
 refine bh fE ace aiQ fun aO=>?_;unfold Px;have eX:l.length≤68719476736:=by simp[eu,ed,ep,lim]at aO;omega
 simp;(with_reducible repeat' first|refine aj ?_|simp);refine dw [0,1] (fun i (_:Unit)=>[(5,.int .i64 i)]) l.length (fun _ _=>True) () bN trivial (fun _ _ _=>?_) (fun i _ hi _ _=>?_)
 ·exact bY
 ·obtain⟨x,af,cD⟩:=dT hi;have key:=aL x (dK af);clear af;exact gg
end Go.Proofs.YtahlgcidhnjlbaaGreat
