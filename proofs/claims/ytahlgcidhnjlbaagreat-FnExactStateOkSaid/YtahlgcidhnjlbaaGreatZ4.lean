/- The laws' copying, counting and comparing of data, II. -/
import Derived.Lib.OwnBridge
import Derived.Shelf.GgSortMore.Stable
import Derived.Shelf.GgSortFunc.SmallK
import Derived.Shelf.GgSortFunc.Slice
import Derived.Ground.GgsProg
import Derived.Test.YtahlgcidhnjlbaaGreatProg
import Derived.ProofKit
import Derived.Carry
import Derived.WalkKit
import Derived.Deep.Slices
import Derived.Test.YtahlgcidhnjlbaaGreatZ3
set_option linter.all false
set_option maxHeartbeats 4000000
open Array renaming getElem?_toList→sG
open BitVec renaming ofInt→pG
open Bool renaming eq_iff_iff→pH,false_eq_true→gI,or_eq_true→mf
open Go renaming Program→cy,TypeId→fT
open Go.DataW renaming trod→iQ
open Go.Extern.ReflectliteSwapper renaming swap→CR,swapper→apw
open Go.Extern.ReflectliteValue renaming len→apx,method→apy,unpack→akK,valueError→akL
open Go.Extern.Rtype renaming kind→VP
open Go.IntKind renaming bits→nv,signed→rz,u64→gW,wrap→rA
open Go.IntWalk renaming i64_in→oc
open Go.Proofs.Tryz renaming f4→kh,prog→ao
open Go.Value renaming cells→oU
open List renaming cons_append→bN,drop_eq_getElem_cons→kQ,getElem?_eq_getElem→ca,getElem?_eq_some_iff→fH,getElem_of_mem→mS,length_append→oV,length_cons→pK,map_cons→gX,mem_cons→fU,mem_cons_of_mem→oW,mem_of_getElem?→eP,nil_append→bT,pairwise_iff_getElem→oX,replicate→qp,take_length→oY,take_of_length_le→hq
open List.cons renaming injEq→pI
open Nat renaming add_mul→oZ,le_refl→eQ,le_trans→jT
open Ne renaming symm→ky
open Option renaming bind_eq_some_iff→mh,isSome_none→lK,map_eq_some_iff→gA,map_some→ny
open Option.some renaming injEq→dz
open Prod.mk renaming injEq→jb
open _root_ renaming False→eI,Option→aW,UInt8→dA,beq_iff_eq→dG,congrArg→e1,decide_eq_false→oe,decide_eq_false_iff_not→hx,decide_eq_true→nz,decide_eq_true_eq→fx
namespace Go.Proofs.YtahlgcidhnjlbaaGreat
open Go Go.Pv
variable {α:Type} [Inhabited α] {S:List α→cF} {n g b2:Nat} {lc bX:List ah} {lt:α→α→Bool}
theorem PM(H:eV S n g b2 lc bX lt)(d:Array α)(aP:d.size=n)(lo hi first:Nat)(J:first+hi≤n)(U:2≤n)(al:lo≤n):
  bJ ao 252 [eK g b2 lc bX,.int .i64 lo,.int .i64 hi,.int .i64 first] (S d.toList) fun r ai=>r= .tuple []∧∃b6,ai=S b6.toList∧b6=Sort.siftDown lt hi first lo d∧b6.size=n:=by
 have ag:=H.ok d.toList;have au:d.toList.length=n:=by simpa using aP
 have aA:∀l m,Pv.look (.loc m) (S l).b=none:=fun l=>(H.ok l).obj.1;have hu:∀l m cs,cw (.loc m) cs (S l).b=(S l).b++[(.loc m,cs)]:=fun l m cs=>jE (aA l m);have av:∀m,aD.loc m∉cO (S d.toList):=jz ag.obj;have hle:=H.le;refine bJ.mk mixed nq ZZ agn (by simp) ag.obj fun aR c1=>?_;unfold NS;simp[eK,hu,av,cE,aA];refine H.loopA au [2,3,4] (fun(x:Nat×Array α)=>[(8,.int .i64 x.1)]) (·.2) (fun x=>hi-x.1) (fun x=>x.2.size=n∧x.1≤n∧Sort.siftDown lt hi first x.1 x.2=Sort.siftDown lt hi first lo d) (lo,d) aP ⟨aP,al,rfl⟩ (by simp[cE,aA]) aQ aQ (by simp[aB]) ?_;rintro⟨root,cd⟩ ⟨a8,bU,cj⟩;simp only at a8 bU cj;have aj:((first:Int)+(2*root+1))=(first+(2*root+1):Nat):=by omega
 have aC:(((first+(2*root+1):Nat):Int)+1)=(first+(2*root+1)+1:Nat):=by omega
 have bg:((first:Int)+root)=(first+root:Nat):=by omega
 have da:((first:Int)+(2*root+1+1))=(first+(2*root+2):Nat):=by omega
 simp[Pv.look,H.slc,H.ssc];(with_reducible repeat' first|((first|apply bO|apply bS|apply bR)<;>intro h<;>try simp at h)|refine ak ?_|simp[Pv.look,H.slc,H.ssc])
 ·rw[Sort.siftDown,dif_pos (by omega)]at cj;exact H.retA au a8 (.inr rfl) ⟨rfl,cd,rfl,cj,a8⟩
 ·rw[Sort.siftDown,dif_neg (by omega)]at cj;rw[aj,aC];refine H.lessA a8 _ _ (by omega) (by omega) fun o=>?_;have aw:decide (2*root+1+1<hi)=true:=by simp;omega
  cases ad:lt cd[first+(2*root+1)]! cd[first+(2*root+1)+1]! with
  |true=>
   rw[if_pos (by rw[aw,ad];rfl)]at cj;simp;(with_reducible repeat' first|refine ak ?_|simp[Pv.look,H.slc,H.ssc]);rw[bg,da];refine H.lessA a8 _ _ (by omega) (by omega) fun o=>?_;cases aL:lt cd[first+root]! cd[first+(2*root+2)]! with
   |true=>rw[if_neg (by simp[aL]),dif_pos (by omega)]at cj;simp;(with_reducible repeat' first|refine ak ?_|simp[Pv.look,H.slc,H.ssc]);rw[bg,da];refine H.swapA a8 U _ _ (by omega) (by omega) fun o=>?_;simp;(with_reducible repeat' first|refine ak ?_|simp);refine bL.whl (2*root+2,Sort.swp cd (first+root) (first+(2*root+2))) (by simp;omega) ⟨by rw[gz,a8],by simp;omega,cj⟩ (H.weakC au (by simp[gz,a8]) (by simp[aB];omega))
   |false=>rw[if_pos (by simp[aL])]at cj;simp;(with_reducible repeat' first|refine ak ?_|simp);all_goals exact H.retA au a8 (.inl rfl) ⟨rfl,cd,rfl,cj,a8⟩
  |false=>
   rw[if_neg (by simp[ad])]at cj;simp;(with_reducible repeat' first|refine ak ?_|simp[Pv.look,H.slc,H.ssc]);rw[bg,aj];refine H.lessA a8 _ _ (by omega) (by omega) fun o=>?_;cases aL:lt cd[first+root]! cd[first+(2*root+1)]! with
   |true=>rw[if_neg (by simp[aL])]at cj;simp;(with_reducible repeat' first|refine ak ?_|simp[Pv.look,H.slc,H.ssc]);rw[bg,aj];refine H.swapA a8 U _ _ (by omega) (by omega) fun o=>?_;simp;(with_reducible repeat' first|refine ak ?_|simp);refine bL.whl (2*root+1,Sort.swp cd (first+root) (first+(2*root+1))) (by simp;omega) ⟨by rw[gz,a8],by simp;omega,cj⟩ (H.weakC au (by simp[gz,a8]) (by simp[aB]))
   |false=>rw[if_pos (by simp[aL])]at cj;simp;(with_reducible repeat' first|refine ak ?_|simp);all_goals exact H.retA au a8 (.inl rfl) ⟨rfl,cd,rfl,cj,a8⟩
 ·rw[Sort.siftDown,dif_neg (by omega)]at cj;have aw:decide (2*root+1+1<hi)=false:=by simp;omega
  rw[if_neg (by rw[aw];simp)]at cj;rw[bg,aj];refine H.lessA a8 _ _ (by omega) (by omega) fun o=>?_;cases aL:lt cd[first+root]! cd[first+(2*root+1)]! with
  |true=>rw[if_neg (by simp[aL])]at cj;simp;(with_reducible repeat' first|refine ak ?_|simp[Pv.look,H.slc,H.ssc]);rw[bg,aj];refine H.swapA a8 U _ _ (by omega) (by omega) fun o=>?_;simp;(with_reducible repeat' first|refine ak ?_|simp);refine bL.whl (2*root+1,Sort.swp cd (first+root) (first+(2*root+1))) (by simp;omega) ⟨by rw[gz,a8],by simp;omega,cj⟩ (H.weakC au (by simp[gz,a8]) (by simp[aB]))
  |false=>rw[if_pos (by simp[aL])]at cj;simp;(with_reducible repeat' first|refine ak ?_|simp);all_goals exact H.retA au a8 (.inl rfl) ⟨rfl,cd,rfl,cj,a8⟩
theorem aba(H:eV S n g b2 lc bX lt)(d:Array α)(aP:d.size=n)(a b:Nat)(mx:a<b)(ae:b≤n)(U:2≤n):
  bJ ao 241 [eK g b2 lc bX,.int .i64 a,.int .i64 b] (S d.toList) fun r ai=>r= .tuple []∧∃b6,ai=S b6.toList∧b6=Sort.reverseRange d a b∧b6.size=n:=by
 have ag:=H.ok d.toList;have au:d.toList.length=n:=by simpa using aP
 have aA:∀l m,Pv.look (.loc m) (S l).b=none:=fun l=>(H.ok l).obj.1;have hu:∀l m cs,cw (.loc m) cs (S l).b=(S l).b++[(.loc m,cs)]:=fun l m cs=>jE (aA l m);have av:∀m,aD.loc m∉cO (S d.toList):=jz ag.obj;have hle:=H.le;refine bJ.mk mixed nq ZX agl (by simp) ag.obj fun aR c1=>?_;unfold NQ;simp[eK,hu,av,cE,aA];have ff:((b:Int)-1)=(b-1:Nat):=by omega
 (with_reducible repeat' first|refine ak ?_|simp[hu,av,cE,aA]);rw[ff];refine H.loopA au [3] (fun(x:(Nat×Nat)×Array α)=>[(6,.int .i64 x.1.1),(7,.int .i64 x.1.2)]) (·.2) (fun x=>x.1.2+1-x.1.1) (fun x=>x.2.size=n∧x.1.2<n∧Sort.reverseLoop x.1.1 x.1.2 x.2=Sort.reverseRange d a b) ((a,b-1),d) aP ⟨aP,by simp;omega,rfl⟩ (by simp[cE,aA]) aQ aQ (by simp[aB]) ?_;rintro⟨⟨i,j⟩,cd⟩ ⟨a8,bU,cj⟩;simp only at a8 bU cj;rw[Sort.reverseLoop]at cj;simp[Pv.look,H.slc,H.ssc];(with_reducible repeat' first|((first|apply bO|apply bS|apply bR)<;>intro h<;>try simp at h)|refine ak ?_|simp[Pv.look,H.slc,H.ssc])
 ·rw[if_pos (by omega)]at cj;refine H.swapA a8 U _ _ (by omega) (by omega) fun o=>?_;have aj:((i:Int)+1)=(i+1:Nat):=by omega
  have aC:((j:Int)-1)=(j-1:Nat):=by omega
  simp;((with_reducible repeat' first|refine ak ?_|simp|((first|apply bO|apply bS|apply bR)<;>intro h<;>try simp at h))<;>(try exact cq));rw[aj,aC];refine bL.whl ((i+1,j-1),Sort.swp cd i j) (by simp;omega) ⟨by rw[gz,a8],by simp;omega,cj⟩ (H.weakC au (by simp[gz,a8]) (by simp[aB]))
 ·rw[if_neg (by omega)]at cj;exact H.retA au a8 (.inr rfl) ⟨rfl,cd,rfl,cj,a8⟩
theorem aaX(H:eV S n g b2 lc bX lt)(d:Array α)(aP:d.size=n)(a b:Nat)(mx:a≤b)(ae:b≤n)(U:2≤n):
  bJ ao 238 [eK g b2 lc bX,.int .i64 a,.int .i64 b] (S d.toList) fun r ai=>r= .tuple []∧∃b6,ai=S b6.toList∧b6=Sort.heapSort lt d a b∧b6.size=n:=by
 have ag:=H.ok d.toList;have au:d.toList.length=n:=by simpa using aP
 have aA:∀l m,Pv.look (.loc m) (S l).b=none:=fun l=>(H.ok l).obj.1;have hu:∀l m cs,cw (.loc m) cs (S l).b=(S l).b++[(.loc m,cs)]:=fun l m cs=>jE (aA l m);have av:∀m,aD.loc m∉cO (S d.toList):=jz ag.obj;have hle:=H.le;refine bJ.mk mixed nq ZO agb (by simp) ag.obj fun aR c1=>?_;unfold NH;simp[eK,hu,av,cE,aA];(with_reducible repeat' first|refine ak ?_|simp[hu,av,cE,aA]);have ff:IntKind.i64.wrap (((b:Int)-a-1).tdiv 2)=(((b-a-1)/2+1:Nat):Int)-1:=by
  have e:((b:Int)-a-1).tdiv 2=(((b-a-1)/2+1:Nat):Int)-1:=by
   rcases Nat.eq_or_lt_of_le mx with h|h
   ·subst h;simp
   ·rw[show((b:Int)-a-1)=((b-a-1:Nat):Int) by omega,Int.tdiv_eq_ediv_of_nonneg (by omega)];omega
  rw[e,oc _ (by omega)]
 rw[ff];refine H.loopA au [3,6,7,8] (fun(x:Nat×Array α)=>[(9,.int .i64 ((x.1:Int)-1))]) (·.2) (fun x=>x.1) (fun x=>x.2.size=n∧x.1≤n∧Sort.heapBuild lt (b-a) a x.1 x.2=Sort.heapBuild lt (b-a) a ((b-a-1)/2+1) d) ((b-a-1)/2+1,d) aP ⟨aP,by simp;omega,rfl⟩ (by simp[cE,aA]) aQ aQ (by simp[aB]) ?_;rintro⟨k,cd⟩ ⟨a8,bU,cj⟩;simp only at a8 bU cj;have XG:((b:Int)-a)=(b-a:Nat):=by omega
 simp[Pv.look,H.slc,H.ssc];(with_reducible repeat' first|((first|apply bO|apply bS|apply bR)<;>intro h<;>try simp at h)|refine ak ?_|simp[Pv.look,H.slc,H.ssc])
 ·obtain⟨k,rfl⟩:∃bH,k=bH+1:=⟨k-1,by omega⟩;have Hk:(((k+1:Nat):Int)-1)=(k:Nat):=by omega
  rw[Sort.heapBuild]at cj;simp only[hY H,H.slc,H.ssc,hS,Hk,XG];refine H.doFn (lk:=cd.toList) (by simpa using a8) (R:=fun aX=> ∃b6,aX=b6.toList∧b6=Sort.siftDown lt (b-a) a k cd∧b6.size=n) ((PM H cd a8 k (b-a) a (by omega) U (by omega)).mono fun r ai ⟨aZ,b6,bB,bQ,cS⟩=>⟨aZ,b6.toList,bB,b6,rfl,bQ,cS⟩) (by rintro aX ⟨b6,rfl,_,q⟩;simpa using q) (by simp[aH,aB,H.kdata (lk:=cd.toList) (by simpa using a8)]) ?_;rintro aX ⟨b6,rfl,aZ,bB⟩;simp;((with_reducible repeat' first|refine ak ?_|simp|((first|apply bO|apply bS|apply bR)<;>intro h<;>try simp at h))<;>(try exact cq));refine bL.whl (k,b6) (by simp) ⟨bB,by simp;omega,by rw[←cj,aZ]⟩ (H.weakC au (by simpa using bB) (by simp[aB]))
 ·obtain rfl:k=0:=by omega
  rw[Sort.heapBuild]at cj;have amg:cd.size=n:=a8;refine H.loopA au [3,6,7] (fun(x:Nat×Array α)=>[(10,.int .i64 ((x.1:Int)-1))]) (·.2) (fun x=>x.1) (fun x=>x.2.size=n∧x.1≤b-a∧Sort.heapPop lt a x.1 x.2=Sort.heapPop lt a (b-a) cd) (b-a,cd) a8 ⟨a8,by simp,rfl⟩ (by simp[Pv.look]) aQ aQ (by simp[aB];omega) ?_;rintro⟨k,fA⟩ ⟨hc,u5,gO⟩;simp only at hc u5 gO;simp[Pv.look,H.slc,H.ssc];(with_reducible repeat' first|((first|apply bO|apply bS|apply bR)<;>intro h<;>try simp at h)|refine ak ?_|simp[Pv.look,H.slc,H.ssc])
  ·obtain⟨k,rfl⟩:∃bH,k=bH+1:=⟨k-1,by omega⟩;have Hk:(((k+1:Nat):Int)-1)=(k:Nat):=by omega
   have XF:((a:Int)+k)=(a+k:Nat):=by omega
   rw[Sort.heapPop]at gO;simp only[Hk,XF];refine H.swapA hc U _ _ (by omega) (by omega) fun o=>?_;have I5:(Sort.swp fA a (a+k)).size=n:=by rw[gz,hc]
   simp;simp only[hY H,H.slc,H.ssc,hS];refine H.doFn (lk:=(Sort.swp fA a (a+k)).toList) (by simpa using I5) (R:=fun aX=> ∃b6,aX=b6.toList∧b6=Sort.siftDown lt k a 0 (Sort.swp fA a (a+k))∧b6.size=n) ((PM H (Sort.swp fA a (a+k)) I5 0 k a (by omega) U (by omega)).mono fun r ai ⟨aZ,b6,bB,bQ,cS⟩=>⟨aZ,b6.toList,bB,b6,rfl,bQ,cS⟩) (by rintro aX ⟨b6,rfl,_,q⟩;simpa using q) (by simp[aH,aB,H.kdata (lk:=(Sort.swp fA a (a+k)).toList) (by simpa using I5)]) ?_;rintro aX ⟨b6,rfl,aZ,bB⟩;simp;((with_reducible repeat' first|refine ak ?_|simp|((first|apply bO|apply bS|apply bR)<;>intro h<;>try simp at h))<;>(try exact cq));refine bL.whl (k,b6) (by simp) ⟨bB,by simp;omega,by rw[←gO,aZ]⟩ (H.weakC au (by simpa using bB) (by simp[aB]))
  ·obtain rfl:k=0:=by omega
   rw[Sort.heapPop]at gO;refine H.retA au hc (.inr rfl) ⟨rfl,fA,rfl,?_,hc⟩;rw[Sort.heapSort,←cj,←gO]
theorem aaY(H:eV S n g b2 lc bX lt)(d:Array α)(aP:d.size=n)(a b:Nat)(mx:a≤b)(ae:b≤n):
  bJ ao 231 [eK g b2 lc bX,.int .i64 a,.int .i64 b] (S d.toList) fun r ai=>r= .tuple []∧∃b6,ai=S b6.toList∧b6=Sort.insertionSort lt d a b∧b6.size=n:=by
 have ag:=H.ok d.toList;have au:d.toList.length=n:=by simpa using aP
 have aA:∀l m,Pv.look (.loc m) (S l).b=none:=fun l=>(H.ok l).obj.1;have hu:∀l m cs,cw (.loc m) cs (S l).b=(S l).b++[(.loc m,cs)]:=fun l m cs=>jE (aA l m);have av:∀m,aD.loc m∉cO (S d.toList):=jz ag.obj;have hle:=H.le;refine bJ.mk mixed zV Pl S2 (by simp) ag.obj fun aR c1=>?_;unfold GZ;simp[eK,hu,av,cE,aA];have ff:((a:Int)+1)=(a+1:Nat):=by omega
 (with_reducible repeat' first|refine ak ?_|simp[hu,av,cE,aA]);rw[ff];refine H.loopA au [1,2,3] (fun(x:Nat×Array α)=>[(6,.int .i64 x.1)]) (·.2) (fun x=>b+1-x.1) (fun x=>x.2.size=n∧x.1≤b+1∧Sort.insOuter lt a b x.1 x.2=Sort.insertionSort lt d a b) (a+1,d) aP ⟨aP,by simp;omega,rfl⟩ (by simp[cE,aA]) aQ aQ (by simp[aB]) ?_;rintro⟨i,cd⟩ ⟨a8,bU,cj⟩;simp only at a8 bU cj;rw[Sort.insOuter]at cj;simp;(with_reducible repeat' first|((first|apply bO|apply bS|apply bR)<;>intro h<;>try simp at h)|refine ak ?_|simp)
 ·rw[if_pos (by omega)]at cj;refine H.loopA au [1,2,3,6] (fun(x:Nat×Array α)=>[(7,.int .i64 x.1)]) (·.2) (fun x=>x.1) (fun x=>x.2.size=n∧x.1≤i∧Sort.insInner lt a x.1 x.2=Sort.insInner lt a i cd) (i,cd) a8 ⟨a8,by simp,rfl⟩ (by simp[Pv.look]) aQ aQ (by simp[aB]) ?_;rintro⟨j,fA⟩ ⟨hc,u5,gO⟩;simp only at hc u5 gO;simp[Pv.look,H.slc,H.ssc];(with_reducible repeat' first|((first|apply bO|apply bS|apply bR)<;>intro h<;>try simp at h)|refine ak ?_|simp[Pv.look,H.slc,H.ssc])
  ·obtain⟨j,rfl⟩:∃du,j=du+1:=⟨j-1,by omega⟩;have nG:(((j+1:Nat):Int)-1)=(j:Nat):=by omega
   have oA:((i:Int)+1)=(i+1:Nat):=by omega
   have XJ:((j:Int)+1)=(j+1:Nat):=by omega
   rw[Sort.insInner]at gO;have aw:decide (j+1>a)=true:=by simp;omega
   rw[nG];refine H.lessA hc _ _ (by omega) (by omega) fun o=>?_;cases ad:lt fA[j+1]! fA[j]! with
   |true=>rw[if_pos (by rw[aw,ad];rfl)]at gO;simp;(with_reducible repeat' first|refine ak ?_|simp[Pv.look,H.slc,H.ssc]);rw[XJ];refine H.swapA hc (by omega) _ _ (by omega) (by omega) fun o=>?_;simp;(with_reducible repeat' first|refine ak ?_|simp);refine bL.whl (j,Sort.swp fA (j+1) j) (by simp) ⟨by rw[gz,hc],by simp;omega,gO⟩ (H.weakC au (by simp[gz,hc]) (by simp[aB]))
   |false=>rw[if_neg (by simp[ad])]at gO;simp;((with_reducible repeat' first|refine ak ?_|simp|((first|apply bO|apply bS|apply bR)<;>intro h<;>try simp at h))<;>(try exact cq));rw[oA];refine bL.whl (i+1,fA) (by simp;omega) ⟨hc,by simp;omega,by rw[←cj,←gO]⟩ (H.weakC au (by simpa using hc) (by simp[aB]))
  ·have oA:((i:Int)+1)=(i+1:Nat):=by omega
   have w4:Sort.insInner lt a j fA=fA:=by
    cases j with
    |zero=>rfl
    |succ j=>rw[Sort.insInner,if_neg (by simp;omega)]
   rw[oA];refine bL.whl (i+1,fA) (by simp;omega) ⟨hc,by simp;omega,by rw[←cj,←gO,w4]⟩ (H.weakC au (by simpa using hc) (by simp[aB]))
 ·rw[if_neg (by omega)]at cj;exact H.retA au a8 (.inr rfl) ⟨rfl,cd,rfl,cj,a8⟩
end Go.Proofs.YtahlgcidhnjlbaaGreat
namespace Go.Proofs.YtahlgcidhnjlbaaGreat
open Go Go.Pv
variable {α:Type} [Inhabited α] {S:List α→cF} {n g b2:Nat} {lc bX:List ah} {lt:α→α→Bool}
theorem ub{p:α→Bool}{d:Array α}{i j:Nat}(h:¬(i≤j∧p d[j]! =true)):Sort.scanDown p d i j=j:=by
 cases j with
 |zero=>rfl
 |succ j=>rw[Sort.scanDown,if_neg (by simpa using h)]
theorem zJ{p:α→Bool}{d:Array α}{i j:Nat}(h:¬(i≤j∧p d[i]! =true)):Sort.scanUp p d j i=i:=by rw[Sort.scanUp,if_neg (by simpa using h)]
theorem KU{p:α→Bool}{d:Array α}{i j:Nat}(J:i≤j)(U:p d[i]! =true):Sort.scanUp p d j i=Sort.scanUp p d j (i+1):=by rw[Sort.scanUp,if_pos (by simp[J,U])]
theorem KT{p:α→Bool}{d:Array α}{i j:Nat}(J:i≤j+1)(U:p d[j+1]! =true):Sort.scanDown p d i (j+1)=Sort.scanDown p d i j:=by rw[Sort.scanDown,if_pos (by simp[J,U])]
theorem aa4(H:eV S n g b2 lc bX lt)(d:Array α)(aP:d.size=n)(a b pivot:Nat)(qK:a≤pivot)(acN:pivot<b)(mx:a+1<b)(ae:b≤n):
  bJ ao 244 [eK g b2 lc bX,.int .i64 a,.int .i64 b,.int .i64 pivot] (S d.toList) fun r ai=>r= .tuple [.int .i64 (Sort.partition lt d a b pivot).1,.bool (Sort.partition lt d a b pivot).2.1]∧∃b6,ai=S b6.toList∧b6=(Sort.partition lt d a b pivot).2.2∧b6.size=n:=by
 obtain⟨R,bh⟩:∃R,R=Sort.partition lt d a b pivot:=⟨_,rfl⟩;rw[←bh];unfold Sort.partition at bh;have ag:=H.ok d.toList;have au:d.toList.length=n:=by simpa using aP
 have aA:∀l m,Pv.look (.loc m) (S l).b=none:=fun l=>(H.ok l).obj.1;have hu:∀l m cs,cw (.loc m) cs (S l).b=(S l).b++[(.loc m,cs)]:=fun l m cs=>jE (aA l m);have av:∀m,aD.loc m∉cO (S d.toList):=jz ag.obj;have hle:=H.le;refine bJ.mk mixed nq ZV agj (by simp) ag.obj fun aR c1=>?_;unfold NO;simp[eK,hu,av,cE,aA];rw[H.ssc];refine H.swapA0 aP (by omega) a pivot (by omega) (by omega) fun o=>?_;obtain⟨d1,fh⟩:∃d1,d1=Sort.swp d a pivot:=⟨_,rfl⟩;have s1:d1.size=n:=by rw[fh,gz,aP]
 rw[←fh];simp only[←fh]at bh;have aj:((a:Int)+1)=(a+1:Nat):=by omega
 have aC:((b:Int)-1)=(b-1:Nat):=by omega
 simp;(with_reducible repeat' first|refine ak ?_|simp);rw[aj,aC];refine H.loopA au [1,4,11] (fun(i:Nat)=>[(10,.int .i64 i)]) (fun _=>d1) (fun i=>b+1-i) (fun i=>a+1≤i∧i≤b∧Sort.scanUp (fun x=>lt x d1[a]!) d1 (b-1) i=Sort.scanUp (fun x=>lt x d1[a]!) d1 (b-1) (a+1)) (a+1) s1 ⟨by omega,by omega,rfl⟩ (by simp[Pv.look]) aQ aQ (by simp[aB]) ?_;rintro i ⟨i1,i2,i3⟩;simp[Pv.look,H.slc];((with_reducible repeat' first|refine ak ?_|simp[Pv.look,H.slc]|((first|apply bO|apply bS|apply bR)<;>intro h<;>try simp at h))<;>(try exact cq));refine H.lessA s1 i a (by omega) (by omega) fun o=>?_;cases ad:lt d1[i]! d1[a]!;rotate_left
 ·have oA:((i:Int)+1)=(i+1:Nat):=by omega
  simp;(with_reducible repeat' first|refine ak ?_|simp);rw[oA];refine bL.whl (i+1) (by omega) ⟨by omega,by omega,by rw[←i3];exact(KU (p:=fun x=>lt x d1[a]!) (by omega) ad).symm⟩ (H.weakC au (by simpa using s1) (by simp[aB]))
 rotate_left
 ·have i4:Sort.scanUp (fun x=>lt x d1[a]!) d1 (b-1) i=i:=zJ (by simp[ad]);rw[i4]at i3;rw[←i3]at bh;simp;refine H.loopA au [1,4,10] (fun(j:Nat)=>[(11,.int .i64 j)]) (fun _=>d1) (fun j=>j) (fun j=>i≤j+1∧j≤b-1∧Sort.scanDown (fun x=> !lt x d1[a]!) d1 i j=Sort.scanDown (fun x=> !lt x d1[a]!) d1 i (b-1)) (b-1) s1 ⟨by omega,by omega,rfl⟩ (by simp[Pv.look]) aQ aQ (by simp[aB]) ?_;rintro j ⟨hc,u5,gO⟩;simp[Pv.look,H.slc];((with_reducible repeat' first|refine ak ?_|simp[Pv.look,H.slc,H.ssc]|((first|apply bO|apply bS|apply bR)<;>intro h<;>try simp at h))<;>(try exact cq))
  ·refine H.lessA s1 j a (by omega) (by omega) fun o=>?_;cases aL:lt d1[j]! d1[a]!
   ·obtain⟨j,rfl⟩:∃du,j=du+1:=⟨j-1,by omega⟩;have nG:(((j+1:Nat):Int)-1)=(j:Nat):=by omega
    simp;(with_reducible repeat' first|refine ak ?_|simp);try rw[nG]
    refine bL.whl j (by omega) ⟨by omega,by omega,by rw[←gO];exact(KT (p:=fun x=> !lt x d1[a]!) (by omega) (by simp[aL])).symm⟩ (H.weakC au (by simpa using s1) (by simp[aB]))
   ·have w4:Sort.scanDown (fun x=> !lt x d1[a]!) d1 i j=j:=ub (by simp[aL]);have cC:i≠j:=fun e=>by subst e;rw[ad]at aL;cases aL
    rw[w4]at gO;rw[←gO,if_neg (by omega)]at bh;simp;((with_reducible repeat' first|refine ak ?_|simp[Pv.look,H.slc,H.ssc]|((first|apply bO|apply bS|apply bR)<;>intro h<;>try simp at h))<;>(try exact cq));refine H.swapA s1 (by omega) i j (by omega) (by omega) fun o=>?_;obtain⟨d2,ez⟩:∃d2,d2=Sort.swp d1 i j:=⟨_,rfl⟩;have s2:d2.size=n:=by rw[ez,gz,s1]
    rw[←ez];rw[←ez]at bh;have bg:((i:Int)+1)=(i+1:Nat):=by omega
    have da:((j:Int)-1)=(j-1:Nat):=by omega
    simp;(with_reducible repeat' first|refine ak ?_|simp);rw[bg,da];refine H.loopA au [1,4] (fun(x:(Nat×Nat)×Array α)=>[(10,.int .i64 x.1.1),(11,.int .i64 x.1.2)]) (·.2) (fun x=>x.1.2+1-x.1.1) (fun x=>x.2.size=n∧(a+1≤x.1.1∧x.1.1≤x.1.2+1∧x.1.2≤b-1)∧Sort.partLoop lt a x.1.1 x.1.2 x.2=Sort.partLoop lt a (i+1) (j-1) d2) ((i+1,j-1),d2) s2 ⟨s2,⟨by simp;omega,by simp;omega,by simp;omega⟩,rfl⟩ (by simp[Pv.look]) aQ aQ (by simp[aB]) ?_;rintro⟨⟨u4,du⟩,cd⟩ ⟨a8,⟨bU,cj,eB⟩,c5⟩;simp only at a8 bU cj eB c5;rw[Sort.partLoop]at c5;generalize mv:Sort.partLoop lt a (i+1) (j-1) d2=G at c5 bh;simp;refine H.loopA au [1,4,11] (fun(x:Nat)=>[(10,.int .i64 x)]) (fun _=>cd) (fun x=>b+1-x) (fun x=>u4≤x∧x≤du+1∧Sort.scanUp (fun x=>lt x cd[a]!) cd du x=Sort.scanUp (fun x=>lt x cd[a]!) cd du u4) u4 a8 ⟨by omega,by omega,rfl⟩ (by simp[Pv.look]) aQ aQ (by simp[aB]) ?_;rintro p ⟨cL,dm,iy⟩;simp[Pv.look,H.slc];((with_reducible repeat' first|refine ak ?_|simp[Pv.look,H.slc]|((first|apply bO|apply bS|apply bR)<;>intro h<;>try simp at h))<;>(try exact cq))
    ·refine H.lessA a8 p a (by omega) (by omega) fun o=>?_;cases hU:lt cd[p]! cd[a]!;rotate_left
     ·have oA:((p:Int)+1)=(p+1:Nat):=by omega
      simp;(with_reducible repeat' first|refine ak ?_|simp);rw[oA];refine bL.whl (p+1) (by omega) ⟨by omega,by omega,by rw[←iy];exact(KU (p:=fun x=>lt x cd[a]!) (by omega) hU).symm⟩ (H.weakC au (by simpa using a8) (by simp[aB]))
     ·have tM:Sort.scanUp (fun x=>lt x cd[a]!) cd du p=p:=zJ (by simp[hU]);rw[tM]at iy;simp only[←iy]at c5;simp;refine H.loopA au [1,4,10] (fun(x:Nat)=>[(11,.int .i64 x)]) (fun _=>cd) (fun x=>x) (fun x=>p≤x+1∧x≤du∧Sort.scanDown (fun x=> !lt x cd[a]!) cd p x=Sort.scanDown (fun x=> !lt x cd[a]!) cd p du) du a8 ⟨by omega,by omega,rfl⟩ (by simp[Pv.look]) aQ aQ (by simp[aB]) ?_;rintro q ⟨aZ,bB,bQ⟩;simp[Pv.look,H.slc];((with_reducible repeat' first|refine ak ?_|simp[Pv.look,H.slc,H.ssc]|((first|apply bO|apply bS|apply bR)<;>intro h<;>try simp at h))<;>(try exact cq))
      ·refine H.lessA a8 q a (by omega) (by omega) fun o=>?_;cases qX:lt cd[q]! cd[a]!
       ·obtain⟨q,rfl⟩:∃du,q=du+1:=⟨q-1,by omega⟩;have nG:(((q+1:Nat):Int)-1)=(q:Nat):=by omega
        simp;(with_reducible repeat' first|refine ak ?_|simp);try rw[nG]
        refine bL.whl q (by omega) ⟨by omega,by omega,by rw[←bQ];exact(KT (p:=fun x=> !lt x cd[a]!) (by omega) (by simp[qX])).symm⟩ (H.weakC au (by simpa using a8) (by simp[aB]))
       ·have cS:Sort.scanDown (fun x=> !lt x cd[a]!) cd p q=q:=ub (by simp[qX]);have cC:p≠q:=fun e=>by subst e;rw[hU]at qX;cases qX
        rw[cS]at bQ;simp only[←bQ]at c5;rw[if_neg (by omega),dif_pos (by omega)]at c5;simp;((with_reducible repeat' first|refine ak ?_|simp[Pv.look,H.slc,H.ssc]|((first|apply bO|apply bS|apply bR)<;>intro h<;>try simp at h))<;>(try exact cq));refine H.swapA a8 (by omega) p q (by omega) (by omega) fun o=>?_;have gL:((p:Int)+1)=(p+1:Nat):=by omega
        have hz:((q:Int)-1)=(q-1:Nat):=by omega
        simp;(with_reducible repeat' first|((first|apply bO|apply bS|apply bR)<;>intro h<;>try simp at h)|refine ak ?_|simp);rw[gL,hz];refine bL.whl ((p+1,q-1),Sort.swp cd p q) (by simp;omega) ⟨by rw[gz,a8],⟨by simp;omega,by simp;omega,by simp;omega⟩,c5⟩ (H.weakC au (by simp[gz,a8]) (by simp[aB]))
      ·have cS:Sort.scanDown (fun x=> !lt x cd[a]!) cd p q=q:=ub (by omega);rw[cS]at bQ;simp only[←bQ]at c5;rw[if_pos (by omega)]at c5;rw[←c5]at bh;refine H.swapA a8 (by omega) q a (by omega) (by omega) fun o=>?_;simp;refine H.retR au (d:=Sort.swp cd q a) (by rw[gz,a8]) (.inl rfl) ?_;simp[cT,Cf,aV,aY,aU];rw[bh];exact⟨⟨rfl,rfl⟩,_,rfl,rfl,by rw[gz,a8]⟩
    ·have tM:Sort.scanUp (fun x=>lt x cd[a]!) cd du p=p:=zJ (by omega);rw[tM]at iy;simp only[←iy]at c5;have cS:Sort.scanDown (fun x=> !lt x cd[a]!) cd p du=du:=ub (by omega);rw[cS,if_pos (by omega)]at c5;rw[←c5]at bh;refine H.loopA au [1,4,10] (fun(x:Nat)=>[(11,.int .i64 x)]) (fun _=>cd) (fun x=>x) (fun x=>x=du) du a8 rfl (by simp[Pv.look]) aQ aQ (by simp[aB]) ?_;rintro q rfl;simp[Pv.look,H.slc];((with_reducible repeat' first|refine ak ?_|simp[Pv.look,H.slc,H.ssc]|((first|apply bO|apply bS|apply bR)<;>intro h<;>try simp at h))<;>(try exact cq));refine H.swapA a8 (by omega) q a (by omega) (by omega) fun o=>?_;simp;refine H.retR au (d:=Sort.swp cd q a) (by rw[gz,a8]) (.inl rfl) ?_;simp[cT,Cf,aV,aY,aU];rw[bh];exact⟨⟨rfl,rfl⟩,_,rfl,rfl,by rw[gz,a8]⟩
  ·have w4:Sort.scanDown (fun x=> !lt x d1[a]!) d1 i j=j:=ub (by omega);rw[w4]at gO;rw[←gO,if_pos (by omega)]at bh;refine H.swapA s1 (by omega) j a (by omega) (by omega) fun o=>?_;simp;refine H.retR au (d:=Sort.swp d1 j a) (by rw[gz,s1]) (.inl rfl) ?_;simp[cT,Cf,aV,aY,aU];rw[bh];exact⟨⟨rfl,rfl⟩,_,rfl,rfl,by rw[gz,s1]⟩
 ·have i4:Sort.scanUp (fun x=>lt x d1[a]!) d1 (b-1) i=i:=zJ (by omega);rw[i4]at i3;have w4:Sort.scanDown (fun x=> !lt x d1[a]!) d1 i (b-1)=b-1:=ub (by omega);rw[←i3,w4,if_pos (by omega)]at bh;refine H.loopA au [1,4,10] (fun(j:Nat)=>[(11,.int .i64 j)]) (fun _=>d1) (fun j=>j) (fun j=>j=b-1) (b-1) s1 rfl (by simp[Pv.look]) aQ aQ (by simp[aB]) ?_;rintro j rfl;simp[Pv.look,H.slc];((with_reducible repeat' first|refine ak ?_|simp[Pv.look,H.slc,H.ssc]|((first|apply bO|apply bS|apply bR)<;>intro h<;>try simp at h))<;>(try exact cq));refine H.swapA s1 (by omega) (b-1) a (by omega) (by omega) fun o=>?_;simp;refine H.retR au (d:=Sort.swp d1 (b-1) a) (by rw[gz,s1]) (.inl rfl) ?_;simp[cT,Cf,aV,aY,aU];rw[bh];exact⟨⟨rfl,rfl⟩,_,rfl,rfl,by rw[gz,s1]⟩
end Go.Proofs.YtahlgcidhnjlbaaGreat
namespace Go.Proofs.YtahlgcidhnjlbaaGreat
open Go Go.Pv
variable {α:Type} [Inhabited α] {S:List α→cF} {n g b2:Nat} {lc bX:List ah} {lt:α→α→Bool}
theorem aa5(H:eV S n g b2 lc bX lt)(d:Array α)(aP:d.size=n)(a b pivot:Nat)(qK:a≤pivot)(acN:pivot<b)(mx:a+1<b)(ae:b≤n):
  bJ ao 243 [eK g b2 lc bX,.int .i64 a,.int .i64 b,.int .i64 pivot] (S d.toList) fun r ai=>r= .int .i64 (Sort.partitionEqual lt d a b pivot).1∧∃b6,ai=S b6.toList∧b6=(Sort.partitionEqual lt d a b pivot).2∧b6.size=n:=by
 obtain⟨R,bh⟩:∃R,R=Sort.partitionEqual lt d a b pivot:=⟨_,rfl⟩;rw[←bh];unfold Sort.partitionEqual at bh;have ag:=H.ok d.toList;have au:d.toList.length=n:=by simpa using aP
 have aA:∀l m,Pv.look (.loc m) (S l).b=none:=fun l=>(H.ok l).obj.1;have hu:∀l m cs,cw (.loc m) cs (S l).b=(S l).b++[(.loc m,cs)]:=fun l m cs=>jE (aA l m);have av:∀m,aD.loc m∉cO (S d.toList):=jz ag.obj;have hle:=H.le;refine bJ.mk mixed nq ZU agi (by simp) ag.obj fun aR c1=>?_;unfold NN;simp[eK,hu,av,cE,aA];rw[H.ssc];refine H.swapA0 aP (by omega) a pivot (by omega) (by omega) fun o=>?_;obtain⟨d1,fh⟩:∃d1,d1=Sort.swp d a pivot:=⟨_,rfl⟩;have s1:d1.size=n:=by rw[fh,gz,aP]
 rw[←fh];rw[←fh]at bh;have aj:((a:Int)+1)=(a+1:Nat):=by omega
 have aC:((b:Int)-1)=(b-1:Nat):=by omega
 simp;(with_reducible repeat' first|refine ak ?_|simp);rw[aj,aC];refine H.loopA au [1,4] (fun(x:(Nat×Nat)×Array α)=>[(9,.int .i64 x.1.1),(10,.int .i64 x.1.2)]) (·.2) (fun x=>x.1.2+1-x.1.1) (fun x=>x.2.size=n∧(a+1≤x.1.1∧x.1.1≤x.1.2+1∧x.1.2≤b-1)∧Sort.partEqLoop lt a x.1.1 x.1.2 x.2=R) ((a+1,b-1),d1) s1 ⟨s1,⟨by simp,by simp;omega,by simp⟩,bh.symm⟩ (by simp[Pv.look]) aQ aQ (by simp[aB]) ?_;rintro⟨⟨u4,du⟩,cd⟩ ⟨a8,⟨bU,cj,eB⟩,c5⟩;simp only at a8 bU cj eB c5;rw[Sort.partEqLoop]at c5;simp;refine H.loopA au [1,4,10] (fun(x:Nat)=>[(9,.int .i64 x)]) (fun _=>cd) (fun x=>b+1-x) (fun x=>u4≤x∧x≤du+1∧Sort.scanUp (fun x=> !lt cd[a]! x) cd du x=Sort.scanUp (fun x=> !lt cd[a]! x) cd du u4) u4 a8 ⟨by omega,by omega,rfl⟩ (by simp[Pv.look]) aQ aQ (by simp[aB]) ?_;rintro p ⟨cL,dm,iy⟩;simp[Pv.look,H.slc];((with_reducible repeat' first|refine ak ?_|simp[Pv.look,H.slc]|((first|apply bO|apply bS|apply bR)<;>intro h<;>try simp at h))<;>(try exact cq))
 ·refine H.lessA a8 a p (by omega) (by omega) fun o=>?_;cases hU:lt cd[a]! cd[p]!
  ·have oA:((p:Int)+1)=(p+1:Nat):=by omega
   simp;(with_reducible repeat' first|refine ak ?_|simp);rw[oA];refine bL.whl (p+1) (by omega) ⟨by omega,by omega,by rw[←iy];exact(KU (p:=fun x=> !lt cd[a]! x) (by omega) (by simp[hU])).symm⟩ (H.weakC au (by simpa using a8) (by simp[aB]))
  ·have tM:Sort.scanUp (fun x=> !lt cd[a]! x) cd du p=p:=zJ (by simp[hU]);rw[tM]at iy;simp only[←iy]at c5;simp;refine H.loopA au [1,4,9] (fun(x:Nat)=>[(10,.int .i64 x)]) (fun _=>cd) (fun x=>x) (fun x=>p≤x+1∧x≤du∧Sort.scanDown (fun x=>lt cd[a]! x) cd p x=Sort.scanDown (fun x=>lt cd[a]! x) cd p du) du a8 ⟨by omega,by omega,rfl⟩ (by simp[Pv.look]) aQ aQ (by simp[aB]) ?_;rintro q ⟨aZ,bB,bQ⟩;simp[Pv.look,H.slc];((with_reducible repeat' first|refine ak ?_|simp[Pv.look,H.slc,H.ssc]|((first|apply bO|apply bS|apply bR)<;>intro h<;>try simp at h))<;>(try exact cq))
   ·refine H.lessA a8 a q (by omega) (by omega) fun o=>?_;cases qX:lt cd[a]! cd[q]!;rotate_left
    ·obtain⟨q,rfl⟩:∃du,q=du+1:=⟨q-1,by omega⟩;have nG:(((q+1:Nat):Int)-1)=(q:Nat):=by omega
     simp;(with_reducible repeat' first|refine ak ?_|simp);try rw[nG]
     refine bL.whl q (by omega) ⟨by omega,by omega,by rw[←bQ];exact(KT (p:=fun x=>lt cd[a]! x) (by omega) (by simp[qX])).symm⟩ (H.weakC au (by simpa using a8) (by simp[aB]))
    ·have cS:Sort.scanDown (fun x=>lt cd[a]! x) cd p q=q:=ub (by simp[qX]);have cC:p≠q:=fun e=>by subst e;rw[hU]at qX;cases qX
     rw[cS]at bQ;simp only[←bQ]at c5;rw[if_neg (by omega),dif_pos (by omega)]at c5;simp;((with_reducible repeat' first|refine ak ?_|simp[Pv.look,H.slc,H.ssc]|((first|apply bO|apply bS|apply bR)<;>intro h<;>try simp at h))<;>(try exact cq));refine H.swapA a8 (by omega) p q (by omega) (by omega) fun o=>?_;have gL:((p:Int)+1)=(p+1:Nat):=by omega
     have hz:((q:Int)-1)=(q-1:Nat):=by omega
     simp;(with_reducible repeat' first|((first|apply bO|apply bS|apply bR)<;>intro h<;>try simp at h)|refine ak ?_|simp);rw[gL,hz];refine bL.whl ((p+1,q-1),Sort.swp cd p q) (by simp;omega) ⟨by rw[gz,a8],⟨by simp;omega,by simp;omega,by simp;omega⟩,c5⟩ (H.weakC au (by simp[gz,a8]) (by simp[aB]))
   ·have cS:Sort.scanDown (fun x=>lt cd[a]! x) cd p q=q:=ub (by omega);rw[cS]at bQ;simp only[←bQ]at c5;rw[if_pos (by omega)]at c5;refine H.retR au (d:=cd) a8 (.inl rfl) ?_;simp[cT,Ko,aV,aY,aU];rw[←c5];exact⟨rfl,_,rfl,rfl,a8⟩
 ·have tM:Sort.scanUp (fun x=> !lt cd[a]! x) cd du p=p:=zJ (by omega);rw[tM]at iy;simp only[←iy]at c5;have cS:Sort.scanDown (fun x=>lt cd[a]! x) cd p du=du:=ub (by omega);rw[cS,if_pos (by omega)]at c5;refine H.loopA au [1,4,9] (fun(x:Nat)=>[(10,.int .i64 x)]) (fun _=>cd) (fun x=>x) (fun x=>x=du) du a8 rfl (by simp[Pv.look]) aQ aQ (by simp[aB]) ?_;rintro q rfl;simp[Pv.look,H.slc];((with_reducible repeat' first|refine ak ?_|simp[Pv.look,H.slc,H.ssc]|((first|apply bO|apply bS|apply bR)<;>intro h<;>try simp at h))<;>(try exact cq));refine H.retR au (d:=cd) a8 (.inl rfl) ?_;simp[cT,Ko,aV,aY,aU];rw[←c5];exact⟨rfl,_,rfl,rfl,a8⟩
end Go.Proofs.YtahlgcidhnjlbaaGreat
namespace Go.Proofs.YtahlgcidhnjlbaaGreat
open Go Go.Pv
variable {α:Type} [Inhabited α] {S:List α→cF} {n g b2:Nat} {lc bX:List ah} {lt:α→α→Bool}
theorem aa3(H:eV S n g b2 lc bX lt)(d:Array α)(aP:d.size=n)(a b:Nat)(mx:a<b)(ae:b≤n)(U:2≤n):
  bJ ao 242 [eK g b2 lc bX,.int .i64 a,.int .i64 b] (S d.toList) fun r ai=>r= .bool (Sort.partialInsertionSort lt d a b).2∧∃b6,ai=S b6.toList∧b6=(Sort.partialInsertionSort lt d a b).1∧b6.size=n:=by
 obtain⟨R,bh⟩:∃R,R=Sort.partialInsertionSort lt d a b:=⟨_,rfl⟩;rw[←bh];unfold Sort.partialInsertionSort at bh;have ag:=H.ok d.toList;have au:d.toList.length=n:=by simpa using aP
 have aA:∀l m,Pv.look (.loc m) (S l).b=none:=fun l=>(H.ok l).obj.1;have hu:∀l m cs,cw (.loc m) cs (S l).b=(S l).b++[(.loc m,cs)]:=fun l m cs=>jE (aA l m);have av:∀m,aD.loc m∉cO (S d.toList):=jz ag.obj;have hle:=H.le;refine bJ.mk mixed nq ZT agh (by simp) ag.obj fun aR c1=>?_;unfold NM;simp[eK,hu,av,cE,aA];have aj:((a:Int)+1)=(a+1:Nat):=by omega
 (with_reducible repeat' first|refine ak ?_|simp);rw[aj];refine H.loopA au [1,2,3] (fun(x:(Nat×Nat)×Array α)=>[(7,.int .i64 x.1.1),(8,.int .i64 x.1.2)]) (·.2) (fun x=>5-x.1.2) (fun x=>x.2.size=n∧(a+1≤x.1.1∧x.1.1≤b∧x.1.2≤5)∧Sort.partialIns lt a b (5-x.1.2) x.1.1 x.2=R) ((a+1,0),d) aP ⟨aP,⟨by simp,by simp;omega,by simp⟩,bh.symm⟩ (by simp[cE,aA]) aQ aQ (by simp[aB]) ?_;rintro⟨⟨i0,s⟩,cd⟩ ⟨a8,⟨bU,cj,eB⟩,c5⟩;simp only at a8 bU cj eB c5;simp;((with_reducible repeat' first|refine ak ?_|simp|((first|apply bO|apply bS|apply bR)<;>intro h<;>try simp at h))<;>(try exact cq))
 ·obtain⟨m,hm⟩:∃m,5-s=m+1:=⟨5-s-1,by omega⟩;rw[hm,Sort.partialIns]at c5;refine H.loopA au [1,2,3,8] (fun(x:Nat)=>[(7,.int .i64 x)]) (fun _=>cd) (fun x=>b-x) (fun x=>i0≤x∧x≤b∧Sort.scanSorted lt cd b x=Sort.scanSorted lt cd b i0) i0 a8 ⟨by omega,by omega,rfl⟩ (by simp[Pv.look]) aQ aQ (by simp[aB]) ?_;rintro i ⟨i1,i2,i3⟩;rw[Sort.scanSorted]at i3;have oA:((i:Int)+1)=(i+1:Nat):=by omega
  have Dx:((i:Int)-1)=(i-1:Nat):=by omega
  have es:((s:Int)+1)=(s+1:Nat):=by omega
  have em:5-(s+1)=m:=by omega
  simp[Pv.look,H.slc];((with_reducible repeat' first|refine ak ?_|simp[Pv.look,H.slc]|((first|apply bO|apply bS|apply bR)<;>intro h<;>try simp at h))<;>(try exact cq))
  ·rw[Dx];refine H.lessA a8 i (i-1) (by omega) (by omega) fun o=>?_;cases ad:lt cd[i]! cd[i-1]!
   ·rw[if_pos (by simp[ad];omega)]at i3;simp;(with_reducible repeat' first|refine ak ?_|simp);rw[oA];refine bL.whl (i+1) (by omega) ⟨by omega,by omega,i3⟩ (H.weakC au (by simpa using a8) (by simp[aB]))
   ·rw[if_neg (by simp[ad])]at i3;simp only[←i3]at c5;rw[if_neg (by omega)]at c5;have yE:(i:Int)≠b:=by omega
    have ab9:((i:Int)==b)=false:=by simp;omega
    simp;((with_reducible repeat' first|refine ak ?_|simp[yE,ab9,Pv.look,H.slc,H.ssc]|((first|apply bO|apply bS|apply bR)<;>intro h<;>try simp at h))<;>(try exact cq))
    ·rw[if_pos (by omega)]at c5;refine H.retR au (d:=cd) a8 (.inl rfl) ?_;simp[cT,Fo,aV,aY,aU];rw[←c5];exact⟨rfl,_,rfl,rfl,a8⟩
    ·rw[if_neg (by omega)]at c5;rw[Dx];refine H.swapA a8 U i (i-1) (by omega) (by omega) fun o=>?_;obtain⟨d2,ez⟩:∃d2,d2=Sort.swp cd i (i-1):=⟨_,rfl⟩;have s2:d2.size=n:=by rw[ez,gz,a8]
     rw[←ez];simp only[←ez]at c5;by_cases k6:2≤b-i
     ·rw[if_pos k6]at c5;have r7:(2:Int)≤(b:Int)-i:=by omega
      by_cases A1:2≤i-a
      ·rw[if_pos A1]at c5;have wE:(2:Int)≤(i:Int)-a:=by omega
       simp;(with_reducible repeat' first|refine ak ?_|simp[wE]);rw[Dx];refine H.loopA au [1,2,3,7,8] (fun(x:Nat×Array α)=>[(9,.int .i64 x.1)]) (·.2) (fun x=>x.1) (fun x=>x.2.size=n∧x.1≤i-1∧Sort.shiftDown lt x.1 x.2=Sort.shiftDown lt (i-1) d2) (i-1,d2) s2 ⟨s2,by simp,rfl⟩ (by simp[Pv.look]) aQ aQ (by simp[aB]) ?_;rintro⟨j,fA⟩ ⟨hc,u5,gO⟩;simp only at hc u5 gO;simp[Pv.look,H.slc,H.ssc];((with_reducible repeat' first|refine ak ?_|simp[Pv.look,H.slc,H.ssc,r7]|((first|apply bO|apply bS|apply bR)<;>intro h<;>try simp at h))<;>(try exact cq))
       ·obtain⟨j,rfl⟩:∃du,j=du+1:=⟨j-1,by omega⟩;have nG:(((j+1:Nat):Int)-1)=(j:Nat):=by omega
        rw[Sort.shiftDown]at gO;try rw[nG]
        refine H.lessA hc (j+1) j (by omega) (by omega) fun o=>?_;cases aL:lt fA[j+1]! fA[j]!
        ·rw[if_pos (by simp[aL])]at gO;rw[←gO]at c5;try simp
         try(with_reducible repeat' first|refine ak ?_|simp[Pv.look,H.slc,H.ssc,r7])
         rw[oA];refine H.loopA au [1,2,3,7,8] (fun(x:Nat×Array α)=>[(10,.int .i64 x.1)]) (·.2) (fun x=>b-x.1) (fun x=>x.2.size=n∧(i+1≤x.1∧x.1≤b)∧Sort.shiftUp lt b x.1 x.2=Sort.shiftUp lt b (i+1) fA) (i+1,fA) hc ⟨hc,⟨by simp,by simp;omega⟩,rfl⟩ (by simp[Pv.look]) aQ aQ (by simp[aB]) ?_;rintro⟨q,mn⟩ ⟨aZ,⟨bB,xq⟩,bQ⟩;simp only at aZ bB xq bQ;rw[Sort.shiftUp]at bQ;have eq:((q:Int)-1)=(q-1:Nat):=by omega
         have Ay:((q:Int)+1)=(q+1:Nat):=by omega
         simp[Pv.look,H.slc,H.ssc];((with_reducible repeat' first|refine ak ?_|simp[Pv.look,H.slc,H.ssc]|((first|apply bO|apply bS|apply bR)<;>intro h<;>try simp at h))<;>(try exact cq))
         ·rw[if_pos (by omega)]at bQ;rw[eq];refine H.lessA aZ q (q-1) (by omega) (by omega) fun o=>?_;cases bC:lt mn[q]! mn[q-1]!
          ·rw[if_pos (by simp[bC])]at bQ;rw[←bQ]at c5;simp;(with_reducible repeat' first|refine ak ?_|simp);rw[es];refine bL.whl ((i,s+1),mn) (by simp;omega) ⟨aZ,⟨by simp;omega,by simp;omega,by simp;omega⟩,by simp only[em];exact c5⟩ (H.weakC au (by simpa using aZ) (by simp[aB]))
          ·rw[if_neg (by simp[bC])]at bQ;simp;(with_reducible repeat' first|refine ak ?_|simp[Pv.look,H.slc,H.ssc]);rw[eq];refine H.swapA aZ (by omega) q (q-1) (by omega) (by omega) fun o=>?_;simp;((with_reducible repeat' first|refine ak ?_|simp|((first|apply bO|apply bS|apply bR)<;>intro h<;>try simp at h))<;>(try exact cq));rw[Ay];refine bL.whl (q+1,Sort.swp mn q (q-1)) (by simp;omega) ⟨by rw[gz,aZ],⟨by simp;omega,by simp;omega⟩,bQ⟩ (H.weakC au (by simp[gz,aZ]) (by simp[aB]))
         ·rw[if_neg (by omega)]at bQ;rw[←bQ]at c5;rw[es];refine bL.whl ((i,s+1),mn) (by simp;omega) ⟨aZ,⟨by simp;omega,by simp;omega,by simp;omega⟩,by simp only[em];exact c5⟩ (H.weakC au (by simpa using aZ) (by simp[aB]))
        ·rw[if_neg (by simp[aL])]at gO;simp;(with_reducible repeat' first|refine ak ?_|simp[Pv.look,H.slc,H.ssc]);try rw[nG]
         refine H.swapA hc U (j+1) j (by omega) (by omega) fun o=>?_;simp;((with_reducible repeat' first|refine ak ?_|simp|((first|apply bO|apply bS|apply bR)<;>intro h<;>try simp at h))<;>(try exact cq));try rw[nG]
         refine bL.whl (j,Sort.swp fA (j+1) j) (by simp) ⟨by rw[gz,hc],by simp;omega,gO⟩ (H.weakC au (by simp[gz,hc]) (by simp[aB]))
       ·obtain rfl:j=0:=by omega
        rw[Sort.shiftDown]at gO;rw[←gO]at c5;try simp
        try(with_reducible repeat' first|refine ak ?_|simp[Pv.look,H.slc,H.ssc,r7])
        rw[oA];refine H.loopA au [1,2,3,7,8] (fun(x:Nat×Array α)=>[(10,.int .i64 x.1)]) (·.2) (fun x=>b-x.1) (fun x=>x.2.size=n∧(i+1≤x.1∧x.1≤b)∧Sort.shiftUp lt b x.1 x.2=Sort.shiftUp lt b (i+1) fA) (i+1,fA) hc ⟨hc,⟨by simp,by simp;omega⟩,rfl⟩ (by simp[Pv.look]) aQ aQ (by simp[aB]) ?_;rintro⟨q,mn⟩ ⟨aZ,⟨bB,xq⟩,bQ⟩;simp only at aZ bB xq bQ;rw[Sort.shiftUp]at bQ;have eq:((q:Int)-1)=(q-1:Nat):=by omega
        have Ay:((q:Int)+1)=(q+1:Nat):=by omega
        simp[Pv.look,H.slc,H.ssc];((with_reducible repeat' first|refine ak ?_|simp[Pv.look,H.slc,H.ssc]|((first|apply bO|apply bS|apply bR)<;>intro h<;>try simp at h))<;>(try exact cq))
        ·rw[if_pos (by omega)]at bQ;rw[eq];refine H.lessA aZ q (q-1) (by omega) (by omega) fun o=>?_;cases bC:lt mn[q]! mn[q-1]!
         ·rw[if_pos (by simp[bC])]at bQ;rw[←bQ]at c5;simp;(with_reducible repeat' first|refine ak ?_|simp);rw[es];refine bL.whl ((i,s+1),mn) (by simp;omega) ⟨aZ,⟨by simp;omega,by simp;omega,by simp;omega⟩,by simp only[em];exact c5⟩ (H.weakC au (by simpa using aZ) (by simp[aB]))
         ·rw[if_neg (by simp[bC])]at bQ;simp;(with_reducible repeat' first|refine ak ?_|simp[Pv.look,H.slc,H.ssc]);rw[eq];refine H.swapA aZ (by omega) q (q-1) (by omega) (by omega) fun o=>?_;simp;((with_reducible repeat' first|refine ak ?_|simp|((first|apply bO|apply bS|apply bR)<;>intro h<;>try simp at h))<;>(try exact cq));rw[Ay];refine bL.whl (q+1,Sort.swp mn q (q-1)) (by simp;omega) ⟨by rw[gz,aZ],⟨by simp;omega,by simp;omega⟩,bQ⟩ (H.weakC au (by simp[gz,aZ]) (by simp[aB]))
        ·rw[if_neg (by omega)]at bQ;rw[←bQ]at c5;rw[es];refine bL.whl ((i,s+1),mn) (by simp;omega) ⟨aZ,⟨by simp;omega,by simp;omega,by simp;omega⟩,by simp only[em];exact c5⟩ (H.weakC au (by simpa using aZ) (by simp[aB]))
      ·rw[if_neg A1]at c5;have wE:¬(2:Int)≤(i:Int)-a:=by omega
       simp;(with_reducible repeat' first|refine ak ?_|simp[wE,r7]);try simp
       try(with_reducible repeat' first|refine ak ?_|simp[Pv.look,H.slc,H.ssc,r7])
       rw[oA];refine H.loopA au [1,2,3,7,8] (fun(x:Nat×Array α)=>[(10,.int .i64 x.1)]) (·.2) (fun x=>b-x.1) (fun x=>x.2.size=n∧(i+1≤x.1∧x.1≤b)∧Sort.shiftUp lt b x.1 x.2=Sort.shiftUp lt b (i+1) d2) (i+1,d2) s2 ⟨s2,⟨by simp,by simp;omega⟩,rfl⟩ (by simp[Pv.look]) aQ aQ (by simp[aB]) ?_;rintro⟨q,mn⟩ ⟨aZ,⟨bB,xq⟩,bQ⟩;simp only at aZ bB xq bQ;rw[Sort.shiftUp]at bQ;have eq:((q:Int)-1)=(q-1:Nat):=by omega
       have Ay:((q:Int)+1)=(q+1:Nat):=by omega
       simp[Pv.look,H.slc,H.ssc];((with_reducible repeat' first|refine ak ?_|simp[Pv.look,H.slc,H.ssc]|((first|apply bO|apply bS|apply bR)<;>intro h<;>try simp at h))<;>(try exact cq))
       ·rw[if_pos (by omega)]at bQ;rw[eq];refine H.lessA aZ q (q-1) (by omega) (by omega) fun o=>?_;cases bC:lt mn[q]! mn[q-1]!
        ·rw[if_pos (by simp[bC])]at bQ;rw[←bQ]at c5;simp;(with_reducible repeat' first|refine ak ?_|simp);rw[es];refine bL.whl ((i,s+1),mn) (by simp;omega) ⟨aZ,⟨by simp;omega,by simp;omega,by simp;omega⟩,by simp only[em];exact c5⟩ (H.weakC au (by simpa using aZ) (by simp[aB]))
        ·rw[if_neg (by simp[bC])]at bQ;simp;(with_reducible repeat' first|refine ak ?_|simp[Pv.look,H.slc,H.ssc]);rw[eq];refine H.swapA aZ (by omega) q (q-1) (by omega) (by omega) fun o=>?_;simp;((with_reducible repeat' first|refine ak ?_|simp|((first|apply bO|apply bS|apply bR)<;>intro h<;>try simp at h))<;>(try exact cq));rw[Ay];refine bL.whl (q+1,Sort.swp mn q (q-1)) (by simp;omega) ⟨by rw[gz,aZ],⟨by simp;omega,by simp;omega⟩,bQ⟩ (H.weakC au (by simp[gz,aZ]) (by simp[aB]))
       ·rw[if_neg (by omega)]at bQ;rw[←bQ]at c5;rw[es];refine bL.whl ((i,s+1),mn) (by simp;omega) ⟨aZ,⟨by simp;omega,by simp;omega,by simp;omega⟩,by simp only[em];exact c5⟩ (H.weakC au (by simpa using aZ) (by simp[aB]))
     ·rw[if_neg k6]at c5;have r7:¬(2:Int)≤(b:Int)-i:=by omega
      by_cases A1:2≤i-a
      ·rw[if_pos A1]at c5;have wE:(2:Int)≤(i:Int)-a:=by omega
       simp;(with_reducible repeat' first|refine ak ?_|simp[wE]);rw[Dx];refine H.loopA au [1,2,3,7,8] (fun(x:Nat×Array α)=>[(9,.int .i64 x.1)]) (·.2) (fun x=>x.1) (fun x=>x.2.size=n∧x.1≤i-1∧Sort.shiftDown lt x.1 x.2=Sort.shiftDown lt (i-1) d2) (i-1,d2) s2 ⟨s2,by simp,rfl⟩ (by simp[Pv.look]) aQ aQ (by simp[aB]) ?_;rintro⟨j,fA⟩ ⟨hc,u5,gO⟩;simp only at hc u5 gO;simp[Pv.look,H.slc,H.ssc];((with_reducible repeat' first|refine ak ?_|simp[Pv.look,H.slc,H.ssc,r7]|((first|apply bO|apply bS|apply bR)<;>intro h<;>try simp at h))<;>(try exact cq))
       ·obtain⟨j,rfl⟩:∃du,j=du+1:=⟨j-1,by omega⟩;have nG:(((j+1:Nat):Int)-1)=(j:Nat):=by omega
        rw[Sort.shiftDown]at gO;try rw[nG]
        refine H.lessA hc (j+1) j (by omega) (by omega) fun o=>?_;cases aL:lt fA[j+1]! fA[j]!
        ·rw[if_pos (by simp[aL])]at gO;rw[←gO]at c5;try simp
         try(with_reducible repeat' first|refine ak ?_|simp[Pv.look,H.slc,H.ssc,r7])
         rw[es];refine bL.whl ((i,s+1),fA) (by simp;omega) ⟨hc,⟨by simp;omega,by simp;omega,by simp;omega⟩,by simp only[em];exact c5⟩ (H.weakC au (by simpa using hc) (by simp[aB]))
        ·rw[if_neg (by simp[aL])]at gO;simp;(with_reducible repeat' first|refine ak ?_|simp[Pv.look,H.slc,H.ssc]);try rw[nG]
         refine H.swapA hc U (j+1) j (by omega) (by omega) fun o=>?_;simp;((with_reducible repeat' first|refine ak ?_|simp|((first|apply bO|apply bS|apply bR)<;>intro h<;>try simp at h))<;>(try exact cq));try rw[nG]
         refine bL.whl (j,Sort.swp fA (j+1) j) (by simp) ⟨by rw[gz,hc],by simp;omega,gO⟩ (H.weakC au (by simp[gz,hc]) (by simp[aB]))
       ·obtain rfl:j=0:=by omega
        rw[Sort.shiftDown]at gO;rw[←gO]at c5;try simp
        try(with_reducible repeat' first|refine ak ?_|simp[Pv.look,H.slc,H.ssc,r7])
        rw[es];refine bL.whl ((i,s+1),fA) (by simp;omega) ⟨hc,⟨by simp;omega,by simp;omega,by simp;omega⟩,by simp only[em];exact c5⟩ (H.weakC au (by simpa using hc) (by simp[aB]))
      ·rw[if_neg A1]at c5;have wE:¬(2:Int)≤(i:Int)-a:=by omega
       simp;((with_reducible repeat' first|refine ak ?_|simp[wE,r7]|((first|apply bO|apply bS|apply bR)<;>intro h<;>try simp at h))<;>(try exact cq));done
  ·rw[if_neg (by simp;omega)]at i3;simp only[←i3]at c5;rw[if_pos (by omega)]at c5;refine H.retR au (d:=cd) a8 (.inl rfl) ?_;simp[cT,Fo,aV,aY,aU];rw[←c5];exact⟨rfl,_,rfl,rfl,a8⟩
 ·have:5-s=0:=by omega
  rw[this,Sort.partialIns]at c5;refine H.retR au (d:=cd) a8 (.inl rfl) ?_;simp[cT,Fo,aV,aY,aU];rw[←c5];exact⟨rfl,_,rfl,rfl,a8⟩
end Go.Proofs.YtahlgcidhnjlbaaGreat
namespace Go.Proofs.YtahlgcidhnjlbaaGreat
open Go Go.Pv
variable {α:Type} [Inhabited α] {S:List α→cF} {n g b2:Nat} {lc bX:List ah} {lt:α→α→Bool}
def e2(S:List α→cF)(d:Array α)(v:Nat):cF:=⟨(.obj 901,[.int .i64 v])::(S d.toList).b,(S d.toList).e⟩
def q9(S:List α→cF)(m:Nat):Prop:= ∀l,Pv.look (.obj m) (S l).b=none∧Pv.look (.obj m) (S l).e=none
theorem mV(H:eV S n g b2 lc bX lt)(d:Array α)(v:Nat):ee (e2 S d v):=by
 have h:=H.ok d.toList;have iT:∀k,inObs (S d.toList) k→inObs (e2 S d v) k:=fun k ab=>by
  rcases ab with ab|ab
  ·refine .inl ?_;simp only[e2,Pv.look];split
   ·rfl
   ·exact ab
  ·exact .inr ab
 refine⟨⟨fun m=>?_,h.obj.2⟩,fun k cs ab=>?_,fun k o av xs ad=>jw iT _ (h.ke k o av xs ad)⟩
 ·simp[e2,Pv.look,h.obj.1 m]
 ·simp only[e2,Pv.look]at ab;split at ab
  ·cases ab;simp[aH,aB]
  ·exact jw iT _ (h.kb k cs ab)
theorem rF(d:Array α)(v v':Nat):Same (e2 S d v) (e2 S d v'):=⟨fun k=>by simp only[e2,Pv.look];split<;>rfl,fun _=>rfl⟩
theorem HQ(H:eV S n g b2 lc bX lt)(ab:q9 S 901)(d:Array α)(aP:d.size=n)(a b v:Nat)(bD:a<n)(ae:b<n)(aK:v≤1000):
  bJ ao 271 [eK g b2 lc bX,.int .i64 a,.int .i64 b,.ptr (.obj 901) 0] (e2 S d v) fun r ai=>r= .tuple [.int .i64 (Sort.order2 lt d a b v).1,.int .i64 (Sort.order2 lt d a b v).2.1]∧ai=e2 S d (Sort.order2 lt d a b v).2.2:=by
 have ag:=H.ok d.toList;have au:d.toList.length=n:=by simpa using aP
 have aA:∀l m,Pv.look (.loc m) (S l).b=none:=fun l=>(H.ok l).obj.1;have hu:∀l m cs,cw (.loc m) cs (S l).b=(S l).b++[(.loc m,cs)]:=fun l m cs=>jE (aA l m);have av:∀m,aD.loc m∉cO (S d.toList):=jz ag.obj;have gg:∀l,Pv.look (.obj 901) (S l).b=none:=fun l=>(ab l).1;have kF:∀l,Pv.look (.obj 901) (S l).e=none:=fun l=>(ab l).2;have hle:=H.le;have j6:=mV H d v;obtain⟨R,bh⟩:∃R,R=Sort.order2 lt d a b v:=⟨_,rfl⟩;rw[←bh];unfold Sort.order2 at bh;refine bJ.mk mixed nq ZS agf (by simp) j6.obj fun aR c1=>?_;unfold NL;have k2:aD.loc 0∉cO (e2 S d v):=jz j6.obj 0;generalize tq:cO (e2 S d v)=ob at k2⊢;unfold e2;simp[eK,hu,k2,cE,aA,Pv.look,cw];rw[H.slc];refine c2.ob (H.less d.toList au b a _ _ (x2 (by omega)) (x2 (by omega))) (H.ok _) (fun k cs ad=>?_) (fun _ _ ad=>ad) (by simp[aB,aH,H.klc d.toList au]) ?_
 ·simp only[Pv.look];split
  ·rename_i e;subst e;rw[gg]at ad;cases ad
  ·rw[cE,ad]
 rintro r ai ⟨rfl,rfl⟩;refine⟨Same.refl _,?_⟩;have hw:cu (S d.toList).b ((aD.obj 901,[ah.int .i64 v])::((S d.toList).b++[(aD.loc 0,[ah.func g lc,ah.func b2 bX])]))=[(aD.obj 901,[ah.int .i64 v]),(aD.loc 0,[ah.func g lc,ah.func b2 bX])]:=by simp only[cu,gg];rw[h8,gH];simp[cu,aA]
 rw[hw,gH];have dw:∀(t:List (Nat×ah)) (o:List aD) (v':Nat) (D:List ah) (x y:Nat),Pv.get 8 t= .int .i64 x→Pv.get 9 t= .int .i64 y→R=(x,y,v')→
   cN Kn (e2 S d v) (fun r ai=>r= .tuple [.int .i64 R.1,.int .i64 R.2.1]∧ai=e2 S d R.2.2) .ret ⟨t,(aD.obj 901,[.int .i64 v'])::(aD.loc 0,D)::(S d.toList).b,(S d.toList).e,1,o⟩:=by
  rintro t o v' D x y ad aL rfl;refine cN.at (e2 S d v') (.inl rfl) (mV H d v') (rF _ _ _) (fun k cs aw=>?_) (fun _ _ aw=>aw) ?_
  ·simp only[e2,Pv.look]at aw⊢;split at aw
   ·rename_i e;rw[if_pos e];exact aw
   ·rename_i e;rw[if_neg e];split
    ·rename_i aC;subst aC;rw[aA]at aw;cases aw
    ·exact aw
  ·simp[cT,Kn,aV,aY,aU,ad,aL]
 cases ad:lt d[b]! d[a]! with
 |true=>
  rw[if_pos ad]at bh;simp[Pv.look,cw];(with_reducible repeat' first|refine ak ?_|simp[Pv.look,cw]);have aj:((v:Int)+1)=(v+1:Nat):=by omega
  rw[aj];exact dw _ _ (v+1) _ b a rfl rfl bh
 |false=>rw[if_neg (by simp[ad])]at bh;simp[Pv.look,cw];exact dw _ _ v _ a b rfl rfl bh
theorem SJ{s ai:cF}{f:Nat}{args:List ah}{r:ah}(aI:bJ ao f args s fun ev dD=>ev=r∧dD=ai)(ag:ee s)(e4:Same s ai)(ab:aH (inObs s) args){t:List (Nat×ah)}{D:List ah}{o:List aD}{d:aW Nat}{K:bo→Prop}
  (h:∀o,K ⟨eC d r t,(.loc 0,D)::ai.b,ai.e,1,o⟩):c2 ao f args ⟨t,s.b++[(.loc 0,D)],s.e,1,o⟩ d K:=by
 refine c2.ob aI ag (fun k cs ad=>by rw[cE,ad]) (fun _ _ ad=>ad) ab ?_;rintro r ai ⟨rfl,rfl⟩;refine⟨e4,?_⟩;have aj:cu s.b (s.b++[(.loc 0,D)])=[(.loc 0,D)]:=by rw[h8,gH];simp[cu,ag.obj.1 0]
 have aC:cu s.e s.e=[]:=gH _;simp only[aj,aC];exact h _
theorem BY{s ai:cF}{f:Nat}{args:List ah}{r:ah}(aI:bJ ao f args s fun ev dD=>ev=r∧dD=ai)(ag:ee s)(e4:Same s ai)(ab:aH (inObs s) args){t:List (Nat×ah)}{D:List ah}{o:List aD}{d:aW Nat}{K:bo→Prop}
  (h:∀o,K ⟨eC d r t,(.loc 0,D)::ai.b,ai.e,1,o⟩):c2 ao f args ⟨t,(.loc 0,D)::s.b,s.e,1,o⟩ d K:=by
 refine c2.ob aI ag (fun k cs ad=>?_) (fun _ _ ad=>ad) ab ?_
 ·cases k with
  |loc m=>rw[ag.obj.1 m]at ad;cases ad
  |obj m=>simpa[Pv.look]using ad
 rintro r ai ⟨rfl,rfl⟩;refine⟨e4,?_⟩;have aj:cu s.b ((.loc 0,D)::s.b)=[(.loc 0,D)]:=by have:=h8 s.b [(aD.loc 0,D)] s.b;rw[gH]at this;simpa[cu,ag.obj.1 0]using this
 have aC:cu s.e s.e=[]:=gH _;simp only[aj,aC];exact h _
theorem zq{d:Array α}{a b v n:Nat}(bD:a<n)(ae:b<n):(Sort.order2 lt d a b v).1<n∧(Sort.order2 lt d a b v).2.1<n∧(Sort.order2 lt d a b v).2.2≤v+1:=by unfold Sort.order2;split<;>simp<;>omega
theorem tB(H:eV S n g b2 lc bX lt){d:Array α}(aP:d.size=n){v:Nat}:aB (inObs (e2 S d v)) (eK g b2 lc bX)∧aB (inObs (e2 S d v)) (.ptr (.obj 901) 0):=by
 refine⟨vc (fun k ab=>?_) _ (H.kdata (lk:=d.toList) (by simpa using aP)),by simp[aB,inObs,e2,Pv.look]⟩;rcases ab with ab|ab
 ·refine .inl ?_;simp only[e2,Pv.look];split
  ·rfl
  ·exact ab
 ·exact .inr ab
theorem Um(H:eV S n g b2 lc bX lt){d:Array α}{v v':Nat}{fa:List bK}{Q:ah→cF→Prop}{t:List (Nat×ah)}{D:List ah}{o:List aD}(h:cT ⟨t,(.loc 0,D)::(e2 S d v').b,(S d.toList).e,1,o⟩ fa fun r=>aB (inObs (e2 S d v')) r∧Q r (e2 S d v')):
  cN fa (e2 S d v) Q .ret ⟨t,(.loc 0,D)::(e2 S d v').b,(S d.toList).e,1,o⟩:=by
 refine cN.at (e2 S d v') (.inl rfl) (mV H d v') (rF _ _ _) (fun k cs ad=>?_) (fun _ _ aw=>aw) h;cases k with
 |loc m=>rw[(mV H d v').obj.1 m]at ad;cases ad
 |obj m=>simpa[Pv.look]using ad
theorem HN(H:eV S n g b2 lc bX lt)(ab:q9 S 901)(d:Array α)(aP:d.size=n)(a b c v:Nat)(bD:a<n)(ae:b<n)(aw:c<n)(aK:v≤900):
  bJ ao 256 [eK g b2 lc bX,.int .i64 a,.int .i64 b,.int .i64 c,.ptr (.obj 901) 0] (e2 S d v) fun r ai=>r= .int .i64 (Sort.median lt d a b c v).1∧ai=e2 S d (Sort.median lt d a b c v).2:=by
 have j6:=mV H d v;have qR:∀v m,Pv.look (.loc m) (e2 S d v).b=none:=fun v=>(mV H d v).obj.1;have IM:∀v m cs,cw (.loc m) cs (e2 S d v).b=(e2 S d v).b++[(.loc m,cs)]:=fun v m cs=>jE (qR v m);have k2:aD.loc 0∉cO (e2 S d v):=jz j6.obj 0;obtain⟨R,bh⟩:∃R,R=Sort.median lt d a b c v:=⟨_,rfl⟩;rw[←bh];unfold Sort.median at bh;have aZ:=zq (lt:=lt) (d:=d) (v:=v) bD ae;have a8:=HQ H ab d aP a b v bD ae (by omega);generalize Sort.order2 lt d a b v=dC at aZ a8 bh;obtain⟨rv,kg,v1⟩:=dC;simp only at aZ a8 bh;have bB:=zq (lt:=lt) (d:=d) (v:=v1) aZ.2.1 aw;have bU:=HQ H ab d aP kg c v1 aZ.2.1 aw (by omega);generalize Sort.order2 lt d kg c v1=e6 at bB bU bh;obtain⟨xR,oa,v2⟩:=e6;simp only at bB bU bh;have bQ:=zq (lt:=lt) (d:=d) (v:=v2) aZ.1 bB.1;have cj:=HQ H ab d aP rv xR v2 aZ.1 bB.1 (by omega);generalize Sort.order2 lt d rv xR v2=kr at bQ cj bh;obtain⟨ry,Ge,v3⟩:=kr;simp only at bQ cj bh;refine bJ.mk mixed nq ZQ agd (by simp) j6.obj fun aR c1=>?_;unfold NJ;simp[eK,IM,k2,cE,qR];simp only[hY H,H.slc,H.ssc,hS];refine SJ a8 (mV H d v) (rF _ _ _) (by simp[aB,aH,(tB H aP).1];exact(tB H aP).2) fun o=>?_;simp[Pv.look];simp only[hY H,H.slc,H.ssc,hS];refine BY bU (mV H d v1) (rF _ _ _) (by simp[aB,aH,(tB H aP).1];exact(tB H aP).2) fun o=>?_;simp[Pv.look];simp only[hY H,H.slc,H.ssc,hS];refine BY cj (mV H d v2) (rF _ _ _) (by simp[aB,aH,(tB H aP).1];exact(tB H aP).2) fun o=>?_;simp;refine Um H ?_;simp[cT,TO,aV,aY,aU];rw[bh];exact⟨rfl,rfl⟩
theorem HO(H:eV S n g b2 lc bX lt)(ab:q9 S 901)(d:Array α)(aP:d.size=n)(a v:Nat)(bD:a+1<n)(kE:1≤a)(aK:v≤900):
  bJ ao 255 [eK g b2 lc bX,.int .i64 a,.ptr (.obj 901) 0] (e2 S d v) fun r ai=>r= .int .i64 (Sort.medianAdjacent lt d a v).1∧ai=e2 S d (Sort.medianAdjacent lt d a v).2:=by
 have j6:=mV H d v;have qR:∀v m,Pv.look (.loc m) (e2 S d v).b=none:=fun v=>(mV H d v).obj.1;have IM:∀v m cs,cw (.loc m) cs (e2 S d v).b=(e2 S d v).b++[(.loc m,cs)]:=fun v m cs=>jE (qR v m);have k2:aD.loc 0∉cO (e2 S d v):=jz j6.obj 0;have hle:=H.le;have a8:=HN H ab d aP (a-1) a (a+1) v (by omega) (by omega) (by omega) aK;unfold Sort.medianAdjacent;refine bJ.mk mixed nq ZP agc (by simp) j6.obj fun aR c1=>?_;unfold NI;have aj:((a:Int)-1)=(a-1:Nat):=by omega
 have aC:((a:Int)+1)=(a+1:Nat):=by omega
 simp[eK,IM,k2,cE,qR];(with_reducible repeat' first|refine ak ?_|simp);simp only[hY H,H.slc,H.ssc,hS,aj,aC];refine SJ a8 (mV H d v) (rF _ _ _) (by simp[aB,aH,(tB H aP).1];exact(tB H aP).2) fun o=>?_;simp;refine Um H ?_;simp[cT,TN,aV,aY,aU]
theorem SK{m:Nat}(h:q9 S m)(l:List α):aD.obj m∉cO (S l):=fun hm=>by
 rcases Rb hm with J|J
 ·rw[(h l).1]at J;cases J
 ·rw[(h l).2]at J;cases J
theorem BP{d:Array α}{a b c v n:Nat}(bD:a<n)(ae:b<n)(aw:c<n):(Sort.median lt d a b c v).1<n∧(Sort.median lt d a b c v).2≤v+3:=by have aZ:=zq (lt:=lt) (d:=d) (v:=v) bD ae;have bB:=zq (lt:=lt) (d:=d) (v:=(Sort.order2 lt d a b v).2.2) aZ.2.1 aw;have bQ:=zq (lt:=lt) (d:=d) (v:=(Sort.order2 lt d (Sort.order2 lt d a b v).2.1 c (Sort.order2 lt d a b v).2.2).2.2) aZ.1 bB.1;refine⟨bQ.2.1,jT bQ.2.2 ?_⟩;omega
def yF:Sort.Hint→Int
 | .unknown=>0
 | .increasing=>1
 | .decreasing=>2
theorem aaV(H:eV S n g b2 lc bX lt)(ab:q9 S 901)(d:Array α)(aP:d.size=n)(a b:Nat)(mx:a<b)(ae:b≤n):
  bJ ao 240 [eK g b2 lc bX,.int .i64 a,.int .i64 b] (S d.toList) fun r ai=>r= .tuple [.int .i64 (Sort.choosePivot lt d a b).1,.int .i64 (yF (Sort.choosePivot lt d a b).2)]∧ai=S d.toList:=by
 have ag:=H.ok d.toList;have au:d.toList.length=n:=by simpa using aP
 have aA:∀l m,Pv.look (.loc m) (S l).b=none:=fun l=>(H.ok l).obj.1;have hu:∀l m cs,cw (.loc m) cs (S l).b=(S l).b++[(.loc m,cs)]:=fun l m cs=>jE (aA l m);have av:∀m,aD.loc m∉cO (S d.toList):=jz ag.obj;have gg:∀l,Pv.look (.obj 901) (S l).b=none:=fun l=>(ab l).1;have kF:∀l,Pv.look (.obj 901) (S l).e=none:=fun l=>(ab l).2;have hle:=H.le;have k2:=SK ab d.toList;obtain⟨R,bh⟩:∃R,R=Sort.choosePivot lt d a b:=⟨_,rfl⟩;rw[←bh];unfold Sort.choosePivot at bh;refine bJ.mk mixed nq ZN aga (by simp) ag.obj fun aR c1=>?_;unfold NG;have wW:∀l D cs,cw (.obj 901) cs ((S l).b++[(.loc 0,D)])=(S l).b++[(.loc 0,D),(.obj 901,cs)]:=fun l D cs=>by rw[zX (gg l)];rfl
 obtain⟨q,bp⟩:∃q,q=(b-a)/4:=⟨_,rfl⟩;have da:IntKind.i64.wrap (((b:Int)-a).tdiv 4)=(q:Nat):=by rw[show((b:Int)-a)=((b-a:Nat):Int) by omega,Int.tdiv_eq_ediv_of_nonneg (by omega),oc _ (by omega)];omega
 simp[eK,hu,wW,av,k2,cE,aA,gg,kF,Pv.look,cw];have dw:∀(t:List (Nat×ah)) (o:List aD) (bY:List (aD×List ah)) (x:Nat) (h:Sort.Hint),Pv.get 6 t= .int .i64 x→Pv.get 7 t= .int .i64 (yF h)→R=(x,h)→(∀k cs,Pv.look k (S d.toList).b=some cs→Pv.look k bY=some cs)→
   cN Km (S d.toList) (fun r ai=>r= .tuple [.int .i64 R.1,.int .i64 (yF R.2)]∧ai=S d.toList) .ret ⟨t,bY,(S d.toList).e,1,o⟩:=by
  rintro t o bY x h ad aL rfl fL;refine cN.at (S d.toList) (.inl rfl) ag (Same.refl _) fL (fun _ _ aw=>aw) ?_;simp[cT,Km,aV,aY,aU,ad,aL]
 have yv:∀(D:List ah) (v:Nat) k cs,Pv.look k (S d.toList).b=some cs→Pv.look k ((.loc 0,D)::(e2 S d v).b)=some cs:=fun D v k cs h=>by
  simp only[e2,Pv.look];split
  ·rename_i e;subst e;rw[aA]at h;cases h
  ·split
   ·rename_i e;subst e;rw[gg]at h;cases h
   ·exact h
 have Qc:∀{f:Nat} {args:List ah} {r:ah} {v:Nat},(bJ ao f args (e2 S d 0) fun ev dD=>ev=r∧dD=e2 S d v)→aH (inObs (e2 S d 0)) args→∀{t:List (Nat×ah)} {D:List ah} {o:List aD} {b6:aW Nat} {K:bo→Prop},(∀o,K ⟨eC b6 r t,(.loc 0,D)::(e2 S d v).b,(S d.toList).e,1,o⟩)→
   c2 ao f args ⟨t,(S d.toList).b++[(.loc 0,D),(.obj 901,[.int .i64 0])],(S d.toList).e,1,o⟩ b6 K:=by
  intro f args r v aI gZ t D o b6 K h;refine c2.ob aI (mV H d 0) (fun k cs ad=>?_) (fun _ _ ad=>ad) gZ ?_
  ·simp only[e2,Pv.look]at ad;rw[cE];split at ad
   ·rename_i e;subst e;rw[gg];simp[Pv.look];simpa using ad
   ·rw[ad]
  rintro r ai ⟨rfl,rfl⟩;refine⟨rF _ _ _,?_⟩;have aj:cu (e2 S d 0).b ((S d.toList).b++[(.loc 0,D),(.obj 901,[.int .i64 0])])=[(.loc 0,D)]:=by
   rw[h8];have:cu (e2 S d 0).b (S d.toList).b=[]:=LG _ _ fun k x hm=>by
    have:=tG hm;simp only[e2,Pv.look];split
    ·rfl
    ·exact this
   rw[this];simp[cu,e2,Pv.look,aA]
  have aC:cu (e2 S d 0).e (S d.toList).e=[]:=gH _;simp only[aj,aC];exact h _
 have gZ:=fun(v:Nat)=>(tB H aP (v:=v));have f1:((a:Int)+q)=(a+q:Nat):=by omega
 have f2:((a:Int)+q*2)=(a+q*2:Nat):=by omega
 have f3:((a:Int)+q*3)=(a+q*3:Nat):=by omega
 dsimp only at bh;rw[←bp,Nat.mul_one]at bh;by_cases nc:b-a<8
 ·have DM:¬(8:Int)≤(b:Int)-a:=by omega
  (with_reducible repeat' first|refine ak ?_|simp[DM,da,hu,wW,av,k2,cE,aA,gg,kF,Pv.look,cw]);rw[f2];refine dw _ _ _ (a+q*2) .increasing rfl rfl (by rw[bh,if_neg (by omega)];simp) (fun k cs h=>by rw[cE,h])
 ·have DM:(8:Int)≤(b:Int)-a:=by omega
  by_cases al7:b-a<50
  ·have HV:¬(50:Int)≤(b:Int)-a:=by omega
   (with_reducible repeat' first|refine ak ?_|simp[DM,HV,da,hu,wW,av,k2,cE,aA,gg,kF,Pv.look,cw]);simp only[hY H,H.slc,H.ssc,hS,f1,f2,f3];have a8:=HN H ab d aP (a+q) (a+q*2) (a+q*3) 0 (by omega) (by omega) (by omega) (by omega);have bU:=BP (lt:=lt) (d:=d) (a:=a+q) (b:=a+q*2) (c:=a+q*3) (v:=0) (n:=n) (by omega) (by omega) (by omega);rw[if_pos (by omega),if_neg (by omega)]at bh;generalize Sort.median lt d (a+q) (a+q*2) (a+q*3) 0=m at a8 bU bh;obtain⟨x,v⟩:=m;refine Qc a8 (by simp[aB,aH,(gZ 0).1];exact(gZ 0).2) fun o=>?_;have wX:((v:Int)==0)=decide (v=0):=by rw[pH];simp
   have Bv:((v:Int)==12)=decide (v=12):=by rw[pH];simp;omega
   simp[Pv.look,e2];rcases(by omega:v=0∨v=12∨(v≠0∧v≠12))with bs|bs|bs
   ·have ad:((v:Int)==0)=true:=by rw[wX];simp[bs]
    (with_reducible repeat' first|refine ak ?_|simp[ad]);all_goals exact dw _ _ _ x .increasing rfl rfl (by rw[bh];simp[bs]) (yv _ v)
   ·have ad:((v:Int)==0)=false:=by rw[wX];simp[bs]
    have wY:((v:Int)==12)=true:=by rw[Bv];simp[bs]
    (with_reducible repeat' first|refine ak ?_|simp[ad,wY]);all_goals exact dw _ _ _ x .decreasing rfl rfl (by rw[bh];simp[bs]) (yv _ v)
   ·have ad:((v:Int)==0)=false:=by rw[wX];simp[bs.1]
    have wY:((v:Int)==12)=false:=by rw[Bv];simp[bs.2]
    (with_reducible repeat' first|refine ak ?_|simp[ad,wY]);all_goals exact dw _ _ _ x .unknown rfl rfl (by rw[bh];simp[bs]) (yv _ v)
  ·have HV:(50:Int)≤(b:Int)-a:=by omega
   (with_reducible repeat' first|refine ak ?_|simp[DM,HV,da,hu,wW,av,k2,cE,aA,gg,kF,Pv.look,cw]);simp only[hY H,H.slc,H.ssc,hS,f1,f2,f3];rw[if_pos (by omega),if_pos (by omega)]at bh;have a8:=HO H ab d aP (a+q) 0 (by omega) (by omega) (by omega);have BD:=BP (lt:=lt) (d:=d) (a:=a+q-1) (b:=a+q) (c:=a+q+1) (v:=0) (n:=n) (by omega) (by omega) (by omega);change (Sort.medianAdjacent lt d (a+q) 0).1<n∧(Sort.medianAdjacent lt d (a+q) 0).2≤0+3 at BD;generalize Sort.medianAdjacent lt d (a+q) 0=m1 at a8 BD bh;obtain⟨rv,v1⟩:=m1;simp only at a8 BD bh;have bU:=HO H ab d aP (a+q*2) v1 (by omega) (by omega) (by omega);have BE:=BP (lt:=lt) (d:=d) (a:=a+q*2-1) (b:=a+q*2) (c:=a+q*2+1) (v:=v1) (n:=n) (by omega) (by omega) (by omega);change (Sort.medianAdjacent lt d (a+q*2) v1).1<n∧(Sort.medianAdjacent lt d (a+q*2) v1).2≤v1+3 at BE;generalize Sort.medianAdjacent lt d (a+q*2) v1=m2 at bU BE bh;obtain⟨xR,v2⟩:=m2;simp only at bU BE bh;have cj:=HO H ab d aP (a+q*3) v2 (by omega) (by omega) (by omega);have BF:=BP (lt:=lt) (d:=d) (a:=a+q*3-1) (b:=a+q*3) (c:=a+q*3+1) (v:=v2) (n:=n) (by omega) (by omega) (by omega);change (Sort.medianAdjacent lt d (a+q*3) v2).1<n∧(Sort.medianAdjacent lt d (a+q*3) v2).2≤v2+3 at BF;generalize Sort.medianAdjacent lt d (a+q*3) v2=m3 at cj BF bh;obtain⟨ry,v3⟩:=m3;simp only at cj BF bh;have eB:=HN H ab d aP rv xR ry v3 BD.1 BE.1 BF.1 (by omega);have Rx:=BP (lt:=lt) (d:=d) (v:=v3) BD.1 BE.1 BF.1;generalize Sort.median lt d rv xR ry v3=m4 at eB Rx bh;obtain⟨x,v⟩:=m4;simp only at eB Rx bh;refine Qc a8 (by simp[aB,aH,(gZ 0).1];exact(gZ 0).2) fun o=>?_;simp[Pv.look];simp only[hY H,H.slc,H.ssc,hS,f1,f2,f3];refine BY bU (mV H d v1) (rF _ _ _) (by simp[aB,aH,(gZ v1).1];exact(gZ v1).2) fun o=>?_;simp[Pv.look];simp only[hY H,H.slc,H.ssc,hS,f1,f2,f3];refine BY cj (mV H d v2) (rF _ _ _) (by simp[aB,aH,(gZ v2).1];exact(gZ v2).2) fun o=>?_;simp[Pv.look];simp only[hY H,H.slc,H.ssc,hS,f1,f2,f3];refine BY eB (mV H d v3) (rF _ _ _) (by simp[aB,aH,(gZ v3).1];exact(gZ v3).2) fun o=>?_;have wX:((v:Int)==0)=decide (v=0):=by rw[pH];simp
   have Bv:((v:Int)==12)=decide (v=12):=by rw[pH];simp;omega
   simp[Pv.look,e2];rcases(by omega:v=0∨v=12∨(v≠0∧v≠12))with bs|bs|bs
   ·have ad:((v:Int)==0)=true:=by rw[wX];simp[bs]
    (with_reducible repeat' first|refine ak ?_|simp[ad]);all_goals exact dw _ _ _ x .increasing rfl rfl (by rw[bh];simp[bs]) (yv _ v)
   ·have ad:((v:Int)==0)=false:=by rw[wX];simp[bs]
    have wY:((v:Int)==12)=true:=by rw[Bv];simp[bs]
    (with_reducible repeat' first|refine ak ?_|simp[ad,wY]);all_goals exact dw _ _ _ x .decreasing rfl rfl (by rw[bh];simp[bs]) (yv _ v)
   ·have ad:((v:Int)==0)=false:=by rw[wX];simp[bs.1]
    have wY:((v:Int)==12)=false:=by rw[Bv];simp[bs.2]
    (with_reducible repeat' first|refine ak ?_|simp[ad,wY]);all_goals exact dw _ _ _ x .unknown rfl rfl (by rw[bh];simp[bs]) (yv _ v)
end Go.Proofs.YtahlgcidhnjlbaaGreat
namespace Go.Proofs.YtahlgcidhnjlbaaGreat
open Go Go.Pv
variable {α:Type} [Inhabited α] {S:List α→cF} {n g b2:Nat} {lc bX:List ah} {lt:α→α→Bool}
theorem aja:∀x:Nat,x<256→((([0,1,2,2,3,3,3,3,4,4,4,4,4,4,4,4,5,5,5,5,5,5,5,5,5,5,5,5,5,5,5,5,6,6,6,6,6,6,6,6,6,6,6,6,6,6,6,6,6,6,6,6,6,6,6,6,6,6,6,6,6,6,6,6,7,7,7,7,7,7,7,7,7,7,7,7,7,7,7,7,7,7,7,7,7,7,7,7,7,7,7,7,7,7,7,7,7,7,7,7,7,7,7,7,7,7,7,7,7,7,7,7,7,7,7,7,7,7,7,7,7,7,7,7,7,7,7,7,8,8,8,8,8,8,8,8,8,8,8,8,8,8,8,8,8,8,8,8,8,8,8,8,8,8,8,8,8,8,8,8,8,8,8,8,8,8,8,8,8,8,8,8,8,8,8,8,8,8,8,8,8,8,8,8,8,8,8,8,8,8,8,8,8,8,8,8,8,8,8,8,8,8,8,8,8,8,8,8,8,8,8,8,8,8,8,8,8,8,8,8,8,8,8,8,8,8,8,8,8,8,8,8,8,8,8,8,8,8,8,8,8,8,8,8,8,8,8,8,8,8,8,8,8,8,8,8]:List dA)[x]?).getD 0).toNat=Sort.bitsLen x:=by decide+kernel
theorem AJ(x:Int):x.fdiv (2 ^ (min 32 gW.bits))=x/4294967296:=by rw[show(2:Int) ^ (min 32 gW.bits)=4294967296 from by decide,Int.fdiv_eq_ediv_of_nonneg _ (by omega)]
theorem AI(x:Int):x.fdiv (2 ^ (min 16 gW.bits))=x/65536:=by rw[show(2:Int) ^ (min 16 gW.bits)=65536 from by decide,Int.fdiv_eq_ediv_of_nonneg _ (by omega)]
theorem AK(x:Int):x.fdiv (2 ^ (min 8 gW.bits))=x/256:=by rw[show(2:Int) ^ (min 8 gW.bits)=256 from by decide,Int.fdiv_eq_ediv_of_nonneg _ (by omega)]
theorem CD(x:Nat)(h:x<256):IntKind.u8.wrap (x:Int)=x:=by simp[rA,nv,rz];omega
theorem GH(x k:Nat)(h:2 ^ k≤x):Sort.bitsLen x=Sort.bitsLen (x/2 ^ k)+k:=by
 have ad:x≠0:=by have:=Nat.two_pow_pos k;omega
 have bp:x/2 ^ k≠0:=by have:=Nat.div_pos h (Nat.two_pow_pos k);omega
 unfold Sort.bitsLen;rw[if_neg ad,if_neg bp];have au:=Nat.log2_lt ad (k:=Nat.log2 (x/2 ^ k)+k+1);have J:Nat.log2 (x/2 ^ k)+k≤Nat.log2 x:=by
  rw[Nat.le_log2 ad,Nat.pow_add];have:=Nat.log2_self_le bp;calc 2 ^ (x/2 ^ k).log2*2 ^ k≤(x/2 ^ k)*2 ^ k:=Nat.mul_le_mul_right _ this
   _≤x:=Nat.div_mul_le_self x _
 have U:Nat.log2 x<Nat.log2 (x/2 ^ k)+k+1:=by rw[au,show Nat.log2 (x/2 ^ k)+k+1=(Nat.log2 (x/2 ^ k)+1)+k by omega,Nat.pow_add];have:=Nat.lt_log2_self (n:=x/2 ^ k);exact(Nat.div_lt_iff_lt_mul (Nat.two_pow_pos k)).1 this
 omega
set_option maxRecDepth 20000 in
theorem ajt(x:Nat)(ad:x<1099511627776):bI ao 237 [.int .u64 x] (.int .i64 (Sort.bitsLen x)):=by
 refine bI.mk mixed nq ZK af7 (by simp) (by simp[aB]) fun aR=>?_;unfold NC;have aO:=aja;generalize P4:([0,1,2,2,3,3,3,3,4,4,4,4,4,4,4,4,5,5,5,5,5,5,5,5,5,5,5,5,5,5,5,5,6,6,6,6,6,6,6,6,6,6,6,6,6,6,6,6,6,6,6,6,6,6,6,6,6,6,6,6,6,6,6,6,7,7,7,7,7,7,7,7,7,7,7,7,7,7,7,7,7,7,7,7,7,7,7,7,7,7,7,7,7,7,7,7,7,7,7,7,7,7,7,7,7,7,7,7,7,7,7,7,7,7,7,7,7,7,7,7,7,7,7,7,7,7,7,7,8,8,8,8,8,8,8,8,8,8,8,8,8,8,8,8,8,8,8,8,8,8,8,8,8,8,8,8,8,8,8,8,8,8,8,8,8,8,8,8,8,8,8,8,8,8,8,8,8,8,8,8,8,8,8,8,8,8,8,8,8,8,8,8,8,8,8,8,8,8,8,8,8,8,8,8,8,8,8,8,8,8,8,8,8,8,8,8,8,8,8,8,8,8,8,8,8,8,8,8,8,8,8,8,8,8,8,8,8,8,8,8,8,8,8,8,8,8,8,8,8,8,8,8,8,8,8,8]:List dA)=tab at aO⊢;have yu:tab.length=256:=by rw[←P4];rfl
 clear P4;simp[yu];have ae:∀y:Nat,y<256→Sort.bitsLen y≤8:=by decide+kernel
 have acX:4294967296≤x→Sort.bitsLen x=Sort.bitsLen (x/4294967296)+32:=fun h=>GH x 32 h;have QU:∀y,65536≤y→Sort.bitsLen y=Sort.bitsLen (y/65536)+16:=fun y h=>GH y 16 h;have QX:∀y,256≤y→Sort.bitsLen y=Sort.bitsLen (y/256)+8:=fun y h=>GH y 8 h;by_cases J:4294967296≤x
 ·have nb:(4294967296:Int)≤x:=by omega
  have g1:¬(65536:Int)≤(x:Int)/4294967296:=by omega
  have g3:¬(256:Int)≤(x:Int)/4294967296:=by omega
  (with_reducible repeat' first|refine ak ?_|simp[nb,g1,g3,AJ,AI,AK,yu]);have aL:x/4294967296<256:=by omega
  have kY:=ae _ aL;have eA:(x:Int)/4294967296=((x/4294967296:Nat):Int):=by omega
  rw[eA,CD _ aL,Int.toNat_natCast];refine⟨by omega,?_⟩;have e:=aO _ aL;rw[e,oc _ (by omega)];refine⟨by unfold r8;omega,?_⟩;simp[bA,zz,aV,aY,aU];try((rw[acX J])<;>omega)
 ·have nb:¬(4294967296:Int)≤x:=by omega
  by_cases U:65536≤x
  ·have g2:(65536:Int)≤x:=by omega
   by_cases al:256≤x/65536
   ·have g3:(256:Int)≤(x:Int)/65536:=by omega
    (with_reducible repeat' first|refine ak ?_|simp[nb,g2,g3,AJ,AI,AK,yu]);have aL:x/65536/256<256:=by omega
    have kY:=ae _ aL;have eA:(x:Int)/65536/256=((x/65536/256:Nat):Int):=by omega
    rw[eA,CD _ aL,Int.toNat_natCast];refine⟨by omega,?_⟩;have e:=aO _ aL;rw[e,oc _ (by omega)];refine⟨by unfold r8;omega,?_⟩;simp[bA,zz,aV,aY,aU];try((rw[QU x U,QX _ al])<;>omega)
   ·have g3:¬(256:Int)≤(x:Int)/65536:=by omega
    (with_reducible repeat' first|refine ak ?_|simp[nb,g2,g3,AJ,AI,AK,yu]);have aL:x/65536<256:=by omega
    have kY:=ae _ aL;have eA:(x:Int)/65536=((x/65536:Nat):Int):=by omega
    rw[eA,CD _ aL,Int.toNat_natCast];refine⟨by omega,?_⟩;have e:=aO _ aL;rw[e,oc _ (by omega)];refine⟨by unfold r8;omega,?_⟩;simp[bA,zz,aV,aY,aU];try((rw[QU x U])<;>omega)
  ·have g2:¬(65536:Int)≤x:=by omega
   by_cases al:256≤x
   ·have g3:(256:Int)≤x:=by omega
    (with_reducible repeat' first|refine ak ?_|simp[nb,g2,g3,AJ,AI,AK,yu]);have aL:x/256<256:=by omega
    have kY:=ae _ aL;have eA:(x:Int)/256=((x/256:Nat):Int):=by omega
    rw[eA,CD _ aL,Int.toNat_natCast];refine⟨by omega,?_⟩;have e:=aO _ aL;rw[e,oc _ (by omega)];refine⟨by unfold r8;omega,?_⟩;simp[bA,zz,aV,aY,aU];try((rw[QX x al])<;>omega)
   ·have g3:¬(256:Int)≤x:=by omega
    (with_reducible repeat' first|refine ak ?_|simp[nb,g2,g3,AJ,AI,AK,yu]);have aL:x<256:=by omega
    have kY:=ae _ aL;have eA:(x:Int)=((x:Nat):Int):=by omega
    rw[eA,CD _ aL,Int.toNat_natCast];refine⟨by omega,?_⟩;have e:=aO _ aL;rw[e,oc _ (by omega)];refine⟨by unfold r8;omega,?_⟩;simp[bA,zz,aV,aY,aU];try((rw[show Sort.bitsLen x=Sort.bitsLen x from rfl])<;>omega)
theorem ajs(x:Nat)(ad:x<1099511627776):bI ao 213 [.int .u64 x] (.int .i64 (Sort.bitsLen x)):=by refine bI.mk mixed nq ZJ af6 (by simp) (by simp[aB]) fun aR=>?_;unfold NB;have ad8:=ajt x ad;exact ct
theorem WG(x:Nat)(ad:x<1099511627776):Sort.bitsLen x≤40:=by
 unfold Sort.bitsLen;split
 ·omega
 ·rename_i h;have:=(Nat.log2_lt h (k:=40)).2 (by omega);omega
theorem ajf{x:Nat}(h:x≠0):2 ^ Sort.bitsLen x≤2*x∧x<2 ^ Sort.bitsLen x:=by unfold Sort.bitsLen;rw[if_neg h];have J:=Nat.log2_self_le h;have U:=Nat.lt_log2_self (n:=x);rw[Nat.pow_succ];rw[Nat.pow_succ]at U;omega
theorem aj8(x:Nat)(ad:x<1099511627776):bI ao 253 [.int .i64 x] (.int .u64 (1<<<Sort.bitsLen x:Nat)):=by
 have ae:=WG x ad;have aj:gW.wrap ((x:Nat):Int)=x:=by simp[rA,nv,rz];omega
 have aC:gW.wrap ((Sort.bitsLen x:Nat):Int)=Sort.bitsLen x:=by simp[rA,nv,rz];omega
 refine bI.mk mixed nq ZR age (by simp) (by simp[aB]) fun aR=>?_;unfold NK;simp[aj];refine c2.val (by simp) (ajs x ad) ?_;simp[aj,aC];simp[bA,TP,aV,aY,aU];have hm:min (Sort.bitsLen x) gW.bits=Sort.bitsLen x:=by simp[nv];omega
 have bF:2 ^ Sort.bitsLen x≤2 ^ 40:=Nat.pow_le_pow_right (by omega) ae;rw[hm];have aw:((2:Int) ^ Sort.bitsLen x)=((2 ^ Sort.bitsLen x:Nat):Int):=by simp
 have yw:((1<<<Sort.bitsLen x:Nat):Int)=((2 ^ Sort.bitsLen x:Nat):Int):=by rw[Nat.one_shiftLeft]
 have wC:gW.wrap ((2:Int) ^ Sort.bitsLen x)=((1<<<Sort.bitsLen x:Nat):Int):=by rw[aw,yw];generalize 2 ^ Sort.bitsLen x=y at bF;simp[rA,nv,rz];omega
 simpa using wC
def ml(r:Nat):cF:=⟨[(.obj 902,[.int .u64 r])],[]⟩
theorem Gq(r:Nat):ee (ml r):=by unfold ml;exact(ee.of ⟨by intro m;simp[Pv.look],by intro m;simp[Pv.look]⟩ (by simp[aH,aB,inObs,Pv.look]) (by simp[aH,aB,inObs,Pv.look]))
theorem LX(a b:Nat):Same (ml a) (ml b):=⟨fun k=>by simp only[ml,Pv.look];split<;>rfl,fun _=>rfl⟩
theorem GK(a b:Nat)(bD:a<18446744073709551616)(ae:b<18446744073709551616):gW.wrap ((pG gW.bits (a:Int) ^^^ pG gW.bits (b:Int)).toNat:Int)=(a ^^^ b:Nat):=by
 have al:a ^^^ b<18446744073709551616:=Nat.xor_lt_two_pow (n:=64) bD ae;have e:(pG gW.bits (a:Int) ^^^ pG gW.bits (b:Int)).toNat=a ^^^ b:=by
  rw[BitVec.toNat_xor,BitVec.toNat_ofInt,BitVec.toNat_ofInt];have aj:((a:Int)%(2 ^ gW.bits:Nat)).toNat=a:=by simp[nv];omega
  have aC:((b:Int)%(2 ^ gW.bits:Nat)).toNat=b:=by simp[nv];omega
  rw[aj,aC]
 rw[e];generalize a ^^^ b=c at al;simp[rA,nv,rz];omega
theorem aix(r:Nat):gW.wrap ((r:Int)*2 ^ (min 13 gW.bits))=(r*8192%18446744073709551616:Nat):=by simp[rA,nv,rz]
theorem aiy(r:Nat):gW.wrap ((r:Int)*2 ^ (min 17 gW.bits))=(r*131072%18446744073709551616:Nat):=by simp[rA,nv,rz]
theorem aiz(r:Nat):((r:Int)).fdiv (2 ^ (min 7 gW.bits))=(r/128:Nat):=by rw[show(2:Int) ^ (min 7 gW.bits)=128 from by decide,Int.fdiv_eq_ediv_of_nonneg _ (by omega)];omega
theorem aaP(r:Nat)(aJ:r<18446744073709551616):bJ ao 254 [.ptr (.obj 902) 0] (ml r) fun ev ai=>ev= .int .u64 (Sort.xorNextN r)∧ai=ml (Sort.xorNextN r):=by
 have ag:=Gq r;unfold ml at ag⊢;refine bJ.mk mixed nq Z3 agr (by simp) ag.obj fun aR c1=>?_;unfold NW;obtain⟨m1,QA⟩:∃m,m=r*8192%18446744073709551616:=⟨_,rfl⟩;have s1:=aix r;rw[←QA]at s1;have jx:m1<18446744073709551616:=by omega
 obtain⟨bz,kE⟩:∃m,m=r ^^^ m1:=⟨_,rfl⟩;have t1:=GK r m1 aJ jx;rw[←kE]at t1;have R0:bz<18446744073709551616:=by rw[kE];exact Nat.xor_lt_two_pow (n:=64) aJ jx
 obtain⟨m2,QB⟩:∃m,m=bz/128:=⟨_,rfl⟩;have s2:=aiz bz;rw[←QB]at s2;have gE:m2<18446744073709551616:=by omega
 obtain⟨a2,o7⟩:∃m,m=bz ^^^ m2:=⟨_,rfl⟩;have t2:=GK bz m2 R0 gE;rw[←o7]at t2;have aea:a2<18446744073709551616:=by rw[o7];exact Nat.xor_lt_two_pow (n:=64) R0 gE
 obtain⟨m3,QC⟩:∃m,m=a2*131072%18446744073709551616:=⟨_,rfl⟩;have s3:=aiy a2;rw[←QC]at s3;have ad9:m3<18446744073709551616:=by omega
 obtain⟨a3,DP⟩:∃m,m=a2 ^^^ m3:=⟨_,rfl⟩;have t3:=GK a2 m3 aea ad9;rw[←DP]at t3;have bh:Sort.xorNextN r=a3:=by unfold Sort.xorNextN;simp only[←QA,←kE,←QB,←o7,←QC,←DP]
 rw[bh];simp[-BitVec.toNat_xor,-BitVec.ofInt_natCast,s1,t1,s2,t2,s3,t3];have a6:=Gq a3;have bW:=LX r a3;unfold ml at a6 bW;refine cN.at _ (.inl rfl) a6 bW aQ aQ ?_;simp[cT,TS,aV,aY,aU]
end Go.Proofs.YtahlgcidhnjlbaaGreat
namespace Go.Proofs.YtahlgcidhnjlbaaGreat
open Go Go.Pv
variable {α:Type} [Inhabited α] {S:List α→cF} {n g b2:Nat} {lc bX:List ah} {lt:α→α→Bool}
theorem Wy(a b:Nat)(bD:a<18446744073709551616)(ae:b<18446744073709551616):gW.wrap ((pG gW.bits (a:Int)&&& pG gW.bits (b:Int)).toNat:Int)=(a&&& b:Nat):=by
 have al:a&&& b<18446744073709551616:=Nat.lt_of_le_of_lt Nat.and_le_left bD;have e:(pG gW.bits (a:Int)&&& pG gW.bits (b:Int)).toNat=a&&& b:=by
  rw[BitVec.toNat_and,BitVec.toNat_ofInt,BitVec.toNat_ofInt];have aj:((a:Int)%(2 ^ gW.bits:Nat)).toNat=a:=by simp[nv];omega
  have aC:((b:Int)%(2 ^ gW.bits:Nat)).toNat=b:=by simp[nv];omega
  rw[aj,aC]
 rw[e];generalize a&&& b=c at al;simp[rA,nv,rz];omega
def x3(a len M i0:Nat)(d:Array α):Nat→UInt64×Array α
 |0=>(UInt64.ofNat len,d)
 |k+1=>Sort.breakStep a len M (x3 a len M i0 d k) (i0+k)
theorem WJ(d:Array α)(a b:Nat)(h:8≤b-a):Sort.breakPatterns d a b=(x3 a (b-a) (1<<<Sort.bitsLen (b-a)) (a+(b-a)/4*2-1) d 3).2:=by unfold Sort.breakPatterns;simp only[if_pos h,x3];rfl
theorem VG{ob O:List aD}{ai:cF}(fX:ee ai)(dg:∀k,inObs ai k→k∈O)(tq:∀k∈ob,k∈O){st:bo}{dD:List (Nat×ah)}{L:List (aD×List ah)}{n:Nat}(aO:∀x∈dD,Pv.get x.1 st.t=x.2∧aB (lF ai n) x.2)(jg:∀x∈L,Pv.look x.1 st.b=some x.2∧lF ai n x.1∧aH (lF ai n) x.2)
  (ae:∀k cs,Pv.look k ai.b=some cs→Pv.look k st.b=some cs) (he:∀k o,Pv.look k ai.e=some o→Pv.look k st.e=some o):ig ob st ⟨dD,L++ai.b,ai.e,n,O⟩:=by
 have lv:∀{k},lF ai n k→¬fresh n O k:=by
  rintro k (h|⟨m,hm,rfl⟩)
  ·exact fun aI=>aI.2 (dg k h)
  ·intro aI;have:=aI.1;simp at this;omega
 refine⟨fun x ad=>⟨(aO x ad).1,vc (fun k ab=>lv ab) _ (aO x ad).2⟩,fun k cs ab=>?_,fun k o av=>?_,tq⟩
 ·simp only at ab;rw[cE]at ab;cases au:Pv.look k L with
  |some x=>rw[au]at ab;simp only[dz]at ab;subst ab;obtain⟨J,U,al⟩:=jg _ (se au);exact⟨J,lv U,jw (fun k ab=>lv ab) _ al⟩
  |none=>rw[au]at ab;exact⟨ae k cs ab,lv (.inl (.inl (by simp[ab]))),jw (fun k ab=>lv (.inl ab)) _ (fX.kb k cs ab)⟩
 ·exact⟨he k o av,lv (.inl (.inr (by simp at av;simp[av]))),fun xs ad=>jw (fun k ab=>lv (.inl ab)) _ (fX.ke k o av xs ad)⟩
theorem LD{akH β:Type}(s:List (aD×β)):∀(l:List (aD×akH)),(∀k x,(k,x)∈l→Pv.look k s=none)→cu s l=l
 |[],_=>rfl
 |(k,x)::r,h=>by have J:=h k x (by simp);simp only[cu,J];rw[LD s r fun k x ad=>h k x (by simp[ad])]
def iR(S:List α→cF)(d:Array α)(r:Nat):cF:=⟨(.obj 902,[.int .u64 r])::(S d.toList).b,(S d.toList).e⟩
theorem CZ(H:eV S n g b2 lc bX lt)(d:Array α)(v:Nat):ee (iR S d v):=by
 have h:=H.ok d.toList;have iT:∀k,inObs (S d.toList) k→inObs (iR S d v) k:=fun k ab=>by
  rcases ab with ab|ab
  ·refine .inl ?_;simp only[iR,Pv.look];split
   ·rfl
   ·exact ab
  ·exact .inr ab
 refine⟨⟨fun m=>?_,h.obj.2⟩,fun k cs ab=>?_,fun k o av xs ad=>jw iT _ (h.ke k o av xs ad)⟩
 ·simp[iR,Pv.look,h.obj.1 m]
 ·simp only[iR,Pv.look]at ab;split at ab
  ·cases ab;simp[aH,aB]
  ·exact jw iT _ (h.kb k cs ab)
theorem VF{ob O:List aD}{d2:Array α}{y:Nat}{D:List ah}(fX:ee (iR S d2 y))(dg:∀k,inObs (iR S d2 y) k→k∈O)(tq:∀k∈ob,k∈O){st:bo}{dD:List (Nat×ah)}(aO:∀x∈dD,Pv.get x.1 st.t=x.2∧aB (lF (iR S d2 y) 1) x.2)(bs:Pv.look (.loc 0) st.b=some D)(AR:aH (lF (iR S d2 y) 1) D)
  (ae:∀k cs,Pv.look k (iR S d2 y).b=some cs→Pv.look k st.b=some cs) (he:∀k o,Pv.look k (iR S d2 y).e=some o→Pv.look k st.e=some o):ig ob st ⟨dD,(.loc 0,D)::(.obj 902,[.int .u64 y])::(S d2.toList).b,(S d2.toList).e,1,O⟩:=
 VG (L:=[(.loc 0,D)]) fX dg tq aO (fun x ad=>by simp only[List.mem_singleton]at ad;subst ad;exact⟨bs,SI _ _ _ (by omega),AR⟩) ae he
theorem aaU(H:eV S n g b2 lc bX lt)(ab:q9 S 902)(d:Array α)(aP:d.size=n)(a b:Nat)(mx:a≤b)(ae:b≤n)(nc:8≤b-a):
  bJ ao 239 [eK g b2 lc bX,.int .i64 a,.int .i64 b] (S d.toList) fun r ai=>r= .tuple []∧∃b6,ai=S b6.toList∧b6=Sort.breakPatterns d a b∧b6.size=n:=by
 have ag:=H.ok d.toList;have au:d.toList.length=n:=by simpa using aP
 have aA:∀l m,Pv.look (.loc m) (S l).b=none:=fun l=>(H.ok l).obj.1;have hu:∀l m cs,cw (.loc m) cs (S l).b=(S l).b++[(.loc m,cs)]:=fun l m cs=>jE (aA l m);have av:∀m,aD.loc m∉cO (S d.toList):=jz ag.obj;have gg:∀l,Pv.look (.obj 902) (S l).b=none:=fun l=>(ab l).1;have kF:∀l,Pv.look (.obj 902) (S l).e=none:=fun l=>(ab l).2;have hle:=H.le;have k2:=SK ab d.toList;rw[WJ d a b nc];obtain⟨len,hlen⟩:∃len,len=b-a:=⟨_,rfl⟩;rw[←hlen];obtain⟨M,gM⟩:∃M,M=1<<<Sort.bitsLen len:=⟨_,rfl⟩;rw[←gM];have al8:len<M∧M≤2*len:=by have:=ajf (x:=len) (by omega);rw[gM,Nat.one_shiftLeft];omega
 obtain⟨q,bp⟩:∃q,q=len/4:=⟨_,rfl⟩;rw[←bp];have wW:∀l D cs,cw (.obj 902) cs ((S l).b++[(.loc 0,D)])=(S l).b++[(.loc 0,D),(.obj 902,cs)]:=fun l D cs=>by rw[zX (gg l)];rfl
 have Q3:∀l D x y,cw (.obj 902) y ((S l).b++[(.loc 0,D),(.obj 902,x)])=(S l).b++[(.loc 0,D),(.obj 902,y)]:=fun l D x y=>by rw[zX (gg l)];simp[cw]
 have el:((b:Int)-a)=(len:Nat):=by omega
 have da:IntKind.i64.wrap ((len:Int).tdiv 4)=(q:Nat):=by rw[Int.tdiv_eq_ediv_of_nonneg (by omega),oc _ (by omega)];omega
 have ew:gW.wrap (len:Int)=len:=by simp[rA,nv,rz];omega
 refine bJ.mk mixed nq ZM af9 (by simp) ag.obj fun aR c1=>?_;unfold NF;have nJ:=aj8 len (by omega);rw[←gM]at nJ;simp[eK,hu,wW,Q3,av,k2,cE,aA,gg,kF,Pv.look,cw,el,ew];have gL:IntKind.i64.wrap ((len:Int)/4)=(q:Nat):=by rw[oc _ (by omega)];omega
 ((with_reducible repeat' first|refine ak ?_|refine aE nJ ?_|refine aF nJ ?_|simp[el,ew,da,gL,hu,wW,Q3,av,k2,cE,aA,gg,kF,Pv.look,cw]|((first|apply bO|apply bS|apply bR)<;>intro h<;>try simp at h))<;>(try exact cq));obtain⟨i0,A9⟩:∃i0,i0=a+q*2-1:=⟨_,rfl⟩;rw[←A9];have XI:((a:Int)+q*2-1)=(i0:Nat):=by omega
 rw[XI];have dg:∀(cd:Array α) r k,inObs (iR S cd r) k→cd.size=n→k∈aD.obj 902::cO (S d.toList):=fun cd r k h eR=>by
  have eY:=H.same d.toList cd.toList au (by simpa using eR);rcases h with h|h
  ·simp only[iR,Pv.look]at h;split at h
   ·rename_i e;subst e;simp
   ·exact oW _ (sk (.inl (by rw[eY.b];exact h)))
  ·exact oW _ (sk (.inr (by rw[eY.e];exact h)))
 have wL:∀(cd:Array α) r,cd.size=n→aH (lF (iR S cd r) 1) [.func g lc,.func b2 bX]:=fun cd r eR=>by
  have J:=H.kdata (lk:=cd.toList) (by simpa using eR);have U:aH (inObs (S cd.toList)) [.func g lc,.func b2 bX]:=by simpa[eK,aB,aH]using J
  refine jw (fun k ab=>.inl ?_) _ U;rcases ab with ab|ab
  ·refine .inl ?_;simp only[iR,Pv.look];split
   ·rfl
   ·exact ab
  ·exact .inr ab
 have aml:∀(cd:Array α) r D k cs,Pv.look k (iR S cd r).b=some cs→Pv.look k ((.loc 0,D)::(iR S cd r).b)=some cs:=fun cd r D k cs h=>by
  cases k with
  |loc m=>rw[(CZ H cd r).obj.1 m]at h;cases h
  |obj m=>simpa[Pv.look]using h
 refine nH (fun(x:Nat×UInt64×Array α)=>⟨[(1,.int .i64 a),(3,.ptr (.loc 0) 0),(6,.int .i64 len),(7,.ptr (.obj 902) 0),(8,.int .u64 M),(9,.int .i64 ((i0+x.1:Nat):Int))],[(.loc 0,[.func g lc,.func b2 bX])]++(iR S x.2.2 x.2.1.toNat).b,(iR S x.2.2 x.2.1.toNat).e,1,aD.obj 902::cO (S d.toList)⟩) (fun x=>3-x.1)
  (fun x=>x.1≤3∧x.2.2.size=n∧x3 a len M i0 d x.1=x.2) (0,UInt64.ofNat len,d) ?_ ⟨by simp,aP,rfl⟩ ?_
 ·refine VG (CZ H d _) (fun k h=>dg d _ k h aP) (fun k h=>oW _ h) (by simp[aB,inObs,iR,Pv.look,lF]) ?_ ?_ aQ
  ·intro x ad;simp only[List.mem_singleton]at ad;subst ad;exact⟨by simp[cE,aA,Pv.look],SI _ _ _ (by omega),wL d _ aP⟩
  ·intro k cs h;simp only[iR,Pv.look]at h;rw[cE];split at h
   ·rename_i e;subst e;rw[gg];have:(UInt64.ofNat len).toNat=len:=by simp;omega
    rw[this]at h;simpa[Pv.look]using h
   ·rw[h]
 rintro⟨k,r,cd⟩ ⟨a8,bU,cj⟩ _;simp only at a8 bU cj;have aJ:=r.toNat_lt;obtain⟨x,ad⟩:∃x,x=r.toNat:=⟨_,rfl⟩;rw[←ad]at aJ⊢;have yL:Sort.xorNextN x<18446744073709551616:=Sort.xorNextN_lt x (by omega);have It:(Sort.xorNext r).toNat=Sort.xorNextN x:=by rw[Sort.xorNext_toNat,←ad]
 obtain⟨y,aL⟩:∃y,y=Sort.xorNextN x:=⟨_,rfl⟩;have XC:gW.wrap ((M:Int)-1)=(M-1:Nat):=by simp[rA,nv,rz];omega
 have wA:=Wy y (M-1) (by omega) (by omega);obtain⟨z,bC⟩:∃z,z=y&&& (M-1):=⟨_,rfl⟩;rw[←bC]at wA;have amt:z≤M-1:=by rw[bC];exact Nat.and_le_right
 have na:IntKind.i64.wrap (z:Int)=z:=by rw[oc _ (by omega)]
 by_cases aci:k=3
 ·subst aci;simp[iR,Pv.look,gL];((with_reducible repeat' first|refine ak ?_|simp[gL]|((first|apply bO|apply bS|apply bR)<;>intro h<;>try simp at h))<;>(try exact cq));refine cN.at (S cd.toList) (.inr rfl) (H.ok _) (H.same _ _ au (by simpa using bU)) (fun k cs h=>?_) (fun _ _ h=>h) ?_
  ·simp only[Pv.look];split
   ·rename_i e;subst e;rw[aA]at h;cases h
   ·split
    ·rename_i e;subst e;rw[gg]at h;cases h
    ·exact h
  ·simp[cT,TM,aV,aY,aU];exact⟨cd,rfl,by rw[cj],bU⟩
 ·have D2:((i0+k:Nat):Int)≤(a:Int)+q*2+1:=by omega
  have Qw:((i0:Int)+k)≤(a:Int)+q*2+1:=by omega
  simp[iR,Pv.look,gL,Qw,D2];(with_reducible repeat' first|refine ak ?_|simp[gL,Qw,D2,Pv.look]);have amp:=H.same d.toList cd.toList au (by simpa using bU);have adf:∀(fA:Array α) (v:List ah),cu [(aD.obj 902,v)] (S fA.toList).b=(S fA.toList).b:=fun fA v=>LD _ _ fun k x hm=>by
   have:=tG hm;simp only[Pv.look];split
   ·rename_i e;subst e;rw[gg]at this;cases this
   ·rfl
  refine c2.ob (aaP x (by omega)) (Gq x) (fun k cs h=>?_) (fun k o h=>by simp[ml,Pv.look]at h) (by simp[aB,aH,inObs,ml,Pv.look]) ?_
  ·simp only[ml,Pv.look]at h⊢;split at h
   ·rename_i e;subst e;simpa using h
   ·cases h
  rintro ev ai ⟨rfl,rfl⟩;refine⟨LX _ _,?_⟩;rw[←aL];have YC:cu (ml x).b ((aD.loc 0,[ah.func g lc,ah.func b2 bX])::(aD.obj 902,[ah.int .u64 x])::(S cd.toList).b)=(aD.loc 0,[ah.func g lc,ah.func b2 bX])::(S cd.toList).b:=by simp[ml,cu,Pv.look,adf]
  have YD:cu (ml x).e (S cd.toList).e=(S cd.toList).e:=LD _ _ fun _ _ _=>rfl;rw[YC,YD,show(ml y).b=[(aD.obj 902,[ah.int .u64 y])]from rfl,show(ml y).e=[]from rfl,List.append_nil];have al6:∀(v:List ah),Pv.look (.obj 902) ((aD.loc 0,[ah.func g lc,ah.func b2 bX])::((S cd.toList).b++[(aD.obj 902,v)]))=some v:=fun v=>by simp[Pv.look,cE,gg]
  have Mo:∀o',o'<len→o'=(if z≥len then z-len else z)→Sort.breakStep a len M (r,cd) (i0+k)=(Sort.xorNext r,Sort.swp cd (i0+k) (a+o')):=fun o' J U=>by unfold Sort.breakStep;simp only[It,←aL,←bC,←U]
  have OV:((i0:Int)+k)=((i0+k:Nat):Int):=by omega
  simp only[eC,aD.obj.injEq];simp[-BitVec.toNat_and,-BitVec.ofInt_natCast,XC,wA,na,Pv.look,H.ssc];by_cases amu:len≤z
  ·have IT:(len:Int)≤z:=by omega
   have Hn:((a:Int)+(z-len))=((a+(z-len):Nat):Int):=by omega
   ((with_reducible repeat' first|refine ak ?_|simp[IT,Pv.look,H.ssc]|((first|apply bO|apply bS|apply bR)<;>intro h<;>try simp at h))<;>(try exact cq));rw[Hn,OV];refine c2.ob (H.swap cd.toList (by simpa using bU) (by omega) (i0+k) (a+(z-len)) (by omega) (by omega)) (H.ok _) (fun bH cs h=>?_) (fun _ _ h=>h) (by simp[aB,aH,H.ksc cd.toList (by simpa using bU)]) ?_
   ·simp only[Pv.look];split
    ·rename_i e;subst e;rw[aA]at h;cases h
    ·rw[cE,h]
   rintro ev ai ⟨rfl,rfl⟩;refine⟨H.same _ _ (by simpa using bU) (by simpa using bU),?_⟩;rw[EM cd (by omega) (by omega)];obtain⟨d2,ez⟩:∃d2,d2=Sort.swp cd (i0+k) (a+(z-len)):=⟨_,rfl⟩;have s2:d2.size=n:=by rw[ez,gz,bU]
   rw[←ez];have Hr:∀v:List ah,cu (S cd.toList).b ((aD.loc 0,[ah.func g lc,ah.func b2 bX])::((S cd.toList).b++[(aD.obj 902,v)]))=[(aD.loc 0,[ah.func g lc,ah.func b2 bX]),(aD.obj 902,v)]:=fun v=>by simp only[cu,aA];rw[h8,gH];simp[cu,gg]
   dsimp only;rw[Hr,gH];simp;(with_reducible repeat' first|refine ak ?_|simp);have Hj:((i0:Int)+k+1)=((i0+(k+1):Nat):Int):=by omega
   rw[Hj];refine bL.whl (k+1,Sort.xorNext r,d2) (by simp;omega) ⟨by simp;omega,s2,by simp only[x3,cj];rw[Mo (z-len) (by omega) (by rw[if_pos (by omega)]),ez]⟩ ?_;rw[It,←aL];refine VF (CZ H d2 y) (fun k h=>dg d2 _ k h s2) (fun k h=>oW _ h) (by simp[aB,inObs,iR,Pv.look,lF]) (by simp[Pv.look]) (wL d2 _ s2) ?_ (fun _ _ h=>h);intro k cs h;simp only[iR,Pv.look]at h⊢;split at h
   ·rename_i e;subst e;simpa using h
   ·rename_i e;split
    ·rename_i aC;subst aC;rw[aA]at h;cases h
    ·exact h
  ·have IT:¬(len:Int)≤z:=by omega
   have Hn:((a:Int)+z)=((a+z:Nat):Int):=by omega
   ((with_reducible repeat' first|refine ak ?_|simp[IT,Pv.look,H.ssc]|((first|apply bO|apply bS|apply bR)<;>intro h<;>try simp at h))<;>(try exact cq));rw[Hn,OV];refine c2.ob (H.swap cd.toList (by simpa using bU) (by omega) (i0+k) (a+z) (by omega) (by omega)) (H.ok _) (fun bH cs h=>?_) (fun _ _ h=>h) (by simp[aB,aH,H.ksc cd.toList (by simpa using bU)]) ?_
   ·simp only[Pv.look];split
    ·rename_i e;subst e;rw[aA]at h;cases h
    ·rw[cE,h]
   rintro ev ai ⟨rfl,rfl⟩;refine⟨H.same _ _ (by simpa using bU) (by simpa using bU),?_⟩;rw[EM cd (by omega) (by omega)];obtain⟨d2,ez⟩:∃d2,d2=Sort.swp cd (i0+k) (a+z):=⟨_,rfl⟩;have s2:d2.size=n:=by rw[ez,gz,bU]
   rw[←ez];have Hr:∀v:List ah,cu (S cd.toList).b ((aD.loc 0,[ah.func g lc,ah.func b2 bX])::((S cd.toList).b++[(aD.obj 902,v)]))=[(aD.loc 0,[ah.func g lc,ah.func b2 bX]),(aD.obj 902,v)]:=fun v=>by simp only[cu,aA];rw[h8,gH];simp[cu,gg]
   dsimp only;rw[Hr,gH];simp;(with_reducible repeat' first|refine ak ?_|simp);have Hj:((i0:Int)+k+1)=((i0+(k+1):Nat):Int):=by omega
   rw[Hj];refine bL.whl (k+1,Sort.xorNext r,d2) (by simp;omega) ⟨by simp;omega,s2,by simp only[x3,cj];rw[Mo z (by omega) (by rw[if_neg (by omega)]),ez]⟩ ?_;rw[It,←aL];refine VF (CZ H d2 y) (fun k h=>dg d2 _ k h s2) (fun k h=>oW _ h) (by simp[aB,inObs,iR,Pv.look,lF]) (by simp[Pv.look]) (wL d2 _ s2) ?_ (fun _ _ h=>h);intro k cs h;simp only[iR,Pv.look]at h⊢;split at h
   ·rename_i e;subst e;simpa using h
   ·rename_i e;split
    ·rename_i aC;subst aC;rw[aA]at h;cases h
    ·exact h
end Go.Proofs.YtahlgcidhnjlbaaGreat
namespace Go.Proofs.YtahlgcidhnjlbaaGreat
open Go Go.Pv
variable {α:Type} [Inhabited α] {S:List α→cF} {n g b2:Nat} {lc bX:List ah} {lt:α→α→Bool}
theorem eV.fnD{d d2:Array α}(H:eV S n g b2 lc bX lt)(J:d.size=n){f:Nat}{args:List ah}{r:ah}(aI:bJ ao f args (S d.toList) fun ev ai=>ev=r∧∃b6,ai=S b6.toList∧b6=d2∧b6.size=n)(ab:aH (inObs (S d.toList)) args){t:List (Nat×ah)}{D:List ah}{o:List aD}{b6:aW Nat}{K:bo→Prop}
  (h:d2.size=n→∀o,K ⟨eC b6 r t,(.loc 0,D)::(S d2.toList).b,(S d2.toList).e,1,o⟩):c2 ao f args ⟨t,(.loc 0,D)::(S d.toList).b,(S d.toList).e,1,o⟩ b6 K:=
 H.call (by simpa using J) (R:=fun ev aX=>ev=r∧aX=d2.toList∧d2.size=n) (aI.mono fun r ai ⟨aj,b6,aC,bg,da⟩=>⟨b6.toList,aC,aj,by rw[bg],by rw[←bg];exact da⟩) (fun r aX ⟨_,e,h⟩=>by rw[e];simpa using h) ab (by rintro ev aX ⟨rfl,rfl,U⟩;exact h U _)
attribute [local simp] oF
def Ad(S:List α→cF)(n g b2:Nat)(lc bX:List ah)(lt:α→α→Bool)(m:Nat):Prop:=
 ∀k,k<m→∀(d:Array α),d.size=n→∀a b vg:Nat,b-a≤k→a≤b→b≤n→vg≤1000→Sort.Below lt a b d→
  bJ ao 214 [eK g b2 lc bX,.int .i64 a,.int .i64 b,.int .i64 vg] (S d.toList) fun r ai=>r= .tuple []∧∃b6,ai=S b6.toList∧Sort.PermIn a b d b6∧Sort.SortedIn lt a b b6
structure vS (S:List α→cF) (n g b2:Nat) (lc bX:List ah) (lt:α→α→Bool) (bj bY lim:Nat) (d:Array α) (Q:Exit→bo→Prop):Prop where
 k:∀e,e= .normal∨e= .exit 1→∀(a2 bZ:Nat) (w v:Bool) (L:Array α) (t:List (Nat×ah)) (o:List aD),L.size=n→a2≤bZ→bZ≤n→bZ-a2<bY-bj→Sort.Below lt a2 bZ L→(∀R,Sort.PermIn a2 bZ L R→Sort.SortedIn lt a2 bZ R→Sort.PermIn bj bY d R∧Sort.SortedIn lt bj bY R)→
  Pv.get 1 t= .int .i64 a2→Pv.get 2 t= .int .i64 bZ→Pv.get 3 t= .int .i64 lim→Pv.get 4 t= .ptr (.loc 0) 0→Pv.get 8 t= .bool w→Pv.get 9 t= .bool v→Q e ⟨t,(.loc 0,[.func g lc,.func b2 bX])::(S L.toList).b,(S L.toList).e,1,o⟩
 r:∀(R:Array α) t o,Sort.PermIn bj bY d R→Sort.SortedIn lt bj bY R→Q .ret ⟨t,(.loc 0,[.func g lc,.func b2 bX])::(S R.toList).b,(S R.toList).e,1,o⟩
theorem vS.mono{bj bY lim:Nat}{d b6:Array α}{Q:Exit→bo→Prop}(h:vS S n g b2 lc bX lt bj bY lim d Q)(p:Sort.PermIn bj bY d b6):vS S n g b2 lc bX lt bj bY lim b6 Q:=⟨fun e he a2 bZ w v L t o aj aC bg da gL hz=>h.k e he a2 bZ w v L t o aj aC bg da gL fun R dC e6=>⟨Sort.permIn_trans _ _ _ bj bY p (hz R dC e6).1,(hz R dC e6).2⟩,fun R t o dC e6=>h.r R t o (Sort.permIn_trans _ _ _ bj bY p dC) e6⟩
structure xY (t:List (Nat×ah)) (bj bY lim:Nat):Prop where
 t1:Pv.get 1 t= .int .i64 bj
 t2:Pv.get 2 t= .int .i64 bY
 t3:Pv.get 3 t= .int .i64 lim
 t4:Pv.get 4 t= .ptr (.loc 0) 0
 t10:Pv.get 10 t= .int .i64 ((bY:Int)-bj)
section
variable {bj bY lim:Nat} {cD:Array α} {t:List (Nat×ah)} {o:List aD} {ob:List aD} {Q:Exit→bo→Prop}
theorem Te(H:eV S n g b2 lc bX lt)(bu:Sort.SWO lt)(bM:Ad S n g b2 lc bX lt (bY-bj)){pv:Nat}(T:xY t bj bY lim)(t11:Pv.get 11 t= .int .i64 pv)(qQ:lim≤1000)(n2:cD.size=n)(o9:bj≤pv∧pv<bY)(cj:bY≤n)(rR:12<bY-bj)(sI:Sort.Below lt bj bY cD)(ht:vS S n g b2 lc bX lt bj bY lim cD Q):
  cR ao ob G0 Q ⟨t,(.loc 0,[.func g lc,.func b2 bX])::(S cD.toList).b,(S cD.toList).e,1,o⟩:=by
 obtain⟨t1,t2,t3,t4,t10⟩:=T;have r1:∀fA:Array α,fA.size=n→aB (inObs (S fA.toList)) (eK g b2 lc bX):=fun fA h=>H.kdata (lk:=fA.toList) (by simpa using h);have hle:=H.le;unfold G0;simp[t1,t2,t4,t11,Pv.look,H.slc,H.ssc];simp only[hY H,H.slc,H.ssc,hS];have qb:=aa4 H cD n2 bj bY pv o9.1 o9.2 (by omega) cj;have bp:Sort.partition lt cD bj bY pv=((Sort.partition lt cD bj bY pv).1,(Sort.partition lt cD bj bY pv).2.1,(Sort.partition lt cD bj bY pv).2.2):=rfl;generalize (Sort.partition lt cD bj bY pv).1=mid at qb bp;generalize (Sort.partition lt cD bj bY pv).2.1=ap at qb bp;generalize (Sort.partition lt cD bj bY pv).2.2=d4 at qb bp;obtain⟨g1,g2,g3,g4,g5,g6,g7⟩:=Sort.round_part bu (Sort.partition_holds lt) o9.1 o9.2 (by omega) sI bp;refine H.fnD n2 qb (by simp[aB,aH,r1 cD n2]) fun s4 o=>?_;have em:((mid:Int)+1)=(mid+1:Nat):=by omega
 simp[t1,t2,t3,t4,t10];by_cases amm:mid-bj<bY-mid
 ·have Il:(mid:Int)-bj<bY-mid:=by omega
  (with_reducible repeat' first|refine ak ?_|simp[Il,Pv.look,t1,t2,t3,t4,t10]);simp only[hY H,H.slc,H.ssc,hS];refine H.doFn (lk:=d4.toList) (by simpa using s4) (R:=fun aX=> ∃L:Array α,aX=L.toList∧Sort.PermIn bj mid d4 L∧Sort.SortedIn lt bj mid L) ((bM (mid-bj) (by omega) d4 s4 bj mid lim (eQ _) g1 (by omega) qQ g4).mono fun r ai ⟨aZ,b6,bB,bQ,cS⟩=>⟨aZ,b6.toList,bB,b6,rfl,bQ,cS⟩) (by rintro aX ⟨L,rfl,q,_⟩;simpa using q.1.trans s4) (by simp[aH,aB,r1 d4 s4]) ?_;rintro aX ⟨L,rfl,cL,dm⟩;obtain⟨kg,oa⟩:=g6 L cL dm;simp;(with_reducible repeat' first|refine ak ?_|simp[t1,t2,t3,t4]);rw[em];exact ht.k _ (.inl rfl) (mid+1) bY _ ap L _ _ (cL.1.trans s4) (by omega) cj (by omega) kg oa (by simp) (by simp[t2]) (by simp[t3]) (by simp[t4]) (by simp;rfl) (by simp)
 ·have Il:¬(mid:Int)-bj<bY-mid:=by omega
  (with_reducible repeat' first|refine ak ?_|simp[Il,Pv.look,t1,t2,t3,t4,t10]);simp only[hY H,H.slc,H.ssc,hS];rw[em];refine H.doFn (lk:=d4.toList) (by simpa using s4) (R:=fun aX=> ∃L:Array α,aX=L.toList∧Sort.PermIn (mid+1) bY d4 L∧Sort.SortedIn lt (mid+1) bY L) ((bM (bY-(mid+1)) (by omega) d4 s4 (mid+1) bY lim (eQ _) (by omega) cj qQ g5).mono fun r ai ⟨aZ,b6,bB,bQ,cS⟩=>⟨aZ,b6.toList,bB,b6,rfl,bQ,cS⟩) (by rintro aX ⟨L,rfl,q,_⟩;simpa using q.1.trans s4) (by simp[aH,aB,r1 d4 s4]) ?_;rintro aX ⟨L,rfl,cL,dm⟩;obtain⟨kg,oa⟩:=g7 L cL dm;simp;(with_reducible repeat' first|refine ak ?_|simp[t1,t2,t3,t4]);exact ht.k _ (.inl rfl) bj mid _ ap L _ _ (cL.1.trans s4) g1 (by omega) (by omega) kg oa (by simp[t1]) (by simp) (by simp[t3]) (by simp[t4]) (by simp;rfl) (by simp)
theorem ag1(H:eV S n g b2 lc bX lt)(bu:Sort.SWO lt)(bM:Ad S n g b2 lc bX lt (bY-bj)){pv:Nat}(T:xY t bj bY lim)(t11:Pv.get 11 t= .int .i64 pv){w v:Bool}(t8:Pv.get 8 t= .bool w)(t9:Pv.get 9 t= .bool v)(qQ:lim≤1000)(n2:cD.size=n)(o9:bj≤pv∧pv<bY)(cj:bY≤n)(rR:12<bY-bj)(sI:Sort.Below lt bj bY cD)(ht:vS S n g b2 lc bX lt bj bY lim cD Q):
  cR ao ob Ar Q ⟨t,(.loc 0,[.func g lc,.func b2 bX])::(S cD.toList).b,(S cD.toList).e,1,o⟩:=by
 obtain⟨t1,t2,t3,t4,t10⟩:=id T;have hle:=H.le;unfold Ar;by_cases rU:0<bj
 ·have H2:(0:Int)<bj:=by omega
  simp[t1,t2,t4,t11,rU,H2,Pv.look,H.slc,H.ssc];(with_reducible repeat' first|refine ak ?_|simp[t1,t2,t4,t11,rU,H2,Pv.look,H.slc,H.ssc]);rw[show((bj:Int)-1)=((bj-1:Nat):Int) by omega];refine H.lessA n2 (bj-1) pv (by omega) (by omega) fun o=>?_;cases jj:lt cD[bj-1]! cD[pv]!
  ·simp;(with_reducible repeat' first|refine ak ?_|simp[Pv.look,H.slc,H.ssc,t1,t2,t4,t11]);simp only[hY H,H.slc,H.ssc,hS];have qb:=aa5 H cD n2 bj bY pv o9.1 o9.2 (by omega) cj;have bp:Sort.partitionEqual lt cD bj bY pv=((Sort.partitionEqual lt cD bj bY pv).1,(Sort.partitionEqual lt cD bj bY pv).2):=rfl;generalize (Sort.partitionEqual lt cD bj bY pv).1=mid at qb bp;generalize (Sort.partitionEqual lt cD bj bY pv).2=d4 at qb bp;obtain⟨g1,g2,g3,g4,g5⟩:=Sort.round_eq bu (Sort.partitionEqual_holds lt) rU o9.1 o9.2 (by omega) sI jj bp;refine H.fnD n2 qb (by simp[aB,aH,H.kdata (lk:=cD.toList) (by simpa using n2)]) fun s4 o=>?_;simp[t1,t2,t3,t4];exact ht.k _ (.inr rfl) mid bY w v d4 _ _ s4 g2 cj (by omega) g4 g5 (by simp) (by simp[t2]) (by simp[t3]) (by simp[t4]) (by simp[t8]) (by simp[t9])
  ·simp;exact Te H bu bM ⟨by simp[t1],by simp[t2],by simp[t3],by simp[t4],by simp[t10]⟩ (by simp[t11]) qQ n2 o9 cj rR sI ht
 ·have H2:¬(0:Int)<bj:=by omega
  simp[t1,rU];exact Te H bu bM ⟨by simp[t1],by simp[t2],by simp[t3],by simp[t4],by simp[t10]⟩ (by simp[t11]) qQ n2 o9 cj rR sI ht
theorem J7(H:eV S n g b2 lc bX lt)(bu:Sort.SWO lt)(bM:Ad S n g b2 lc bX lt (bY-bj)){pv:Nat}(T:xY t bj bY lim)(t11:Pv.get 11 t= .int .i64 pv){h:Nat}(t12:Pv.get 12 t= .int .i64 h){w v:Bool}(t8:Pv.get 8 t= .bool w)(t9:Pv.get 9 t= .bool v)(qQ:lim≤1000)(n2:cD.size=n)(o9:bj≤pv∧pv<bY)(cj:bY≤n)(rR:12<bY-bj)(sI:Sort.Below lt bj bY cD)(ht:vS S n g b2 lc bX lt bj bY lim cD Q):
  cR ao ob G1 Q ⟨t,(.loc 0,[.func g lc,.func b2 bX])::(S cD.toList).b,(S cD.toList).e,1,o⟩:=by
 obtain⟨t1,t2,t3,t4,t10⟩:=id T;have hle:=H.le;unfold G1;have next:∀{d5:Array α} {t o},xY t bj bY lim→Pv.get 11 t= .int .i64 pv→Pv.get 8 t= .bool w→Pv.get 9 t= .bool v→d5.size=n→Sort.Below lt bj bY d5→Sort.PermIn bj bY cD d5→cR ao ob Ar Q ⟨t,(.loc 0,[.func g lc,.func b2 bX])::(S d5.toList).b,(S d5.toList).e,1,o⟩:=fun aj aC bg da gL hz qu=>ag1 H bu bM aj aC bg da qQ gL o9 cj rR hz (ht.mono qu)
 have skip:∀{t o},xY t bj bY lim→Pv.get 11 t= .int .i64 pv→Pv.get 8 t= .bool w→Pv.get 9 t= .bool v→cR ao ob Ar Q ⟨t,(.loc 0,[.func g lc,.func b2 bX])::(S cD.toList).b,(S cD.toList).e,1,o⟩:=fun aj aC bg da=>next aj aC bg da n2 sI (Sort.permIn_refl _ _ _)
 by_cases aw:(w=true∧v=true)∧h=1
 ·obtain⟨⟨rfl,rfl⟩,rfl⟩:=aw;simp[t1,t2,t4,t8,t9,t12,Pv.look,H.slc,H.ssc];simp only[hY H,H.slc,H.ssc,hS];have qb:=aa3 H cD n2 bj bY (by omega) cj (by omega);have bp:=Sort.partialInsertionSort_holds bu cD bj bY (by omega) (by omega) sI;generalize (Sort.partialInsertionSort lt cD bj bY).1=d5 at qb bp;generalize (Sort.partialInsertionSort lt cD bj bY).2=ok at qb bp;refine H.fnD n2 qb (by simp[aB,aH,H.kdata (lk:=cD.toList) (by simpa using n2)]) fun ain o=>?_;cases ok
  ·simp;exact next ⟨by simp[t1],by simp[t2],by simp[t3],by simp[t4],by simp[t10]⟩ (by simp[t11]) (by simp[t8]) (by simp[t9]) ain (sI.perm (by omega) bp.1) bp.1
  ·simp;exact ht.r _ _ _ bp.1 (bp.2 rfl)
 ·cases w
  ·simp[t8,t9,t12];exact skip ⟨by simp[t1],by simp[t2],by simp[t3],by simp[t4],by simp[t10]⟩ (by simp[t11]) (by simp[t8]) (by simp[t9])
  ·cases v
   ·simp[t8,t9,t12];exact skip ⟨by simp[t1],by simp[t2],by simp[t3],by simp[t4],by simp[t10]⟩ (by simp[t11]) (by simp[t8]) (by simp[t9])
   ·have J:((h:Int)==1)=false:=by simp at aw⊢;omega
    simp[t8,t9,t12,J];exact skip ⟨by simp[t1],by simp[t2],by simp[t3],by simp[t4],by simp[t10]⟩ (by simp[t11]) (by simp[t8]) (by simp[t9])
theorem Tf(H:eV S n g b2 lc bX lt)(gg:q9 S 901)(bu:Sort.SWO lt)(bM:Ad S n g b2 lc bX lt (bY-bj))(T:xY t bj bY lim){w v:Bool}(t8:Pv.get 8 t= .bool w)(t9:Pv.get 9 t= .bool v)(qQ:lim≤1000)(s1:cD.size=n)(cj:bY≤n)(rR:12<bY-bj)(Gg:Sort.Below lt bj bY cD)(ht:vS S n g b2 lc bX lt bj bY lim cD Q):
  cR ao ob G2 Q ⟨t,(.loc 0,[.func g lc,.func b2 bX])::(S cD.toList).b,(S cD.toList).e,1,o⟩:=by
 obtain⟨t1,t2,t3,t4,t10⟩:=id T;have hle:=H.le;have r1:∀fA:Array α,fA.size=n→aB (inObs (S fA.toList)) (eK g b2 lc bX):=fun fA h=>H.kdata (lk:=fA.toList) (by simpa using h);unfold G2;simp[t1,t2,t4,Pv.look,H.slc,H.ssc];simp only[hY H,H.slc,H.ssc,hS];have td:=Sort.choosePivot_holds lt cD bj bY (by omega);have I7:=aaV H gg cD s1 bj bY (by omega) cj;generalize Sort.choosePivot lt cD bj bY=Hb at I7 td;obtain⟨p,hint⟩:=Hb;simp only at I7 td;refine H.fnA s1 s1 I7 (by simp[aB,aH,r1 cD s1]) fun o=>?_;cases hint
 ·simp[yF];exact J7 H bu bM ⟨by simp[t1],by simp[t2],by simp[t3],by simp[t4],by simp[t10]⟩ (pv:=p) (by simp) (h:=0) (by simp) (w:=w) (v:=v) (by simp[t8]) (by simp[t9]) qQ s1 td cj rR Gg ht
 ·simp[yF];exact J7 H bu bM ⟨by simp[t1],by simp[t2],by simp[t3],by simp[t4],by simp[t10]⟩ (pv:=p) (by simp) (h:=1) (by simp) (w:=w) (v:=v) (by simp[t8]) (by simp[t9]) qQ s1 td cj rR Gg ht
 ·simp[yF,t1,t2,t4,Pv.look,H.slc,H.ssc];simp only[hY H,H.slc,H.ssc,hS];refine H.fnD s1 (aba H cD s1 bj bY (by omega) cj (by omega)) (by simp[aB,aH,r1 cD s1]) fun s2 o=>?_;have aJ:=Sort.reverseRange_holds cD bj bY (by omega) (by omega);have OY:((bY:Int)-1-(p-bj))=((bY-1)-(p-bj):Nat):=by omega
  simp[t1,t2,OY];(with_reducible repeat' first|refine ak ?_|simp[OY,t1,t2]);exact J7 H bu bM ⟨by simp[t1],by simp[t2],by simp[t3],by simp[t4],by simp[t10]⟩ (pv:=(bY-1)-(p-bj)) (by simp) (h:=1) (by simp) (w:=w) (v:=v) (by simp[t8]) (by simp[t9]) qQ s2 (by omega) cj rR (Gg.perm (by omega) aJ) (ht.mono aJ)
end
theorem aa6(H:eV S n g b2 lc bX lt)(gg:q9 S 901)(kF:q9 S 902)(bu:Sort.SWO lt)(m:Nat):∀(d:Array α) (aP:d.size=n) (a b vg:Nat) (hm:b-a≤m) (mx:a≤b) (ae:b≤n) (eX:vg≤1000) (A0:Sort.Below lt a b d),
  bJ ao 214 [eK g b2 lc bX,.int .i64 a,.int .i64 b,.int .i64 vg] (S d.toList) fun r ai=>r= .tuple []∧∃b6,ai=S b6.toList∧Sort.PermIn a b d b6∧Sort.SortedIn lt a b b6:=by
 induction m using Nat.strongRecOn with
 |ind m bM=>
 intro d aP a b vg hm mx ae eX A0;have ag:=H.ok d.toList;have au:d.toList.length=n:=by simpa using aP
 have aA:∀l m,Pv.look (.loc m) (S l).b=none:=fun l=>(H.ok l).obj.1;have hu:∀l m cs,cw (.loc m) cs (S l).b=(S l).b++[(.loc m,cs)]:=fun l m cs=>jE (aA l m);have av:∀m,aD.loc m∉cO (S d.toList):=jz ag.obj;have hle:=H.le;refine bJ.mk mixed nq ZW agk (by simp) ag.obj fun aR c1=>?_;unfold NP;simp[eK,hu,av,cE,aA];refine H.loopA au [4] (fun(x:((Nat×Nat×Nat)×Bool×Bool)×Array α)=>[(1,.int .i64 x.1.1.1),(2,.int .i64 x.1.1.2.1),(3,.int .i64 x.1.1.2.2),(8,.bool x.1.2.1),(9,.bool x.1.2.2)]) (·.2) (fun x=>x.1.1.2.1-x.1.1.1) (fun x=>x.2.size=n∧(x.1.1.1≤x.1.1.2.1∧x.1.1.2.1≤n∧x.1.1.2.1-x.1.1.1≤m∧x.1.1.2.2≤1000)∧Sort.Below lt x.1.1.1 x.1.1.2.1 x.2∧∀R,Sort.PermIn x.1.1.1 x.1.1.2.1 x.2 R→Sort.SortedIn lt x.1.1.1 x.1.1.2.1 R→Sort.PermIn a b d R∧Sort.SortedIn lt a b R)
  (((a,b,vg),true,true),d) aP ⟨aP,⟨mx,ae,hm,eX⟩,A0,fun R J U=>⟨J,U⟩⟩ (by simp[cE,aA]) aQ aQ (by simp[aB]) ?_
 rintro⟨⟨⟨bj,bY,tF⟩,akA,wp⟩,cd⟩ ⟨a8,⟨bU,cj,eB,c5⟩,I6,Ew⟩;simp only at a8 bU cj eB c5 I6 Ew;have r1:∀fA:Array α,fA.size=n→aB (inObs (S fA.toList)) (eK g b2 lc bX):=fun fA h=>H.kdata (lk:=fA.toList) (by simpa using h);have FG:∀(R:Array α) t o,Sort.PermIn bj bY cd R→Sort.SortedIn lt bj bY R→cN TQ (S d.toList) (fun r ai=>r= .tuple []∧∃b6,ai=S b6.toList∧Sort.PermIn a b d b6∧Sort.SortedIn lt a b b6) .ret ⟨t,(.loc 0,[.func g lc,.func b2 bX])::(S R.toList).b,(S R.toList).e,1,o⟩:=fun R t o J U=>by refine H.retA au (by rw[J.1];exact a8) (.inl rfl) ⟨rfl,R,rfl,Ew R J U⟩
 simp;by_cases rR:bY-bj≤12
 ·have AP:(bY:Int)-bj≤12:=by omega
  (with_reducible repeat' first|refine ak ?_|simp[AP,Pv.look,H.slc,H.ssc]);simp only[hY H,H.slc,H.ssc,hS];refine H.fnD a8 (aaY H cd a8 bj bY bU cj) (by simp[aB,aH,r1 cd a8]) fun s2 o=>?_;obtain⟨aZ,bB⟩:=Sort.insertionSort_holds bu cd bj bY bU (by omega);simp;exact FG _ _ _ aZ bB
 have AP:¬(bY:Int)-bj≤12:=by omega
 by_cases yI:tF=0
 ·have D4:(((tF:Nat):Int)==0)=true:=by simp[yI]
  (with_reducible repeat' first|refine ak ?_|simp[AP,D4,Pv.look,H.slc,H.ssc]);simp only[hY H,H.slc,H.ssc,hS];refine H.fnD a8 (aaX H cd a8 bj bY bU cj (by omega)) (by simp[aB,aH,r1 cd a8]) fun s2 o=>?_;obtain⟨aZ,bB⟩:=Sort.heapSort_holds bu cd bj bY bU (by omega);simp;exact FG _ _ _ aZ bB
 have D4:(((tF:Nat):Int)==0)=false:=by simp[yI]
 have Q9:Ad S n g b2 lc bX lt (bY-bj):=fun k ab=>bM k (by omega);cases akA
 ·(with_reducible repeat' first|refine ak ?_|simp[AP,D4,Pv.look,H.slc,H.ssc]);simp only[hY H,H.slc,H.ssc,hS];refine H.fnD a8 (aaU H kF cd a8 bj bY bU cj (by omega)) (by simp[aB,aH,r1 cd a8]) fun s1 o=>?_;have CU:=Sort.breakPatterns_holds cd bj bY bU (by omega);generalize Sort.breakPatterns cd bj bY=d1 at s1 CU;have el:((tF:Int)-1)=(tF-1:Nat):=by omega
  simp[el];(with_reducible repeat' first|refine ak ?_|simp[el,Pv.look]);refine Tf (lim:=tF-1) H gg bu Q9 ⟨by simp,by simp,by simp,by simp,by simp⟩ (w:=false) (v:=wp) (by simp) (by simp) (by omega) s1 cj (by omega) (I6.perm (by omega) CU) ⟨?_,fun R t o dC e6=>?_⟩
  ·rintro e he a2 bZ w v L t o aj aC bg da gL hz t1 t2 t3 t4 t8 t9;rcases he with rfl|rfl<;>simp<;>exact bL.whl (((a2,bZ,tF-1),w,v),L) (by simp;omega) ⟨aj,⟨aC,bg,by simp;omega,by simp;omega⟩,gL,fun R dC e6=>Ew R (Sort.permIn_trans _ _ _ bj bY CU (hz R dC e6).1) (hz R dC e6).2⟩ (H.weakC au (by simpa using aj) (by simp[aB,t1,t2,t3,t4,t8,t9]))
  ·simpa using FG R t o (Sort.permIn_trans _ _ _ bj bY CU dC) e6
 ·(with_reducible repeat' first|refine ak ?_|simp[AP,D4,Pv.look,H.slc,H.ssc]);refine Tf (lim:=tF) H gg bu Q9 ⟨by simp,by simp,by simp,by simp,by simp⟩ (w:=true) (v:=wp) (by simp) (by simp) c5 a8 cj (by omega) I6 ⟨?_,fun R t o dC e6=>?_⟩
  ·rintro e he a2 bZ w v L t o aj aC bg da gL hz t1 t2 t3 t4 t8 t9;rcases he with rfl|rfl<;>simp<;>exact bL.whl (((a2,bZ,tF),w,v),L) (by simp;omega) ⟨aj,⟨aC,bg,by simp;omega,c5⟩,gL,fun R dC e6=>Ew R (hz R dC e6).1 (hz R dC e6).2⟩ (H.weakC au (by simpa using aj) (by simp[aB,t1,t2,t3,t4,t8,t9]))
  ·simpa using FG R t o dC e6
end Go.Proofs.YtahlgcidhnjlbaaGreat
namespace Go.Proofs.YtahlgcidhnjlbaaGreat
open Go Go.Pv
variable {α:Type} {S:List α→cF} {n g b2:Nat} {lc bX:List ah} {lt:α→α→Bool}
theorem aew(bu:pN lt){l lk:List α}{a b i:Nat}(my:a+1≤i)(yE:i≤b)(ae:b≤l.length)(ag:e3 lt (a+1) b l){z:α}(bC:l[a]? =some z)(Bb:∀h x,a+1≤h→h<i→l[h]? =some x→lt x z=true)(A8:∀h x,i≤h→h<b→l[h]? =some x→lt x z=false)
  (aJ:∀k,lk[k]? =l[hH a (a+1) i k]?):e3 lt a b lk:=by
 intro p q x y bF j4 bp ad aL;rw[aJ]at ad aL;simp only[hH]at ad aL;rw[if_neg (by omega)]at ad aL;by_cases aZ:q<i-1
 ·rw[if_pos (by omega)]at ad aL;exact ag _ _ _ _ (by omega) (by omega) (by omega) ad aL
 ·rw[if_neg (by omega)]at aL;by_cases bB:q<i
  ·rw[if_pos bB,show q-(i-(a+1))=a by omega,bC]at aL;cases aL;rw[if_pos (by omega)]at ad;exact bu.asym _ _ (Bb _ _ (by omega) (by omega) ad)
  ·rw[if_neg bB]at aL;by_cases cL:p<i-1
   ·rw[if_pos (by omega)]at ad;exact ag _ _ _ _ (by omega) (by omega) (by omega) ad aL
   ·rw[if_neg (by omega)]at ad;by_cases dm:p<i
    ·rw[if_pos dm,show p-(i-(a+1))=a by omega,bC]at ad;cases ad;exact A8 _ _ (by omega) bp aL
    ·rw[if_neg dm]at ad;exact ag _ _ _ _ (by omega) (by omega) bp ad aL
theorem aex(bu:pN lt){l lk:List α}{a m i:Nat}(my:a≤i)(amj:i≤m)(ae:m+1≤l.length)(ag:e3 lt a m l){z:α}(bC:l[m]? =some z)(Bb:∀h x,a≤h→h<i→l[h]? =some x→lt z x=false)(A8:∀h x,i≤h→h<m→l[h]? =some x→lt z x=true)
  (aJ:∀k,lk[k]? =l[hH i m (m+1) k]?):e3 lt a (m+1) lk:=by
 intro p q x y bF j4 bp ad aL;rw[aJ]at ad aL;simp only[hH]at ad aL;by_cases aZ:q<i
 ·rw[if_pos (by omega)]at ad aL;exact ag _ _ _ _ bF j4 (by omega) ad aL
 ·rw[if_neg aZ]at aL;by_cases bB:q=i
  ·rw[if_pos (by omega),show q+(m-i)=m by omega,bC]at aL;cases aL;rw[if_pos (by omega)]at ad;exact Bb _ _ bF (by omega) ad
  ·rw[if_neg (by omega),if_pos (by omega)]at aL;by_cases cL:p<i
   ·rw[if_pos cL]at ad;exact ag _ _ _ _ bF (by omega) (by omega) ad aL
   ·rw[if_neg cL]at ad;by_cases dm:p=i
    ·rw[if_pos (by omega),show p+(m-i)=m by omega,bC]at ad;cases ad;exact bu.asym _ _ (A8 _ _ (by omega) (by omega) aL)
    ·rw[if_neg (by omega),if_pos (by omega)]at ad;exact ag _ _ _ _ (by omega) (by omega) (by omega) ad aL
structure CT (lt:α→α→Bool) (a s m e b mid:Nat) (lk:List α):Prop where
 s1:e3 lt a s lk
 s2:e3 lt s mid lk
 s3:e3 lt mid e lk
 s4:e3 lt e b lk
 cross:∀p q x y,a≤p→p<mid→mid≤q→q<b→lk[p]? =some x→lk[q]? =some y→lt y x=false
theorem e3.le(bu:pN lt){a b:Nat}{l:List α}(h:e3 lt a b l){i j:Nat}{x y:α}(J:a≤i)(U:i≤j)(al:j<b)(ad:l[i]? =some x)(aL:l[j]? =some y):lt y x=false:=by
 by_cases e:i=j
 ·subst e;rw[ad]at aL;cases aL;cases Q6:lt x x with
  |false=>rfl
  |true=>have:=bu.asym _ _ Q6;rw[Q6]at this;exact this
 ·exact h _ _ _ _ J (by omega) al ad aL
theorem aeG(bu:pN lt){l lk:List α}{a m b mid s e:Nat}(has:a≤s)(eY:s≤m)(amn:m≤e)(amh:e≤b)(ae:b≤l.length)(k4:s+e=mid+m)(J:e3 lt a m l)(U:e3 lt m b l)
  (bE:s=a∨e=b∨ ∃x y,l[s-1]? =some x∧l[e]? =some y∧lt y x=false) (cc:s=m∨e=m∨ ∃x y,l[s]? =some x∧l[e-1]? =some y∧lt y x=true) (aJ:∀k,lk[k]? =l[hH s m e k]?):CT lt a s m e b mid lk:=by
 have g1:∀p,p<s→lk[p]? =l[p]?:=fun p bF=>by rw[aJ];simp[hH,bF]
 have g2:∀p,s≤p→p<mid→lk[p]? =l[p+(m-s)]?:=fun p al a6=>by rw[aJ];simp only[hH];rw[if_neg (by omega),if_pos (by omega)]
 have g3:∀p,mid≤p→p<e→lk[p]? =l[p-(e-m)]?:=fun p al a6=>by rw[aJ];simp only[hH];rw[if_neg (by omega),if_neg (by omega),if_pos (by omega)]
 have g4:∀p,e≤p→lk[p]? =l[p]?:=fun p al=>by
  rw[aJ];simp only[hH];rw[if_neg (by omega)];by_cases bW:p<s+(e-m)
  ·omega
  ·rw[if_neg bW,if_neg (by omega)]
 refine⟨fun p q x y bF j4 bp ad aL=>?_,fun p q x y bF j4 bp ad aL=>?_,fun p q x y bF j4 bp ad aL=>?_,fun p q x y bF j4 bp ad aL=>?_,fun p q x y bF acO bp Ix ad aL=>?_⟩
 ·rw[g1 _ (by omega)]at ad aL;exact J _ _ _ _ bF j4 (by omega) ad aL
 ·rw[g2 _ (by omega) (by omega)]at ad aL;exact U _ _ _ _ (by omega) (by omega) (by omega) ad aL
 ·rw[g3 _ (by omega) (by omega)]at ad aL;exact J _ _ _ _ (by omega) (by omega) (by omega) ad aL
 ·rw[g4 _ (by omega)]at ad aL;exact U _ _ _ _ (by omega) (by omega) (by omega) ad aL
 ·by_cases cL:p<s
  ·rw[g1 _ cL]at ad;by_cases aZ:q<e
   ·rw[g3 _ bp aZ]at aL;exact J _ _ _ _ bF (by omega) (by omega) ad aL
   ·rw[g4 _ (by omega)]at aL;rcases bE with bE|bE|⟨u,v,a8,bU,cj⟩
    ·omega
    ·omega
    ·exact bu.ntr _ _ _ (bu.ntr _ _ _ (e3.le bu J bF (by omega) (by omega) ad a8) cj) (e3.le bu U (by omega) (by omega) Ix bU aL)
  ·rw[g2 _ (by omega) acO]at ad;by_cases aZ:q<e
   ·rw[g3 _ bp aZ]at aL;rcases cc with cc|cc|⟨u,v,a8,bU,cj⟩
    ·omega
    ·omega
    ·exact bu.ntr _ _ _ (bu.ntr _ _ _ (e3.le bu U (by omega) (by omega) (by omega) ad bU) (bu.asym _ _ cj)) (e3.le bu J (by omega) (by omega) (by omega) a8 aL)
   ·rw[g4 _ (by omega)]at aL;exact U _ _ _ _ (by omega) (by omega) Ix ad aL
theorem aeH{a mid b:Nat}(AY:a≤mid){lk jx gE:List α}(J:gd a mid lk jx)(s1:e3 lt a mid jx)(U:gd mid b jx gE)(s2:e3 lt mid b gE)(Xz:∀p q x y,a≤p→p<mid→mid≤q→q<b→lk[p]? =some x→lk[q]? =some y→lt y x=false):e3 lt a b gE:=by
 intro p q x y bF j4 bp ad aL;by_cases al:q<mid
 ·rw[U.out _ (.inl (by omega))]at ad;rw[U.out _ (.inl (by omega))]at aL;exact s1 _ _ _ _ bF j4 al ad aL
 ·by_cases a6:mid≤p
  ·exact s2 _ _ _ _ a6 j4 bp ad aL
  ·rw[U.out _ (.inl (by omega))]at ad;refine U.all (fun y=>lt y x=false) (fun k y gg kF aL=>?_) q y (by omega) bp aL;rw[J.out _ (.inr gg)]at aL;exact J.all (fun x=>lt y x=false) (fun bH x acg ach ad=>Xz bH k x y acg ach gg kF ad aL) p x bF (by omega) ad
end Go.Proofs.YtahlgcidhnjlbaaGreat
namespace Go.Proofs.YtahlgcidhnjlbaaGreat
open Go Go.Pv
variable {α:Type} {S:List α→cF} {n g b2:Nat} {lc bX:List ah} {lt:α→α→Bool}
def ai5(lt:α→α→Bool)(l:List α)(mid m s0 r0:Nat)(x:Nat×Nat):Prop:=s0≤x.1∧x.1≤x.2∧x.2≤r0∧(x.1=s0∨ ∃u v,l[x.1-1]? =some u∧l[mid+m-x.1]? =some v∧lt v u=false)∧(x.2=r0∨ ∃u v,l[x.2]? =some u∧l[mid+m-x.2-1]? =some v∧lt v u=true)
attribute [local simp] oF
def C0(S:List α→cF)(n g b2:Nat)(lc bX:List ah)(lt:α→α→Bool)(d:Nat):Prop:=
 ∀(l:List α) (a m b:Nat),l.length=n→b-a≤d→a<m→m<b→b≤n→e3 lt a m l→e3 lt m b l→
  bJ ao 232 [eK g b2 lc bX,.int .i64 a,.int .i64 m,.int .i64 b] (S l) fun r ai=>r= .tuple []∧∃aX,ai=S aX∧gd a b l aX∧e3 lt a b aX
def C1(S:List α→cF)(g b2:Nat)(lc bX:List ah)(lt:α→α→Bool)(a b:Nat)(l:List α)(Q:Exit→bo→Prop):Prop:=∀gE t o,gd a b l gE→e3 lt a b gE→Q .normal ⟨t,(.loc 0,[.func g lc,.func b2 bX])::(S gE).b,(S gE).e,1,o⟩
section
variable {a m b mid i e d:Nat} {l:List α} {t:List (Nat×ah)} {o:List aD} {ob:List aD} {Q:Exit→bo→Prop}
theorem aiJ(H:eV S n g b2 lc bX lt)(bM:C0 S n g b2 lc bX lt d)(t3:Pv.get 3 t= .int .i64 b)(t4:Pv.get 4 t= .ptr (.loc 0) 0)(t16:Pv.get 16 t= .int .i64 mid)(t22:Pv.get 22 t= .int .i64 e)(au:l.length=n)(J:mid≤e)(U:e≤b)(ae:b≤n)(aP:b-mid≤d)(QV:e3 lt mid e l)(QW:e3 lt e b l)(ht:C1 S g b2 lc bX lt mid b l Q):
  cR ao ob Dh Q ⟨t,(.loc 0,[.func g lc,.func b2 bX])::(S l).b,(S l).e,1,o⟩:=by
 unfold Dh;by_cases kY:mid<e∧e<b
 ·simp[t3,t4,t16,t22,kY.1,kY.2,Pv.look];simp only[hY H,H.slc,H.ssc,hS];refine H.doFn au (bM l mid e b au aP kY.1 kY.2 ae QV QW) (fun aX h=>by rw[h.1.length];exact au) (by simp[aH,aB,H.kdata au]) ?_;rintro gE ⟨kv,z2⟩;simp;exact ht _ _ _ kv z2
 ·have pb:e3 lt mid b l:=by
   by_cases oH:mid<e
   ·rwa[show e=b by omega]at QV
   ·rwa[show e=mid by omega]at QW
  by_cases oH:mid<e
  ·have abK:¬e<b:=by omega
   simp[t3,t16,t22,oH,abK];exact ht _ _ _ (.refl _) pb
  ·simp[t16,t22,oH];exact ht _ _ _ (.refl _) pb
theorem aiK(H:eV S n g b2 lc bX lt)(bM:C0 S n g b2 lc bX lt d)(t1:Pv.get 1 t= .int .i64 a)(t3:Pv.get 3 t= .int .i64 b)(t4:Pv.get 4 t= .ptr (.loc 0) 0)(t16:Pv.get 16 t= .int .i64 mid)(t18:Pv.get 18 t= .int .i64 i)(t22:Pv.get 22 t= .int .i64 e)(au:l.length=n)(bs:a≤i∧i≤mid∧a≤m)(J:mid≤e)(U:e≤b)(ae:b≤n)(aP:b-mid≤d)(lT:mid-a≤d)(gM:CT lt a i m e b mid l)(ht:C1 S g b2 lc bX lt a b l Q):
  cR ao ob Di Q ⟨t,(.loc 0,[.func g lc,.func b2 bX])::(S l).b,(S l).e,1,o⟩:=by
 unfold Di;have next:∀{jx t o},Pv.get 3 t= .int .i64 b→Pv.get 4 t= .ptr (.loc 0) 0→Pv.get 16 t= .int .i64 mid→Pv.get 22 t= .int .i64 e→jx.length=n→gd a mid l jx→e3 lt a mid jx→cR ao ob Dh Q ⟨t,(.loc 0,[.func g lc,.func b2 bX])::(S jx).b,(S jx).e,1,o⟩:=fun aj aC bg da wM cL dm=>by
  refine aiJ H bM aj aC bg da wM J U ae aP (fun p q x y J U al ad aL=>?_) (fun p q x y J U al ad aL=>?_) fun gE t o aZ bB=>?_
  ·rw[cL.out _ (.inr J)]at ad;rw[cL.out _ (.inr (by omega))]at aL;exact gM.s3 p q x y J U al ad aL
  ·rw[cL.out _ (.inr (by omega))]at ad;rw[cL.out _ (.inr (by omega))]at aL;exact gM.s4 p q x y J U al ad aL
  ·exact ht gE t o ((cL.mono (by omega) (by omega)).trans (aZ.mono (by omega) (by omega))) (aeH (by omega) cL dm aZ bB gM.cross)
 by_cases kE:a<i∧i<mid
 ·simp[t1,t4,t16,t18,kE.1,kE.2,Pv.look];simp only[hY H,H.slc,H.ssc,hS];refine H.doFn au (bM l a i mid au lT kE.1 kE.2 (by omega) gM.s1 gM.s2) (fun aX h=>by rw[h.1.length];exact au) (by simp[aH,aB,H.kdata au]) ?_;rintro jx ⟨cL,dm⟩;simp;exact next (by simp[t3]) (by simp[t4]) (by simp[t16]) (by simp[t22]) (by rw[cL.length];exact au) cL dm
 ·have dm:e3 lt a mid l:=by
   by_cases o7:a<i
   ·have:=gM.s1;rwa[show i=mid by omega]at this
   ·have:=gM.s2;rwa[show i=a by omega]at this
  by_cases o7:a<i
  ·have DP:¬i<mid:=by omega
   simp[t1,t16,t18,o7,DP];exact next (by simp[t3]) (by simp[t4]) (by simp[t16]) (by simp[t22]) au (.refl _) dm
  ·simp[t1,t18,o7];exact next (by simp[t3]) (by simp[t4]) (by simp[t16]) (by simp[t22]) au (.refl _) dm
theorem aiL(H:eV S n g b2 lc bX lt)(bM:C0 S n g b2 lc bX lt d)(t1:Pv.get 1 t= .int .i64 a)(t2:Pv.get 2 t= .int .i64 m)(t3:Pv.get 3 t= .int .i64 b)(t4:Pv.get 4 t= .ptr (.loc 0) 0)(t16:Pv.get 16 t= .int .i64 mid)(t18:Pv.get 18 t= .int .i64 i)(t22:Pv.get 22 t= .int .i64 e)(au:l.length=n)(bs:a≤i∧i≤mid∧a≤m)(J:mid≤e)(U:e≤b)(ae:b≤n)(aP:b-mid≤d)(lT:mid-a≤d)(QD:∀lk:List α,(∀k,lk[k]? =l[hH i m e k]?)→CT lt a i m e b mid lk)(ht:C1 S g b2 lc bX lt a b l Q):
  cR ao ob G3 Q ⟨t,(.loc 0,[.func g lc,.func b2 bX])::(S l).b,(S l).e,1,o⟩:=by
 unfold G3;have next:∀{lk t o},Pv.get 1 t= .int .i64 a→Pv.get 3 t= .int .i64 b→Pv.get 4 t= .ptr (.loc 0) 0→Pv.get 16 t= .int .i64 mid→Pv.get 18 t= .int .i64 i→Pv.get 22 t= .int .i64 e→lk.length=n→CT lt a i m e b mid lk→gd a b l lk→cR ao ob Di Q ⟨t,(.loc 0,[.func g lc,.func b2 bX])::(S lk).b,(S lk).e,1,o⟩:=fun aj aC bg da gL hz hL gM abH=>aiK H bM aj aC bg da gL hz hL bs J U ae aP lT gM fun gE t o aZ bB=>ht gE t o (abH.trans aZ) bB
 by_cases oI:i<m∧m<e
 ·simp[t2,t4,t18,t22,oI.1,oI.2,Pv.look];simp only[hY H,H.slc,H.ssc,hS];refine H.doFn au (abb H l au i m e oI.1 oI.2 (by omega)) (fun aX h=>by rw[h.1.length];exact au) (by simp[aH,aB,H.kdata au]) ?_;rintro lk ⟨aZ,bB⟩;simp;exact next (by simp[t1]) (by simp[t3]) (by simp[t4]) (by simp[t16]) (by simp[t18]) (by simp[t22]) (by rw[aZ.length];exact au) (QD lk bB) (aZ.mono (by omega) (by omega))
 ·have gM:=QD l (fun k=>by
   congr 1;simp only[hH];repeat' split
   all_goals omega)
  by_cases lW:i<m
  ·have acR:¬m<e:=by omega
   simp[t2,t18,t22,lW,acR];exact next (by simp[t1]) (by simp[t3]) (by simp[t4]) (by simp[t16]) (by simp[t18]) (by simp[t22]) au gM (.refl _)
  ·simp[t2,t18,lW];exact next (by simp[t1]) (by simp[t3]) (by simp[t4]) (by simp[t16]) (by simp[t18]) (by simp[t22]) au gM (.refl _)
theorem Uv{bb:List (aD×List ah)}(H:eV S n g b2 lc bX lt)(uK:Pv.look (.loc 0) bb=some [.func g lc,.func b2 bX])(c1:∀k cs,Pv.look k (S l).b=some cs→Pv.look k bb=some cs)(bu:pN lt)(bM:C0 S n g b2 lc bX lt d){s0 r0:Nat}(t1:Pv.get 1 t= .int .i64 a)(t2:Pv.get 2 t= .int .i64 m)(t3:Pv.get 3 t= .int .i64 b)(t4:Pv.get 4 t= .ptr (.loc 0) 0)(t16:Pv.get 16 t= .int .i64 mid)(t17:Pv.get 17 t= .int .i64 ((mid:Int)+m))(t18:Pv.get 18 t= .int .i64 s0)(t19:Pv.get 19 t= .int .i64 r0)(au:l.length=n)(bs:a<m∧m<b∧mid=(a+b)/2)(J:mid<m∧s0=mid+m-b∧r0=mid∨m≤mid∧s0=a∧r0=m)(ae:b≤n)(aP:b-a≤d+1)(j6:e3 lt a m l)(oJ:e3 lt m b l)(ht:C1 S g b2 lc bX lt a b l Q):
  cR ao (cO (S l)) G4 Q ⟨t,bb,(S l).e,1,o⟩:=by
 have hle:=H.le;unfold G4;simp[t17];(with_reducible repeat' first|refine ak ?_|simp[t17]);refine nH (fun(x:Nat×Nat)=>⟨[(1,.int .i64 a),(2,.int .i64 m),(3,.int .i64 b),(4,.ptr (.loc 0) 0),(16,.int .i64 mid),(17,.int .i64 (mid+m)),(20,.int .i64 (mid+m-1)),(18,.int .i64 x.1),(19,.int .i64 x.2)],(.loc 0,[.func g lc,.func b2 bX])::(S l).b,(S l).e,1,cO (S l)⟩) (fun x=>x.2-x.1)
  (ai5 lt l mid m s0 r0) (s0,r0) (H.weak au au (by simp[aB,t1,t2,t3,t4,t16,t17,t18,t19]) uK c1 fun _ _ h=>h) ⟨by simp,by simp;omega,by simp,.inl rfl,.inl rfl⟩ ?_
 rintro⟨i,j⟩ ⟨a8,bU,cj,eB,c5⟩ _;simp only at a8 bU cj eB c5;have nS:=DR i j (by omega);by_cases ly:i<j
 ·simp[ly];(with_reducible repeat' first|refine ak ?_|simp[Pv.look]);obtain⟨c,aw⟩:∃c,c=(i+j)/2:=⟨_,rfl⟩;rw[←aw]at nS;simp only[nS];(with_reducible repeat' first|refine ak ?_|simp[Pv.look]);obtain⟨u,IN⟩:∃u,l[c]? =some u:=⟨_,ca (by omega)⟩;obtain⟨v,IP⟩:∃v,l[mid+m-1-c]? =some v:=⟨_,ca (by omega)⟩;have da:((mid:Int)+m-1-c)=(mid+m-1-c:Nat):=by omega
  simp only[H.slc,da];refine H.doLess au (mid+m-1-c) c IP IN ?_;simp;cases qY:lt v u with
  |false=>simp;(with_reducible repeat' first|refine ak ?_|simp);refine bL.whl (c+1,j) (by simp;omega) ⟨by simp;omega,by simp;omega,cj,.inr ⟨u,v,by simpa using IN,?_,qY⟩,c5⟩ (H.weakC au au (by simp[aB]));simp only;rw[show mid+m-(c+1)=mid+m-1-c by omega];exact IP
  |true=>simp;(with_reducible repeat' first|refine ak ?_|simp);refine bL.whl (i,c) (by simp;omega) ⟨a8,by simp;omega,by simp;omega,eB,.inr ⟨u,v,IN,?_,qY⟩⟩ (H.weakC au au (by simp[aB]));simp only;rw[show mid+m-c-1=mid+m-1-c by omega];exact IP
 ·obtain rfl:i=j:=by omega
  obtain⟨e,he⟩:∃e,e=mid+m-i:=⟨_,rfl⟩;have gL:((mid:Int)+m-i)=(e:Nat):=by omega
  have bE:i=a∨e=b∨ ∃x y,l[i-1]? =some x∧l[e]? =some y∧lt y x=false:=by
   rcases eB with eB|⟨u,v,aZ,bB,bQ⟩
   ·omega
   ·exact .inr (.inr ⟨u,v,aZ,by rw[he];exact bB,bQ⟩)
  have cc:i=m∨e=m∨ ∃x y,l[i]? =some x∧l[e-1]? =some y∧lt y x=true:=by
   rcases c5 with c5|⟨u,v,aZ,bB,bQ⟩
   ·omega
   ·exact .inr (.inr ⟨u,v,aZ,by rw[he];exact bB,bQ⟩)
  simp[ly];(with_reducible repeat' first|refine ak ?_|simp);rw[gL];exact aiL H bM (a:=a) (m:=m) (b:=b) (mid:=mid) (i:=i) (e:=e) (by simp) (by simp) (by simp) (by simp) (by simp) (by simp) (by simp) au (by omega) (by omega) (by omega) ae (by omega) (by omega) (fun lk aJ=>aeG bu (by omega) (by omega) (by omega) (by omega) (by omega) (by omega) j6 oJ bE cc aJ) ht
end
theorem PR(H:eV S n g b2 lc bX lt)(bu:pN lt)(d:Nat):∀(l:List α) (a m b:Nat),l.length=n→b-a≤d→a<m→m<b→b≤n→e3 lt a m l→e3 lt m b l→
  bJ ao 232 [eK g b2 lc bX,.int .i64 a,.int .i64 m,.int .i64 b] (S l) fun r ai=>r= .tuple []∧∃aX,ai=S aX∧gd a b l aX∧e3 lt a b aX:=by
 induction d with
 |zero=>intro l a m b au aP AY uU;omega
 |succ d bM=>
 intro l a m b au aP AY uU ae j6 oJ;have ag:=H.ok l;have aA:∀l m,Pv.look (.loc m) (S l).b=none:=fun l=>(H.ok l).obj.1;have hu:∀l m cs,cw (.loc m) cs (S l).b=(S l).b++[(.loc m,cs)]:=fun l m cs=>jE (aA l m);have av:∀m,aD.loc m∉cO (S l):=jz ag.obj;have hle:=H.le;refine bJ.mk mixed zV Z2 agq (by simp) ag.obj fun aR c1=>?_;unfold NV;simp[eK,hu,av,cE,aA];(with_reducible repeat' first|((first|apply bO|apply bS|apply bR)<;>intro h<;>try simp at h)|refine ak ?_|simp[hu,av,cE,aA])
 ·obtain rfl:m=a+1:=by omega
  have IA:∀k,hH a (a+1) (a+1) k=k:=by
   intro k;simp only[hH];repeat' split
   all_goals omega
  obtain⟨z,bC⟩:∃z,l[a]? =some z:=⟨_,ca (by omega)⟩;refine nH (fun(x:Nat×Nat)=>⟨[(1,.int .i64 a),(4,.ptr (.loc 0) 0),(8,.int .i64 x.1),(9,.int .i64 x.2)],(.loc 0,[.func g lc,.func b2 bX])::(S l).b,(S l).e,1,cO (S l)⟩) (fun x=>x.2-x.1)
   (fun x=>a+1≤x.1∧x.1≤x.2∧x.2≤b∧(∀h y,a+1≤h→h<x.1→l[h]? =some y→lt y z=true)∧(∀h y,x.2≤h→h<b→l[h]? =some y→lt y z=false)) (a+1,b)
   (H.weak au au (by simp[aB]) (by simp[cE,aA]) aQ aQ) ⟨by simp,by simp;omega,by simp,fun h y J U=>by simp at U;omega,fun h y J U=>by simp at J;omega⟩ ?_
  rintro⟨i,j⟩ ⟨a8,bU,cj,eB,c5⟩ _;simp only at a8 bU cj eB c5;have hw:=DR i j (by omega);simp[Pv.look];(with_reducible repeat' first|((first|apply bO|apply bS|apply bR)<;>intro h<;>try simp at h)|refine ak ?_|simp[Pv.look])
  ·obtain⟨c,aw⟩:∃c,c=(i+j)/2:=⟨_,rfl⟩;rw[←aw]at hw;obtain⟨y,aL⟩:∃y,l[c]? =some y:=⟨_,ca (by omega)⟩;simp only[hw,H.slc];refine H.doLess au c a aL bC ?_;simp;cases qY:lt y z with
   |true=>
    simp;(with_reducible repeat' first|refine ak ?_|simp);refine bL.whl (c+1,j) (by simp;omega) ⟨by simp;omega,by simp;omega,cj,fun h u J U hu=>?_,c5⟩ (H.weakC au au (by simp[aB]));cases e:lt u z with
    |true=>rfl
    |false=>simp only at U;have:=bu.ntr _ _ _ e (e3.le bu oJ J (by omega) (by omega) hu aL);rw[qY]at this;cases this
   |false=>simp;(with_reducible repeat' first|refine ak ?_|simp);refine bL.whl (i,c) (by simp;omega) ⟨a8,by simp;omega,by simp;omega,eB,fun h u J U hu=>?_⟩ (H.weakC au au (by simp[aB]));exact bu.ntr _ _ _ qY (e3.le bu oJ (by omega) J U aL hu)
  ·obtain rfl:i=j:=by omega
   refine nH (fun(x:Nat×List α)=>⟨[(4,.ptr (.loc 0) 0),(8,.int .i64 i),(11,.int .i64 x.1)],(.loc 0,[.func g lc,.func b2 bX])::(S x.2).b,(S x.2).e,1,cO (S l)⟩) (fun x=>i-x.1)
    (fun x=>x.2.length=n∧a≤x.1∧x.1<i∧gd a b l x.2∧∀k,x.2[k]? =l[hH a (a+1) (x.1+1) k]?) (a,l)
    (H.weakC au au (by simp[aB])) ⟨au,by simp,by simp;omega,.refl _,fun k=>by simp[IA]⟩ ?_
   rintro⟨k,lk⟩ ⟨aZ,bB,bQ,cS,c6⟩ _;simp only at aZ bB bQ cS c6;simp[Pv.look];((with_reducible repeat' first|refine ak ?_|simp[Pv.look]|((first|apply bO|apply bS|apply bR)<;>intro h<;>try simp at h))<;>(try exact cq))
   ·have bg:((k:Int)+1)=(k+1:Nat):=by omega
    rw[H.ssc,bg];refine H.doSwap aZ k (k+1) (by omega) (by omega) (by omega) ?_;simp;(with_reducible repeat' first|((first|apply bO|apply bS|apply bR)<;>intro h<;>try simp at h)|refine ak ?_|simp);refine bL.whl (k+1,gQ lk k (k+1)) (by simp;omega) ⟨by simp[aZ],by simp;omega,by simp;omega,.step cS (by omega) (by omega) (by omega) (by omega) (by omega) (by omega),fun t=>?_⟩ (H.weakC au (by simp[aZ]) (by simp[aB]));rw[y9 _ _ _ _ (by omega) (by omega),c6,c6,c6];have:hH a (a+1) (k+1+1) t=if t=k then hH a (a+1) (k+1) (k+1)else if t=k+1 then hH a (a+1) (k+1) k else hH a (a+1) (k+1) t:=by
     simp only[hH];repeat' split
     all_goals omega
    rw[this];split
    ·rfl
    ·split<;>rfl
   ·obtain rfl:i=k+1:=by omega
    refine H.ret au aZ (.inl rfl) ⟨rfl,lk,rfl,cS,aew bu (by omega) cj (by omega) oJ bC eB c5 c6⟩
 ·obtain rfl:b=m+1:=by omega
  have IA:∀k,hH m m (m+1) k=k:=by
   intro k;simp only[hH];repeat' split
   all_goals omega
  obtain⟨z,bC⟩:∃z,l[m]? =some z:=⟨_,ca (by omega)⟩;refine nH (fun(x:Nat×Nat)=>⟨[(2,.int .i64 m),(4,.ptr (.loc 0) 0),(12,.int .i64 x.1),(13,.int .i64 x.2)],(.loc 0,[.func g lc,.func b2 bX])::(S l).b,(S l).e,1,cO (S l)⟩) (fun x=>x.2-x.1)
   (fun x=>a≤x.1∧x.1≤x.2∧x.2≤m∧(∀h y,a≤h→h<x.1→l[h]? =some y→lt z y=false)∧(∀h y,x.2≤h→h<m→l[h]? =some y→lt z y=true)) (a,m)
   (H.weak au au (by simp[aB]) (by simp[cE,aA]) aQ aQ) ⟨by simp,by simp;omega,by simp,fun h y J U=>by simp at U;omega,fun h y J U=>by simp at J;omega⟩ ?_
  rintro⟨i,j⟩ ⟨a8,bU,cj,eB,c5⟩ _;simp only at a8 bU cj eB c5;have hw:=DR i j (by omega);simp[Pv.look];(with_reducible repeat' first|((first|apply bO|apply bS|apply bR)<;>intro h<;>try simp at h)|refine ak ?_|simp[Pv.look])
  ·obtain⟨c,aw⟩:∃c,c=(i+j)/2:=⟨_,rfl⟩;rw[←aw]at hw;obtain⟨y,aL⟩:∃y,l[c]? =some y:=⟨_,ca (by omega)⟩;simp only[hw,H.slc];refine H.doLess au m c bC aL ?_;simp;cases qY:lt z y with
   |false=>simp;((with_reducible repeat' first|refine ak ?_|simp|((first|apply bO|apply bS|apply bR)<;>intro h<;>try simp at h))<;>(try exact cq));refine bL.whl (c+1,j) (by simp;omega) ⟨by simp;omega,by simp;omega,cj,fun h u J U hu=>?_,c5⟩ (H.weakC au au (by simp[aB]));simp only at U;exact bu.ntr _ _ _ (e3.le bu j6 J (by omega) (by omega) hu aL) qY
   |true=>
    simp;((with_reducible repeat' first|refine ak ?_|simp|((first|apply bO|apply bS|apply bR)<;>intro h<;>try simp at h))<;>(try exact cq));refine bL.whl (i,c) (by simp;omega) ⟨a8,by simp;omega,by simp;omega,eB,fun h u J U hu=>?_⟩ (H.weakC au au (by simp[aB]));cases e:lt z u with
    |true=>rfl
    |false=>have:=bu.ntr _ _ _ (e3.le bu j6 (by omega) J U aL hu) e;rw[qY]at this;cases this
  ·obtain rfl:i=j:=by omega
   refine nH (fun(x:Nat×List α)=>⟨[(4,.ptr (.loc 0) 0),(12,.int .i64 i),(15,.int .i64 x.1)],(.loc 0,[.func g lc,.func b2 bX])::(S x.2).b,(S x.2).e,1,cO (S l)⟩) (fun x=>x.1)
    (fun x=>x.2.length=n∧i≤x.1∧x.1≤m∧gd a (m+1) l x.2∧∀k,x.2[k]? =l[hH x.1 m (m+1) k]?) (m,l)
    (H.weakC au au (by simp[aB])) ⟨au,by simp;omega,by simp,.refl _,fun k=>by simp[IA]⟩ ?_
   rintro⟨k,lk⟩ ⟨aZ,bB,bQ,cS,c6⟩ _;simp only at aZ bB bQ cS c6;simp[Pv.look];((with_reducible repeat' first|refine ak ?_|simp[Pv.look]|((first|apply bO|apply bS|apply bR)<;>intro h<;>try simp at h))<;>(try exact cq))
   ·have bg:((k:Int)-1)=(k-1:Nat):=by omega
    rw[H.ssc,bg];refine H.doSwap aZ k (k-1) (by omega) (by omega) (by omega) ?_;simp;(with_reducible repeat' first|refine ak ?_|simp);refine bL.whl (k-1,gQ lk k (k-1)) (by simp;omega) ⟨by simp[aZ],by simp;omega,by simp;omega,.step cS (by omega) (by omega) (by omega) (by omega) (by omega) (by omega),fun t=>?_⟩ (H.weakC au (by simp[aZ]) (by simp[aB];omega));rw[y9 _ _ _ _ (by omega) (by omega),c6,c6,c6];have:hH (k-1) m (m+1) t=if t=k then hH k m (m+1) (k-1)else if t=k-1 then hH k m (m+1) k else hH k m (m+1) t:=by
     simp only[hH];repeat' split
     all_goals omega
    rw[this];split
    ·rfl
    ·split<;>rfl
   ·obtain rfl:i=k:=by omega
    refine H.ret au aZ (.inl rfl) ⟨rfl,lk,rfl,cS,aex bu (by omega) cj (by omega) j6 bC eB c5 c6⟩
 ·obtain⟨mid,Io⟩:∃mid,mid=(a+b)/2:=⟨_,rfl⟩;have hw:=DR a b (by omega);rw[←Io]at hw;simp only[hw];(with_reducible repeat' first|((first|apply bO|apply bS|apply bR)<;>intro h<;>try simp at h)|refine ak ?_|simp[hu,av,cE,aA])
  ·exact Uv (s0:=mid+m-b) (r0:=mid) H (by simp[cE,aA]) aQ bu bM (a:=a) (m:=m) (b:=b) (mid:=mid) (by simp) (by simp) (by simp) (by simp) (by simp) (by simp) (by simp;omega) (by simp) au ⟨AY,uU,Io⟩ (by omega) ae aP j6 oJ fun gE t o aZ bB=>H.ret au (by rw[aZ.length];exact au) (.inr rfl) ⟨rfl,gE,rfl,aZ,bB⟩
  ·exact Uv (s0:=a) (r0:=m) H (by simp[cE,aA]) aQ bu bM (a:=a) (m:=m) (b:=b) (mid:=mid) (by simp) (by simp) (by simp) (by simp) (by simp) (by simp) (by simp) (by simp) au ⟨AY,uU,Io⟩ (by omega) ae aP j6 oJ fun gE t o aZ bB=>H.ret au (by rw[aZ.length];exact au) (.inr rfl) ⟨rfl,gE,rfl,aZ,bB⟩
end Go.Proofs.YtahlgcidhnjlbaaGreat
namespace Go.Proofs.YtahlgcidhnjlbaaGreat
open Go Go.Pv
variable {α:Type} {S:List α→cF} {n g b2:Nat} {lc bX:List ah} {lt:α→α→Bool}
def og(lt:α→α→Bool)(z a b:Nat)(l:List α):Prop:= ∀i j x y,a≤i→i<j→j<b→i/z=j/z→l[i]? =some x→l[j]? =some y→lt y x=false
theorem og.snoc{z q:Nat}(bC:0<z){l aX:List α}(h:og lt z 0 (q*z) l){b:Nat}(ag:gd (q*z) b l aX)(U:e3 lt (q*z) b aX):og lt z 0 b aX:=by
 intro i j x y hi ly af aP ad aL;by_cases Qt:j<q*z
 ·rw[ag.out _ (.inl (by omega))]at ad;rw[ag.out _ (.inl Qt)]at aL;exact h i j x y hi ly Qt aP ad aL
 ·have al:q≤j/z:=(Nat.le_div_iff_mul_le bC).2 (by omega);have a6:q*z≤i:=(Nat.le_div_iff_mul_le bC).1 (by omega);exact U i j x y a6 ly af ad aL
theorem og.srt{z q:Nat}(bC:0<z){l:List α}{a b:Nat}(h:og lt z a b l){c:Nat}(amb:a≤q*z)(aw:c≤(q+1)*z)(amd:c≤b):e3 lt (q*z) c l:=by intro i j x y hi ly af ad aL;have ho:i/z=q:=Nat.div_eq_of_lt_le hi (by omega);have o8:j/z=q:=Nat.div_eq_of_lt_le (by omega) (by omega);exact h i j x y (by omega) ly (by omega) (by omega) ad aL
theorem og.after{z a b bj bY:Nat}{l aX:List α}(h:og lt z a b l)(ag:gd a bj l aX)(bD:a≤bj)(ae:bY≤b):og lt z bj bY aX:=by intro i j x y hi ly af aP ad aL;rw[ag.out _ (.inr (by omega))]at ad;rw[ag.out _ (.inr (by omega))]at aL;exact h i j x y (by omega) ly (by omega) aP ad aL
theorem HR(H:eV S n g b2 lc bX lt)(bu:pN lt)(l:List α)(au:l.length=n):
  bJ ao 199 [eK g b2 lc bX,.int .i64 n] (S l) fun r ai=>r= .tuple []∧∃aX,ai=S aX∧gd 0 n l aX∧e3 lt 0 n aX:=by
 have ag:=H.ok l;have aA:∀l m,Pv.look (.loc m) (S l).b=none:=fun l=>(H.ok l).obj.1;have hu:∀l m cs,cw (.loc m) cs (S l).b=(S l).b++[(.loc m,cs)]:=fun l m cs=>jE (aA l m);have av:∀m,aD.loc m∉cO (S l):=jz ag.obj;have hle:=H.le;refine bJ.mk mixed zV Z0 ago (by simp) ag.obj fun aR c1=>?_;unfold NT;simp[eK,hu,av,cE,aA];refine nH (fun(x:Nat×List α)=>⟨[(1,.int .i64 n),(2,.ptr (.loc 0) 0),(4,.int .i64 20),(5,.int .i64 (x.1*20)),(6,.int .i64 (x.1*20+20))],(.loc 0,[.func g lc,.func b2 bX])::(S x.2).b,(S x.2).e,1,cO (S l)⟩) (fun x=>n+20-x.1*20)
  (fun x=>x.2.length=n∧x.1*20≤n∧gd 0 n l x.2∧og lt 20 0 (x.1*20) x.2) (0,l)
  (H.weak au au (by simp[aB]) (by simp[cE,aA]) aQ aQ) ⟨au,by simp,.refl _,fun i j x y J U al=>by simp at al⟩ ?_
 rintro⟨q,lk⟩ ⟨J,U,al,a6⟩ _;simp only at J U al a6;simp[Pv.look];((with_reducible repeat' first|refine ak ?_|simp[Pv.look]|((first|apply bO|apply bS|apply bR)<;>intro h<;>try simp at h))<;>(try exact cq))
 ·have aj:((q:Int)*20)=(q*20:Nat):=by omega
  have aC:((q:Int)*20+20)=(q*20+20:Nat):=by omega
  simp only[hY H,H.slc,H.ssc,hS,aC];simp only[aj];refine H.doFn J (PJ H bu lk J (q*20) (q*20+20) (by omega) (by omega)) (fun aX h=>by rw[h.1.length];exact J) (by simp[aH,aB,H.kdata J]) ?_;rintro aX ⟨cL,dm⟩;have r2:aX.length=n:=by rw[cL.length];exact J
  simp;((with_reducible repeat' first|refine ak ?_|simp|((first|apply bO|apply bS|apply bR)<;>intro h<;>try simp at h))<;>(try exact cq));refine bL.whl (q+1,aX) (by simp;omega) ⟨r2,by simp;omega,al.trans (cL.mono (by omega) (by omega)),?_⟩ (H.weakC au r2 (by simp[aB];omega));have:=a6.snoc (by omega) cL dm;rwa[show q*20+20=(q+1)*20 by omega]at this
 ·have aj:((q:Int)*20)=(q*20:Nat):=by omega
  simp only[hY H,H.slc,H.ssc,hS,aj];refine H.doFn J (PJ H bu lk J (q*20) n (by omega) (by omega)) (fun aX h=>by rw[h.1.length];exact J) (by simp[aH,aB,H.kdata J]) ?_;rintro aX ⟨cL,dm⟩;have r2:aX.length=n:=by rw[cL.length];exact J
  have fs:=a6.snoc (by omega) cL dm;simp;refine nH (fun(x:Nat×List α)=>⟨[(1,.int .i64 n),(2,.ptr (.loc 0) 0),(4,.int .i64 x.1)],(.loc 0,[.func g lc,.func b2 bX])::(S x.2).b,(S x.2).e,1,cO (S l)⟩) (fun x=>1099511627776-x.1)
   (fun x=>x.2.length=n∧20≤x.1∧x.1≤2*n+20∧gd 0 n l x.2∧og lt x.1 0 n x.2) (20,aX)
   (H.weakC au r2 (by simp[aB])) ⟨r2,by simp,by simp,al.trans (cL.mono (by omega) (by omega)),fs⟩ ?_
  rintro⟨z,Sh⟩ ⟨kv,z2,z3,z4,z5⟩ _;simp only at kv z2 z3 z4 z5;simp[Pv.look];((with_reducible repeat' first|refine ak ?_|simp[Pv.look]|((first|apply bO|apply bS|apply bR)<;>intro h<;>try simp at h))<;>(try exact cq))
  ·refine nH (fun(x:Nat×List α)=>⟨[(1,.int .i64 n),(2,.ptr (.loc 0) 0),(4,.int .i64 z),(5,.int .i64 (x.1*(2*z):Nat)),(6,.int .i64 (x.1*(2*z)+2*z:Nat))],(.loc 0,[.func g lc,.func b2 bX])::(S x.2).b,(S x.2).e,1,cO (S l)⟩) (fun x=>n+2*z-x.1*(2*z))
    (fun x=>x.2.length=n∧x.1*(2*z)≤n∧gd 0 n l x.2∧og lt (2*z) 0 (x.1*(2*z)) x.2∧og lt z (x.1*(2*z)) n x.2) (0,Sh)
    (H.weakC au kv (by simp[aB])) ⟨kv,by simp,z4,fun i j x y J U al=>by simp at al,by simpa using z5⟩ ?_
   rintro⟨p,BL⟩ ⟨eD,dq,n9,mc,CM⟩ _;simp only at eD dq n9 mc CM;obtain⟨A,bd⟩:∃A,A=p*(2*z):=⟨_,rfl⟩;have DN:A=(2*p)*z:=by rw[bd,Nat.mul_comm 2 p,Nat.mul_assoc]
   have HW:(2*p+1)*z=A+z:=by rw[oZ,←DN,Nat.one_mul]
   have abv:(2*p+2)*z=A+2*z:=by rw[oZ,←DN]
   have yt:(p+1)*(2*z)=A+2*z:=by rw[oZ,←bd,Nat.one_mul]
   have j6:∀c,c≤A+z→c≤n→e3 lt A c BL:=fun c aw yz=>by have:=og.srt (q:=2*p) (by omega) CM (c:=c) (by rw[←DN,bd];omega) (by rw[HW];exact aw) yz;rwa[←DN]at this
   have oJ:∀c,c≤A+2*z→c≤n→e3 lt (A+z) c BL:=fun c aw yz=>by have:=og.srt (q:=2*p+1) (by omega) CM (c:=c) (by rw[HW,bd];omega) (by rw[abv];exact aw) yz;rwa[HW]at this
   rw[←bd]at dq mc CM;simp only[←bd];simp[Pv.look];((with_reducible repeat' first|refine ak ?_|simp[Pv.look]|((first|apply bO|apply bS|apply bR)<;>intro h<;>try simp at h))<;>(try exact cq))
   ·have bg:((A:Int)+z)=(A+z:Nat):=by omega
    have da:((A:Int)+2*z)=(A+2*z:Nat):=by omega
    simp only[hY H,H.slc,H.ssc,hS,bg,da];refine H.doFn eD (PR H bu (A+2*z-A) BL A (A+z) (A+2*z) eD (by omega) (by omega) (by omega) (by omega) (j6 _ (by omega) (by omega)) (oJ _ (by omega) (by omega))) (fun aX h=>by rw[h.1.length];exact eD) (by simp[aH,aB,H.kdata eD]) ?_;rintro gE ⟨kg,oa⟩;have nN:gE.length=n:=by rw[kg.length];exact eD
    simp;(with_reducible repeat' first|refine ak ?_|simp);refine bL.whl (p+1,gE) (by simp only[yt,←bd];omega) ⟨nN,by simp only[yt];omega,n9.trans (kg.mono (by omega) (by omega)),?_,?_⟩ ?_
    ·simp only[yt];rw[bd]at mc kg oa;have:=mc.snoc (by omega) kg oa;rwa[←bd]at this
    ·simp only[yt];exact CM.after kg (by omega) (by omega)
    ·simp only[yt];have abw:((p:Int)+1)*(2*(z:Int))=(A:Int)+2*z:=by have h:=e1 (Nat.cast:Nat→Int) yt;push_cast at h;exact h
     exact H.weakC au nN (by simp[aB,abw])
   ·have bg:((A:Int)+z)=(A+z:Nat):=by omega
    simp only[hY H,H.slc,H.ssc,hS,bg];refine H.doFn eD (PR H bu (n-A) BL A (A+z) n eD (by omega) (by omega) (by omega) (by omega) (j6 _ (by omega) (by omega)) (oJ _ (by omega) (by omega))) (fun aX h=>by rw[h.1.length];exact eD) (by simp[aH,aB,H.kdata eD]) ?_;rintro gE ⟨kg,oa⟩;have nN:gE.length=n:=by rw[kg.length];exact eD
    simp;((with_reducible repeat' first|refine ak ?_|simp|((first|apply bO|apply bS|apply bR)<;>intro h<;>try simp at h))<;>(try exact cq));refine bL.whl (2*z,gE) (by simp;omega) ⟨nN,by simp;omega,by simp;omega,n9.trans (kg.mono (by omega) (by omega)),?_⟩ (H.weakC au nN (by simp[aB];omega));rw[bd]at mc kg oa;exact mc.snoc (by omega) kg oa
   ·refine bL.whl (2*z,BL) (by simp;omega) ⟨eD,by simp;omega,by simp;omega,n9,?_⟩ (H.weakC au eD (by simp[aB];omega));have bW:=j6 n (by omega) (by omega);rw[bd]at mc bW;exact mc.snoc (by omega) (.refl _) bW
  ·refine H.ret au kv (.inr rfl) ?_;refine⟨rfl,Sh,rfl,z4,fun i j x y J U al=>z5 i j x y J U al ?_⟩;rw[Nat.div_eq_of_lt (by omega),Nat.div_eq_of_lt (by omega)]
end Go.Proofs.YtahlgcidhnjlbaaGreat
namespace Go.Proofs.YtahlgcidhnjlbaaGreat
open Go Go.Pv Go.Sort Go.RowKit
theorem acK{w:World}{base:Nat}{e:fT}{sz:Nat}{v:Value}{n:Nat}{us:List Value}(h:w.ownsRow base e sz v n us)(aK:v≠ .slice none 0 0):
  ∃g cap,v= .slice (some ⟨g,0,none⟩) n cap∧g<w.heap.size∧cap≤maxLen∧n≤cap∧us.length=n*sz∧Holds id w g 0 us.toArray:=by
 rcases h.2 with⟨ff,_⟩|⟨g,cap,cur,rfl,ae,a1,aA,hm,ag,aO⟩
 ·exact absurd ff aK
 ·have bu:g<w.heap.size:=by
   rcases Nat.lt_or_ge g w.heap.size with cp|cp
   ·exact cp
   ·rw[Array.getElem?_eq_none cp]at a1;cases a1
  refine⟨g,cap,rfl,bu,hm,aA,h.1,fun j af=>?_⟩;have iU:j<us.length:=by simpa using af
  have au:=h.1;refine⟨?_,by simp[World.frozen?,a1]⟩;have aj:(cur.toList.take (n*sz))[j]? =us[j]?:=by rw[aO]
  rw[List.getElem?_take,if_pos (by omega),sG,ca iU]at aj;simp only[World.cell?,a1,Nat.zero_add];simp only[lK,gI,if_false];rw[aj];simp[getElem!_pos,iU]
theorem agY{w:World}{base:Nat}{e:fT}{sz g n cap q:Nat}{us:List Value}{F:Array Value}(h:w.ownsRow base e sz (.slice (some ⟨g,0,none⟩) n cap) n us)(gw:F.size=n*sz):
  (putRow id (Sort.ahead w q) g 0 F).ownsRow base e sz (.slice (some ⟨g,0,none⟩) n cap) n F.toList:=by
 rcases h.2 with⟨ff,_⟩|⟨e8,Dp,cur,ff,ae,a1,aA,hm,ag,aO⟩
 ·cases ff
 ·injection ff with aj _ bg;injection aj with aj;injection aj with aj;subst aj;subst bg;refine⟨by simpa using gw,.inr ⟨g,cap,putCells id 0 F cur,rfl,ae,?_,aA,hm,by simpa[putCells]using ag,?_⟩⟩
  ·simp[putRow,mapBlock,Sort.ahead,Array.getElem?_modify,a1,onCells]
  ·have hle:n*sz≤cur.size:=by rw[ag];exact Nat.mul_le_mul_right _ aA
   apply List.ext_getElem?;intro j;rw[List.getElem?_take,sG,sG];by_cases af:j<n*sz
   ·have ace:j<cur.size:=by omega
    simp only[if_pos af,putCells,Array.getElem?_mapIdx,Array.getElem?_eq_getElem ace,ny];rw[if_pos (by omega)];simp[getElem!_pos,show j<F.size by omega]
   ·simp[af];omega
end Go.Proofs.YtahlgcidhnjlbaaGreat
namespace Go.Pv
open Go Go.RowKit Go.Lib Go.Sort Go.Proofs.YtahlgcidhnjlbaaGreat
theorem RK{S:aD→Prop}:∀{l:List ah},aH S l↔∀x∈l,aB S x
 |[]=>by simp[aH]
 |x::r=>by simp only[aH,RK (l:=r),fU,forall_eq_or_imp]
theorem RC{α:Type}{s:cF}{l:List (aD×α)}:lE s l↔∀k,(look k l).isSome→inObs s k:=by
 refine⟨fun h k ab=>y3 h k ab,fun h=>?_⟩;have:∀aX:List (aD×α),(∀x∈aX,inObs s x.1)→lE s aX:=by
  intro aX;induction aX with
  |nil=>intro _;trivial
  |cons x r bM=>obtain⟨k,x⟩:=x;exact fun h=>⟨h (k,x) (by simp),bM fun y aL=>h y (by simp[aL])⟩
 exact this l fun x ad=>h x.1 (tG (x:=x.2) ad)
theorem KH{w:World}{ν:bc}{sz:Nat}:∀{xs:List ah} {us:List Value} {i:Nat} {p:ah},dt w ν sz xs us→xs[i]? =some p→∃u,(us.drop (i*sz)).take sz=u.cells.toList∧a7 w ν p u∧u.cells.size=sz∧∀c∈u.cells.toList,c.oneCell'=true
 |[],_,_,_,_,bF=>by simp at bF
 |x::xs,us,0,p,h,bF=>by simp only[dt]at h;obtain⟨u,cb,rfl,⟨J,U,al⟩,_⟩:=h;simp at bF;subst bF;refine⟨u,?_,J,U,al⟩;simp only[Nat.zero_mul,List.drop_zero];rw[List.take_append_of_le_length (by simp[U])];exact hq (by simp[U])
 |x::xs,us,i+1,p,h,bF=>by simp only[dt]at h;obtain⟨u,cb,rfl,⟨J,U,al⟩,bW⟩:=h;obtain⟨v,aj,aC⟩:=KH (i:=i) bW (by simpa using bF);refine⟨v,?_,aC⟩;rw[←aj,Nat.succ_mul,Nat.add_comm,←List.drop_drop];congr 2;rw[List.drop_append_of_le_length (by simp[U]),List.drop_of_length_le (by simp[U])];rfl
theorem KX:∀(ba:List Value) (s:Nat) (F:Array Value),s+ba.length≤F.size→(setMany F s ba).toList=F.toList.take s++ba++F.toList.drop (s+ba.length)
 |[],s,F,h=>by simp[setMany]
 |v::r,s,F,h=>by
  simp only[pK]at h;rw[setMany,KX r (s+1) _ (by simp;omega)];have bu:s<F.toList.length:=by simp;omega
  have aj:(F.setIfInBounds s v).toList=F.toList.set s v:=by simp
  rw[aj];have aC:(F.toList.set s v).take (s+1)=F.toList.take s++[v]:=by rw[List.take_succ,List.getElem?_set_self bu,List.take_set_of_le (eQ _)];simp
  have bg:(F.toList.set s v).drop (s+1+r.length)=F.toList.drop (s+(v::r).length):=by rw[List.drop_set_of_lt (by omega)];congr 1;simp;omega
  rw[aC,bg];simp
theorem Wk(w:World):Sort.ahead w 0=w:=by simp[Sort.ahead]
theorem PQ{P:cy}(wu:Bool)(b2:Nat)(ad:∀args W,(callFunc b2 args).run P W=((CR wu args).run P W).andThen fun v w'=>.ok (.value v) w')(e:fT)(eb:TypeInfo)(rZ:P.info? e=some eb)(wz:(∀w,(Go.isAgg e).run P w= .ok true w)∨(eb.size=1∧∀w,(Go.isAgg e).run P w= .ok false w)){s:cF}(ag:ee s){K n el sz:Nat}(dW:eb.size=sz){xs:List ah}(ab:look (.obj K) s.e=some ⟨n,el,sz,some xs⟩)
  (i j:Nat) (hi:i<n) (af:j<n):bJ P b2 [.int .i64 i,.int .i64 j,.row sz (.obj K) n,.cst (typeHandle P e)] s fun r ai=>r= .tuple []∧ai=⟨s.b,cw (.obj K) ⟨n,el,sz,some (gQ xs i j)⟩ s.e⟩:=by
 subst dW;refine bJ.sem ag.obj fun w ν ba kp aJ=>?_;right;have s0:=aJ.slot 0;have s1:=aJ.slot 1;have s2:=aJ.slot 2;have s3:=aJ.slot 3;simp[jR,get,a7]at s0 s1 s2 s3;obtain⟨v,us,aZ,bB,bQ,cS⟩:=aJ.good.own (.obj K) _ ab;obtain⟨c6,nl,tP⟩:=cS _ rfl;simp only at c6 nl aZ bB;obtain⟨⟨g0,WQ,uK⟩,_,n',e0,aj,aC,bg⟩:=s2;rw[aZ]at aj;simp only[dz,jb]at aj;obtain⟨rfl,rfl⟩:=aj;have aK:=bg rfl;have cC:v≠ .slice none 0 0:=by rw[←aK,uK];simp
 obtain⟨g,cap,rfl,p4,qN,ab5,A5,AT⟩:=acK bB cC;have ada:ba= #[.int .i64 i,.int .i64 j,.slice (some ⟨g,0,none⟩) n cap,typeHandle P e]:=by
  have J:ba.size=4:=by simpa using kp
  apply Array.ext (by simpa using J);intro t U al;simp at al;rcases(by omega:t=0∨t=1∨t=2∨t=3)with rfl|rfl|rfl|rfl
  ·simpa[Array.getD,J]using s0
  ·simpa[Array.getD,J]using s1
  ·simpa[Array.getD,J]using aK
  ·simpa[Array.getD,J]using s3
 subst ada;obtain⟨p,bF⟩:∃p,xs[i]? =some p:=⟨_,ca (by omega)⟩;obtain⟨q,bp⟩:∃q,xs[j]? =some q:=⟨_,ca (by omega)⟩;obtain⟨u,iA,iY,pC,xP⟩:=KH nl bF;obtain⟨x,rv,xR,ry,Gd⟩:=KH nl bp;have QE:i*eb.size+eb.size≤n*eb.size:=by have:=Nat.mul_le_mul_right eb.size (show i+1≤n from hi);rwa[oZ,Nat.one_mul]at this
 have QF:j*eb.size+eb.size≤n*eb.size:=by have:=Nat.mul_le_mul_right eb.size (show j+1≤n from af);rwa[oZ,Nat.one_mul]at this
 have cell:∀t v,us[t]? =some v→w.cell? ⟨g,t,none⟩=some v:=fun t v aO=>by obtain⟨J,U⟩:=fH.1 aO;have:=(AT t (by simpa using J)).1;simp at this;rw[this];simp[getElem!_pos,J,U]
 have DH:∀t,t<n*eb.size→w.frozen? ⟨g,t,none⟩=false:=fun t aO=>by have:=(AT t (by simpa[A5]using aO)).2;simpa using this
 have run:(CR wu #[.int .i64 i,.int .i64 j,.slice (some ⟨g,0,none⟩) n cap,typeHandle P e]).run P w= .ok (.tuple #[]) ((w.setCells g (0+i*eb.size) x.cells.toList).setCells g (0+j*eb.size) u.cells.toList):=by
  rcases wz with wz|⟨DL,wz⟩
  ·exact run_swap_cells (P:=P) wu e eb rZ wz g 0 n cap i j hi af u.cells.toList x.cells.toList (by simp[pC]) (by simp[ry]) xP Gd w
     (fun k v aK=>by
      rw[←iA,List.getElem?_take]at aK;split at aK
      ·rw[List.getElem?_drop]at aK;simpa using cell _ _ aK
      ·cases aK)
     (fun k v aK=>by
      rw[←rv,List.getElem?_take]at aK;split at aK
      ·rw[List.getElem?_drop]at aK;simpa using cell _ _ aK
      ·cases aK)
     (fun k ab=>by simpa using DH (i*eb.size+k) (by omega)) (fun k ab=>by simpa using DH (j*eb.size+k) (by omega))
  ·rw[DL]at iA pC rv ry⊢;obtain⟨Dt,H6⟩:∃c,u.cells.toList=[c]:=List.length_eq_one_iff.1 (by simpa using pC);obtain⟨oy,k1⟩:∃c,x.cells.toList=[c]:=List.length_eq_one_iff.1 (by simpa using ry);rw[H6]at iA xP⊢;rw[k1]at rv Gd⊢;simp only[World.setCells,Nat.mul_one]at iA rv⊢;have PT:us[i]? =some Dt:=by have:=e1 (·[0]?) iA;simpa using this
   have PV:us[j]? =some oy:=by have:=e1 (·[0]?) rv;simpa using this
   have:=run_swap_one (P:=P) wu e eb rZ DL wz g 0 n cap i j hi af Dt oy (xP Dt (by simp)) (Gd oy (by simp)) w (by simpa using cell i Dt PT) (by simpa using cell j oy PV) (by simpa using DH i (by rw[DL];omega)) (by simpa using DH j (by rw[DL];omega));simpa using this
 have ade:putRow id w g 0 us.toArray=w:=putRow_self id w g 0 _ AT;have ac3:us.toArray.size=n*eb.size:=by simpa using A5
 have Ei:w.setCells g (0+i*eb.size) x.cells.toList=putRow id w g 0 (setMany us.toArray (i*eb.size) x.cells.toList):=by have J:=setCells_putRow w g 0 x.cells.toList (i*eb.size) us.toArray (by simp[ry,A5];exact QE);rw[ade]at J;exact J
 obtain⟨hP,mu⟩:∃hP,hP=setMany us.toArray (i*eb.size) x.cells.toList:=⟨_,rfl⟩;have abB:hP.toList=us.take (i*eb.size)++x.cells.toList++us.drop (i*eb.size+eb.size):=by rw[mu,KX _ _ _ (by simp[ry,A5];exact QE)];simp[ry]
 have HY:hP.size=n*eb.size:=by rw[mu,size_setMany];exact ac3
 have nS:(w.setCells g (0+i*eb.size) x.cells.toList).setCells g (0+j*eb.size) u.cells.toList=putRow id w g 0 (setMany hP (j*eb.size) u.cells.toList):=by rw[Ei,←mu,setCells_putRow w g 0 u.cells.toList (j*eb.size) hP (by simp[pC,HY];exact QF)]
 obtain⟨h0,AS⟩:∃h0,h0=setMany hP (j*eb.size) u.cells.toList:=⟨_,rfl⟩;have abC:h0.toList=hP.toList.take (j*eb.size)++u.cells.toList++hP.toList.drop (j*eb.size+eb.size):=by rw[AS,KX _ _ _ (by simp[pC,HY];exact QF)];simp[pC]
 have abD:h0.size=n*eb.size:=by rw[AS,size_setMany];exact HY
 have dC:=Fz nl bF xR ry Gd;rw[←abB]at dC;have e6:=Fz (i:=j) (q:=q) dC (by rw[List.getElem?_set];split;(rename_i e;subst e;rw[if_pos (by omega)]);exact bp) iY pC xP;rw[←abC]at e6;have Bs:(xs.set i q).set j p=gQ xs i j:=by simp[gQ,bF,bp]
 rw[Bs]at e6;have hlen:(gQ xs i j).length=n:=by simpa using c6
 have k3:=agY (q:=0) (F:=h0) bB abD;rw[Wk]at k3;obtain⟨kg,oa,_⟩:=aJ.setRowM (w':=putRow id w g 0 h0) ab rfl aZ (bl:=g) rfl (v':= .slice (some ⟨g,0,none⟩) n cap) rfl (xs':=gQ xs i j) (us:=h0.toList) (.inl ⟨hlen,rfl⟩) rfl rfl rfl
  (fun t aO=>by simp[putRow,mapBlock,Array.getElem?_modify,ky aO]) (by simp[putRow,mapBlock]) (by rw[hlen];exact k3) e6
 refine⟨.tuple #[],putRow id w g 0 h0,?_,?_⟩
 ·rw[ad,run,nS,←AS];rfl
 ·have iT:∀k,inObs ⟨s.b,cw (.obj K) ⟨n,el,eb.size,some (gQ xs i j)⟩ s.e⟩ k↔inObs s k:=fun k=>by
   unfold inObs;simp only[iw];by_cases c4:aD.obj K=k
   ·subst c4;simp[ab]
   ·simp[c4]
  refine⟨_,_,_,_,.tuple [],⟨s.b,cw (.obj K) ⟨n,el,eb.size,some (gQ xs i j)⟩ s.e⟩,rfl,kg,by simp[a7,cH],RC.2 fun k nf=>(iT k).2 (.inl nf),RC.2 fun k nf=>(iT k).2 (.inr nf),fun k cs aw=>⟨aw,(iT k).2 (.inl (by simp at aw;simp[aw])),jw (fun k h=>(iT k).2 h) _ (ag.kb k cs aw)⟩,fun k o av=>⟨by simpa[hlen]using av,?_,fun ys aL=>?_⟩,⟨ag.obj.1,fun m=>?_⟩,by simp[aB,aH],rfl,rfl⟩
  ·exact(.inr (by simp at av;simp[av]))
  ·simp only[iw]at av;split at av
   ·cases av;simp only[dz]at aL;subst aL;have Qy:=ag.ke _ _ ab xs rfl;refine jw (fun k h=>(iT k).2 h) _ ?_;rw[RK]at Qy⊢;exact fun z bC=>Qy z ((Sg xs i j).mem_iff.1 bC)
   ·exact jw (fun k h=>(iT k).2 h) _ (ag.ke k o av ys aL)
  ·simp only[iw];simp[ag.obj.2 m]
theorem PO{P:cy}(wu:Bool)(b2:Nat)(ad:∀args W,(callFunc b2 args).run P W=((CR wu args).run P W).andThen fun v w'=>.ok (.value v) w')(e:fT)(eb:TypeInfo)(rZ:P.info? e=some eb)(wz:∀w,(Go.isAgg e).run P w= .ok true w){s:cF}(ag:ee s){K n el sz:Nat}(dW:eb.size=sz){xs:List ah}(ab:look (.obj K) s.e=some ⟨n,el,sz,some xs⟩)
  (i j:Nat) (hi:i<n) (af:j<n):bJ P b2 [.int .i64 i,.int .i64 j,.row sz (.obj K) n,.cst (typeHandle P e)] s fun r ai=>r= .tuple []∧ai=⟨s.b,cw (.obj K) ⟨n,el,sz,some (gQ xs i j)⟩ s.e⟩:=PQ wu b2 ad e eb rZ (.inl wz) ag dW ab i j hi af
end Go.Pv
namespace Go.Proofs.YtahlgcidhnjlbaaGreat
open Go Go.RowKit Go.Lib Go.Sort Go.Pv
set_option maxRecDepth 100000 in
theorem aiE(t e:fT)(i eb:TypeInfo)(hi:ao.info? t=some i)(aP:i.desc= .slice e)(Bl:ao.packed t=false)(rZ:ao.info? e=some eb)(ke:Nat)(tn:∀w,(VP e).run ao w= .ok ke w)
  (p:aW Addr) (n c:Nat) (aA:n<4611686018427387904) (f:Nat) (aI:ao.funcs.findIdx? (·.name== "internal/reflectlite" ++ ".Swapper$" ++toString (swapperK n eb ke))=some f) (Sc:Fn) (Jg qc:Array Value) (w:World) (R:World→Prop)
  (bF:Calls ao 199 #[.agg #[.func Sc Jg qc,.func (.func f) #[] (sliceBound ao e eb ke p n c)],.int .i64 n] ((w.alloc (.cells #[.slice p n c] t)).alloc (.cells #[typeHandle ao t,.pointer (some ⟨w.heap.size,0,none⟩),.int .u64 151] 179)) fun e w'=>e= .returned (.tuple #[])∧R w'):
  Calls ao 140 #[.iface t (.slice p n c),.func Sc Jg qc] w fun e w'=>e= .returned (.tuple #[])∧R w':=by
 have aK:=run_valueOf_slice (P:=ao) t e i hi aP p n c w;have ag:=fun w=>run_swapper_slice (P:=ao) t e i eb hi aP rZ ke tn p n c f aI w;have au:=fun a w bD=>run_valueLen_slice (P:=ao) t e i hi aP Bl a p n c w bD;unfold sliceBound at bF;generalize (if swapperK n eb ke≤2 then(#[]:Array Value)else #[.slice p n c,typeHandle ao e])=B at ag bF;have ab8:ao.globals.size=0:=by kernel_rfl
 simp only[typeHandle,ab8]at aK au bF;have Dw:∀args w,(callFunc 199 args).run ao w= .ok (.enter 199 args) w:=enters_of Tryz.func199 (by kernel_rfl) rfl;go_enter Tryz.func140,Tryz.ntmps140;go_wp2;rw[run_callFunc_extern Tryz.func197 (by kernel_rfl) (by kernel_rfl) (by kernel_rfl) (e:=fun args=>akK (args.getD 0 (.tuple #[]))) (by kernel_rfl),
  show Sem.run ao ((fun args:Array Value=>akK (args.getD 0 (.tuple #[]))) #[.iface t (.slice p n c)]) w=_ from aK]
 simp only[Result.andThen];rw[Oper.upon_value];go_wp2;rw[run_callFunc_extern Tryz.func198 (by kernel_rfl) (by kernel_rfl) (by kernel_rfl) (e:=apw "internal/reflectlite" (akL "Swapper")) (by kernel_rfl),ag];simp only[Result.andThen];rw[Oper.upon_value];go_wp2;rw[run_callFunc_extern Tryz.func200 (by kernel_rfl) (by kernel_rfl) (by kernel_rfl) (e:=apy (akL "reflectlite.Value.Len" 0) apx) (by kernel_rfl),
  au _ _ (by simp)]
 simp only[Result.andThen];rw[Oper.upon_value];go_wp2_with (go_at_fn 199;refine bF.mono ?_;rintro e w' ⟨rfl,bh⟩);go_end0;exact⟨rfl,bh⟩
theorem _root_.Go.Pv.Good.prMono{pr Cb:Nat→Prop}{w:World}{ν:bc}{b:List (aD×List ah)}{e:List (aD×fF)}(h:Pv.Good pr w ν b e)(bF:∀bl,pr bl→fp ν ⟨b,e⟩ bl→Cb bl):Pv.Good Cb w ν b e:=by
 refine⟨h.alt,fun k cs ab=>?_,h.inj,fun g o a1=>?_,h.oinj,h.obx,h.one,h.otr⟩
 ·obtain⟨bl,us,el,f1,f2,f3⟩:=h.box k cs ab;exact⟨bl,us,el,f1,bF bl f2 (.inl ⟨k,by simp[ab],f1⟩),f3⟩
 ·obtain⟨v,us,f1,f2,f3,f4⟩:=h.own g o a1;exact⟨v,us,f1,f2,fun bl ae=>⟨bF bl (f3 bl ae).1 (.inr ⟨g,o.n,v,by simp[a1],f1,ae⟩),(f3 bl ae).2⟩,f4⟩
theorem PW(w:World)(gF gy:Obj):w.grownBy ((w.alloc gF).alloc gy) none:=by
 have J:w.heap.size≤(w.alloc gF).heap.size:=by simp
 have U:(w.alloc gF).heap.size≤((w.alloc gF).alloc gy).heap.size:=by simp
 exact⟨rfl,rfl,rfl,jT J U,fun k ab _=>(Below.heap_alloc _ gy k (Nat.lt_of_lt_of_le ab J)).trans (Below.heap_alloc w gF k ab)⟩
def dI{α:Type}(e:α→ah)(K B el sz:Nat)(l:List α):cF:=⟨[(.obj B,[.row sz (.obj K) l.length])],[(.obj K,⟨l.length,el,sz,some (l.map e)⟩)]⟩
section
variable {α:Type} {e:α→ah} (he:∀S x,aB S (e x)) {K B el sz:Nat}
include he
theorem adX(S:aD→Prop)(l:List α):aH S (l.map e):=by
 induction l with
 |nil=>simp[aH]
 |cons x r bM=>simp only[gX,aH];exact⟨he S x,bM⟩
theorem vW(l:List α):ee (dI e K B el sz l):=by unfold dI;refine ee.of ⟨by intro m;simp[Pv.look],by intro m;simp[Pv.look]⟩ (by simp[aH,aB,inObs,Pv.look]) ?_;intro x ad xs hV;simp at ad;subst ad;simp at hV;subst hV;exact adX he _ l
omit he in
theorem vX(l aX:List α):Same (dI e K B el sz l) (dI e K B el sz aX):=by
 refine⟨fun k=>?_,fun k=>?_⟩
 ·simp only[dI,Pv.look];split<;>rfl
 ·simp only[dI,Pv.look];split<;>rfl
theorem aaR(t:fT)(i eb:TypeInfo)(hi:ao.info? t=some i)(aP:i.desc= .slice el)(Bl:ao.packed t=false)(rZ:ao.info? el=some eb)(ke:Nat)(tn:∀w,(VP el).run ao w= .ok ke w)(rT:∀n,2≤n→swapperK n eb ke=9)
  (g:Nat) (lt:α→α→Bool) (bu:pN lt) (l:List α) (au:l.length≤68719476736)
  (wN:∀aX:List α,aX.length=l.length→∀(i j:Nat) x y,aX[i]? =some x→aX[j]? =some y→bJ ao g [.int .i64 i,.int .i64 j,.ptr (.obj B) 0] (dI e K B el sz aX) fun r ai=>r= .bool (lt x y)∧ai=dI e K B el sz aX)
  (yS:∀aX:List α,aX.length=l.length→∀i j:Nat,i<l.length→j<l.length→bJ ao 230 [.int .i64 i,.int .i64 j,.row sz (.obj K) l.length,.cst (typeHandle ao el)] (dI e K B el sz aX) fun r ai=>r= .tuple []∧ai=dI e K B el sz (gQ aX i j)):
  bJ ao 140 [.iface t (.row sz (.obj K) l.length),.func g [.ptr (.obj B) 0]] (dI e K B el sz l) fun r ai=>r= .tuple []∧∃aX,ai=dI e K B el sz aX∧aX.Perm l∧aX.Pairwise fun x y=>lt y x=false:=by
 have A2:ao.funcs.findIdx? (·.name== "internal/reflectlite" ++ ".Swapper$" ++toString 1)=some 222:=by kernel_rfl
 have tg:ao.funcs.findIdx? (·.name== "internal/reflectlite" ++ ".Swapper$" ++toString 2)=some 223:=by kernel_rfl
 have Ib:ao.funcs.findIdx? (·.name== "internal/reflectlite" ++ ".Swapper$" ++toString 9)=some 230:=by kernel_rfl
 have IG:∃f bX,ao.funcs.findIdx? (·.name== "internal/reflectlite" ++ ".Swapper$" ++toString (swapperK l.length eb ke))=some f∧(bX=(if swapperK l.length eb ke≤2 then []else [ah.row sz (.obj K) l.length,.cst (typeHandle ao el)]))∧
   bJ ao 199 [eK g f [.ptr (.obj B) 0] bX,.int .i64 l.length] (dI e K B el sz l) fun r ai=>r= .tuple []∧∃aX,ai=dI e K B el sz aX∧gd 0 l.length l aX∧e3 lt 0 l.length aX:=by
  have eS:=fun aX=>vW (K:=K) (B:=B) (el:=el) (sz:=sz) he aX;rcases(by omega:l.length=0∨l.length=1∨2≤l.length)with bs|J|U
  ·refine⟨222,[],by rw[bs];exact A2,by rw[bs];rfl,HR (lt:=lt) ⟨eS,fun jx gE _ _=>vX jx gE,fun aX _=>by simp[aH,aB,inObs,dI,Pv.look],fun aX _=>by simp[aH],by simp[dn,cU],rfl,au,fun aX h=>wN aX h,fun aX _ U i j hi=>by omega⟩ bu l rfl⟩
  ·refine⟨223,[],by rw[J];exact tg,by rw[J];rfl,HR (lt:=lt) ⟨eS,fun jx gE _ _=>vX jx gE,fun aX _=>by simp[aH,aB,inObs,dI,Pv.look],fun aX _=>by simp[aH],by simp[dn,cU],rfl,au,fun aX h=>wN aX h,fun aX _ U i j hi af=>by omega⟩ bu l rfl⟩
  ·refine⟨230,_,by rw[rT _ U];exact Ib,rfl,?_⟩;rw[rT _ U];simp only[show¬((9:Nat)≤2)from by decide,if_false];exact HR (lt:=lt) ⟨eS,fun jx gE _ _=>vX jx gE,fun aX _=>by simp[aH,aB,inObs,dI,Pv.look],fun aX _=>by simp[aH,aB,inObs,dI,Pv.look],by simp[dn,cU],by simp[dn,cU],au,fun aX h=>wN aX h,fun aX h _ i j hi af=>yS aX h i j hi af⟩ bu l rfl
 obtain⟨f,bX,aI,IC,c9⟩:=IG;intro w ν ba a1 ad aJ;have pa:=cJ.start (vW he l).obj a1 ad aJ;have Iy:=aJ;simp only[cH,a7]at aJ;obtain⟨v0,vs1,hv0,⟨u,rfl,⟨b,cap,rfl⟩,eX,n',e0,aj,aC,bg⟩,v1,vs2,hv1,⟨qc,rfl,p5⟩,rfl⟩:=aJ;have kp:ba= #[.iface t (.slice (some ⟨b,0,none⟩) l.length cap),.func (.func g) #[] qc]:=by apply Array.ext';rw[hv0,hv1]
 subst kp;have p3:∃fn,ao.funcs[(140:Nat)]? =some fn∧fn.body.isSome=true∧(fn.name== "runtime.NumGoroutine")=false:=⟨_,Tryz.func140,by kernel_rfl,by kernel_rfl⟩;refine .inl ⟨p3,?_⟩;obtain⟨dq,nS⟩:∃dq,dq=(w.alloc (.cells #[.slice (some ⟨b,0,none⟩) l.length cap] t)).alloc (.cells #[typeHandle ao t,.pointer (some ⟨w.heap.size,0,none⟩),.int .u64 151] 179):=⟨_,rfl⟩;have ju:w.grownBy dq none:=by rw[nS];exact PW _ _ _
 have Iz:=pa.grown ju;have ko:kT w ν dq ν:=⟨fun b o bd=>⟨bd,Dq ju (a1.alt b o bd)⟩,fun _ _ _ h=>h,fun _ n u _ h=>⟨n,u,h,.inl ⟨rfl,rfl⟩⟩,fun b o bd=>vB (ju.block b (a1.alt b o bd) (by simp)),fun _ _ _ _ h=>h⟩;have qN:Pv.Good (fp ν (dI e K B el sz l)) dq ν (dI e K B el sz l).b (dI e K B el sz l).e:=Iz.good.prMono fun bl _ h=>h;have kG:=FE ko Iy;simp only[cH]at kG;obtain⟨a0,Wv,rU,Bn,bz,Ww,kE,acS,rfl⟩:=kG;simp at rU;obtain⟨rfl,rfl⟩:=rU;simp at kE;subst kE;have IB:a7 dq ν (.row sz (.obj K) l.length) (.slice (some ⟨b,0,none⟩) l.length cap):=by simp only[a7]at Bn;obtain⟨u,hu,h⟩:=Bn;simp at hu;obtain⟨_,rfl⟩:=hu;simp only[a7];exact h
 have p6:cH dq ν bX (sliceBound ao el eb ke (some ⟨b,0,none⟩) l.length cap).toList:=by
  unfold sliceBound;rw[IC];split
  ·simp[cH]
  ·simp only[cH];exact⟨_,_,rfl,IB,_,_,rfl,by simp[a7],rfl⟩
 have tc:cH dq ν [eK g f [.ptr (.obj B) 0] bX,.int .i64 l.length] (#[.agg #[.func (.func g) #[] qc,.func (.func f) #[] (sliceBound ao el eb ke (some ⟨b,0,none⟩) l.length cap)],.int .i64 l.length]:Array Value).toList:=by simp only[cH,eK];refine⟨_,_,rfl,?_,_,_,rfl,by simp[a7],rfl⟩;simp only[a7,c0];exact⟨_,rfl,_,_,rfl,⟨⟨qc,rfl,FE ko p5⟩,rfl⟩,_,_,rfl,⟨⟨_,rfl,p6⟩,rfl⟩,rfl⟩
 have H8:=c9 dq ν _ qN ad tc;have Dw:∀args w,(callFunc 199 args).run ao w= .ok (.enter 199 args) w:=enters_of Tryz.func199 (by kernel_rfl) rfl;rcases H8 with⟨_,aw⟩|⟨v,w',aw,_⟩
 ·have Im:=aiE t el i eb hi aP Bl rZ ke tn (some ⟨b,0,none⟩) l.length cap (by omega) f aI (.func g) #[] qc w
   (fun w'=> ∃ai bn,(∃aX,ai=dI e K B el sz aX∧gd 0 l.length l aX∧e3 lt 0 l.length aX)∧Pv.Good (fun bl=>fp ν (dI e K B el sz l) bl∨dq.heap.size≤bl) w' bn ai.b ai.e∧oD bn ai∧ix ai∧pM ⟨dq,ν,fp ν (dI e K B el sz l),0,cO (dI e K B el sz l)⟩ w' bn) (by
    rw[←nS];refine aw.mono ?_;rintro e w' ⟨v,r,ai,bn,rfl,⟨rfl,bp⟩,uX,a6,bW,c3,dV⟩;simp only[a7,cH]at uX;obtain⟨us,rfl,p8⟩:=uX;have:us= #[]:=by apply Array.ext';simpa using p8
    subst this;exact⟨rfl,ai,bn,bp,a6,bW,c3,dV⟩)
  refine Im.mono ?_;rintro e w' ⟨rfl,ai,bn,⟨aX,rfl,Eg,yR⟩,a6,bW,c3,dV⟩;refine⟨.tuple #[],.tuple [],_,bn,rfl,⟨rfl,aX,rfl,Eg.perm,?_⟩,by simp[a7,cH],a6.prMono fun bl h _=>?_,bW,c3,⟨dV.os.trans ju.os,dV.tape.trans ju.tape,dV.output.trans ju.output,jT ju.size dV.size,fun k ab hm=>?_,fun b o bd=>?_,fun b o bd=>?_,dV.obj,dV.obn,dV.row,dV.obr,dV.trd,fun k j b ae=>⟨(dV.trb k j b ae).1.imp id (fun h=>jT ju.size h),(dV.trb k j b ae).2⟩,dV.trn,fun b o bd=>(dV.sh b o bd).trans (ko.sh b o bd)⟩⟩
  ·have wO:=Eg.length;rw[←wO]at yR;exact yR.pairwise
  ·rcases h with h|h
   ·exact .inl h
   ·exact .inr (jT ju.size h)
  ·rw[dV.block k (Nat.lt_of_lt_of_le ab ju.size) hm];exact ju.block k ab (by simp)
  ·obtain⟨a8,bU⟩:=dV.keep b o bd;exact⟨a8,bU.trans (ko.A b o bd).2⟩
  ·rcases dV.fresh b o bd with h|h|h
   ·exact .inl h
   ·exact .inr (.inl h)
   ·exact .inr (.inr (jT ju.size h))
 ·rw[Dw]at aw;cases aw
end
end Go.Proofs.YtahlgcidhnjlbaaGreat
namespace Go.Proofs
open Go.Shelf
def Tryz.lays6_ren:Go.Shelf.Ren:=⟨fun|6=>182|10=>197|11=>198|12=>200|13=>213|14=>214|24=>236|25=>237|26=>231|27=>238|28=>239|29=>240|30=>241|31=>242|32=>243|33=>244|34=>252|35=>253|36=>254|37=>255|38=>256|39=>271|n=>n,fun|20=>20|26=>143|35=>179|0=>0|37=>181|3=>3|41=>192|44=>185|49=>206|51=>208|4=>4|54=>210|53=>209|58=>214|5=>5|9=>9|60=>222|64=>226|66=>235|67=>236|17=>17|32=>176|33=>177|82=>256|12=>12|75=>249|76=>250|77=>251|78=>252|79=>253|80=>254|n=>n,fun|n=>n⟩
theorem Tryz.lays6:Go.Proofs.LaysGg.n6 ao Tryz.lays6_ren:={
 mixed:=by kernel_rfl
 f6:=Tryz.func182.trans (e1 some (by kernel_rfl))
 f10:=Tryz.func197.trans (e1 some (by kernel_rfl))
 f11:=Tryz.func198.trans (e1 some (by kernel_rfl))
 f12:=Tryz.func200.trans (e1 some (by kernel_rfl))
 f13:=Tryz.func213.trans (e1 some (by kernel_rfl))
 f14:=Tryz.func214.trans (e1 some (by kernel_rfl))
 f24:=Tryz.func236.trans (e1 some (by kernel_rfl))
 f25:=Tryz.func237.trans (e1 some (by kernel_rfl))
 f26:=Tryz.func231.trans (e1 some (by kernel_rfl))
 f27:=Tryz.func238.trans (e1 some (by kernel_rfl))
 f28:=Tryz.func239.trans (e1 some (by kernel_rfl))
 f29:=Tryz.func240.trans (e1 some (by kernel_rfl))
 f30:=Tryz.func241.trans (e1 some (by kernel_rfl))
 f31:=Tryz.func242.trans (e1 some (by kernel_rfl))
 f32:=Tryz.func243.trans (e1 some (by kernel_rfl))
 f33:=Tryz.func244.trans (e1 some (by kernel_rfl))
 f34:=Tryz.func252.trans (e1 some (by kernel_rfl))
 f35:=Tryz.func253.trans (e1 some (by kernel_rfl))
 f36:=Tryz.func254.trans (e1 some (by kernel_rfl))
 f37:=Tryz.func255.trans (e1 some (by kernel_rfl))
 f38:=Tryz.func256.trans (e1 some (by kernel_rfl))
 f39:=Tryz.func271.trans (e1 some (by kernel_rfl))
 t0:=Tryz.underlying0
 a0:=Tryz.isAgg0
 z0:=Tryz.sizeOf0
 v0:=Tryz.zeroValue0
 i0:=by kernel_rfl
 t3:=Tryz.underlying3
 a3:=Tryz.isAgg3
 z3:=Tryz.sizeOf3
 v3:=Tryz.zeroValue3
 i3:=by kernel_rfl
 t4:=Tryz.underlying4
 a4:=Tryz.isAgg4
 z4:=Tryz.sizeOf4
 v4:=Tryz.zeroValue4
 i4:=by kernel_rfl
 t5:=Tryz.underlying5
 a5:=Tryz.isAgg5
 z5:=Tryz.sizeOf5
 v5:=Tryz.zeroValue5
 i5:=by kernel_rfl
 t9:=Tryz.underlying9
 a9:=Tryz.isAgg9
 z9:=Tryz.sizeOf9
 v9:=Tryz.zeroValue9
 i9:=by kernel_rfl
 t12:=Tryz.underlying12
 a12:=Tryz.isAgg12
 z12:=Tryz.sizeOf12
 v12:=Tryz.zeroValue12
 i12:=by kernel_rfl
 t17:=Tryz.underlying17
 a17:=Tryz.isAgg17
 z17:=Tryz.sizeOf17
 v17:=Tryz.zeroValue17
 i17:=by kernel_rfl
 t20:=Tryz.underlying20
 a20:=Tryz.isAgg20
 z20:=Tryz.sizeOf20
 v20:=Tryz.zeroValue20
 i20:=by kernel_rfl
 t26:=Tryz.underlying143
 a26:=Tryz.isAgg143
 z26:=Tryz.sizeOf143
 v26:=Tryz.zeroValue143
 i26:=by kernel_rfl
 t32:=Tryz.underlying176
 a32:=Tryz.isAgg176
 z32:=Tryz.sizeOf176
 v32:=Tryz.zeroValue176
 i32:=by kernel_rfl
 t33:=Tryz.underlying177
 a33:=Tryz.isAgg177
 z33:=Tryz.sizeOf177
 v33:=Tryz.zeroValue177
 i33:=by kernel_rfl
 t35:=Tryz.underlying179
 a35:=Tryz.isAgg179
 z35:=Tryz.sizeOf179
 v35:=Tryz.zeroValue179
 i35:=by kernel_rfl
 t37:=Tryz.underlying181
 a37:=Tryz.isAgg181
 z37:=Tryz.sizeOf181
 v37:=Tryz.zeroValue181
 i37:=by kernel_rfl
 t41:=Tryz.underlying192
 a41:=Tryz.isAgg192
 z41:=Tryz.sizeOf192
 v41:=Tryz.zeroValue192
 i41:=by kernel_rfl
 t44:=Tryz.underlying185
 a44:=Tryz.isAgg185
 z44:=Tryz.sizeOf185
 v44:=Tryz.zeroValue185
 i44:=by kernel_rfl
 t49:=Tryz.underlying206
 a49:=Tryz.isAgg206
 z49:=Tryz.sizeOf206
 v49:=Tryz.zeroValue206
 i49:=by kernel_rfl
 t51:=Tryz.underlying208
 a51:=Tryz.isAgg208
 z51:=Tryz.sizeOf208
 v51:=Tryz.zeroValue208
 i51:=by kernel_rfl
 t53:=Tryz.underlying209
 a53:=Tryz.isAgg209
 z53:=Tryz.sizeOf209
 v53:=Tryz.zeroValue209
 i53:=by kernel_rfl
 t54:=Tryz.underlying210
 a54:=Tryz.isAgg210
 z54:=Tryz.sizeOf210
 v54:=Tryz.zeroValue210
 i54:=by kernel_rfl
 t58:=Tryz.underlying214
 a58:=Tryz.isAgg214
 z58:=Tryz.sizeOf214
 v58:=Tryz.zeroValue214
 i58:=by kernel_rfl
 t60:=Tryz.underlying222
 a60:=Tryz.isAgg222
 z60:=Tryz.sizeOf222
 v60:=Tryz.zeroValue222
 i60:=by kernel_rfl
 t64:=Tryz.underlying226
 a64:=Tryz.isAgg226
 z64:=Tryz.sizeOf226
 v64:=Tryz.zeroValue226
 i64:=by kernel_rfl
 t66:=Tryz.underlying235
 a66:=Tryz.isAgg235
 z66:=Tryz.sizeOf235
 v66:=Tryz.zeroValue235
 i66:=by kernel_rfl
 t67:=Tryz.underlying236
 a67:=Tryz.isAgg236
 z67:=Tryz.sizeOf236
 v67:=Tryz.zeroValue236
 i67:=by kernel_rfl
 t75:=Tryz.underlying249
 a75:=Tryz.isAgg249
 z75:=Tryz.sizeOf249
 v75:=Tryz.zeroValue249
 i75:=by kernel_rfl
 t76:=Tryz.underlying250
 a76:=Tryz.isAgg250
 z76:=Tryz.sizeOf250
 v76:=Tryz.zeroValue250
 i76:=by kernel_rfl
 t77:=Tryz.underlying251
 a77:=Tryz.isAgg251
 z77:=Tryz.sizeOf251
 v77:=Tryz.zeroValue251
 i77:=by kernel_rfl
 t78:=Tryz.underlying252
 a78:=Tryz.isAgg252
 z78:=Tryz.sizeOf252
 v78:=Tryz.zeroValue252
 i78:=by kernel_rfl
 t79:=Tryz.underlying253
 a79:=Tryz.isAgg253
 z79:=Tryz.sizeOf253
 v79:=Tryz.zeroValue253
 i79:=by kernel_rfl
 t80:=Tryz.underlying254
 a80:=Tryz.isAgg254
 z80:=Tryz.sizeOf254
 v80:=Tryz.zeroValue254
 i80:=by kernel_rfl
 t82:=Tryz.underlying256
 a82:=Tryz.isAgg256
 z82:=Tryz.sizeOf256
 v82:=Tryz.zeroValue256
 i82:=by kernel_rfl}
end Go.Proofs
namespace Go.Proofs.YtahlgcidhnjlbaaGreat
open Go Go.RowKit Go.Lib Go.Pv Go.Proofs
theorem WE(n:Nat)(h:n<1099511627776):Lib.bitLen n≤1000:=by
 have:∀f x,bitLenAux f x≤f:=by
  intro f;induction f with
  |zero=>intro x;simp[bitLenAux]
  |succ f bM=>
   intro x;rw[bitLenAux];split
   ·omega
   ·have:=bM (x/2);omega
 have:=this 64 n;unfold Lib.bitLen;omega
theorem ag2{α:Type}[Inhabited α]{lt:α→α→Bool}{l:List α}{b6:Array α}(h:Sort.PermIn 0 l.length l.toArray b6)(ag:Sort.SortedIn lt 0 l.length b6):b6.toList.Perm l∧b6.toList.Pairwise fun x y=>lt y x=false:=by
 obtain⟨kv,_,z3⟩:=h;have dW:b6.size=l.length:=by simpa using kv
 have aj:b6.extract 0 l.length=b6:=by rw[←dW];simp
 have aC:l.toArray.extract 0 l.length=l.toArray:=by simp
 rw[aj,aC]at z3;refine⟨by simpa using z3,?_⟩;rw[oX];intro i j hi af ly;have J:=ag i j (by omega) ly (by simpa[dW]using af);have rY:i<b6.size:=by simpa using hi
 have iU:j<b6.size:=by simpa using af
 rw[getElem!_pos b6 i rY,getElem!_pos b6 j iU]at J;simpa using J
section
variable {α:Type} {e:α→ah} (he:∀S x,aB S (e x)) {K B el sz:Nat}
include he
theorem PF[Inhabited α](P1:K≠901∧K≠902)(P0:B≠901∧B≠902)(t:fT)(i eb:TypeInfo)(hi:ao.info? t=some i)(aP:i.desc= .slice el)(Bl:ao.packed t=false)(rZ:ao.info? el=some eb)(ke:Nat)(tn:∀w,(VP el).run ao w= .ok ke w)(rT:∀n,2≤n→swapperK n eb ke=9)
  (g:Nat) (lt:α→α→Bool) (bu:Sort.SWO lt) (l:List α) (au:l.length≤68719476736)
  (wN:∀aX:List α,aX.length=l.length→∀(i j:Nat) x y,aX[i]? =some x→aX[j]? =some y→bJ ao g [.int .i64 i,.int .i64 j,.ptr (.obj B) 0] (dI e K B el sz aX) fun r ai=>r= .bool (lt x y)∧ai=dI e K B el sz aX)
  (yS:∀aX:List α,aX.length=l.length→∀i j:Nat,i<l.length→j<l.length→bJ ao 230 [.int .i64 i,.int .i64 j,.row sz (.obj K) l.length,.cst (typeHandle ao el)] (dI e K B el sz aX) fun r ai=>r= .tuple []∧ai=dI e K B el sz (gQ aX i j)):
  bJ ao 182 [.iface t (.row sz (.obj K) l.length),.func g [.ptr (.obj B) 0]] (dI e K B el sz l) fun r ai=>r= .tuple []∧∃aX,ai=dI e K B el sz aX∧aX.Perm l∧aX.Pairwise fun x y=>lt y x=false:=by
 have A2:ao.funcs.findIdx? (·.name== "internal/reflectlite" ++ ".Swapper$" ++toString 1)=some 222:=by kernel_rfl
 have tg:ao.funcs.findIdx? (·.name== "internal/reflectlite" ++ ".Swapper$" ++toString 2)=some 223:=by kernel_rfl
 have Ib:ao.funcs.findIdx? (·.name== "internal/reflectlite" ++ ".Swapper$" ++toString 9)=some 230:=by kernel_rfl
 have wS:q9 (dI e K B el sz) 901:=fun l=>⟨by simp[dI,Pv.look,P0.1],by simp[dI,Pv.look,P1.1]⟩;have wT:q9 (dI e K B el sz) 902:=fun l=>⟨by simp[dI,Pv.look,P0.2],by simp[dI,Pv.look,P1.2]⟩;have fs:=WE l.length (by omega);have IG:∃f bX,ao.funcs.findIdx? (·.name== "internal/reflectlite" ++ ".Swapper$" ++toString (swapperK l.length eb ke))=some f∧(bX=(if swapperK l.length eb ke≤2 then []else [ah.row sz (.obj K) l.length,.cst (typeHandle ao el)]))∧
   bJ ao 214 [eK g f [.ptr (.obj B) 0] bX,.int .i64 0,.int .i64 l.length,.int .i64 (Lib.bitLen l.length)] (dI e K B el sz l) fun r ai=>r= .tuple []∧∃aX,ai=dI e K B el sz aX∧aX.Perm l∧aX.Pairwise fun x y=>lt y x=false:=by
  have eS:=fun aX=>vW (K:=K) (B:=B) (el:=el) (sz:=sz) he aX;have key:∀{b2:Nat} {bX:List ah},eV (dI e K B el sz) l.length g b2 [.ptr (.obj B) 0] bX lt→bJ ao 214 [eK g b2 [.ptr (.obj B) 0] bX,.int .i64 0,.int .i64 l.length,.int .i64 (Lib.bitLen l.length)] (dI e K B el sz l) fun r ai=>r= .tuple []∧∃aX,ai=dI e K B el sz aX∧aX.Perm l∧aX.Pairwise fun x y=>lt y x=false:=by intro b2 bX H;have:=aa6 H wS wT bu l.length l.toArray (by simp) 0 l.length (Lib.bitLen l.length) (by omega) (by omega) (eQ _) (by omega) (.inl rfl);simp only[Int.ofNat_zero,Int.natCast_zero,Int.cast_ofNat_Int]at this;refine bJ.mono this ?_;rintro r ai ⟨aZ,b6,bB,bQ,cS⟩;obtain⟨cL,dm⟩:=ag2 bQ cS;exact⟨aZ,b6.toList,bB,cL,dm⟩
  rcases(by omega:l.length=0∨l.length=1∨2≤l.length)with bs|J|U
  ·refine⟨222,[],by rw[bs];exact A2,by rw[bs];rfl,key ⟨eS,fun jx gE _ _=>vX jx gE,fun aX _=>by simp[aH,aB,inObs,dI,Pv.look],fun aX _=>by simp[aH],by simp[dn,cU],rfl,au,fun aX h=>wN aX h,fun aX _ U i j hi=>by omega⟩⟩
  ·refine⟨223,[],by rw[J];exact tg,by rw[J];rfl,key ⟨eS,fun jx gE _ _=>vX jx gE,fun aX _=>by simp[aH,aB,inObs,dI,Pv.look],fun aX _=>by simp[aH],by simp[dn,cU],rfl,au,fun aX h=>wN aX h,fun aX _ U i j hi af=>by omega⟩⟩
  ·refine⟨230,_,by rw[rT _ U];exact Ib,rfl,?_⟩;rw[rT _ U];simp only[show¬((9:Nat)≤2)from by decide,if_false];exact key ⟨eS,fun jx gE _ _=>vX jx gE,fun aX _=>by simp[aH,aB,inObs,dI,Pv.look],fun aX _=>by simp[aH,aB,inObs,dI,Pv.look],by simp[dn,cU],by simp[dn,cU],au,fun aX h=>wN aX h,fun aX h _ i j hi af=>yS aX h i j hi af⟩
 obtain⟨f,bX,aI,IC,c9⟩:=IG;intro w ν ba a1 ad aJ;have pa:=cJ.start (vW he l).obj a1 ad aJ;have Iy:=aJ;simp only[cH,a7]at aJ;obtain⟨v0,vs1,hv0,⟨u,rfl,⟨b,cap,rfl⟩,eX,n',e0,aj,aC,bg⟩,v1,vs2,hv1,⟨qc,rfl,p5⟩,rfl⟩:=aJ;have kp:ba= #[.iface t (.slice (some ⟨b,0,none⟩) l.length cap),.func (.func g) #[] qc]:=by apply Array.ext';rw[hv0,hv1]
 subst kp;have p3:∃fn,ao.funcs[(182:Nat)]? =some fn∧fn.body.isSome=true∧(fn.name== "runtime.NumGoroutine")=false:=⟨_,Tryz.func182,by kernel_rfl,by kernel_rfl⟩;refine .inl ⟨p3,?_⟩;obtain⟨dq,nS⟩:∃dq,dq=sliceWorld ao Tryz.lays6_ren t (some ⟨b,0,none⟩) l.length cap w:=⟨_,rfl⟩;have ju:w.grownBy dq none:=by rw[nS];unfold sliceWorld;exact PW _ _ _
 have Iz:=pa.grown ju;have ko:kT w ν dq ν:=⟨fun b o bd=>⟨bd,Dq ju (a1.alt b o bd)⟩,fun _ _ _ h=>h,fun _ n u _ h=>⟨n,u,h,.inl ⟨rfl,rfl⟩⟩,fun b o bd=>vB (ju.block b (a1.alt b o bd) (by simp)),fun _ _ _ _ h=>h⟩;have qN:Pv.Good (fp ν (dI e K B el sz l)) dq ν (dI e K B el sz l).b (dI e K B el sz l).e:=Iz.good.prMono fun bl _ h=>h;have kG:=FE ko Iy;simp only[cH]at kG;obtain⟨a0,Wv,rU,Bn,bz,Ww,kE,acS,rfl⟩:=kG;simp at rU;obtain⟨rfl,rfl⟩:=rU;simp at kE;subst kE;have IB:a7 dq ν (.row sz (.obj K) l.length) (.slice (some ⟨b,0,none⟩) l.length cap):=by simp only[a7]at Bn;obtain⟨u,hu,h⟩:=Bn;simp at hu;obtain⟨_,rfl⟩:=hu;simp only[a7];exact h
 have p6:cH dq ν bX (sliceBound ao el eb ke (some ⟨b,0,none⟩) l.length cap).toList:=by
  unfold sliceBound;rw[IC];split
  ·simp[cH]
  ·simp only[cH];exact⟨_,_,rfl,IB,_,_,rfl,by simp[a7],rfl⟩
 have tc:cH dq ν [eK g f [.ptr (.obj B) 0] bX,.int .i64 0,.int .i64 l.length,.int .i64 (Lib.bitLen l.length)] (#[.agg #[.func (.func g) #[] qc,.func (.func f) #[] (sliceBound ao el eb ke (some ⟨b,0,none⟩) l.length cap)],.int .i64 0,.int .i64 l.length,.int .i64 (Lib.bitLen l.length)]:Array Value).toList:=by simp only[cH,eK];refine⟨_,_,rfl,?_,_,_,rfl,by simp[a7],_,_,rfl,by simp[a7],_,_,rfl,by simp[a7],rfl⟩;simp only[a7,c0];exact⟨_,rfl,_,_,rfl,⟨⟨qc,rfl,FE ko p5⟩,rfl⟩,_,_,rfl,⟨⟨_,rfl,p6⟩,rfl⟩,rfl⟩
 have H8:=c9 dq ν _ qN ad tc;have Dw:∀args w,(callFunc 214 args).run ao w= .ok (.enter 214 args) w:=enters_of Tryz.func214 (by kernel_rfl) rfl;rcases H8 with⟨_,aw⟩|⟨v,w',aw,_⟩
 ·have Im:=Any.sort_Slice_of_pdq Tryz.lays6 t el i eb hi aP Bl rZ ke tn (some ⟨b,0,none⟩) l.length cap (by omega) f aI (.func g) #[] qc w
   (fun w'=> ∃ai bn,(∃aX,ai=dI e K B el sz aX∧aX.Perm l∧aX.Pairwise fun x y=>lt y x=false)∧Pv.Good (fun bl=>fp ν (dI e K B el sz l) bl∨dq.heap.size≤bl) w' bn ai.b ai.e∧oD bn ai∧ix ai∧pM ⟨dq,ν,fp ν (dI e K B el sz l),0,cO (dI e K B el sz l)⟩ w' bn) (by
    rw[←nS];refine aw.mono ?_;rintro e w' ⟨v,r,ai,bn,rfl,⟨rfl,bp⟩,uX,a6,bW,c3,dV⟩;simp only[a7,cH]at uX;obtain⟨us,rfl,p8⟩:=uX;have:us= #[]:=by apply Array.ext';simpa using p8
    subst this;exact⟨rfl,ai,bn,bp,a6,bW,c3,dV⟩)
  refine Im.mono ?_;rintro e w' ⟨rfl,ai,bn,⟨aX,rfl,Eg,yR⟩,a6,bW,c3,dV⟩;refine⟨.tuple #[],.tuple [],_,bn,rfl,⟨rfl,aX,rfl,Eg,yR⟩,by simp[a7,cH],a6.prMono fun bl h _=>?_,bW,c3,⟨dV.os.trans ju.os,dV.tape.trans ju.tape,dV.output.trans ju.output,jT ju.size dV.size,fun k ab hm=>?_,fun b o bd=>?_,fun b o bd=>?_,dV.obj,dV.obn,dV.row,dV.obr,dV.trd,fun k j b ae=>⟨(dV.trb k j b ae).1.imp id (fun h=>jT ju.size h),(dV.trb k j b ae).2⟩,dV.trn,fun b o bd=>(dV.sh b o bd).trans (ko.sh b o bd)⟩⟩
  ·rcases h with h|h
   ·exact .inl h
   ·exact .inr (jT ju.size h)
  ·rw[dV.block k (Nat.lt_of_lt_of_le ab ju.size) hm];exact ju.block k ab (by simp)
  ·obtain⟨a8,bU⟩:=dV.keep b o bd;exact⟨a8,bU.trans (ko.A b o bd).2⟩
  ·rcases dV.fresh b o bd with h|h|h
   ·exact .inl h
   ·exact .inr (.inl h)
   ·exact .inr (.inr (jT ju.size h))
 ·rw[Dw]at aw;cases aw
end
end Go.Proofs.YtahlgcidhnjlbaaGreat
namespace Go.Proofs.YtahlgcidhnjlbaaGreat
open Go Go.Pv Go.Lib
abbrev vV(l:List bf):cF:=dI bf.e 814 815 100 2 l
theorem SD:∀(S:aD→Prop) (x:bf),aB S x.e:=fun S x=>by simp
theorem Gn(l:List bf):ee (vV l):=vW SD l
theorem aek:Sort.SWO (hv e5):=by
 refine⟨fun x=>?_,fun x y z J U=>?_,fun x y z J U=>?_⟩
 ·simp only[hv,hx];have:=lb.refl x;omega
 ·simp only[hv,fx]at*;exact lb.ltr J (by omega)
 ·simp only[hv,hx]at*;have aj:=lb.neg x y;have aC:=lb.neg y z;have bg:=lb.neg x z;have:=lb.tr z y x (by omega) (by omega);omega
theorem aaM(l:List bf)(i j:Nat)(x y:bf)(au:l.length≤68719476736)(hi:l[i]? =some x)(af:l[j]? =some y):bJ ao 185 [.int .i64 i,.int .i64 j,.ptr (.obj 815) 0] (vV l) fun r ai=>r= .bool (hv e5 x y)∧ai=vV l:=by have ag:=Gn l;obtain⟨lx,ho⟩:=fH.1 hi;obtain⟨dR,o8⟩:=fH.1 af;unfold vV dI at ag⊢;refine bJ.mk mixed jC YI ae5 (by simp) ag.obj fun aR c1=>?_;unfold Mx;simp[lx,dR,ho,o8];(with_reducible repeat' first|refine ak ?_|refine aE (zY _ _) ?_|refine aF (zY _ _) ?_|simp[lx,dR,ho,o8]);refine cN.at _ (.inl rfl) ag (Same.refl _) aQ aQ ?_;simp[cT,Tn,aV,aY,aU]
noncomputable def Tryz.maT:TypeInfo:=(ao.info? 49).get (by kernel_rfl)
noncomputable def Tryz.maE:TypeInfo:=(ao.info? 100).get (by kernel_rfl)
theorem Tryz.maK(n:Nat)(U:2≤n):Lib.swapperK n Tryz.maE 25=9:=by
 have a:Tryz.maE.hasPointers=true:=by kernel_rfl
 have b:Tryz.maE.bytes=24:=by kernel_rfl
 have c:(n==0)=false:=by simp;omega
 have d:(n==1)=false:=by simp;omega
 simp[Lib.swapperK,a,b,c,d]
theorem Sf{α β:Type}(f:α→β)(l:List α)(i j:Nat):(gQ l i j).map f=gQ (l.map f) i j:=by
 unfold gQ;simp only[List.getElem?_map];cases l[i]? with
 |none=>simp
 |some x=>
  cases l[j]? with
  |none=>simp
  |some y=>simp[List.map_set]
theorem abi(l:List bf)(au:l.length≤68719476736):bJ ao 182 [.iface 49 (.row 2 (.obj 814) l.length),.func 185 [.ptr (.obj 815) 0]] (vV l) fun r ai=>r= .tuple []∧ai=vV (n3 e5 l):=by
 refine(PF SD (K:=814) (B:=815) (sz:=2) (by decide) (by decide) 49 Tryz.maT Tryz.maE (by kernel_rfl) (by kernel_rfl) (by kernel_rfl) (by kernel_rfl) 25 (fun _=>by kernel_rfl) Tryz.maK 185 (hv e5) aek l au (fun aX h i j x y hi af=>aaM aX i j x y (by omega) hi af) (fun aX h i j hi af=>?_)).mono ?_
 ·have:=PO (P:=ao) false 230 (fun args W=>run_callFunc_extern Tryz.func230 (by kernel_rfl) (by kernel_rfl) (by kernel_rfl) (e:=CR false) (by kernel_rfl) args W)
   100 Tryz.maE (by kernel_rfl) (fun _=>by kernel_rfl) (Gn aX) (K:=814) (n:=l.length) (el:=100) (sz:=2) (by kernel_rfl) (xs:=aX.map bf.e) (by simp[dI,Pv.look,h]) i j hi af
  refine this.mono ?_;rintro r ai ⟨rfl,rfl⟩;refine⟨rfl,?_⟩;simp[dI,cw,Sf,h]
 ·rintro r ai ⟨rfl,aX,rfl,J,U⟩;exact⟨rfl,by rw[UB lb J U]⟩
def nj(l:List bf):List ah:= .hdm l.length (List.range l.length)::l.flatMap fun m=>[m.e,.bool true]
def kB(m:bf)(l:List bf):List bf:=if m∈l then l else l++[m]
theorem adT(a b:bf):sb (.a [false,true]) a.e b.e=some (decide (a=b)):=by simp only[bf.e,sb,jI,if_true,ny];congr 1;rw[pH];cases a;cases b;simp
theorem adU(a:bf):tx (.a [false,true]) a.e=true:=by simp[bf.e,tx,jI,-GB]
theorem SH(m:bf):∀l:List bf,tK (.a [false,true]) m.e (.bool true) (l.flatMap fun m=>[m.e,.bool true])=some (if m∈l then some (l.flatMap fun m=>[m.e,.bool true])else none)
 |[]=>rfl
 |a::l=>by
  simp only[List.flatMap_cons,bN,bT,tK,adT];by_cases h:m=a
  ·subst h;simp
  ·have cp:decide (m=a)=false:=by simp[h]
   rw[cp];simp only[SH m l];by_cases hm:m∈l
   ·simp[hm]
   ·simp[hm,h]
@[simp] theorem anW(m:bf)(l:List bf):nX (.a [false,true]) m.e (.bool true) (nj l)=some (nj (kB m l)):=by
 simp only[nj,nX,adU,Bool.true_eq_false,reduceCtorEq,if_false,SH,kB];by_cases h:m∈l
 ·simp[h]
 ·simp[h,List.range_succ]
end Go.Proofs.YtahlgcidhnjlbaaGreat
namespace Go.Proofs.YtahlgcidhnjlbaaGreat
open Go Go.Pv
@[simp] theorem y6(S:aD→Prop)(l:List bf):aH S (nj l)=True:=by
 refine eq_true ?_;unfold nj;have:∀l:List bf,aH S (l.flatMap fun m=>[m.e,ah.bool true]):=fun l=>by
  induction l with
  |nil=>simp[aH]
  |cons x r bM=>simp only[List.flatMap_cons,bN,bT,aH,adY,aB,true_and];exact bM
 simp only[aH,aB,true_and];exact this l
@[simp] theorem anE:[ah.hdm 0 []]=nj []:=rfl
def nC(tag:List dA)(l:List bf):cF:=⟨[(.obj 811,[.str tag]),(.obj 812,nj l),(.obj 813,[.gmap (.obj 812)])],[]⟩
theorem CY(tag:List dA)(l:List bf):ee (nC tag l):=by unfold nC;refine ee.of ⟨by intro m;simp[Pv.look],by intro m;simp[Pv.look]⟩ (by simp[aH,aB,inObs,Pv.look]) (by simp)
theorem Gp(tag:List dA)(l aX:List bf):Same (nC tag l) (nC tag aX):=Same.keys (by simp[nC]) (by simp[nC])
theorem aaL(tag:List dA)(v:Int)(l:List bf):bJ ao 184 [.int .i64 v,.ptr (.obj 813) 0,.ptr (.obj 811) 0] (nC tag l) fun r ai=>r= .tuple []∧ai=nC tag (kB ⟨v,tag⟩ l):=by have ag:=CY tag l;have fX:=CY tag (kB ⟨v,tag⟩ l);have eY:=Gp tag l (kB ⟨v,tag⟩ l);unfold nC at ag fX eY⊢;refine bJ.mk mixed jC YH ae4 (by simp) ag.obj fun aR c1=>?_;unfold Mw;simp;refine cN.at _ (.inr rfl) fX eY aQ aQ ?_;simp[cT,Tm,aV,aY,aU]
end Go.Proofs.YtahlgcidhnjlbaaGreat
namespace Go.Proofs.YtahlgcidhnjlbaaGreat
open Go Go.Pv Go.Lib
abbrev uj(l:List bG):cF:=dI bG.e 803 804 98 2 l
theorem Rz:∀(S:aD→Prop) (x:bG),aB S x.e:=fun S x=>by simp
theorem CW(l:List bG):ee (uj l):=vW Rz l
def vh(x y:bG):Bool:=decide (x.v<y.v)
theorem aej:Sort.SWO vh:=⟨fun x=>by simp[vh],fun x y z J U=>by simp[vh]at*;omega,fun x y z J U=>by simp[vh]at*;omega⟩
theorem aaN(l:List bG)(i j:Nat)(x y:bG)(au:l.length≤68719476736)(hi:l[i]? =some x)(af:l[j]? =some y):bJ ao 183 [.int .i64 i,.int .i64 j,.ptr (.obj 804) 0] (uj l) fun r ai=>r= .bool (vh x y)∧ai=uj l:=by have ag:=CW l;obtain⟨lx,ho⟩:=fH.1 hi;obtain⟨dR,o8⟩:=fH.1 af;unfold uj dI at ag⊢;refine bJ.mk mixed jC YJ ae6 (by simp) ag.obj fun aR c1=>?_;unfold My;simp[lx,dR,ho,o8];(with_reducible repeat' first|refine ak ?_|simp);refine cN.at _ (.inl rfl) ag (Same.refl _) aQ aQ ?_;simp[cT,To,aV,aY,aU,vh]
noncomputable def Tryz.vkT:TypeInfo:=(ao.info? 48).get (by kernel_rfl)
noncomputable def Tryz.vkE:TypeInfo:=(ao.info? 98).get (by kernel_rfl)
theorem Tryz.vkK(n:Nat)(U:2≤n):Lib.swapperK n Tryz.vkE 25=9:=by
 have a:Tryz.vkE.hasPointers=false:=by kernel_rfl
 have b:Tryz.vkE.bytes=16:=by kernel_rfl
 have c:(n==0)=false:=by simp;omega
 have d:(n==1)=false:=by simp;omega
 simp[Lib.swapperK,a,b,c,d]
theorem aei{α β:Type}(f:α→β)(l:List α)(i j:Nat):(gQ l i j).map f=gQ (l.map f) i j:=by
 unfold gQ;simp only[List.getElem?_map];cases l[i]? with
 |none=>simp
 |some x=>
  cases l[j]? with
  |none=>simp
  |some y=>simp[List.map_set]
theorem PN(l:List bG)(au:l.length≤68719476736):bJ ao 182 [.iface 48 (.row 2 (.obj 803) l.length),.func 183 [.ptr (.obj 804) 0]] (uj l) fun r ai=>r= .tuple []∧∃aX,ai=uj aX∧aX.Perm l∧aX.Pairwise fun x y=>vh y x=false:=by
 refine(PF Rz (K:=803) (B:=804) (sz:=2) (by decide) (by decide) 48 Tryz.vkT Tryz.vkE (by kernel_rfl) (by kernel_rfl) (by kernel_rfl) (by kernel_rfl) 25 (fun _=>by kernel_rfl) Tryz.vkK 183 vh aej l au (fun aX h i j x y hi af=>aaN aX i j x y (by omega) hi af) (fun aX h i j hi af=>?_));have:=PO (P:=ao) false 230 (fun args W=>run_callFunc_extern Tryz.func230 (by kernel_rfl) (by kernel_rfl) (by kernel_rfl) (e:=CR false) (by kernel_rfl) args W)
  98 Tryz.vkE (by kernel_rfl) (fun _=>by kernel_rfl) (CW aX) (K:=803) (n:=l.length) (el:=98) (sz:=2) (by kernel_rfl) (xs:=aX.map bG.e) (by simp[dI,Pv.look,h]) i j hi af
 refine this.mono ?_;rintro r ai ⟨rfl,rfl⟩;refine⟨rfl,?_⟩;simp[dI,cw,aei,h]
end Go.Proofs.YtahlgcidhnjlbaaGreat
namespace Go.Proofs.YtahlgcidhnjlbaaGreat
open Go Go.Pv
def fM(o:aW (List bG)):ah:= .tuple [.slice 2 .no ((o.getD []).map bG.e),.bool o.isSome]
@[simp] theorem anm(S:aD→Prop)(o:aW (List bG)):aB S (fM o)=True:=by simp[fM]
theorem Vb{l:List bG}(h:iI l):bI ao 87 [.slice 2 .no (l.map bG.e)] (.bool true):=by have:=Va l;simpa only[h,decide_true]using this
theorem Lp{t:T}(h:t.fit=true):bI ao 64 [t.e] (.bool true):=by have:=ajz t;rwa[h]at this
set_option maxRecDepth 4000 in
theorem ajo{s:List aq}(ag:eG s){l:List bG}(au:iI l)(t:T)(aO:t.fit=true)(k:Int):
  bI ao 118 [.slice 5 .no (s.map aq.e),.slice 2 .no (l.map bG.e),t.e,.int .i64 k] (fM (if(k=2∨k=3)∧(t.ap (cx s)).size≤5000 then jU l (t.ap (cx s)) k else none)):=by
 have wO:=u7 au;have ec:=pD ag;have dK:=Lp aO;have di:=Vb au;have fc:=Ga s t ag.len ag.sol.asc ag.fit;generalize ad:t.ap (cx s)=x at fc⊢;generalize dg:(if(k=2∨k=3)∧x.size≤5000 then jU l x k else none)=O;by_cases ab:k=2∨k=3;rotate_left
 ·have gg:(k !=2)=true:=by simp;omega
  have kF:(k !=3)=true:=by simp;omega
  rw[if_neg (fun h=>ab h.1)]at dg;rw[←dg];refine br jC qB ra fun aR=>?_;unfold pT;simp;(with_reducible repeat' first|refine ak ?_|refine aE ec ?_|refine aF ec ?_|refine aE dK ?_|refine aF dK ?_|refine aE di ?_|refine aF di ?_|simp[gg,kF]);simp[bA,jA,aV,aY,aU];simp[fM]
 by_cases bC:x.size≤5000;rotate_left
 ·rw[if_neg (fun h=>bC h.2)]at dg;rw[←dg];rw[if_neg bC,oe bC]at fc;refine br jC qB ra fun aR=>?_;unfold pT;simp;rcases ab with rfl|rfl;all_goals(with_reducible repeat' first|refine ak ?_|refine aE ec ?_|refine aF ec ?_|refine aE dK ?_|refine aF dK ?_|refine aE di ?_|refine aF di ?_|refine aE fc ?_|refine aF fc ?_|simp)
  all_goals simp[bA,jA,aV,aY,aU]
  all_goals simp[fM]
 rw[if_pos ⟨ab,bC⟩]at dg;rw[if_pos bC,nz bC]at fc;have D2:(k !=2)=true→(k !=3)=false:=fun h=>by simp at h⊢;omega
 have tl:((k !=2)=false)∨((k !=2)=true∧(k !=3)=false):=by
  rcases ab with rfl|rfl
  ·left;rfl
  ·right;exact⟨rfl,rfl⟩
 clear D2;cases x with
 |var n=>
  have dJ:O=match kJ l n with|some bH=>if bH=k then some l else none|none=>some (k7 ⟨n,k⟩ l):=by rw[←dg];rfl
  refine br jC qB ra fun aR=>?_;unfold pT;simp;rcases tl with bp|⟨bp,j5⟩
  ·(with_reducible repeat' first|refine ak ?_|refine aE ec ?_|refine aF ec ?_|refine aE dK ?_|refine aF dK ?_|refine aE di ?_|refine aF di ?_|refine aE fc ?_|refine aF fc ?_|simp[bp]);refine dU [3,10,12,55,56] (fun i (_:Unit)=>[(57,.int .i64 i)]) l.length (fun i _=> ∀j y,j<i→l[j]? =some y→y.v≠n) () b4 (fun j y af=>by omega) (fun _ af _=>?_) (fun i _ hi af _=>?_)
   ·have a1:kJ l n=none:=w7.2 fun y aL=>by obtain⟨m,hm,e⟩:=mS aL;exact af m y hm (by rw[ca hm,e])
    rw[a1]at dJ;simp only at dJ;simp;(with_reducible repeat' first|refine ak ?_|simp);all_goals first|(refine⟨by unfold lim;omega,?_⟩)|skip
    have key:=PN (l++[⟨n,k⟩]) (by simp;omega);have eS:=CW (l++[⟨n,k⟩]);have hlen:(l++[(⟨n,k⟩:bG)]).length=l.length+1:=by simp
    unfold uj dI at key eS;rw[hlen,List.map_append,gX,List.map_nil]at key eS;refine c2.ob key eS aQ aQ (by simp[inObs,Pv.look]) ?_;rintro r ai ⟨rfl,aX,rfl,J,U⟩;have r2:aX=k7 ⟨n,k⟩ l:=RA (J.trans ((List.perm_append_comm (l₁:=l) (l₂:=[⟨n,k⟩])).trans (I0 ⟨n,k⟩ l).symm)) (En au.asc (w7.1 a1)) U;subst r2;refine⟨Same.keys (by simp) (by simp),?_⟩;rw[dJ];simp[cu];(with_reducible repeat' first|refine ak ?_|simp);simp[bA,jA,aV,aY,aU];simp[fM]
   ·obtain⟨b,ae,cG⟩:=ep hi;by_cases mA:b.v=n
    ·have a1:kJ l n=some b.k:=by rw[←mA];exact EA au.asc (eP ae)
     rw[a1]at dJ;simp only at dJ;by_cases nL:b.k=k
     ·rw[if_pos nL]at dJ;rw[dJ];have wB:(b.k !=k)=false:=by simp[nL]
      have qL:(b.v==n)=true:=by simp[mA]
      simp[hi,cG];(with_reducible repeat' first|refine ak ?_|simp[cG,hi,wB,qL,nL,mA]);simp[bA,jA,aV,aY,aU];simp[fM]
     ·rw[if_neg nL]at dJ;rw[dJ];have wB:(b.k !=k)=true:=by simp[nL]
      have qL:(b.v==n)=true:=by simp[mA]
      simp[hi,cG];(with_reducible repeat' first|refine ak ?_|simp[cG,hi,wB,qL,nL,mA]);simp[bA,jA,aV,aY,aU];simp[fM]
    ·have qL:(b.v==n)=false:=by simp[mA]
     simp[hi,cG];(with_reducible repeat' first|refine ak ?_|simp[cG,hi,qL,mA]);exact bL.rng () hi (fun j y iU aL=>by
      rcases(by omega:j<i∨j=i)with h|rfl
      ·exact af j y h aL
      ·rw[ae]at aL;cases aL;exact mA) b4
  ·(with_reducible repeat' first|refine ak ?_|refine aE ec ?_|refine aF ec ?_|refine aE dK ?_|refine aF dK ?_|refine aE di ?_|refine aF di ?_|refine aE fc ?_|refine aF fc ?_|simp[bp,j5]);refine dU [3,10,12,55,56] (fun i (_:Unit)=>[(57,.int .i64 i)]) l.length (fun i _=> ∀j y,j<i→l[j]? =some y→y.v≠n) () b4 (fun j y af=>by omega) (fun _ af _=>?_) (fun i _ hi af _=>?_)
   ·have a1:kJ l n=none:=w7.2 fun y aL=>by obtain⟨m,hm,e⟩:=mS aL;exact af m y hm (by rw[ca hm,e])
    rw[a1]at dJ;simp only at dJ;simp;(with_reducible repeat' first|refine ak ?_|simp);all_goals first|(refine⟨by unfold lim;omega,?_⟩)|skip
    have key:=PN (l++[⟨n,k⟩]) (by simp;omega);have eS:=CW (l++[⟨n,k⟩]);have hlen:(l++[(⟨n,k⟩:bG)]).length=l.length+1:=by simp
    unfold uj dI at key eS;rw[hlen,List.map_append,gX,List.map_nil]at key eS;refine c2.ob key eS aQ aQ (by simp[inObs,Pv.look]) ?_;rintro r ai ⟨rfl,aX,rfl,J,U⟩;have r2:aX=k7 ⟨n,k⟩ l:=RA (J.trans ((List.perm_append_comm (l₁:=l) (l₂:=[⟨n,k⟩])).trans (I0 ⟨n,k⟩ l).symm)) (En au.asc (w7.1 a1)) U;subst r2;refine⟨Same.keys (by simp) (by simp),?_⟩;rw[dJ];simp[cu];(with_reducible repeat' first|refine ak ?_|simp);simp[bA,jA,aV,aY,aU];simp[fM]
   ·obtain⟨b,ae,cG⟩:=ep hi;by_cases mA:b.v=n
    ·have a1:kJ l n=some b.k:=by rw[←mA];exact EA au.asc (eP ae)
     rw[a1]at dJ;simp only at dJ;by_cases nL:b.k=k
     ·rw[if_pos nL]at dJ;rw[dJ];have wB:(b.k !=k)=false:=by simp[nL]
      have qL:(b.v==n)=true:=by simp[mA]
      simp[hi,cG];(with_reducible repeat' first|refine ak ?_|simp[cG,hi,wB,qL,nL,mA]);simp[bA,jA,aV,aY,aU];simp[fM]
     ·rw[if_neg nL]at dJ;rw[dJ];have wB:(b.k !=k)=true:=by simp[nL]
      have qL:(b.v==n)=true:=by simp[mA]
      simp[hi,cG];(with_reducible repeat' first|refine ak ?_|simp[cG,hi,wB,qL,nL,mA]);simp[bA,jA,aV,aY,aU];simp[fM]
    ·have qL:(b.v==n)=false:=by simp[mA]
     simp[hi,cG];(with_reducible repeat' first|refine ak ?_|simp[cG,hi,qL,mA]);exact bL.rng () hi (fun j y iU aL=>by
      rcases(by omega:j<i∨j=i)with h|rfl
      ·exact af j y h aL
      ·rw[ae]at aL;cases aL;exact mA) b4
 |nil=>
  have dJ:O=if T.nil.kind=k then some l else none:=by rw[←dg];rfl
  by_cases ha:T.nil.kind=k
  ·rw[if_pos ha]at dJ;rw[dJ];refine br jC qB ra fun aR=>?_;unfold pT;simp;simp at ha;rcases tl with bp|⟨bp,j5⟩
   ·((with_reducible repeat' first|refine ak ?_|refine aE ec ?_|refine aF ec ?_|refine aE dK ?_|refine aF dK ?_|refine aE di ?_|refine aF di ?_|refine aE fc ?_|refine aF fc ?_|simp[bp,ha]|((first|apply bO|apply bS|apply bR)<;>intro h<;>try simp at h))<;>(try exact cq));all_goals simp[bA,jA,aV,aY,aU]
    all_goals simp[fM]
   ·((with_reducible repeat' first|refine ak ?_|refine aE ec ?_|refine aF ec ?_|refine aE dK ?_|refine aF dK ?_|refine aE di ?_|refine aF di ?_|refine aE fc ?_|refine aF fc ?_|simp[bp,j5,ha]|((first|apply bO|apply bS|apply bR)<;>intro h<;>try simp at h))<;>(try exact cq));all_goals simp[bA,jA,aV,aY,aU]
    all_goals simp[fM]
  ·rw[if_neg ha]at dJ;rw[dJ];refine br jC qB ra fun aR=>?_;unfold pT;simp;simp at ha;rcases tl with bp|⟨bp,j5⟩
   ·((with_reducible repeat' first|refine ak ?_|refine aE ec ?_|refine aF ec ?_|refine aE dK ?_|refine aF dK ?_|refine aE di ?_|refine aF di ?_|refine aE fc ?_|refine aF fc ?_|simp[bp,ha]|((first|apply bO|apply bS|apply bR)<;>intro h<;>try simp at h))<;>(try exact cq));all_goals simp[bA,jA,aV,aY,aU]
    all_goals simp[fM]
   ·((with_reducible repeat' first|refine ak ?_|refine aE ec ?_|refine aF ec ?_|refine aE dK ?_|refine aF dK ?_|refine aE di ?_|refine aF di ?_|refine aE fc ?_|refine aF fc ?_|simp[bp,j5,ha]|((first|apply bO|apply bS|apply bR)<;>intro h<;>try simp at h))<;>(try exact cq));all_goals simp[bA,jA,aV,aY,aU]
    all_goals simp[fM]
 |sym a=>
  have dJ:O=if(T.sym a).kind=k then some l else none:=by rw[←dg];rfl
  by_cases ha:(T.sym a).kind=k
  ·rw[if_pos ha]at dJ;rw[dJ];refine br jC qB ra fun aR=>?_;unfold pT;simp;simp at ha;rcases tl with bp|⟨bp,j5⟩
   ·((with_reducible repeat' first|refine ak ?_|refine aE ec ?_|refine aF ec ?_|refine aE dK ?_|refine aF dK ?_|refine aE di ?_|refine aF di ?_|refine aE fc ?_|refine aF fc ?_|simp[bp,ha]|((first|apply bO|apply bS|apply bR)<;>intro h<;>try simp at h))<;>(try exact cq));all_goals simp[bA,jA,aV,aY,aU]
    all_goals simp[fM]
   ·((with_reducible repeat' first|refine ak ?_|refine aE ec ?_|refine aF ec ?_|refine aE dK ?_|refine aF dK ?_|refine aE di ?_|refine aF di ?_|refine aE fc ?_|refine aF fc ?_|simp[bp,j5,ha]|((first|apply bO|apply bS|apply bR)<;>intro h<;>try simp at h))<;>(try exact cq));all_goals simp[bA,jA,aV,aY,aU]
    all_goals simp[fM]
  ·rw[if_neg ha]at dJ;rw[dJ];refine br jC qB ra fun aR=>?_;unfold pT;simp;simp at ha;rcases tl with bp|⟨bp,j5⟩
   ·((with_reducible repeat' first|refine ak ?_|refine aE ec ?_|refine aF ec ?_|refine aE dK ?_|refine aF dK ?_|refine aE di ?_|refine aF di ?_|refine aE fc ?_|refine aF fc ?_|simp[bp,ha]|((first|apply bO|apply bS|apply bR)<;>intro h<;>try simp at h))<;>(try exact cq));all_goals simp[bA,jA,aV,aY,aU]
    all_goals simp[fM]
   ·((with_reducible repeat' first|refine ak ?_|refine aE ec ?_|refine aF ec ?_|refine aE dK ?_|refine aF dK ?_|refine aE di ?_|refine aF di ?_|refine aE fc ?_|refine aF fc ?_|simp[bp,j5,ha]|((first|apply bO|apply bS|apply bR)<;>intro h<;>try simp at h))<;>(try exact cq));all_goals simp[bA,jA,aV,aY,aU]
    all_goals simp[fM]
 |num a=>
  have dJ:O=if(T.num a).kind=k then some l else none:=by rw[←dg];rfl
  by_cases ha:(T.num a).kind=k
  ·rw[if_pos ha]at dJ;rw[dJ];refine br jC qB ra fun aR=>?_;unfold pT;simp;simp at ha;rcases tl with bp|⟨bp,j5⟩
   ·((with_reducible repeat' first|refine ak ?_|refine aE ec ?_|refine aF ec ?_|refine aE dK ?_|refine aF dK ?_|refine aE di ?_|refine aF di ?_|refine aE fc ?_|refine aF fc ?_|simp[bp,ha]|((first|apply bO|apply bS|apply bR)<;>intro h<;>try simp at h))<;>(try exact cq));all_goals simp[bA,jA,aV,aY,aU]
    all_goals simp[fM]
   ·((with_reducible repeat' first|refine ak ?_|refine aE ec ?_|refine aF ec ?_|refine aE dK ?_|refine aF dK ?_|refine aE di ?_|refine aF di ?_|refine aE fc ?_|refine aF fc ?_|simp[bp,j5,ha]|((first|apply bO|apply bS|apply bR)<;>intro h<;>try simp at h))<;>(try exact cq));all_goals simp[bA,jA,aV,aY,aU]
    all_goals simp[fM]
  ·rw[if_neg ha]at dJ;rw[dJ];refine br jC qB ra fun aR=>?_;unfold pT;simp;simp at ha;rcases tl with bp|⟨bp,j5⟩
   ·((with_reducible repeat' first|refine ak ?_|refine aE ec ?_|refine aF ec ?_|refine aE dK ?_|refine aF dK ?_|refine aE di ?_|refine aF di ?_|refine aE fc ?_|refine aF fc ?_|simp[bp,ha]|((first|apply bO|apply bS|apply bR)<;>intro h<;>try simp at h))<;>(try exact cq));all_goals simp[bA,jA,aV,aY,aU]
    all_goals simp[fM]
   ·((with_reducible repeat' first|refine ak ?_|refine aE ec ?_|refine aF ec ?_|refine aE dK ?_|refine aF dK ?_|refine aE di ?_|refine aF di ?_|refine aE fc ?_|refine aF fc ?_|simp[bp,j5,ha]|((first|apply bO|apply bS|apply bR)<;>intro h<;>try simp at h))<;>(try exact cq));all_goals simp[bA,jA,aV,aY,aU]
    all_goals simp[fM]
 |pair a b=>
  have dJ:O=if(T.pair a b).kind=k then some l else none:=by rw[←dg];rfl
  by_cases ha:(T.pair a b).kind=k
  ·rw[if_pos ha]at dJ;rw[dJ];refine br jC qB ra fun aR=>?_;unfold pT;simp;simp at ha;rcases tl with bp|⟨bp,j5⟩
   ·((with_reducible repeat' first|refine ak ?_|refine aE ec ?_|refine aF ec ?_|refine aE dK ?_|refine aF dK ?_|refine aE di ?_|refine aF di ?_|refine aE fc ?_|refine aF fc ?_|simp[bp,ha]|((first|apply bO|apply bS|apply bR)<;>intro h<;>try simp at h))<;>(try exact cq));all_goals simp[bA,jA,aV,aY,aU]
    all_goals simp[fM]
   ·((with_reducible repeat' first|refine ak ?_|refine aE ec ?_|refine aF ec ?_|refine aE dK ?_|refine aF dK ?_|refine aE di ?_|refine aF di ?_|refine aE fc ?_|refine aF fc ?_|simp[bp,j5,ha]|((first|apply bO|apply bS|apply bR)<;>intro h<;>try simp at h))<;>(try exact cq));all_goals simp[bA,jA,aV,aY,aU]
    all_goals simp[fM]
  ·rw[if_neg ha]at dJ;rw[dJ];refine br jC qB ra fun aR=>?_;unfold pT;simp;simp at ha;rcases tl with bp|⟨bp,j5⟩
   ·((with_reducible repeat' first|refine ak ?_|refine aE ec ?_|refine aF ec ?_|refine aE dK ?_|refine aF dK ?_|refine aE di ?_|refine aF di ?_|refine aE fc ?_|refine aF fc ?_|simp[bp,ha]|((first|apply bO|apply bS|apply bR)<;>intro h<;>try simp at h))<;>(try exact cq));all_goals simp[bA,jA,aV,aY,aU]
    all_goals simp[fM]
   ·((with_reducible repeat' first|refine ak ?_|refine aE ec ?_|refine aF ec ?_|refine aE dK ?_|refine aF dK ?_|refine aE di ?_|refine aF di ?_|refine aE fc ?_|refine aF fc ?_|simp[bp,j5,ha]|((first|apply bO|apply bS|apply bR)<;>intro h<;>try simp at h))<;>(try exact cq));all_goals simp[bA,jA,aV,aY,aU]
    all_goals simp[fM]
def iN(o:aW (List bf)):ah:= .tuple [.slice 2 .no ((o.getD []).map bf.e),.bool o.isSome]
@[simp] theorem ano(S:aD→Prop)(o:aW (List bf)):aB S (iN o)=True:=by simp[iN]
theorem Vd{l:List bf}(h:iJ l):bI ao 88 [.slice 2 .no (l.map bf.e)] (.bool true):=by have:=Vc l;simpa only[h,decide_true]using this
theorem ajq{s:List dA}(h:jl s=true):bI ao 160 [.str s] (.bool true):=by have:=sC s;rwa[h]at this
def BN(l:List bf):List ah:=l.flatMap fun m=>[m.e,.bool true]
theorem Si(l:List bf):nj l= .hdm l.length (List.range l.length)::BN l:=rfl
theorem Jx(b:Nat):∀(n:Nat) (l:List bf),l7 b (List.range' n l.length) (BN l)=(if n≤b then(l[b-n]?).map fun x=>.tuple [x.e,.bool true]else none)
 |n,[]=>by simp[l7,BN]
 |n,x::r=>by
  have e:BN (x::r)=x.e:: .bool true::BN r:=rfl;simp only[pK,List.range'_succ,e,l7];by_cases h:n=b
  ·subst h;simp
  ·rw[if_neg h,Jx b (n+1) r];by_cases U:n≤b
   ·rw[if_pos U,if_pos (by omega)];have:b-n=(b-(n+1))+1:=by omega
    rw[this];simp
   ·rw[if_neg U,if_neg (by omega)]
@[simp] theorem an8(l:List bf):hF (nj l)=false:=rfl
@[simp] theorem aos(m:aD)(l:List bf):vw m (nj l)=some (cf l.length [] m):=rfl
theorem aev(f:aD→aW (List ah))(fb mk:aD)(n:Nat)(seen:List Nat)(b:Nat)(l:List bf)(x:bf)(hi:f fb=some (cf n (seen++[b]) mk))(hm:f mk=some (nj l))(aA:n=l.length)(ad:l[b]? =some x):oN f (.ptr fb 0)=some (True,.tuple [x.e,.bool true]):=by subst aA;simp only[St,hi,hm,cf,Si,List.getLast?_append,List.getLast?_singleton,Option.some_or,List.range_eq_range',Jx,Nat.zero_le,if_true,Nat.sub_zero,Option.map_map];simp[ad]
theorem XR{st:bo}{d:Nat}{K:bo→Prop}{fb mk:aD}{n:Nat}{seen:List Nat}{l:List bf}(hi:Pv.look fb st.b=some (cf n seen mk))(hm:Pv.look mk st.b=some (nj l))(aA:n=l.length)
  (J:(∀b,b<l.length→b∈seen)→K {st with t:=Pv.put d (.tuple [.bool false]) st.t}) (U:∀b x,l[b]? =some x→b∉seen→K {st with t:=Pv.put d (.tuple [.bool true,x.e,.bool true]) st.t,b:=cw fb (cf n (seen++[b]) mk) st.b}):
  rP st d (.ptr fb 0) K:=by
 subst aA;simp only[rP,hi,cf,hm,Si,JK,and_self,true_and];refine⟨fun h=>J fun b ae=>h b (by simpa using ae),fun b k v wQ ae=>?_⟩;rw[List.range_eq_range',Jx]at wQ;simp only[Nat.zero_le,if_true,Nat.sub_zero,gA,ah.tuple.injEq,pI,and_true]at wQ;obtain⟨x,aj,aC,bg⟩:=wQ;subst aC bg;exact U b x aj ae
theorem aeq{m x:bf}{l:List bf}:x∈kB m l↔x=m∨x∈l:=by
 unfold kB;split
 ·constructor
  ·exact .inr
  ·rintro(rfl|h)<;>assumption
 ·simp[or_comm]
theorem Wj{m:bf}{l:List bf}(h:l.Nodup):(kB m l).Nodup:=by
 unfold kB;split
 ·exact h
 ·rw[List.nodup_append];exact⟨h,by simp,fun a bD b ae=>by simp at ae;subst ae;intro e;subst e;contradiction⟩
theorem Wi(m:bf)(l:List bf):(kB m l).length≤l.length+1:=by unfold kB;split<;>simp
theorem aaD(s:List dA)(t:T):∀l:List bf,(t.fold (fun v l=>kB ⟨v,s⟩ l) l).length≤l.length+t.size:=by
 induction t with
 |var n=>intro l;simp only[T.fold,T.size];exact Wi _ _
 |pair a b dO dP=>intro l;simp only[T.fold,T.size];have:=dO l;have:=dP (a.fold (fun v l=>kB ⟨v,s⟩ l) l);omega
 |_=>intro l;simp[T.fold,T.size]
theorem aaE(s:List dA)(t:T):∀{l:List bf},l.Nodup→(t.fold (fun v l=>kB ⟨v,s⟩ l) l).Nodup:=by
 induction t with
 |var n=>intro l h;exact Wj h
 |pair a b dO dP=>intro l h;exact dP (dO h)
 |_=>intro l h;exact h
theorem aer(s:List dA)(t:T)(x:bf):∀{l:List bf},x∈t.fold (fun v l=>kB ⟨v,s⟩ l) l↔x∈l∨(x.s=s∧t.occ x.v=true):=by
 induction t with
 |var n=>
  intro l;simp only[T.fold,aeq,T.occ,dG];constructor
  ·rintro(rfl|h)
   ·exact .inr ⟨rfl,rfl⟩
   ·exact .inl h
  ·rintro(h|⟨J,U⟩)
   ·exact .inr h
   ·left;cases x;simp at J U;subst J U;rfl
 |pair a b dO dP=>
  intro l;simp only[T.fold,dP,dO,T.occ,mf];constructor
  ·rintro((h|h)|h)
   ·exact .inl h
   ·exact .inr ⟨h.1,.inl h.2⟩
   ·exact .inr ⟨h.1,.inr h.2⟩
  ·rintro(h|⟨J,U|U⟩)
   ·exact .inl (.inl h)
   ·exact .inl (.inr ⟨J,U⟩)
   ·exact .inr ⟨J,U⟩
 |_=>intro l;simp[T.fold,T.occ]
def adC(M:List bf)(k:Nat)(st:bo):Prop:=∃(seen:List Nat) (xs:List bf),seen.Nodup∧(∀b∈seen,b<M.length)∧k=M.length-seen.length∧xs=seen.filterMap (fun b=>M[b]?)∧xs.length=seen.length∧st=⟨[(15,.ptr (.obj 815) 0),(63,.ptr (.loc 2) 0)],[(.obj 812,nj M),(.loc 2,cf M.length seen (.obj 812)),(.obj 815,[.row 2 (.obj 814) xs.length])],[(.obj 814,⟨xs.length,100,2,some (xs.map bf.e)⟩)],3,[.obj 815,.obj 814,.obj 813,.obj 812,.obj 811]⟩
set_option maxRecDepth 4000 in
theorem ajn{s:List aq}(ag:eG s){l:List bf}(au:iJ l)(wO:l.length≤68719470000)(t:T)(aO:t.fit=true){g:List dA}(a1:jl g=true):
  bI ao 120 [.slice 5 .no (s.map aq.e),.slice 2 .no (l.map bf.e),t.e,.str g] (iN (if(t.ap (cx s)).size≤5000 then lp l (t.ap (cx s)) g else none)):=by
 have ec:=pD ag;have dK:=Lp aO;have dM:=Vd au;have hE:=ajq a1;have fc:=Ga s t ag.len ag.sol.asc ag.fit;generalize ad:t.ap (cx s)=x at fc⊢;generalize dg:(if x.size≤5000 then lp l x g else none)=O;by_cases bC:x.size≤5000;rotate_left
 ·rw[if_neg bC]at dg;rw[←dg];rw[if_neg bC,oe bC]at fc;refine br jC Hs JQ fun aR=>?_;unfold C9;simp;(with_reducible repeat' first|refine ak ?_|refine aE ec ?_|refine aF ec ?_|refine aE dK ?_|refine aF dK ?_|refine aE dM ?_|refine aF dM ?_|refine aE hE ?_|refine aF hE ?_|refine aE fc ?_|refine aF fc ?_|simp);simp[bA,Fc,aV,aY,aU];simp[iN]
 rw[if_pos bC]at dg;rw[if_pos bC,nz bC]at fc;have y4:=ajO g x;cases cI:x.has g;rotate_left
 ·rw[cI]at y4;have dJ:O=none:=by rw[←dg];unfold lp;rw[cI];rfl
  rw[dJ];refine br jC Hs JQ fun aR=>?_;unfold C9;simp;(with_reducible repeat' first|refine ak ?_|refine aE ec ?_|refine aF ec ?_|refine aE dK ?_|refine aF dK ?_|refine aE dM ?_|refine aF dM ?_|refine aE hE ?_|refine aF hE ?_|refine aE fc ?_|refine aF fc ?_|refine aE y4 ?_|refine aF y4 ?_|simp);simp[bA,Fc,aV,aY,aU];simp[iN]
 rw[cI]at y4;refine br jC Hs JQ fun aR=>?_;unfold C9;simp;(with_reducible repeat' first|refine ak ?_|refine aE ec ?_|refine aF ec ?_|refine aE dK ?_|refine aF dK ?_|refine aE dM ?_|refine aF dM ?_|refine aE hE ?_|refine aF hE ?_|refine aE fc ?_|refine aF fc ?_|refine aE y4 ?_|refine aF y4 ?_|simp);have Be:l.Nodup:=hy.nodup lb au.asc;have hV:∀xs:List bf,xs.Perm (x.fold (fun v l=>kB ⟨v,g⟩ l) l)→O=some (n3 e5 xs):=fun xs bF=>by
  rw[←dg];refine Gw cI ?_ fun y=>?_
  ·have J:=K2 lb xs;have U:(n3 e5 xs).Nodup:=(((xH e5 xs).trans bF).nodup_iff).2 (aaE g x Be);exact(J.and U).imp fun{a b} h=>by have:=mt (lb.zero a b).1 h.2;omega
  ·rw[((xH e5 xs).trans bF).mem_iff,aer]
 have hlen:(x.fold (fun v l=>kB ⟨v,g⟩ l) l).length≤68719475000:=by have:=aaD g x l;omega
 rw[show jn []=nj []from rfl];refine ik (fun i (_:Unit)=>⟨[(7,.ptr (.obj 811) 0),(10,.ptr (.loc 1) 0),(12,.ptr (.obj 813) 0),(49,.slice 2 .no (l.map bf.e)),(50,.int .i64 l.length),(51,.int .i64 i)],[(.obj 811,[.str g]),(.loc 1,[.int .i64 x.kind,.int .i64 x.int,.str x.name,.slice 4 .no (x.args.map T.e)]),(.obj 812,nj (l.take i)),(.obj 813,[.gmap (.obj 812)])],[],2,[.obj 813,.obj 812,.obj 811]⟩) l.length (fun _ _=>True) () b4 trivial (fun _ _ _=>?_) (fun i _ hi _ _=>?_)
 ·rw[oY];simp;(with_reducible repeat' first|refine ak ?_|simp);have key:=PG (nC g) (CY g) (Gp g) 184 [.ptr (.obj 813) 0,.ptr (.obj 811) 0] (by intro a;simp[inObs,nC,Pv.look,aH,aB]) (by simp) (fun v l=>kB ⟨v,g⟩ l) (fun v a=>aaL g v a) x l;refine c2.ob key (CY g l) (by unfold nC;exact aQ) (by unfold nC;exact aQ) (by simp[inObs,nC,Pv.look]) ?_;rintro r ai ⟨rfl,rfl⟩;refine⟨Gp g _ _,?_⟩;unfold nC;generalize gM:x.fold (fun v l=>kB ⟨v,g⟩ l) l=M at hV hlen⊢;simp[cu];(with_reducible repeat' first|refine ak ?_|simp);refine s5 (adC M) M.length _ ⟨by simp[fresh,aH,aB,cf,inObs,Pv.look,y6],eh (by simp[fresh,aH,aB,cf,inObs,Pv.look,y6]),ei (by simp[fresh,aH,aB,dN,inObs,Pv.look,y6]),by simp⟩ ⟨[],[],by simp,by simp,by simp,by simp,by simp,rfl⟩ ?_;rintro k st ⟨seen,xs,aP,bu,ab,Q5,jM,rfl⟩ p1 c1;clear p1 c1;have hle:=FK aP bu;simp;refine XR (mk:= .obj 812) (seen:=seen) (l:=M) (by simp) (by simp) rfl (fun kX=>?_) (fun b y aL ae=>?_)
  ·have uV:=KV aP bu kX;rw[←Q5]at uV;have dw:=hV xs uV;simp;(with_reducible repeat' first|refine ak ?_|simp);have key:=abi xs (by omega);have eS:=Gn xs;unfold vV dI at key eS;refine c2.ob key eS aQ aQ (by simp[inObs,Pv.look]) ?_;rintro r ai ⟨rfl,rfl⟩;refine⟨Same.keys (by simp) (by simp),?_⟩;rw[dw];simp[cu];(with_reducible repeat' first|refine ak ?_|simp);simp[bA,Fc,aV,aY,aU];simp[iN]
  ·have yK:∀f:aD→aW (List ah),f (.loc 2)=some (cf M.length (seen++[b]) (.obj 812))→f (.obj 812)=some (nj M)→oN f (.ptr (.loc 2) 0)=some (True,.tuple [y.e,.bool true]):=fun f J U=>aev f (.loc 2) (.obj 812) M.length seen b M y J U rfl aL;have fs:b<M.length:=(fH.1 aL).1;have pb:=KW aP bu fs ae;simp[yK];(with_reducible repeat' first|refine ak ?_|simp[yK]);all_goals first|(refine⟨by unfold lim;omega,?_⟩)|skip
   have wL:∀S:aD→Prop,aH S (xs.map bf.e++[y.e])=True:=fun S=>by
    have e:xs.map bf.e++[y.e]=(xs++[y]).map bf.e:=by simp
    rw[e];simp[-List.map_append]
   refine bL.next (M.length-(seen.length+1)) (by omega) ⟨seen++[b],xs++[y],JO aP ae,(by simp;intro c aw;rcases aw with aw|rfl;exact bu c aw;exact fs),by simp,by rw[List.filterMap_append,←Q5];simp[aL],by simp[jM],rfl⟩ ⟨by simp[fresh,aH,aB,cf,inObs,Pv.look,y6,wL],eh (by simp[fresh,aH,aB,cf,inObs,Pv.look,y6,wL]),ei (by simp[fresh,aH,aB,dN,inObs,Pv.look,y6,wL]),by simp⟩
 ·obtain⟨b,ae,cG⟩:=ep hi;have j3:kB b (l.take i)=l.take (i+1):=by
   have J:b∉l.take i:=fun h=>by
    obtain⟨j,af,e⟩:=mS h;have iU:j<i:=by simp at af;omega
    rw[List.getElem_take]at e;have:=(List.nodup_iff_pairwise_ne.1 Be);exact(oX.1 this j i (by omega) hi iU) (by rw[e,cG])
   rw[List.take_succ,ae];simp[kB,J]
  exact hM
def ML:C:=(aa [bm 4 false] (.seq (aa [I 7 0,cn 8 7,bV 9 0] (fG 10 9 8 (.seq (.block 1 (aa [cv 11 5 7 9,be 12 5 11,dL 6 jO,b1 5 6 12] (aa [aG 13 0 1 6,ax 14 1 13,I 15 1,bk 16 .geq 14 15,I 17 16,ar 17 false (hG 18 1 4 6),ar 17 false (be 19 4 18),ys 17 false (.bsl 20 4 30 [.t 19]),ar 17 false (c7 21 162 20),b3 17 false 22 1,ar 17 false (bk 23 .gtr 21 22),df 24 17 23] (aT 24 (aa [bm 4 false] .ret) .skip)))) (.region [aS 25 .add 9 1,I 9 25])))) (aa [bm 4 true] .ret)))
@[simp] def ahk:List bK:=[.tmp 4]
def MK:C:=(aa [bV 2 0] (.seq (aa [I 6 0,c7 7 172 6,cB 8 7] (aT 8 (aa [bV 2 (-1)] .ret) .skip)) (aa [cX (.alloc 3 (some 831) (.int .i64 0)),cX (.store 1 (.t 3) (gi 0))] (.seq (aa [I 9 0,cn 10 9,bV 11 0] (fG 12 11 10 (.seq (.block 1 (aa [cv 13 4 9 11,be 14 4 13,dL 5 dX,b1 4 5 14] (.region [be 15 4 5,b0 16 (.mkf 204 [.t 3]),cl 17 134 15 16]))) (.region [aS 18 .add 11 1,I 11 18])))) (aa [ax 19 1 3,I 2 19] .ret)))))
@[simp] def ahi:List bK:=[.tmp 2]
def MG:C:=(aa [eO 4 2,bm 5 false] (.seq (aa [I 11 0,c7 12 86 11,cB 13 12,I 14 13,b3 14 false 15 1,ar 14 false (c7 16 87 15),ar 14 false (cB 17 16),df 18 14 17] (aT 18 (aa [eO 4 2,bm 5 false] .ret) .skip)) (aa [fC 19 2 98 [],I 6 19] (.seq (.seq (.fg false 6 (.region [I 20 1,cn 21 20,bV 22 0])) (fG 23 22 21 (.seq (.block 1 (aa [cv 24 2 20 22,be 25 2 24,cX (.alloc 8 none (.agg [.int .i64 0,.int .i64 0])),b1 2 8 25] (.seq (.drawn true 42 [I 27 0,I 28 6,aG 29 0 1 8,ax 30 1 29,c7 31 116 30,aG 32 1 1 8,ax 33 1 32,dE 34 118 [.t 27,.t 28,.t 31,.t 33],I 26 34,cV 35 0 26,cV 36 1 26,I 9 35,I 10 36]) (.seq (aa [I 37 10,cB 38 37] (aT 38 (aa [eO 4 2,bm 5 false] .ret) .skip)) (.region [I 39 9,I 6 39]))))) (.region [aS 40 .add 22 1,I 22 40])))) (aa [I 41 6,I 4 41,bm 5 true] .ret)))))
@[simp] def Kd:List bK:=[.tmp 4,.tmp 5]
def MH:C:=(aa [eO 4 2,bm 5 false] (.seq (aa [I 11 0,c7 12 86 11,cB 13 12,I 14 13,b3 14 false 15 1,ar 14 false (c7 16 88 15),ar 14 false (cB 17 16),df 18 14 17] (aT 18 (aa [eO 4 2,bm 5 false] .ret) .skip)) (aa [fC 19 2 100 [],I 6 19] (.seq (.seq (.fg false 6 (.region [I 20 1,cn 21 20,bV 22 0])) (fG 23 22 21 (.seq (.block 1 (aa [cv 24 2 20 22,be 25 2 24,cX (.alloc 8 none (.agg [.int .i64 0,.str []])),b1 2 8 25] (.seq (.drawn true 42 [I 27 0,I 28 6,aG 29 0 1 8,ax 30 1 29,c7 31 116 30,aG 32 1 1 8,ax 33 1 32,dE 34 120 [.t 27,.t 28,.t 31,.t 33],I 26 34,cV 35 0 26,cV 36 1 26,I 9 35,I 10 36]) (.seq (aa [I 37 10,cB 38 37] (aT 38 (aa [eO 4 2,bm 5 false] .ret) .skip)) (.region [I 39 9,I 6 39]))))) (.region [aS 40 .add 22 1,I 22 40])))) (aa [I 41 6,I 4 41,bm 5 true] .ret)))))
@[simp] def Ke:List bK:=[.tmp 4,.tmp 5]
def MD:C:=(aa [eO 2 1] (.seq (aa [I 12 0,cn 13 12,bV 14 0] (fG 15 14 13 (.seq (.block 1 (aa [cv 16 1 12 14,ax 17 1 16,I 4 17] (aa [I 18 4,c7 19 86 18,cB 20 19] (aT 20 (aa [eO 2 1] .ret) .skip)))) (.region [aS 21 .add 14 1,I 14 21])))) (aa [cX (.bslm 22 (some 821) 1 46 []),I 23 0,cX (.appm 24 none 1 46 (.t 22) (.t 23)),cX (.alloc 5 (some 822) (.slice 1 .nil [])),b1 1 5 24] (aa [ax 25 1 5,b0 26 (.mkif 47 (.t 25)),b0 27 (.mkf 206 [.t 5]),cl 28 140 26 27] (aa [fC 29 1 46 [],I 6 29] (.seq (aa [ax 30 1 5,cn 31 30,bV 32 0] (.block 2 (.loop (aa [bk 33 .lss 32 31] (.seq (aT 33 .skip (.exit 2)) (.seq (.block 3 (aa [I 34 32,cv 35 1 30 32,ax 36 1 35,I 7 34,I 8 36] (.seq (aa [I 37 7,aS 38 .gtr 37 0,I 39 38,ar 39 true (ax 40 1 5),b3 39 true 41 7,ar 39 true (aS 42 .sub 41 1),ar 39 true (cv 43 1 40 42),ar 39 true (ax 44 1 43),b3 39 true 45 8,ar 39 true (cl 46 207 44 45),ar 39 true (aS 47 .eql 46 0),dH 48 39 47] (aT 48 (.exit 3) .skip)) (aa [bm 9 true] (.seq (aa [ax 49 1 5,cn 50 49,bV 51 0] (.block 4 (.loop (aa [bk 52 .lss 51 50] (.seq (aT 52 .skip (.exit 4)) (.seq (.block 5 (aa [cv 53 1 49 51,ax 54 1 53,I 11 54] (aa [I 55 11,I 56 8,cl 57 207 55 56,aS 58 .neq 57 0,I 59 58,b3 59 true 60 11,b3 59 true 61 8,ar 59 true (cl 62 208 60 61),dH 63 59 62] (aT 63 (.region [bm 9 false]) .skip)))) (.region [aS 64 .add 51 1,I 51 64]))))))) (aa [I 65 9] (aT 65 (.region [I 66 6,I 67 8,c7 68 168 67,fC 69 1 46 [.t 68],iP 70 1 46 66 69,I 6 70]) .skip))))))) (.region [aS 71 .add 32 1,I 32 71]))))))) (aa [I 72 6,I 2 72] .ret)))))))
@[simp] def ahe:List bK:=[.tmp 2]
def GO:C:=(.region [ax 3 1 1,I 4 0,aS 5 .add 4 1,b0 6 (.max2 (.t 3) (.t 5)),b1 1 1 6])
@[simp] def Kg:List bK:=[]
def ME:C:=(aa [bm 5 false] (.seq (.drawn true 16 [ax 6 1 2,I 7 0,cv 8 1 6 7,ax 9 1 8,ax 10 1 2,I 11 1,cv 12 1 10 11,ax 13 1 12,cl 14 207 9 13,aS 15 .lss 14 0,I 5 15]) .ret))
@[simp] def Tr:List bK:=[.tmp 5]
def vH:List (Nat×dB):=[
 (3,⟨1,8,.int .i64,.int .i64 0⟩),
 (9,⟨1,16,.str,.str []⟩),
 (27,⟨1,24,.slice 30,.slice 4 .nil []⟩),
 (30,⟨4,56,.struct [(0,3),(1,3),(2,9),(3,27)],.agg [.int .i64 0,.int .i64 0,.str [],.slice 4 .nil []]⟩),
 (46,⟨1,24,.slice 113,.slice 5 .nil []⟩),
 (47,⟨1,24,.slice 46,.slice 1 .nil []⟩),
 (48,⟨1,24,.slice 98,.slice 2 .nil []⟩),
 (49,⟨1,24,.slice 100,.slice 2 .nil []⟩),
 (98,⟨2,16,.struct [(0,3),(1,3)],.agg [.int .i64 0,.int .i64 0]⟩),
 (100,⟨2,24,.struct [(0,3),(1,9)],.agg [.int .i64 0,.str []]⟩),
 (113,⟨5,64,.struct [(0,3),(1,30)],.agg [.int .i64 0,.int .i64 0,.int .i64 0,.str [],.slice 4 .nil []]⟩)]
theorem vJ:fN ao vH=true:=by kernel_rfl
theorem afj:b5 vH ML ahk 2 Tryz.f89=true:=by kernel_rfl
theorem YW:ao.funcs[(89:Nat)]? =some Tryz.f89:=Tryz.func89
theorem afi:b5 vH MK ahi 1 Tryz.f162=true:=by kernel_rfl
theorem YV:ao.funcs[(162:Nat)]? =some Tryz.f162:=Tryz.func162
theorem afe:b5 vH MG Kd 2 Tryz.f163=true:=by kernel_rfl
theorem YR:ao.funcs[(163:Nat)]? =some Tryz.f163:=Tryz.func163
theorem aff:b5 vH MH Ke 2 Tryz.f164=true:=by kernel_rfl
theorem YS:ao.funcs[(164:Nat)]? =some Tryz.f164:=Tryz.func164
theorem afb:b5 vH MD ahe 1 Tryz.f167=true:=by kernel_rfl
theorem YO:ao.funcs[(167:Nat)]? =some Tryz.f167:=Tryz.func167
theorem SP:b5 vH GO Kg 2 Tryz.f204=true:=by kernel_rfl
theorem Pa:ao.funcs[(204:Nat)]? =some Tryz.f204:=Tryz.func204
theorem afc:b5 vH ME Tr 3 Tryz.f206=true:=by kernel_rfl
theorem YP:ao.funcs[(206:Nat)]? =some Tryz.f206:=Tryz.func206
def Rm(s:List aq)(l:List bG)(i:Nat)(a:List bG):Prop:=iI a∧fR s (l.drop i) a=fR s l []
theorem Ve{s:List aq}(ag:eG s){l:List bG}(au:iI l):bI ao 163 [.slice 5 .no (s.map aq.e),.slice 2 .no (l.map bG.e)] (fM (fR s l [])):=by
 have wO:=u7 au;have ec:=pD ag;have di:=Vb au;refine br vJ YR afe fun aR=>?_;unfold MG;simp;(with_reducible repeat' first|refine ak ?_|refine aE ec ?_|refine aF ec ?_|refine aE di ?_|refine aF di ?_|simp);refine dU [0,20,21] (fun i (a:List bG)=>[(6,.slice 2 .no (a.map bG.e)),(22,.int .i64 i)]) l.length (Rm s l) [] b4 ⟨⟨by simp,by simp⟩,rfl⟩ (fun a af _=>?_) (fun i a hi af _=>?_)
 ·obtain⟨_,af⟩:=af;rw[List.drop_length]at af;simp only[fR]at af;rw[←af];simp;(with_reducible repeat' first|refine ak ?_|simp);simp[bA,Kd,aV,aY,aU];simp[fM]
 ·obtain⟨bD,af⟩:=af;obtain⟨b,ae,cG⟩:=ep hi;have nK:=au.at' b (eP ae);rw[kQ hi,cG]at af;simp only[fR]at af;have fY:=ajo ag bD (.var b.v) (by simp[T.fit,T.ok,T.size,nK.1]) b.k;have bC:((T.var b.v).ap (cx s)).size≤5000:=Cu ag b.v;rw[if_pos ⟨nK.2,bC⟩,show(T.var b.v).ap (cx s)=cx s b.v from rfl]at fY;simp[hi,cG];cases dJ:jU a (cx s b.v) b.k with
  |none=>rw[dJ]at af fY;simp only at af;rw[←af];simp only[fM]at fY;(with_reducible repeat' first|refine ak ?_|refine aE (ku _) ?_|refine aF (ku _) ?_|refine aE fY ?_|refine aF fY ?_|simp[cG,hi]);simp[bA,Kd,aV,aY,aU];simp[fM]
  |some bj=>rw[dJ]at af fY;simp only[fM]at fY;(with_reducible repeat' first|refine ak ?_|refine aE (ku _) ?_|refine aF (ku _) ?_|refine aE fY ?_|refine aF fY ?_|simp[cG,hi]);exact bL.rng bj hi ⟨Gv bD (zM ag nK.1) nK.2 dJ,af⟩ b4
def Rn(s:List aq)(G:List (List dA))(l:List bf)(i:Nat)(a:List bf):Prop:=iJ a∧np G a∧fS s (l.drop i) a=fS s l []
theorem Vf{s:List aq}(ag:eG s){l:List bf}(au:iJ l){G:List (List dA)}(mv:G.length≤687000)(a1:np G l):bI ao 164 [.slice 5 .no (s.map aq.e),.slice 2 .no (l.map bf.e)] (iN (fS s l [])):=by
 have hlen:∀{a:List bf},iJ a→np G a→a.length≤68719470000:=fun J U=>by have:=BO J U;omega
 have wO:=hlen au a1;have ec:=pD ag;have di:=Vd au;refine br vJ YS aff fun aR=>?_;unfold MH;simp;(with_reducible repeat' first|refine ak ?_|refine aE ec ?_|refine aF ec ?_|refine aE di ?_|refine aF di ?_|simp);refine dU [0,20,21] (fun i (a:List bf)=>[(6,.slice 2 .no (a.map bf.e)),(22,.int .i64 i)]) l.length (Rn s G l) [] b4 ⟨⟨by simp,by simp[hy]⟩,fun x ad=>by simp at ad,rfl⟩ (fun a af _=>?_) (fun i a hi af _=>?_)
 ·obtain⟨_,_,af⟩:=af;rw[List.drop_length]at af;simp only[fS]at af;rw[←af];simp;(with_reducible repeat' first|refine ak ?_|simp);simp[bA,Ke,aV,aY,aU];simp[iN]
 ·obtain⟨bD,Bt,af⟩:=af;obtain⟨b,ae,cG⟩:=ep hi;have nK:=au.at' b (eP ae);have H5:=a1 b (eP ae);rw[kQ hi,cG]at af;simp only[fS]at af;have fY:=ajn ag bD (hlen bD Bt) (.var b.v) (by simp[T.fit,T.ok,T.size,nK.1]) nK.2;have bC:((T.var b.v).ap (cx s)).size≤5000:=Cu ag b.v;rw[if_pos bC,show(T.var b.v).ap (cx s)=cx s b.v from rfl]at fY;simp[hi,cG];cases dJ:lp a (cx s b.v) b.s with
  |none=>rw[dJ]at af fY;simp only at af;rw[←af];simp only[iN]at fY;(with_reducible repeat' first|refine ak ?_|refine aE (ku _) ?_|refine aF (ku _) ?_|refine aE fY ?_|refine aF fY ?_|simp[cG,hi]);simp[bA,Ke,aV,aY,aU];simp[iN]
  |some bj=>rw[dJ]at af fY;simp only[iN]at fY;(with_reducible repeat' first|refine ak ?_|refine aE (ku _) ?_|refine aF (ku _) ?_|refine aE fY ?_|refine aF fY ?_|simp[cG,hi]);exact bL.rng bj hi ⟨Gx bD (zM ag nK.1) nK.2 dJ,Gy Bt H5 dJ,af⟩ b4
end Go.Proofs.YtahlgcidhnjlbaaGreat
namespace Go.Proofs.YtahlgcidhnjlbaaGreat
open Go Go.Pv Go.Lib
def cK(d:List aq):ah:= .slice 5 .no (d.map aq.e)
@[simp] theorem am7(S:aD→Prop)(d:List aq):aB S (cK d)=True:=by simp[cK]
@[simp] theorem ale(d:List aq):cells (cK d)=[cK d]:=rfl
@[simp] theorem aoI(d:List aq):dS (cK d)=true:=rfl
@[simp] theorem apa(d:List aq):dn (cK d)=cK d:=by simp[cK]
theorem OP:∀(S:aD→Prop) (x:List aq),aB S (cK x):=fun S x=>by simp
theorem Je(S:aD→Prop):∀l:List (List aq),aH S (l.map cK)
 |[]=>by simp[aH]
 |x::xs=>by simp[aH,Je S xs]
@[simp] theorem RU(S:aD→Prop)(l:List (List aq)):aH S (l.map cK)=True:=eq_true (Je S l)
@[simp] theorem K7:∀l:List (List aq),cU (l.map cK)=l.map cK
 |[]=>rfl
 |x::xs=>by simp[cU,K7 xs]
def fP(d:List cQ):ah:= .slice 5 .no (d.map cQ.e)
@[simp] theorem alh(d:List cQ):cells (fP d)=[fP d]:=rfl
@[simp] theorem aoL(d:List cQ):dS (fP d)=true:=rfl
theorem Hg(d:List aq):fP (d.map aq.b)=cK d:=by simp only[fP,cK,za]
theorem OS(l:List (List aq)):(l.map fun d=>d.map aq.b).map fP=l.map cK:=by rw[List.map_map];exact List.map_congr_left fun d _=>Hg d
@[simp] theorem ana(S:aD→Prop)(d:List cQ):aB S (fP d)=True:=by simp[fP]
@[simp] theorem apd(d:List cQ):dn (fP d)=fP d:=by simp[fP]
theorem RW(S:aD→Prop):∀l:List (List cQ),aH S (l.map fP)
 |[]=>by simp[aH]
 |x::xs=>by simp[aH,RW S xs]
@[simp] theorem am2(S:aD→Prop)(l:List (List cQ)):aH S (l.map fP)=True:=eq_true (RW S l)
abbrev sO(l:List (List aq)):cF:=dI cK 821 822 46 1 l
theorem Gk(l:List (List aq)):ee (sO l):=vW OP l
theorem aaO(l:List (List aq))(au:l.length≤68719476736)(i j:Nat)(x y:List aq)(hi:l[i]? =some x)(af:l[j]? =some y):bJ ao 206 [.int .i64 i,.int .i64 j,.ptr (.obj 822) 0] (sO l) fun r ai=>r= .bool (hv ek x y)∧ai=sO l:=by have ag:=Gk l;obtain⟨lx,ho⟩:=fH.1 hi;obtain⟨dR,o8⟩:=fH.1 af;have a8:bI ao 207 [cK x,cK y] (.int .i64 (ek x y)):=F8 x y;unfold sO dI at ag⊢;refine bJ.mk mixed vJ YP afc (by simp) ag.obj fun aR c1=>?_;unfold ME;simp[lx,dR,ho,o8];(with_reducible repeat' first|refine ak ?_|refine aE a8 ?_|refine aF a8 ?_|simp[lx,dR,ho,o8]);refine cN.at _ (.inl rfl) ag (Same.refl _) aQ aQ ?_;simp[cT,Tr,aV,aY,aU,hv]
noncomputable def Tryz.dsT:TypeInfo:=(ao.info? 47).get (by kernel_rfl)
noncomputable def Tryz.dsE:TypeInfo:=(ao.info? 46).get (by kernel_rfl)
theorem Tryz.dsK(n:Nat)(U:2≤n):Lib.swapperK n Tryz.dsE 23=9:=by
 have a:Tryz.dsE.hasPointers=true:=by kernel_rfl
 have b:Tryz.dsE.bytes=24:=by kernel_rfl
 have c:(n==0)=false:=by simp;omega
 have d:(n==1)=false:=by simp;omega
 simp[Lib.swapperK,a,b,c,d]
theorem abg(l:List (List aq))(au:l.length≤68719476736):bJ ao 140 [.iface 47 (.row 1 (.obj 821) l.length),.func 206 [.ptr (.obj 822) 0]] (sO l) fun r ai=>r= .tuple []∧ai=sO (n3 ek l):=by
 refine(aaR OP (K:=821) (B:=822) (sz:=1) 47 Tryz.dsT Tryz.dsE (by kernel_rfl) (by kernel_rfl) (by kernel_rfl) (by kernel_rfl) 23 (fun _=>by kernel_rfl) Tryz.dsK 206 (hv ek) la.ltOk l au (fun aX h i j x y hi af=>aaO aX (by omega) i j x y hi af) (fun aX h i j hi af=>?_)).mono ?_
 ·have:=PQ (P:=ao) false 230 (fun args W=>run_callFunc_extern Tryz.func230 (by kernel_rfl) (by kernel_rfl) (by kernel_rfl) (e:=CR false) (by kernel_rfl) args W)
   46 Tryz.dsE (by kernel_rfl) (.inr ⟨by kernel_rfl,fun _=>by kernel_rfl⟩) (Gk aX) (K:=821) (n:=l.length) (el:=46) (sz:=1) (by kernel_rfl) (xs:=aX.map cK) (by simp[dI,Pv.look,h]) i j hi af
  refine this.mono ?_;rintro r ai ⟨rfl,rfl⟩;refine⟨rfl,?_⟩;simp[dI,cw,Sf,h]
 ·rintro r ai ⟨rfl,aX,rfl,J,U⟩;exact⟨rfl,by rw[UB la J U]⟩
end Go.Proofs.YtahlgcidhnjlbaaGreat
namespace Go.Proofs.YtahlgcidhnjlbaaGreat
open Go Go.Pv
inductive gJ where
 |s (l:List dA)
 |b (x:ByteArray)
def gJ.e:gJ→ah
 | .s l=>.str l
 | .b x=>.cst (.string x)
def gJ.len:gJ→Int
 | .s l=>l.length
 | .b x=>x.size
def ma(n:Nat):Prop:=lim<n∧n≤9223372036854775807
def gJ.wf:gJ→Prop
 | .s _=>True
 | .b x=>ma x.size
inductive cZ (α:Type) where
 |l (xs:List α)
 |b (p:aW Addr) (n cap:Nat)
def cZ.e{α:Type}(sz:Nat)(f:α→ah):cZ α→ah
 | .l xs=>.slice sz .no (xs.map f)
 | .b p n cap=>.cst (.slice p n cap)
def cZ.wf{α:Type}(P:α→Prop):cZ α→Prop
 | .l xs=> ∀x∈xs,P x
 | .b _ n _=>ma n
inductive cr where
 |mk (k n:Int) (s:gJ) (a:List cr)
 |big (k n:Int) (s:gJ) (p:aW Addr) (len cap:Nat)
mutual
def cr.e:cr→ah
 | .mk k n s a=>.agg [.int .i64 k,.int .i64 n,s.e,.slice 4 .no (cr.eL a)]
 | .big k n s p len cap=>.agg [.int .i64 k,.int .i64 n,s.e,.cst (.slice p len cap)]
def cr.eL:List cr→List ah
 |[]=>[]
 |x::xs=>x.e::cr.eL xs
end
theorem cr.eL_map:∀l,cr.eL l=l.map cr.e
 |[]=>rfl
 |x::xs=>by simp[cr.eL,cr.eL_map xs]
def cr.kind:cr→Int| .mk k _ _ _=>k| .big k _ _ _ _ _=>k
def cr.num:cr→Int| .mk _ n _ _=>n| .big _ n _ _ _ _=>n
def cr.name:cr→gJ| .mk _ _ s _=>s| .big _ _ s _ _ _=>s
def cr.args:cr→cZ cr| .mk _ _ _ a=>.l a| .big _ _ _ p l c=>.b p l c
theorem cr.e_eq(t:cr):t.e= .agg [.int .i64 t.kind,.int .i64 t.num,t.name.e,t.args.e 4 cr.e]:=by
 cases t with
 |mk k n s a=>simp only[cr.e,cr.eL_map];rfl
 |big=>rfl
@[simp] theorem anf(S:aD→Prop)(s:gJ):aB S s.e=True:=by cases s<;>simp[gJ.e,aB]
@[simp] theorem apg(s:gJ):dn s.e=s.e:=by cases s<;>simp[gJ.e,dn]
mutual
theorem RY(S:aD→Prop):∀t:cr,aB S t.e
 | .mk k n s a=>by simp[cr.e,aB,aH,Jf S a]
 | .big k n s p l c=>by simp[cr.e,aB,aH]
theorem Jf(S:aD→Prop):∀l:List cr,aH S (cr.eL l)
 |[]=>by simp[cr.eL,aH]
 |x::xs=>by simp[cr.eL,aH,RY S x,Jf S xs]
end
mutual
theorem UH:∀t:cr,dn t.e=t.e
 | .mk k n s a=>by simp[cr.e,dn,cU,K8 a]
 | .big k n s p l c=>by simp[cr.e,dn,cU]
theorem K8:∀l:List cr,cU (cr.eL l)=cr.eL l
 |[]=>by simp[cr.eL,cU]
 |x::xs=>by simp[cr.eL,cU,UH x,K8 xs]
end
@[simp] theorem ant(S:aD→Prop)(t:cr):aB S t.e=True:=eq_true (RY S t)
@[simp] theorem am0(S:aD→Prop)(l:List cr):aH S (l.map cr.e)=True:=by rw[←cr.eL_map];exact eq_true (Jf S l)
@[simp] theorem apo(t:cr):dn t.e=t.e:=UH t
@[simp] theorem ao6(l:List cr):cU (l.map cr.e)=l.map cr.e:=by rw[←cr.eL_map];exact K8 l
@[simp] theorem ao3(t:cr):dS t.e=true:=by rw[cr.e_eq];rfl
@[simp] theorem amJ(t:cr):Pv.isAgg 4 t.e:=by rw[cr.e_eq];exact⟨_,rfl,rfl⟩
@[simp] theorem alC(t:cr):cells t.e=[.int .i64 t.kind,.int .i64 t.num,t.name.e,t.args.e 4 cr.e]:=by rw[cr.e_eq];rfl
@[simp] theorem ane(S:aD→Prop)(x:cZ cr):aB S (x.e 4 cr.e)=True:=by cases x<;>simp[cZ.e,aB]
@[simp] theorem apf(x:cZ cr):dn (x.e 4 cr.e)=x.e 4 cr.e:=by cases x<;>simp[cZ.e,dn]
mutual
def cr.sz:cr→Nat
 | .mk _ _ _ a=>1+cr.szL a
 | .big _ _ _ _ _ _=>1
def cr.szL:List cr→Nat
 |[]=>0
 |x::xs=>x.sz+cr.szL xs
end
theorem cr.szL_mem:∀{l:List cr} {x:cr},x∈l→x.sz≤cr.szL l
 |y::l,x,h=>by
  rcases fU.1 h with rfl|h
  ·simp[cr.szL]
  ·have:=cr.szL_mem h;simp[cr.szL];omega
mutual
def cr.wf:cr→Prop
 | .mk _ _ s a=>s.wf∧cr.wfL a
 | .big _ _ s _ l _=>s.wf∧ma l
def cr.wfL:List cr→Prop
 |[]=>True
 |x::xs=>x.wf∧cr.wfL xs
end
theorem cr.wfL_iff:∀{l:List cr},cr.wfL l↔∀x∈l,x.wf
 |[]=>by simp[cr.wfL]
 |x::l=>by simp[cr.wfL,cr.wfL_iff (l:=l)]
def jB{α:Type}(f:α→Int→Int):List α→Int→Int
 |[],m=>m
 |x::xs,m=>if f x m<0 then-1 else jB f xs (f x m)
def n5{α:Type}(f:α→Int→Int)(l:List α)(m:Int):Int:=if m-l.length<0 then-1 else jB f l (m-l.length)
def gS{α:Type}(f:α→Int→Int):cZ α→Int→Int
 | .l xs,m=>n5 f xs m
 | .b _ _ _,_=> -1
theorem UL{α:Type}{f:α→Int→Int}(aI:∀x m,0≤m→ -1≤f x m∧f x m≤m):∀(l:List α) (m:Int),0≤m→ -1≤jB f l m∧jB f l m≤m
 |[],m,h=>by simp only[jB];omega
 |x::xs,m,h=>by
  have J:=aI x m h;simp only[jB];split
  ·omega
  ·have U:=UL aI xs (f x m) (by omega);omega
theorem ai8{α:Type}{f:α→Int→Int}(aI:∀x m,0≤m→ -1≤f x m∧f x m≤m)(l:List α)(m:Int)(h:0≤m): -1≤n5 f l m∧n5 f l m≤m:=by
 unfold n5;split
 ·omega
 ·have:=UL aI l (m-l.length) (by omega);omega
theorem xL{α:Type}{f:α→Int→Int}(aI:∀x m,0≤m→ -1≤f x m∧f x m≤m)(l:cZ α)(m:Int)(h:0≤m): -1≤gS f l m∧gS f l m≤m:=by
 cases l with
 |l xs=>exact ai8 aI xs m h
 |b=>simp only[gS];omega
mutual
def hN:cr→Int→Int
 | .mk _ _ s a,m=>if m-s.len<0 then-1 else if m-s.len-a.length<0 then-1 else sv a (m-s.len-a.length)
 | .big _ _ s _ _ _,m=>if m-s.len<0 then-1 else-1
def sv:List cr→Int→Int
 |[],m=>m
 |x::xs,m=>if hN x m<0 then-1 else sv xs (hN x m)
end
theorem UO:∀(l:List cr) (m:Int),sv l m=jB hN l m
 |[],m=>rfl
 |x::xs,m=>by simp only[sv,jB,UO xs]
theorem FV(t:cr)(m:Int):hN t m=if m-t.name.len<0 then-1 else gS hN t.args (m-t.name.len):=by
 cases t with
 |mk=>simp only[hN,gS,n5,UO,cr.name,cr.args];rfl
 |big=>simp only[hN,gS,cr.name,cr.args];rfl
theorem gJ.len_nn(s:gJ):0≤s.len:=by cases s<;>simp[gJ.len]
mutual
theorem xM:∀(t:cr) (m:Int),0≤m→ -1≤hN t m∧hN t m≤m
 | .mk _ _ s a,m,h=>by
  have:=s.len_nn;simp only[hN];split
  ·omega
  ·split
   ·omega
   ·have:=UP a (m-s.len-a.length) (by omega);omega
 | .big _ _ s _ _ _,m,h=>by simp only[hN];split<;>omega
theorem UP:∀(l:List cr) (m:Int),0≤m→ -1≤sv l m∧sv l m≤m
 |[],m,h=>by simp only[sv];omega
 |x::xs,m,h=>by
  have J:=xM x m h;simp only[sv];split
  ·omega
  ·have U:=UP xs (hN x m) (by omega);omega
end
theorem gJ.small{s:gJ}(hw:s.wf){m:Int}(bs:m≤1048576)(h:0≤m-s.len):∃l,s= .s l:=by
 cases s with
 |s l=>exact⟨l,rfl⟩
 |b x=>simp only[gJ.wf,ma,lim]at hw;simp only[gJ.len]at h;omega
mutual
def xN:bP→cr
 | .mk k n s a=>.mk k n (.s s) (zR a)
def zR:List bP→List cr
 |[]=>[]
 |x::xs=>xN x::zR xs
end
mutual
theorem UZ:∀t:bP,(xN t).e=enc t
 | .mk k n s a=>by simp only[xN,cr.e,enc,UY a];rfl
theorem UY:∀l:List bP,cr.eL (zR l)=oB l
 |[]=>rfl
 |x::xs=>by simp only[zR,cr.eL,oB,UZ x,UY xs]
end
mutual
theorem UR:∀(t:cr) (m:Int),t.wf→m≤1048576→0≤m→0≤hN t m→∃u:bP,t=xN u
 | .mk k n s a,m,hw,J,bs,h=>by
  simp only[cr.wf]at hw;simp only[hN]at h;have:=s.len_nn;split at h
  ·omega
  rename_i g;obtain⟨l,rfl⟩:=gJ.small hw.1 J (by omega);split at h
  ·omega
  obtain⟨b,ae⟩:=UQ a _ hw.2 (by omega) (by omega) h;exact⟨.mk k n l b,by simp only[xN,ae]⟩
 | .big _ _ s _ _ _,m,_,_,_,h=>by simp only[hN]at h;split at h<;>omega
theorem UQ:∀(l:List cr) (m:Int),cr.wfL l→m≤1048576→0≤m→0≤sv l m→∃u:List bP,l=zR u
 |[],_,_,_,_,_=>⟨[],rfl⟩
 |x::xs,m,hw,J,bs,h=>by
  simp only[cr.wfL]at hw;simp only[sv]at h;have U:=xM x m bs;split at h
  ·omega
  obtain⟨u,hu⟩:=UR x m hw.1 J bs (by omega);obtain⟨v,aK⟩:=UQ xs _ hw.2 (by omega) (by omega) h;exact⟨u::v,by simp only[zR,hu,aK]⟩
end
theorem UM{α β:Type}{f:α→Int→Int}{P:α→Prop}{g:β→α}(hle:∀x m,0≤m→ -1≤f x m∧f x m≤m)(ag:∀x m,P x→m≤1048576→0≤m→0≤f x m→∃y,x=g y):∀(l:List α) (m:Int),(∀x∈l,P x)→m≤1048576→0≤m→0≤jB f l m→∃u:List β,l=u.map g
 |[],_,_,_,_,_=>⟨[],rfl⟩
 |x::xs,m,hw,J,bs,h=>by
  simp only[jB]at h;have U:=hle x m bs;split at h
  ·omega
  obtain⟨u,hu⟩:=ag x m (hw x (by simp)) J bs (by omega);obtain⟨v,aK⟩:=UM hle ag xs _ (fun y aL=>hw y (by simp[aL])) (by omega) (by omega) h;exact⟨u::v,by rw[gX,←hu,←aK]⟩
theorem Lc{α β:Type}{f:α→Int→Int}{P:α→Prop}{g:β→α}(hle:∀x m,0≤m→ -1≤f x m∧f x m≤m)(ag:∀x m,P x→m≤1048576→0≤m→0≤f x m→∃y,x=g y)(l:cZ α)(m:Int)(hw:l.wf P)(J:m≤1048576)(bs:0≤m)(h:0≤gS f l m):∃u:List β,l= .l (u.map g):=by
 cases l with
 |b=>simp only[gS]at h;omega
 |l xs=>
  simp only[gS,n5]at h;split at h
  ·omega
  obtain⟨u,hu⟩:=UM hle ag xs _ hw (by omega) (by omega) h;exact⟨u,by rw[hu]⟩
end Go.Proofs.YtahlgcidhnjlbaaGreat
namespace Go.Proofs.YtahlgcidhnjlbaaGreat
open Go Go.Pv Go.ChangeShapes Go.WideShapes Go.ChangeAt Go.RowKit Go.Deep
def qw(W:World):bc:=⟨fun b o=> ∃u,W.cell? ⟨b,o,none⟩=some u,fun _=>none,fun _=>none,fun _ _ _=>eI⟩
theorem R3(W:World)(b:Nat):∀(us:List Value) (off:Nat),(∀i u,us[i]? =some u→W.cell? ⟨b,off+i,none⟩=some u)→k8 W (qw W).A b off us
 |[],_,_=>trivial
 |u::us,off,h=>by
  have bs:W.cell? ⟨b,off,none⟩=some u:=by simpa using h 0 u rfl
  exact⟨⟨⟨u,bs⟩,bs⟩,R3 W b us (off+1) fun i e0 hu=>by have:=h (i+1) e0 (by simpa using hu);rwa[show off+(i+1)=off+1+i from by omega]at this⟩
section
variable {H:Type} {enc:fT×Value→H} {W:World} {spare:Nat→Bool} {held:Bool}
def reads(W:World)(p:ah)(cs:List Value):Prop:= ∃v:Value,v.cells.toList=cs∧a7 W (qw W) p v∧∀c∈cs,c.oneCell'=true
theorem Ci{W:World}{cm:List ah}{cs:List Value}(h:c0 W (qw W) cm cs):reads W (.agg cm) cs:=by
 refine⟨.agg cs.toArray,by simp[oU],by simp only[a7];exact⟨cs.toArray,rfl,by simpa using h⟩,?_⟩;have:∀(cm:List ah) (cs:List Value),c0 W (qw W) cm cs→∀c∈cs,c.oneCell'=true:=by
  intro cm;induction cm with
  |nil=>intro cs h;simp only[c0]at h;subst h;simp
  |cons p cm bM=>
   intro cs h c aw;simp only[c0]at h;obtain⟨u,us,rfl,J,U⟩:=h;rcases fU.1 aw with rfl|aw
   ·exact J.2
   ·exact bM us U c aw
 exact this cm cs h
def tU(W:World)(p:ah)(v:Value):Prop:=a7 W (qw W) p v∧v.oneCell'=true∧v.cells= #[v]
theorem tU.reads{W:World}{p:ah}{v:Value}(h:tU W p v):reads W p [v]:=⟨v,by rw[h.2.2],h.1,fun c aw=>by simp at aw;subst aw;exact h.2.1⟩
theorem WS{W:World}{vY v7 k j:Nat}:W.cell? (((⟨vY,v7,none⟩:Addr).add k).add j)=W.cell? ⟨vY,v7+(k+j),none⟩:=by rw[add_add,Addr.add_lit]
theorem Cx{α:Type}{t e:fT}{sz:Nat}(f:α→ah)(Q:α→Prop)(aO:ao.underlying t=some (.slice e))(aw:ao.cellsOf e=sz)(dW:0<sz){fuel:Nat}
  (abX:∀n cs x,n<fuel→iQ enc ao W 0 spare held n e cs=some x→∃a:α,Q a∧reads W (f a) cs)
  {cs:List Value} {x:DataW H×List MemPlace} (h:iQ enc ao W 0 spare held fuel t cs=some x):∃l:cZ α,l.wf Q∧∃v,cs=[v]∧tU W (l.e sz f) v:=by
 rcases DataW.trod_slice aO h with⟨rfl,_⟩|⟨a,len,cap,elems,rest,n,rfl,rfl,_,_,au,hm,hlen,Ql,_,_⟩
 ·refine⟨.l [],by simp[cZ.wf],_,rfl,?_,rfl,rfl⟩;simp only[cZ.e,List.map_nil,a7];exact⟨⟨none,0,rfl,by simp,⟨by simp[maxLen],by simp[lim]⟩,.inl (by simp)⟩,fun e=>(by cases e),fun g e=>(by cases e),fun _ _ e=>(by cases e),fun _ e=>(by cases e)⟩
 by_cases DT:lim<len
 ·refine⟨.b (some a) len cap,⟨DT,by unfold maxLen at hm;omega⟩,_,rfl,?_,rfl,rfl⟩;simp only[cZ.e,a7]
 rcases Nat.eq_zero_or_pos len with rfl|fj
 ·refine⟨.l [],by simp[cZ.wf],_,rfl,?_,rfl,rfl⟩;simp only[cZ.e,List.map_nil,a7];exact⟨⟨some a,cap,rfl,by simp,⟨hm,by simp[lim]⟩,.inl (by simp)⟩,fun e=>(by cases e),fun g e=>(by cases e),fun _ _ e=>(by cases e),fun _ e=>(by cases e)⟩
 rw[aw]at Ql;have gN:∀i,i<len→∃cs',cs'.length=sz∧(∀j,j<sz→W.cell? ((a.add (i*sz)).add j)=cs'[j]?)∧∃b:α,Q b∧reads W (f b) cs':=by intro i hi;have J:=Ql i hi;rw[ca (by omega)]at J;obtain⟨cs',U,al⟩:=mh.1 J;obtain⟨_,a6,bW⟩:=World.cells?_some U;exact⟨cs',a6,bW,abX n cs' _ (by omega) al⟩
 obtain⟨vY,v7,spot⟩:=a;have ac0:spot=none:=by obtain⟨cs',J,U,_⟩:=gN 0 fj;have al:=U 0 dW;rw[ca (by omega)]at al;simpa[Addr.add]using World.cell?_spot al
 subst ac0;have WZ:∀d,d≤len→∃xs:List α,xs.length=d∧(∀x∈xs,Q x)∧∃us:List Value,us.length=d*sz∧dt W (qw W) sz (xs.map f) us∧∀j u,us[j]? =some u→W.cell? ⟨vY,v7+((len-d)*sz+j),none⟩=some u:=by
  intro d;induction d with
  |zero=>intro _;exact⟨[],rfl,by simp,[],by simp,by simp[dt],by simp⟩
  |succ d bM=>
   intro aP;obtain⟨xs,aj,aC,us,bg,da,gL⟩:=bM (by omega);obtain⟨cs',bE,cc,b,ae,v,v1,v2,v3⟩:=gN (len-(d+1)) (by omega);have hmul:(len-d)*sz=(len-(d+1))*sz+sz:=by rw[show len-d=(len-(d+1))+1 from by omega,Nat.succ_mul]
   refine⟨b::xs,by simp[aj],fun x ad=>?_,cs'++us,by rw[oV,bE,bg,Nat.succ_mul];omega,?_,fun j u af=>?_⟩
   ·rcases fU.1 ad with rfl|ad
    ·exact ae
    ·exact aC x ad
   ·simp only[gX,dt];exact⟨v,us,by rw[v1],⟨v2,by rw[←bE,←v1];simp,by rw[v1];exact v3⟩,da⟩
   ·rcases Nat.lt_or_ge j sz with bu|ti
    ·rw[List.getElem?_append_left (by omega)]at af;have:=cc j bu;rw[WS]at this;rw[this];exact af
    ·rw[List.getElem?_append_right (by omega),bE]at af;have:=gL (j-sz) u af;rwa[show(len-d)*sz+(j-sz)=(len-(d+1))*sz+j from by omega]at this
 obtain⟨xs,aj,aC,us,bg,da,gL⟩:=WZ len (eQ _);refine⟨.l xs,aC,_,rfl,?_,rfl,rfl⟩;simp only[cZ.e,a7];refine⟨⟨some ⟨vY,v7,none⟩,cap,by rw[List.length_map,aj],by rw[List.length_map,aj];exact au,⟨hm,by rw[List.length_map,aj];omega⟩,.inr ⟨vY,v7,us,rfl,R3 W vY us v7 fun i u hu=>?_,da⟩⟩,fun e=>(by cases e),fun g e=>(by cases e),fun _ _ e=>(by cases e),fun _ e=>(by cases e)⟩;have:=gL i u hu;simpa using this
end
end Go.Proofs.YtahlgcidhnjlbaaGreat
namespace Go.Proofs.YtahlgcidhnjlbaaGreat
open Go Go.Pv
def GS:C:=(aa [cP 1 0,bm 2 false] (aa [bV 3 1048576] (aa [be 7 5 1,I 8 3,cl 9 26 7 8,I 3 9] (.seq (aa [I 10 3,aS 11 .lss 10 0] (aT 11 (aa [bm 2 true] .ret) .skip)) (aa [be 12 5 1,c7 13 28 12,c7 14 27 13,I 4 14] (aa [be 15 5 1,c7 16 28 15,dL 5 nV,b1 5 5 16] (aa [be 17 5 5,c7 18 29 17,I 6 18] (.seq (aa [I 19 6,I 20 4,b0 21 (.beq true none (.t 19) (.t 20))] (aT 21 (aa [bm 2 false] .ret) .skip)) (.seq (.seq (.drawn true 27 [be 22 5 5,be 23 5 1,c7 24 28 23,cl 25 30 22 24,cB 26 25]) (aT 26 (aa [bm 2 false] .ret) .skip)) (aa [bm 2 true] .ret))))))))))
@[simp] def ahp:List bK:=[.tmp 2]
def sW:C:=(aa [cP 2 0,bV 4 0] (aa [I 5 1,aG 6 2 1 2,ax 7 1 6,b0 8 (.slen (.t 7)),bk 9 .sub 5 8,I 1 9] (.seq (aa [I 10 1,aS 11 .lss 10 0] (aT 11 (aa [bV 4 (-1)] .ret) .skip)) (aa [aG 12 3 1 2,ax 13 1 12,I 14 1,cl 15 16 13 14,I 1 15] (.seq (aa [I 16 1,aS 17 .lss 16 0] (aT 17 (aa [bV 4 (-1)] .ret) .skip)) (aa [I 18 1,I 4 18] .ret))))))
@[simp] def ahF:List bK:=[.tmp 4]
def GY:C:=(aa [bV 4 0] (aa [I 6 1,I 7 0,cn 8 7,bk 9 .sub 6 8,I 1 9] (.seq (aa [I 10 1,aS 11 .lss 10 0] (aT 11 (aa [bV 4 (-1)] .ret) .skip)) (.seq (aa [bV 5 0] (.block 0 (.loop (.seq (aa [I 12 5,I 13 0,cn 14 13,bk 15 .lss 12 14] (aT 15 .skip (.exit 0))) (.seq (.block 1 (aa [I 18 0,I 19 5,cv 20 4 18 19,be 21 4 20,I 22 1,cl 23 15 21 22,I 1 23] (aa [I 24 1,aS 25 .lss 24 0] (aT 25 (aa [bV 4 (-1)] .ret) .skip)))) (.region [I 16 5,aS 17 .add 16 1,I 5 17])))))) (aa [I 26 1,I 4 26] .ret)))))
@[simp] def ahG:List bK:=[.tmp 4]
def Nx:C:=(aa [cP 1 0,dL 2 dX] (aa [dL 3 dX] (aa [aG 4 0 1 1,ax 5 1 4,aG 6 0 1 3,b1 1 6 5] (aa [aG 7 1 1 1,ax 8 1 7,aG 9 1 1 3,b1 1 9 8] (aa [aG 10 2 1 1,ax 11 1 10,aG 12 2 1 3,b1 1 12 11] (aa [aG 13 3 1 1,ax 14 1 13,c7 15 19 14,aG 16 3 1 3,b1 1 16 15] (aa [be 17 4 3,b1 4 2 17] .ret)))))))
@[simp] def ahO:List bK:=[.cell 2 true 4]
def Ny:C:=(aa [eO 2 4] (aa [I 5 0,cn 6 5,cX (.mks 7 none 4 30 (.agg dX) (.t 6)),I 3 7] (.seq (aa [bV 4 0] (.block 0 (.loop (.seq (aa [I 8 4,I 9 0,cn 10 9,bk 11 .lss 8 10] (aT 11 .skip (.exit 0))) (.seq (.block 1 (.region [I 14 3,I 15 4,I 16 0,I 17 4,cv 18 4 16 17,be 19 4 18,c7 20 18 19,cv 21 4 14 15,b1 4 21 20])) (.region [I 12 4,aS 13 .add 12 1,I 4 13])))))) (.seq (.pub 3 (.region [I 22 3,I 2 22])) .ret))))
@[simp] def ahP:List bK:=[.tmp 2]
def Nn:C:=(aa [bm 4 false] (.seq (aa [I 6 0,cn 7 6,I 8 1,cn 9 8,bk 10 .neq 7 9] (aT 10 (aa [bm 4 false] .ret) .skip)) (.seq (aa [bV 5 0] (.block 0 (.loop (.seq (aa [I 11 5,I 12 0,cn 13 12,bk 14 .lss 11 13] (aT 14 .skip (.exit 0))) (.seq (.block 1 (.seq (.drawn true 27 [I 17 0,I 18 5,cv 19 4 17 18,be 20 4 19,I 21 1,I 22 5,cv 23 4 21 22,be 24 4 23,cl 25 22 20 24,cB 26 25]) (aT 26 (aa [bm 4 false] .ret) .skip))) (.region [I 15 5,aS 16 .add 15 1,I 5 16])))))) (aa [bm 4 true] .ret))))
@[simp] def ahx:List bK:=[.tmp 4]
def Nl:C:=(aa [cP 2 0,cP 3 1,bm 4 false] (.seq (aa [aG 5 0 1 2,ax 6 1 5,aG 7 0 1 3,ax 8 1 7,bk 9 .neq 6 8] (aT 9 (aa [bm 4 false] .ret) .skip)) (.seq (aa [aG 10 1 1 2,ax 11 1 10,aG 12 1 1 3,ax 13 1 12,bk 14 .neq 11 13] (aT 14 (aa [bm 4 false] .ret) .skip)) (.seq (aa [aG 15 2 1 2,ax 16 1 15,aG 17 2 1 3,ax 18 1 17,bk 19 .neq 16 18] (aT 19 (aa [bm 4 false] .ret) .skip)) (.seq (aa [aG 20 3 1 2,ax 21 1 20,aG 22 3 1 3,ax 23 1 22,cl 24 21 21 23,cB 25 24] (aT 25 (aa [bm 4 false] .ret) .skip)) (aa [bm 4 true] .ret))))))
@[simp] def ahw:List bK:=[.tmp 4]
def x8:C:=(aa [cP 2 0,bV 4 0] (aa [aG 5 1 1 2,ax 6 1 5,I 7 1,cl 8 33 6 7,I 1 8] (.seq (aa [I 9 1,aS 10 .lss 9 0] (aT 10 (aa [bV 4 (-1)] .ret) .skip)) (aa [aG 11 2 1 2,ax 12 1 11,I 13 1,cl 14 72 12 13,I 1 14] (.seq (aa [I 15 1,aS 16 .lss 15 0] (aT 16 (aa [bV 4 (-1)] .ret) .skip)) (aa [aG 17 3 1 2,ax 18 1 17,I 19 1,cl 20 73 18 19,I 1 20] (.seq (aa [I 21 1,aS 22 .lss 21 0] (aT 22 (aa [bV 4 (-1)] .ret) .skip)) (aa [aG 23 4 1 2,ax 24 1 23,I 25 1,cl 26 74 24 25,I 1 26] (.seq (aa [I 27 1,aS 28 .lss 27 0] (aT 28 (aa [bV 4 (-1)] .ret) .skip)) (aa [I 29 1,I 4 29] .ret))))))))))
@[simp] def ahE:List bK:=[.tmp 4]
def Nw:C:=(aa [cP 1 0,dL 2 nV] (aa [dL 3 nV] (aa [aG 4 0 1 1,ax 5 1 4,aG 6 0 1 3,b1 1 6 5] (aa [aG 7 1 1 1,ax 8 1 7,c7 9 35 8,aG 10 1 1 3,b1 1 10 9] (aa [aG 11 2 1 1,ax 12 1 11,c7 13 83 12,aG 14 2 1 3,b1 1 14 13] (aa [aG 15 3 1 1,ax 16 1 15,c7 17 84 16,aG 18 3 1 3,b1 1 18 17] (aa [aG 19 4 1 1,ax 20 1 19,c7 21 85 20,aG 22 4 1 3,b1 1 22 21] (aa [be 23 5 3,b1 5 2 23] .ret))))))))
@[simp] def ahN:List bK:=[.cell 2 true 5]
def Nk:C:=(aa [cP 2 0,cP 3 1,bm 4 false] (.seq (aa [aG 5 0 1 2,ax 6 1 5,aG 7 0 1 3,ax 8 1 7,bk 9 .neq 6 8] (aT 9 (aa [bm 4 false] .ret) .skip)) (.seq (aa [aG 10 1 1 2,ax 11 1 10,aG 12 1 1 3,ax 13 1 12,cl 14 37 11 13,cB 15 14] (aT 15 (aa [bm 4 false] .ret) .skip)) (.seq (aa [aG 16 2 1 2,ax 17 1 16,aG 18 2 1 3,ax 19 1 18,cl 20 92 17 19,cB 21 20] (aT 21 (aa [bm 4 false] .ret) .skip)) (.seq (aa [aG 22 3 1 2,ax 23 1 22,aG 24 3 1 3,ax 25 1 24,cl 26 93 23 25,cB 27 26] (aT 27 (aa [bm 4 false] .ret) .skip)) (.seq (aa [aG 28 4 1 2,ax 29 1 28,aG 30 4 1 3,ax 31 1 30,cl 32 94 29 31,cB 33 32] (aT 33 (aa [bm 4 false] .ret) .skip)) (aa [bm 4 true] .ret)))))))
@[simp] def ahv:List bK:=[.tmp 4]
def GV:C:=(aa [bV 4 0] (aa [I 6 1,I 7 0,cn 8 7,bk 9 .sub 6 8,I 1 9] (.seq (aa [I 10 1,aS 11 .lss 10 0] (aT 11 (aa [bV 4 (-1)] .ret) .skip)) (.seq (aa [bV 5 0] (.block 0 (.loop (.seq (aa [I 12 5,I 13 0,cn 14 13,bk 15 .lss 12 14] (aT 15 .skip (.exit 0))) (.seq (.block 1 (aa [I 18 0,I 19 5,cv 20 5 18 19,be 21 5 20,I 22 1,cl 23 97 21 22,I 1 23] (aa [I 24 1,aS 25 .lss 24 0] (aT 25 (aa [bV 4 (-1)] .ret) .skip)))) (.region [I 16 5,aS 17 .add 16 1,I 5 17])))))) (aa [I 26 1,I 4 26] .ret)))))
@[simp] def ahA:List bK:=[.tmp 4]
def Ns:C:=(aa [eO 2 5] (aa [I 5 0,cn 6 5,cX (.mks 7 none 5 113 (.agg jO) (.t 6)),I 3 7] (.seq (aa [bV 4 0] (.block 0 (.loop (.seq (aa [I 8 4,I 9 0,cn 10 9,bk 11 .lss 8 10] (aT 11 .skip (.exit 0))) (.seq (.block 1 (.region [I 14 3,I 15 4,I 16 0,I 17 4,cv 18 5 16 17,be 19 5 18,c7 20 101 19,cv 21 5 14 15,b1 5 21 20])) (.region [I 12 4,aS 13 .add 12 1,I 4 13])))))) (.seq (.pub 3 (.region [I 22 3,I 2 22])) .ret))))
@[simp] def ahJ:List bK:=[.tmp 2]
def Ng:C:=(aa [bm 4 false] (.seq (aa [I 6 0,cn 7 6,I 8 1,cn 9 8,bk 10 .neq 7 9] (aT 10 (aa [bm 4 false] .ret) .skip)) (.seq (aa [bV 5 0] (.block 0 (.loop (.seq (aa [I 11 5,I 12 0,cn 13 12,bk 14 .lss 11 13] (aT 14 .skip (.exit 0))) (.seq (.block 1 (.seq (.drawn true 27 [I 17 0,I 18 5,cv 19 5 17 18,be 20 5 19,I 21 1,I 22 5,cv 23 5 21 22,be 24 5 23,cl 25 103 20 24,cB 26 25]) (aT 26 (aa [bm 4 false] .ret) .skip))) (.region [I 15 5,aS 16 .add 15 1,I 5 16])))))) (aa [bm 4 true] .ret))))
@[simp] def ahr:List bK:=[.tmp 4]
def GW:C:=(aa [bV 4 0] (aa [I 6 1,I 7 0,cn 8 7,bk 9 .sub 6 8,I 1 9] (.seq (aa [I 10 1,aS 11 .lss 10 0] (aT 11 (aa [bV 4 (-1)] .ret) .skip)) (.seq (aa [bV 5 0] (.block 0 (.loop (.seq (aa [I 12 5,I 13 0,cn 14 13,bk 15 .lss 12 14] (aT 15 .skip (.exit 0))) (.seq (.block 1 (aa [I 18 0,I 19 5,cv 20 1 18 19,ax 21 1 20,I 22 1,cl 23 33 21 22,I 1 23] (aa [I 24 1,aS 25 .lss 24 0] (aT 25 (aa [bV 4 (-1)] .ret) .skip)))) (.region [I 16 5,aS 17 .add 16 1,I 5 17])))))) (aa [I 26 1,I 4 26] .ret)))))
@[simp] def ahB:List bK:=[.tmp 4]
def Dg:C:=(aa [bV 4 0] (aa [I 5 1,I 6 0,cn 7 6,bk 8 .sub 5 7,I 1 8] (.seq (aa [I 9 1,aS 10 .lss 9 0] (aT 10 (aa [bV 4 (-1)] .ret) .skip)) (aa [I 11 1,I 4 11] .ret))))
@[simp] def ahH:List bK:=[.tmp 4]
def GX:C:=(aa [bV 4 0] (aa [I 6 1,I 7 0,cn 8 7,bk 9 .sub 6 8,I 1 9] (.seq (aa [I 10 1,aS 11 .lss 10 0] (aT 11 (aa [bV 4 (-1)] .ret) .skip)) (.seq (aa [bV 5 0] (.block 0 (.loop (.seq (aa [I 12 5,I 13 0,cn 14 13,bk 15 .lss 12 14] (aT 15 .skip (.exit 0))) (.seq (.block 1 (aa [I 18 0,I 19 5,cv 20 2 18 19,be 21 2 20,I 22 1,cl 23 144 21 22,I 1 23] (aa [I 24 1,aS 25 .lss 24 0] (aT 25 (aa [bV 4 (-1)] .ret) .skip)))) (.region [I 16 5,aS 17 .add 16 1,I 5 17])))))) (aa [I 26 1,I 4 26] .ret)))))
@[simp] def ahD:List bK:=[.tmp 4]
def Nt:C:=(aa [eO 2 1] (aa [I 5 0,cn 6 5,cX (.mks 7 none 1 46 (.slice 5 .nil []) (.t 6)),I 3 7] (.seq (aa [bV 4 0] (.block 0 (.loop (.seq (aa [I 8 4,I 9 0,cn 10 9,bk 11 .lss 8 10] (aT 11 .skip (.exit 0))) (.seq (.block 1 (.region [I 14 3,I 15 4,I 16 0,I 17 4,cv 18 1 16 17,ax 19 1 18,c7 20 35 19,cv 21 1 14 15,b1 1 21 20])) (.region [I 12 4,aS 13 .add 12 1,I 4 13])))))) (.seq (.pub 3 (.region [I 22 3,I 2 22])) .ret))))
@[simp] def ahK:List bK:=[.tmp 2]
def NA:C:=(aa [eO 2 2] (aa [I 5 0,cn 6 5,cX (.mks 7 none 2 98 (.agg [.int .i64 0,.int .i64 0]) (.t 6)),I 3 7] (.seq (aa [bV 4 0] (.block 0 (.loop (.seq (aa [I 8 4,I 9 0,cn 10 9,bk 11 .lss 8 10] (aT 11 .skip (.exit 0))) (.seq (.block 1 (.region [I 14 3,I 15 4,I 16 0,I 17 4,cv 18 2 16 17,be 19 2 18,c7 20 156 19,cv 21 2 14 15,b1 2 21 20])) (.region [I 12 4,aS 13 .add 12 1,I 4 13])))))) (.seq (.pub 3 (.region [I 22 3,I 2 22])) .ret))))
@[simp] def ahR:List bK:=[.tmp 2]
def Nv:C:=(aa [eO 2 2] (aa [I 5 0,cn 6 5,cX (.mks 7 none 2 100 (.agg [.int .i64 0,.str []]) (.t 6)),I 3 7] (.seq (aa [bV 4 0] (.block 0 (.loop (.seq (aa [I 8 4,I 9 0,cn 10 9,bk 11 .lss 8 10] (aT 11 .skip (.exit 0))) (.seq (.block 1 (.region [I 14 3,I 15 4,I 16 0,I 17 4,cv 18 2 16 17,be 19 2 18,c7 20 157 19,cv 21 2 14 15,b1 2 21 20])) (.region [I 12 4,aS 13 .add 12 1,I 4 13])))))) (.seq (.pub 3 (.region [I 22 3,I 2 22])) .ret))))
@[simp] def ahM:List bK:=[.tmp 2]
def Nh:C:=(aa [bm 4 false] (.seq (aa [I 6 0,cn 7 6,I 8 1,cn 9 8,bk 10 .neq 7 9] (aT 10 (aa [bm 4 false] .ret) .skip)) (.seq (aa [bV 5 0] (.block 0 (.loop (.seq (aa [I 11 5,I 12 0,cn 13 12,bk 14 .lss 11 13] (aT 14 .skip (.exit 0))) (.seq (.block 1 (.seq (.drawn true 27 [I 17 0,I 18 5,cv 19 1 17 18,ax 20 1 19,I 21 1,I 22 5,cv 23 1 21 22,ax 24 1 23,cl 25 37 20 24,cB 26 25]) (aT 26 (aa [bm 4 false] .ret) .skip))) (.region [I 15 5,aS 16 .add 15 1,I 5 16])))))) (aa [bm 4 true] .ret))))
@[simp] def ahs:List bK:=[.tmp 4]
def Nq:C:=(aa [bm 4 false] (.seq (aa [I 6 0,cn 7 6,I 8 1,cn 9 8,bk 10 .neq 7 9] (aT 10 (aa [bm 4 false] .ret) .skip)) (.seq (aa [bV 5 0] (.block 0 (.loop (.seq (aa [I 11 5,I 12 0,cn 13 12,bk 14 .lss 11 13] (aT 14 .skip (.exit 0))) (.seq (.block 1 (.seq (.drawn true 27 [I 17 0,I 18 5,cv 19 2 17 18,be 20 2 19,I 21 1,I 22 5,cv 23 2 21 22,be 24 2 23,cl 25 170 20 24,cB 26 25]) (aT 26 (aa [bm 4 false] .ret) .skip))) (.region [I 15 5,aS 16 .add 15 1,I 5 16])))))) (aa [bm 4 true] .ret))))
@[simp] def ahz:List bK:=[.tmp 4]
def Nj:C:=(aa [bm 4 false] (.seq (aa [I 6 0,cn 7 6,I 8 1,cn 9 8,bk 10 .neq 7 9] (aT 10 (aa [bm 4 false] .ret) .skip)) (.seq (aa [bV 5 0] (.block 0 (.loop (.seq (aa [I 11 5,I 12 0,cn 13 12,bk 14 .lss 11 13] (aT 14 .skip (.exit 0))) (.seq (.block 1 (.seq (.drawn true 27 [I 17 0,I 18 5,cv 19 2 17 18,be 20 2 19,I 21 1,I 22 5,cv 23 2 21 22,be 24 2 23,cl 25 171 20 24,cB 26 25]) (aT 26 (aa [bm 4 false] .ret) .skip))) (.region [I 15 5,aS 16 .add 15 1,I 5 16])))))) (aa [bm 4 true] .ret))))
@[simp] def ahu:List bK:=[.tmp 4]
def GU:C:=(aa [cP 2 0,bV 4 0] (aa [hG 5 1 4 2,be 6 4 5,I 7 1,cl 8 15 6 7,I 1 8] (.seq (aa [I 9 1,aS 10 .lss 9 0] (aT 10 (aa [bV 4 (-1)] .ret) .skip)) (aa [I 11 1,I 4 11] .ret))))
@[simp] def Kl:List bK:=[.tmp 4]
def Nr:C:=(aa [cP 1 0,dL 2 jO] (aa [dL 3 jO] (aa [aG 4 0 1 1,ax 5 1 4,aG 6 0 1 3,b1 1 6 5] (aa [hG 7 1 4 1,be 8 4 7,c7 9 18 8,hG 10 1 4 3,b1 4 10 9] (aa [be 11 5 3,b1 5 2 11] .ret)))))
@[simp] def ahI:List bK:=[.cell 2 true 5]
def Nf:C:=(aa [cP 2 0,cP 3 1,bm 4 false] (.seq (aa [aG 5 0 1 2,ax 6 1 5,aG 7 0 1 3,ax 8 1 7,bk 9 .neq 6 8] (aT 9 (aa [bm 4 false] .ret) .skip)) (.seq (aa [hG 10 1 4 2,be 11 4 10,hG 12 1 4 3,be 13 4 12,cl 14 22 11 13,cB 15 14] (aT 15 (aa [bm 4 false] .ret) .skip)) (aa [bm 4 true] .ret))))
@[simp] def ahq:List bK:=[.tmp 4]
def Df:C:=(aa [cP 2 0,bV 4 0] (aa [I 5 1,aG 6 1 1 2,ax 7 1 6,b0 8 (.slen (.t 7)),bk 9 .sub 5 8,I 1 9] (.seq (aa [I 10 1,aS 11 .lss 10 0] (aT 11 (aa [bV 4 (-1)] .ret) .skip)) (aa [I 12 1,I 4 12] .ret))))
@[simp] def ahC:List bK:=[.tmp 4]
def Nz:C:=(aa [cP 1 0,cX (.alloc 2 none (.agg [.int .i64 0,.int .i64 0]))] (aa [cX (.alloc 3 none (.agg [.int .i64 0,.int .i64 0]))] (aa [aG 4 0 1 1,ax 5 1 4,aG 6 0 1 3,b1 1 6 5] (aa [aG 7 1 1 1,ax 8 1 7,aG 9 1 1 3,b1 1 9 8] (aa [be 10 2 3,b1 2 2 10] .ret)))))
@[simp] def ahQ:List bK:=[.cell 2 true 2]
def Nu:C:=(aa [cP 1 0,cX (.alloc 2 none (.agg [.int .i64 0,.str []]))] (aa [cX (.alloc 3 none (.agg [.int .i64 0,.str []]))] (aa [aG 4 0 1 1,ax 5 1 4,aG 6 0 1 3,b1 1 6 5] (aa [aG 7 1 1 1,ax 8 1 7,aG 9 1 1 3,b1 1 9 8] (aa [be 10 2 3,b1 2 2 10] .ret)))))
@[simp] def ahL:List bK:=[.cell 2 true 2]
def Np:C:=(aa [cP 2 0,cP 3 1,bm 4 false] (.seq (aa [aG 5 0 1 2,ax 6 1 5,aG 7 0 1 3,ax 8 1 7,bk 9 .neq 6 8] (aT 9 (aa [bm 4 false] .ret) .skip)) (.seq (aa [aG 10 1 1 2,ax 11 1 10,aG 12 1 1 3,ax 13 1 12,bk 14 .neq 11 13] (aT 14 (aa [bm 4 false] .ret) .skip)) (aa [bm 4 true] .ret))))
@[simp] def ahy:List bK:=[.tmp 4]
def Ni:C:=(aa [cP 2 0,cP 3 1,bm 4 false] (.seq (aa [aG 5 0 1 2,ax 6 1 5,aG 7 0 1 3,ax 8 1 7,bk 9 .neq 6 8] (aT 9 (aa [bm 4 false] .ret) .skip)) (.seq (aa [aG 10 1 1 2,ax 11 1 10,aG 12 1 1 3,ax 13 1 12,bk 14 .neq 11 13] (aT 14 (aa [bm 4 false] .ret) .skip)) (aa [bm 4 true] .ret))))
@[simp] def aht:List bK:=[.tmp 4]
def hZ:List (Nat×dB):=[
 (3,⟨1,8,.int .i64,.int .i64 0⟩),
 (4,⟨1,1,.bool,.bool false⟩),
 (9,⟨1,16,.str,.str []⟩),
 (22,⟨1,24,.slice 24,.slice 4 .nil []⟩),
 (24,⟨4,56,.struct [(0,3),(1,3),(2,9),(3,22)],.agg [.int .i64 0,.int .i64 0,.str [],.slice 4 .nil []]⟩),
 (27,⟨1,24,.slice 30,.slice 4 .nil []⟩),
 (30,⟨4,56,.struct [(0,3),(1,3),(2,9),(3,27)],.agg [.int .i64 0,.int .i64 0,.str [],.slice 4 .nil []]⟩),
 (38,⟨1,24,.slice 111,.slice 5 .nil []⟩),
 (39,⟨1,24,.slice 38,.slice 1 .nil []⟩),
 (40,⟨1,24,.slice 158,.slice 2 .nil []⟩),
 (41,⟨1,24,.slice 146,.slice 2 .nil []⟩),
 (43,⟨5,104,.struct [(0,3),(1,38),(2,39),(3,40),(4,41)],.agg [.int .i64 0,.slice 5 .nil [],.slice 1 .nil [],.slice 2 .nil [],.slice 2 .nil []]⟩),
 (46,⟨1,24,.slice 113,.slice 5 .nil []⟩),
 (47,⟨1,24,.slice 46,.slice 1 .nil []⟩),
 (48,⟨1,24,.slice 98,.slice 2 .nil []⟩),
 (49,⟨1,24,.slice 100,.slice 2 .nil []⟩),
 (51,⟨5,104,.struct [(0,3),(1,46),(2,47),(3,48),(4,49)],.agg [.int .i64 0,.slice 5 .nil [],.slice 1 .nil [],.slice 2 .nil [],.slice 2 .nil []]⟩),
 (98,⟨2,16,.struct [(0,3),(1,3)],.agg [.int .i64 0,.int .i64 0]⟩),
 (100,⟨2,24,.struct [(0,3),(1,9)],.agg [.int .i64 0,.str []]⟩),
 (111,⟨5,64,.struct [(0,3),(1,24)],.agg [.int .i64 0,.int .i64 0,.int .i64 0,.str [],.slice 4 .nil []]⟩),
 (113,⟨5,64,.struct [(0,3),(1,30)],.agg [.int .i64 0,.int .i64 0,.int .i64 0,.str [],.slice 4 .nil []]⟩),
 (146,⟨2,24,.struct [(0,3),(1,9)],.agg [.int .i64 0,.str []]⟩),
 (158,⟨2,16,.struct [(0,3),(1,3)],.agg [.int .i64 0,.int .i64 0]⟩)]
theorem fe:fN ao hZ=true:=by kernel_rfl
theorem SV:b5 hZ GS ahp 1 kh=true:=by kernel_rfl
theorem Pe:ao.funcs[(4:Nat)]? =some kh:=Tryz.func4
theorem vn:b5 hZ sW ahF 2 Tryz.f15=true:=by kernel_rfl
theorem uD:ao.funcs[(15:Nat)]? =some Tryz.f15:=Tryz.func15
theorem S1:b5 hZ GY ahG 2 Tryz.f16=true:=by kernel_rfl
theorem Pk:ao.funcs[(16:Nat)]? =some Tryz.f16:=Tryz.func16
theorem af2:b5 hZ Nx ahO 1 Tryz.f18=true:=by kernel_rfl
theorem ZF:ao.funcs[(18:Nat)]? =some Tryz.f18:=Tryz.func18
theorem af3:b5 hZ Ny ahP 1 Tryz.f19=true:=by kernel_rfl
theorem ZG:ao.funcs[(19:Nat)]? =some Tryz.f19:=Tryz.func19
theorem afT:b5 hZ Nn ahx 2 Tryz.f21=true:=by kernel_rfl
theorem Zw:ao.funcs[(21:Nat)]? =some Tryz.f21:=Tryz.func21
theorem afS:b5 hZ Nl ahw 2 Tryz.f22=true:=by kernel_rfl
theorem Zv:ao.funcs[(22:Nat)]? =some Tryz.f22:=Tryz.func22
theorem B1:b5 hZ x8 ahE 2 Tryz.f26=true:=by kernel_rfl
theorem AD:ao.funcs[(26:Nat)]? =some Tryz.f26:=Tryz.func26
theorem af1:b5 hZ Nw ahN 1 Tryz.f28=true:=by kernel_rfl
theorem ZE:ao.funcs[(28:Nat)]? =some Tryz.f28:=Tryz.func28
theorem afR:b5 hZ Nk ahv 2 Tryz.f30=true:=by kernel_rfl
theorem Zu:ao.funcs[(30:Nat)]? =some Tryz.f30:=Tryz.func30
theorem SY:b5 hZ GV ahA 2 Tryz.f33=true:=by kernel_rfl
theorem Pg:ao.funcs[(33:Nat)]? =some Tryz.f33:=Tryz.func33
theorem afX:b5 hZ Ns ahJ 1 Tryz.f35=true:=by kernel_rfl
theorem ZA:ao.funcs[(35:Nat)]? =some Tryz.f35:=Tryz.func35
theorem afN:b5 hZ Ng ahr 2 Tryz.f37=true:=by kernel_rfl
theorem Zq:ao.funcs[(37:Nat)]? =some Tryz.f37:=Tryz.func37
theorem SZ:b5 hZ GW ahB 2 Tryz.f72=true:=by kernel_rfl
theorem Ph:ao.funcs[(72:Nat)]? =some Tryz.f72:=Tryz.func72
theorem JX:b5 hZ Dg ahH 2 Tryz.f73=true:=by kernel_rfl
theorem Hz:ao.funcs[(73:Nat)]? =some Tryz.f73:=Tryz.func73
theorem S0:b5 hZ GX ahD 2 Tryz.f74=true:=by kernel_rfl
theorem Pj:ao.funcs[(74:Nat)]? =some Tryz.f74:=Tryz.func74
theorem afY:b5 hZ Nt ahK 1 Tryz.f83=true:=by kernel_rfl
theorem ZB:ao.funcs[(83:Nat)]? =some Tryz.f83:=Tryz.func83
theorem af5:b5 hZ NA ahR 1 Tryz.f84=true:=by kernel_rfl
theorem ZI:ao.funcs[(84:Nat)]? =some Tryz.f84:=Tryz.func84
theorem af0:b5 hZ Nv ahM 1 Tryz.f85=true:=by kernel_rfl
theorem ZD:ao.funcs[(85:Nat)]? =some Tryz.f85:=Tryz.func85
theorem afO:b5 hZ Nh ahs 2 Tryz.f92=true:=by kernel_rfl
theorem Zr:ao.funcs[(92:Nat)]? =some Tryz.f92:=Tryz.func92
theorem afV:b5 hZ Nq ahz 2 Tryz.f93=true:=by kernel_rfl
theorem Zy:ao.funcs[(93:Nat)]? =some Tryz.f93:=Tryz.func93
theorem afQ:b5 hZ Nj ahu 2 Tryz.f94=true:=by kernel_rfl
theorem Zt:ao.funcs[(94:Nat)]? =some Tryz.f94:=Tryz.func94
theorem SX:b5 hZ GU Kl 2 Tryz.f97=true:=by kernel_rfl
theorem Pf:ao.funcs[(97:Nat)]? =some Tryz.f97:=Tryz.func97
theorem afW:b5 hZ Nr ahI 1 Tryz.f101=true:=by kernel_rfl
theorem Zz:ao.funcs[(101:Nat)]? =some Tryz.f101:=Tryz.func101
theorem afM:b5 hZ Nf ahq 2 Tryz.f103=true:=by kernel_rfl
theorem Zp:ao.funcs[(103:Nat)]? =some Tryz.f103:=Tryz.func103
theorem JW:b5 hZ Df ahC 2 Tryz.f144=true:=by kernel_rfl
theorem Hy:ao.funcs[(144:Nat)]? =some Tryz.f144:=Tryz.func144
theorem af4:b5 hZ Nz ahQ 1 Tryz.f156=true:=by kernel_rfl
theorem ZH:ao.funcs[(156:Nat)]? =some Tryz.f156:=Tryz.func156
theorem afZ:b5 hZ Nu ahL 1 Tryz.f157=true:=by kernel_rfl
theorem ZC:ao.funcs[(157:Nat)]? =some Tryz.f157:=Tryz.func157
theorem afU:b5 hZ Np ahy 2 Tryz.f170=true:=by kernel_rfl
theorem Zx:ao.funcs[(170:Nat)]? =some Tryz.f170:=Tryz.func170
theorem afP:b5 hZ Ni aht 2 Tryz.f171=true:=by kernel_rfl
theorem Zs:ao.funcs[(171:Nat)]? =some Tryz.f171:=Tryz.func171
def hW{α:Type}(f:α→ah)(z:ah)(l:List α)(i:Nat):List ah:=(l.take i).map f++qp (l.length-i) z
theorem nW{α:Type}(f:α→ah)(z:ah)(l:List α):hW f z l 0=qp l.length z:=by simp[hW]
theorem BS{α:Type}(f:α→ah)(z:ah)(l:List α):hW f z l l.length=l.map f:=by simp[hW]
theorem BT{α:Type}(f:α→ah)(z:ah)(l:List α){i:Nat}(hi:i<l.length):(hW f z l i)[i]? =some z:=by
 unfold hW;have h:((l.take i).map f).length=i:=by simp;omega
 rw[List.getElem?_append_right (by omega),h,Nat.sub_self,List.getElem?_replicate,if_pos (by omega)]
theorem BU{α:Type}(f:α→ah)(z:ah)(l:List α){i:Nat}{x:α}(ad:l[i]? =some x):(hW f z l i).set i (f x)=hW f z l (i+1):=by
 have hi:=(fH.1 ad).1;unfold hW;have h:((l.take i).map f).length=i:=by simp;omega
 rw[List.set_append_right _ _ (by omega),h,Nat.sub_self,ql ad,List.map_append,List.append_assoc];congr 1;obtain⟨m,hm⟩:∃m,l.length-i=m+1:=⟨l.length-i-1,by omega⟩;rw[hm,show l.length-(i+1)=m from by omega,List.replicate_succ,List.set_cons_zero];rfl
theorem RJ(S:aD→Prop):∀{a b:List ah},aH S (a++b)↔aH S a∧aH S b
 |[],b=>by simp[aH]
 |x::a,b=>by simp[aH,RJ S (a:=a),and_assoc]
theorem RL{α:Type}(S:aD→Prop)(f:α→ah)(aI:∀x,aB S (f x)):∀l:List α,aH S (l.map f)
 |[]=>by simp[aH]
 |x::xs=>by simp[aH,RL S f aI xs,aI]
theorem w9(S:aD→Prop)(z:ah)(bC:aB S z):∀n,aH S (qp n z)
 |0=>by simp[aH]
 |n+1=>by simp[List.replicate_succ,aH,w9 S z bC n,bC]
theorem BH{α:Type}(S:aD→Prop)(f:α→ah)(z:ah)(l:List α)(i:Nat)(aI:∀x,aB S (f x))(bC:aB S z):aH S (hW f z l i):=by unfold hW;rw[RJ];exact⟨RL S f aI _,w9 S z bC _⟩
theorem Vz(l:cZ cr)(hw:∀p n cap,l= .b p n cap→ma n)(aI:∀xs,l= .l xs→∀x∈xs,∀m,0≤m→m≤1048576→bI ao 15 [cr.e x,.int .i64 m] (.int .i64 (hN x m)))(m:Int)(bs:0≤m)(J:m≤1048576):bI ao 16 [l.e 4 cr.e,.int .i64 m] (.int .i64 (gS hN l m)):=by
 cases l with
 |b p n cap=>
  have aA:=hw p n cap rfl;simp only[ma,lim]at aA;have g:m-n<0:=by omega
  simp only[cZ.e,gS];clear hw aI;refine br fe Pk S1 fun aR=>?_;unfold GY;exact ct
 |l l=>
 have aI:=aI l rfl;clear hw;simp only[cZ.e,gS];generalize bh:n5 hN l m=R;unfold n5 at bh;refine br fe Pk S1 fun aR=>?_;unfold GY;have eX:l.length≤68719476736:=by simp[eE,ej,eu,lim]at aR;omega
 simp;by_cases g:m-l.length<0
 ·rw[if_pos g]at bh;subst bh;exact ct
 rw[if_neg g]at bh;(with_reducible repeat' first|refine ak ?_|simp[g]);refine dU [0] (fun i (k:Int)=>[(1,.int .i64 k),(5,.int .i64 i)]) l.length (fun i k=>(0≤k∧k≤1048576)∧jB hN (l.drop i) k=R) (m-l.length) b4 ⟨⟨by omega,by omega⟩,by simpa using bh⟩ (fun k af _=>?_) (fun i k hi af _=>?_)
 ·obtain⟨_,af⟩:=af;rw[List.drop_length]at af;simp only[jB]at af;subst af;exact ct
 ·obtain⟨⟨e9,a8⟩,af⟩:=af;obtain⟨x,ad,cz⟩:=ep hi;have key:=aI x (eP ad) k e9 a8;have hle:=xM x k e9;rw[sd ad]at af;simp only[jB]at af;generalize hN x k=q at key hle af;clear ad;by_cases bp:q<0
  ·rw[if_pos bp]at af;subst af;exact ct
  ·rw[if_neg bp]at af;simp[hi,cz];((with_reducible repeat' first|refine ak ?_|refine aE key ?_|refine aF key ?_|simp[hi,cz,bp]|((first|apply bO|apply bS|apply bR)<;>intro h<;>try simp at h))<;>(try exact cq));all_goals exact bL.rng q hi ⟨⟨by omega,by omega⟩,af⟩ b4
theorem akw(l:List bP)(aI:∀x∈l,bI ao 18 [enc x] (enc x)):bI ao 19 [.slice 4 .no (l.map enc)] (.slice 4 .no (l.map enc)):=by
 refine br fe ZG af3 fun aR=>?_;unfold Ny;have eX:l.length≤68719476736:=by simp[eE,ej,eu,lim]at aR;omega
 simp;all_goals first|(refine⟨by unfold lim;omega,?_⟩)|skip
 (with_reducible repeat' first|refine ak ?_|simp);have ff:∀(S:aD→Prop) (n:Nat),aH S (qp n (.agg [.int .i64 0,.int .i64 0,.str [],.slice 4 .nil []]))=True:=fun S n=>eq_true (w9 S _ (by simp[aB,aH]) n);refine ik (fun i (_:Unit)=>⟨[(0,.slice 4 .no (l.map enc)),(3,.row 4 (.loc 0) l.length),(4,.int .i64 i)],[],[(.loc 0,⟨l.length,30,4,some (hW enc (.agg [.int .i64 0,.int .i64 0,.str [],.slice 4 .nil []]) l i)⟩)],1,[]⟩) l.length (fun _ _=>True) () ⟨by simp[fresh,aH,aB,cf,inObs,Pv.look,nW,ff],eh (by simp[fresh,aH,aB,cf,inObs,Pv.look,nW,ff]),ei (by simp[fresh,aH,aB,dN,inObs,Pv.look,nW,ff]),by simp⟩ trivial (fun _ _ _=>?_) (fun i _ hi _ _=>?_)
 ·rw[BS];exact ct
 ·obtain⟨x,ad,cz⟩:=ep hi;have key:=aI x (eP ad);have aj:=BT enc (.agg [.int .i64 0,.int .i64 0,.str [],.slice 4 .nil []]) l hi;have aC:=BU enc (.agg [.int .i64 0,.int .i64 0,.str [],.slice 4 .nil []]) l ad;have bg:∀S:aD→Prop,aH S (hW enc (.agg [.int .i64 0,.int .i64 0,.str [],.slice 4 .nil []]) l (i+1)):=fun S=>BH S _ _ _ _ (fun x=>by simp) (by simp[aB,aH]);generalize hW enc (.agg [.int .i64 0,.int .i64 0,.str [],.slice 4 .nil []]) l i=r0 at aj aC;generalize oI:hW enc (.agg [.int .i64 0,.int .i64 0,.str [],.slice 4 .nil []]) l (i+1)=dC at aC bg;clear ad;simp[hi,cz];(with_reducible repeat' first|refine ak ?_|refine aE key ?_|refine aF key ?_|simp[hi,cz,aj,aC]);all_goals refine bL.rng () hi trivial ?_
  all_goals rw[oI]
  all_goals first
   |exact⟨by simp[fresh,aH,aB,cf,inObs,Pv.look,bg],eh (by simp[fresh,aH,aB,cf,inObs,Pv.look,bg]),ei (by simp[fresh,aH,aB,dN,inObs,Pv.look,bg]),by simp⟩
   |exact⟨by simp[fresh,aH,aB,cf,inObs,Pv.look,bg],eh (by simp[fresh,aH,aB,cf,inObs,Pv.look,bg]),ei (by simp[fresh,aH,aB,dN,inObs,Pv.look,bg];exact aC),by simp⟩
theorem ajJ(l:List bP)(aI:∀x∈l,bI ao 22 [enc x,enc x] (.bool true)):bI ao 21 [.slice 4 .no (l.map enc),.slice 4 .no (l.map enc)] (.bool true):=by
 refine br fe Zw afT fun aR=>?_;unfold Nn;have eX:l.length≤68719476736:=by simp[eE,ej,eu,lim]at aR;omega
 simp;(with_reducible repeat' first|refine ak ?_|simp);refine dU [0,1] (fun i (_:Unit)=>[(5,.int .i64 i)]) l.length (fun _ _=>True) () b4 trivial (fun _ _ _=>?_) (fun i _ hi _ _=>?_)
 ·exact ct
 ·obtain⟨x,ad,cz⟩:=ep hi;have key:=aI x (eP ad);clear ad;exact hM
theorem akm(t:cr)(hw:t.wf):∀m:Int,0≤m→m≤1048576→bI ao 15 [t.e,.int .i64 m] (.int .i64 (hN t m)):=by
 suffices H:∀(k:Nat) (t:cr),t.sz≤k→t.wf→∀m:Int,0≤m→m≤1048576→bI ao 15 [t.e,.int .i64 m] (.int .i64 (hN t m))from H _ t (eQ _) hw
 intro k;clear hw t;induction k with
 |zero=>intro t aO;cases t<;>simp[cr.sz]at aO
 |succ k bM=>
  intro t aO hw m bs J;cases t with
  |mk sx sy s a=>
   simp only[cr.wf,cr.wfL_iff]at hw;obtain⟨Bs,AZ⟩:=hw;have j0:m-s.len<0→hN (.mk sx sy s a) m= -1:=fun g=>by rw[FV];exact if_pos g
   have j1:¬m-s.len<0→hN (.mk sx sy s a) m=gS hN (.l a) (m-s.len):=fun g=>by rw[FV];exact if_neg g
   generalize hN (.mk sx sy s a) m=R at j0 j1;have Bh:=s.len_nn;have key:=fun h=>Vz (.l a) (fun p n c e=>by cases e) (fun xs e x ad=>by cases e;exact bM x (by have:=cr.szL_mem ad;simp only[cr.sz]at aO;omega) (AZ x ad)) (m-s.len) h (by omega);have hle:=fun h=>xL xM (.l a) (m-s.len) h;simp only[cr.e,cr.eL_map];simp only[cZ.e]at key;clear aO AZ;cases s with
   |b x=>
    simp only[gJ.wf,ma,lim]at Bs;have g:m-x.size<0:=by omega
    have bh:=j0 g;subst bh;clear j0 j1;clear key hle bM;simp only[gJ.e];refine br fe uD vn fun aR=>?_;unfold sW;exact ct
   |s l=>
    simp only[gJ.len]at j0 j1 key hle;simp only[gJ.e];by_cases g:m-l.length<0
    ·have bh:=j0 g;subst bh;clear j0 j1;clear key hle bM;refine br fe uD vn fun aR=>?_;unfold sW;have eX:l.length≤68719476736:=by simp[eE,ej,eu,lim]at aR;omega
     exact ct
    ·have bh:=j1 g;clear j0 j1;have key:=key (by omega);have hle:=hle (by omega);rw[←bh]at key hle;clear bh bM;by_cases bp:R<0
     ·have:R= -1:=by omega
      subst this;refine br fe uD vn fun aR=>?_;unfold sW;have eX:l.length≤68719476736:=by simp[eE,ej,eu,lim]at aR;omega
      exact ct
     ·refine br fe uD vn fun aR=>?_;unfold sW;have eX:l.length≤68719476736:=by simp[eE,ej,eu,lim]at aR;omega
      exact ct
  |big sx sy s p n c=>
   simp only[cr.wf]at hw;obtain⟨Bs,AZ⟩:=hw;have j0:m-s.len<0→hN (.big sx sy s p n c) m= -1:=fun g=>by rw[FV];exact if_pos g
   have j1:¬m-s.len<0→hN (.big sx sy s p n c) m=gS hN (.b p n c) (m-s.len):=fun g=>by rw[FV];exact if_neg g
   generalize hN (.big sx sy s p n c) m=R at j0 j1;have Bh:=s.len_nn;have key:=fun h=>Vz (.b p n c) (fun p n c e=>by cases e;exact AZ) (fun xs e=>by cases e) (m-s.len) h (by omega);have hle:=fun h=>xL xM (.b p n c) (m-s.len) h;simp only[cr.e];simp only[cZ.e]at key;clear aO AZ;cases s with
   |b x=>
    simp only[gJ.wf,ma,lim]at Bs;have g:m-x.size<0:=by omega
    have bh:=j0 g;subst bh;clear j0 j1;clear key hle bM;simp only[gJ.e];refine br fe uD vn fun aR=>?_;unfold sW;exact ct
   |s l=>
    simp only[gJ.len]at j0 j1 key hle;simp only[gJ.e];by_cases g:m-l.length<0
    ·have bh:=j0 g;subst bh;clear j0 j1;clear key hle bM;refine br fe uD vn fun aR=>?_;unfold sW;have eX:l.length≤68719476736:=by simp[eE,ej,eu,lim]at aR;omega
     exact ct
    ·have bh:=j1 g;clear j0 j1;have key:=key (by omega);have hle:=hle (by omega);rw[←bh]at key hle;clear bh bM;by_cases bp:R<0
     ·have:R= -1:=by omega
      subst this;refine br fe uD vn fun aR=>?_;unfold sW;have eX:l.length≤68719476736:=by simp[eE,ej,eu,lim]at aR;omega
      exact ct
     ·refine br fe uD vn fun aR=>?_;unfold sW;have eX:l.length≤68719476736:=by simp[eE,ej,eu,lim]at aR;omega
      exact ct
theorem akv(t:bP):bI ao 18 [enc t] (enc t):=by
 suffices H:∀(k:Nat) (t:bP),t.sz≤k→bI ao 18 [enc t] (enc t)from H _ t (eQ _)
 intro k;induction k with
 |zero=>intro t aO;cases t;simp[bP.sz]at aO
 |succ k bM=>intro t aO;have key:=akw t.args (fun x ad=>bM x (by have:=Ld ad;omega));clear bM;refine br fe ZF af2 fun aR=>?_;unfold Nx;exact ct
theorem ajI(t:bP):bI ao 22 [enc t,enc t] (.bool true):=by
 suffices H:∀(k:Nat) (t:bP),t.sz≤k→bI ao 22 [enc t,enc t] (.bool true)from H _ t (eQ _)
 intro k;induction k with
 |zero=>intro t aO;cases t;simp[bP.sz]at aO
 |succ k bM=>intro t aO;have key:=ajJ t.args (fun x ad=>bM x (by have:=Ld ad;omega));clear bM;refine br fe Zv afS fun aR=>?_;unfold Nl;exact ct
structure eU where
 v:Int
 t:cr
def eU.e(b:eU):ah:= .agg [.int .i64 b.v,.int .i64 b.t.kind,.int .i64 b.t.num,b.t.name.e,b.t.args.e 4 cr.e]
@[simp] theorem am5(S:aD→Prop)(b:eU):aB S b.e=True:=by simp[eU.e,aB,aH]
@[simp] theorem ao8(b:eU):dn b.e=b.e:=by simp[eU.e,dn,cU]
theorem RN(S:aD→Prop):∀l:List eU,aH S (l.map eU.e)
 |[]=>by simp[aH]
 |x::xs=>by simp[aH,RN S xs]
@[simp] theorem amU(S:aD→Prop)(l:List eU):aH S (l.map eU.e)=True:=eq_true (RN S l)
@[simp] theorem aoD(b:eU):dS b.e=true:=rfl
@[simp] theorem amC(b:eU):Pv.isAgg 5 b.e:=⟨_,rfl,rfl⟩
@[simp] theorem alb(b:eU):cells b.e=[.int .i64 b.v,.int .i64 b.t.kind,.int .i64 b.t.num,b.t.name.e,b.t.args.e 4 cr.e]:=rfl
structure gY where
 v:Int
 s:gJ
def gY.e(b:gY):ah:= .agg [.int .i64 b.v,b.s.e]
@[simp] theorem ani(S:aD→Prop)(b:gY):aB S b.e=True:=by simp[gY.e,aB,aH]
@[simp] theorem apk(b:gY):dn b.e=b.e:=by simp[gY.e,dn,cU]
theorem RS(S:aD→Prop):∀l:List gY,aH S (l.map gY.e)
 |[]=>by simp[aH]
 |x::xs=>by simp[aH,RS S xs]
@[simp] theorem amZ(S:aD→Prop)(l:List gY):aH S (l.map gY.e)=True:=eq_true (RS S l)
@[simp] theorem aoV(b:gY):dS b.e=true:=rfl
@[simp] theorem amH(b:gY):Pv.isAgg 2 b.e:=⟨_,rfl,rfl⟩
@[simp] theorem alu(b:gY):cells b.e=[.int .i64 b.v,b.s.e]:=rfl
def rn(b:eU)(m:Int):Int:=hN b.t m
theorem Lb(b:eU)(m:Int)(h:0≤m): -1≤rn b m∧rn b m≤m:=xM b.t m h
def lg(b:gY)(m:Int):Int:=if m-b.s.len<0 then-1 else m-b.s.len
theorem FW(b:gY)(m:Int)(h:0≤m): -1≤lg b m∧lg b m≤m:=by have:=b.s.len_nn;unfold lg;split<;>omega
theorem C3(t:cr):ah.agg [.int .i64 t.kind,.int .i64 t.num,t.name.e,t.args.e 4 cr.e]=t.e:=(cr.e_eq t).symm
theorem akg(b:eU)(hw:b.t.wf)(m:Int)(bs:0≤m)(J:m≤1048576):bI ao 97 [b.e,.int .i64 m] (.int .i64 (rn b m)):=by
 have key:=akm b.t hw m bs J;have hle:=xM b.t m bs;unfold rn;generalize hN b.t m=q at key hle⊢;by_cases bp:q<0
 ·have:q= -1:=by omega
  subst this;refine br fe Pf SX fun aR=>?_;unfold GU;simp[C3];(with_reducible repeat' first|refine ak ?_|refine aE key ?_|refine aF key ?_|simp[C3]);all_goals simp[bA,Kl,aV,aY,aU]
 ·refine br fe Pf SX fun aR=>?_;unfold GU;simp[C3];(with_reducible repeat' first|refine ak ?_|refine aE key ?_|refine aF key ?_|simp[bp,C3]);all_goals simp[bA,Kl,aV,aY,aU]
theorem akp(b:cQ):bI ao 101 [b.e] b.e:=by have key:=akv b.t;refine br fe Zz afW fun aR=>?_;unfold Nr;exact ct
theorem ajC(b:cQ):bI ao 103 [b.e,b.e] (.bool true):=by have key:=ajI b.t;refine br fe Zp afM fun aR=>?_;unfold Nf;exact ct
theorem akj(b:gY)(hw:b.s.wf)(m:Int)(bs:0≤m)(J:m≤1048576):bI ao 144 [b.e,.int .i64 m] (.int .i64 (lg b m)):=by
 have j0:m-b.s.len<0→lg b m= -1:=fun g=>if_pos g;have j1:¬m-b.s.len<0→lg b m=m-b.s.len:=fun g=>if_neg g;generalize lg b m=R at j0 j1;obtain⟨v,s⟩:=b;simp only[gY.e]at hw j0 j1⊢;cases s with
 |b x=>
  simp only[gJ.wf,ma,lim]at hw;have g:m-x.size<0:=by omega
  have bh:=j0 g;subst bh;clear j0 j1;simp only[gJ.e];refine br fe Hy JW fun aR=>?_;unfold Df;exact ct
 |s l=>
  simp only[gJ.e];by_cases g:m-l.length<0
  ·have bh:=j0 g;subst bh;clear j0 j1 hw;refine br fe Hy JW fun aR=>?_;unfold Df;have eX:l.length≤68719476736:=by simp[eE,ej,eu,lim]at aR;omega
   exact ct
  ·have bh:R=m-l.length:=j1 g;subst bh;clear j0 j1 hw;refine br fe Hy JW fun aR=>?_;unfold Df;have eX:l.length≤68719476736:=by simp[eE,ej,eu,lim]at aR;omega
   exact ct
theorem akx(b:bG):bI ao 156 [b.e] b.e:=by refine br fe ZH af4 fun aR=>?_;unfold Nz;exact ct
theorem aks(b:bf):bI ao 157 [b.e] b.e:=by refine br fe ZC afZ fun aR=>?_;unfold Nu;exact ct
theorem ajK(b:bG):bI ao 170 [b.e,b.e] (.bool true):=by refine br fe Zx afU fun aR=>?_;unfold Np;exact ct
theorem ajF(b:bf):bI ao 171 [b.e,b.e] (.bool true):=by refine br fe Zs afP fun aR=>?_;unfold Ni;exact ct
@[simp high] theorem aow(x y:bf):l9 x.e 0 [.int .i64 y.v,.str y.s]=y.e:=rfl
@[simp high] theorem aov(x y:bG):l9 x.e 0 [.int .i64 y.v,.int .i64 y.k]=y.e:=rfl
theorem akh(l:cZ eU)(hw:∀p n cap,l= .b p n cap→ma n)(aI:∀xs,l= .l xs→∀x∈xs,∀m,0≤m→m≤1048576→bI ao 97 [eU.e x,.int .i64 m] (.int .i64 (rn x m)))(m:Int)(bs:0≤m)(J:m≤1048576):bI ao 33 [l.e 5 eU.e,.int .i64 m] (.int .i64 (gS rn l m)):=by
 cases l with
 |b p n cap=>
  have aA:=hw p n cap rfl;simp only[ma,lim]at aA;have g:m-n<0:=by omega
  simp only[cZ.e,gS];clear hw aI;refine br fe Pg SY fun aR=>?_;unfold GV;exact ct
 |l l=>
 have aI:=aI l rfl;clear hw;simp only[cZ.e,gS];generalize bh:n5 rn l m=R;unfold n5 at bh;refine br fe Pg SY fun aR=>?_;unfold GV;have eX:l.length≤68719476736:=by simp[eE,ej,eu,lim]at aR;omega
 simp;by_cases g:m-l.length<0
 ·rw[if_pos g]at bh;subst bh;exact ct
 rw[if_neg g]at bh;(with_reducible repeat' first|refine ak ?_|simp[g]);refine dU [0] (fun i (k:Int)=>[(1,.int .i64 k),(5,.int .i64 i)]) l.length (fun i k=>(0≤k∧k≤1048576)∧jB rn (l.drop i) k=R) (m-l.length) b4 ⟨⟨by omega,by omega⟩,by simpa using bh⟩ (fun k af _=>?_) (fun i k hi af _=>?_)
 ·obtain⟨_,af⟩:=af;rw[List.drop_length]at af;simp only[jB]at af;subst af;exact ct
 ·obtain⟨⟨e9,a8⟩,af⟩:=af;obtain⟨x,ad,cz⟩:=ep hi;have key:=aI x (eP ad) k e9 a8;have hle:=Lb x k e9;rw[sd ad]at af;simp only[jB]at af;generalize rn x k=q at key hle af;clear ad;by_cases bp:q<0
  ·rw[if_pos bp]at af;subst af;exact ct
  ·rw[if_neg bp]at af;simp[hi,cz];((with_reducible repeat' first|refine ak ?_|refine aE key ?_|refine aF key ?_|simp[hi,cz,bp]|((first|apply bO|apply bS|apply bR)<;>intro h<;>try simp at h))<;>(try exact cq));all_goals exact bL.rng q hi ⟨⟨by omega,by omega⟩,af⟩ b4
theorem akq(l:List cQ)(aI:∀x∈l,bI ao 101 [cQ.e x] (cQ.e x)):bI ao 35 [.slice 5 .no (l.map cQ.e)] (.slice 5 .no (l.map cQ.e)):=by
 refine br fe ZA afX fun aR=>?_;unfold Ns;have eX:l.length≤68719476736:=by simp[eE,ej,eu,lim]at aR;omega
 simp;all_goals first|(refine⟨by unfold lim;omega,?_⟩)|skip
 (with_reducible repeat' first|refine ak ?_|simp);have ff:∀(S:aD→Prop) (n:Nat),aH S (qp n (.agg [.int .i64 0,.int .i64 0,.int .i64 0,.str [],.slice 4 .nil []]))=True:=fun S n=>eq_true (w9 S _ (by simp[aB,aH]) n);refine ik (fun i (_:Unit)=>⟨[(0,.slice 5 .no (l.map cQ.e)),(3,.row 5 (.loc 0) l.length),(4,.int .i64 i)],[],[(.loc 0,⟨l.length,113,5,some (hW cQ.e (.agg [.int .i64 0,.int .i64 0,.int .i64 0,.str [],.slice 4 .nil []]) l i)⟩)],1,[]⟩) l.length (fun _ _=>True) () ⟨by simp[fresh,aH,aB,cf,inObs,Pv.look,nW,ff],eh (by simp[fresh,aH,aB,cf,inObs,Pv.look,nW,ff]),ei (by simp[fresh,aH,aB,dN,inObs,Pv.look,nW,ff]),by simp⟩ trivial (fun _ _ _=>?_) (fun i _ hi _ _=>?_)
 ·rw[BS];exact ct
 ·obtain⟨x,ad,cz⟩:=ep hi;have key:=aI x (eP ad);have aj:=BT cQ.e (.agg [.int .i64 0,.int .i64 0,.int .i64 0,.str [],.slice 4 .nil []]) l hi;have aC:=BU cQ.e (.agg [.int .i64 0,.int .i64 0,.int .i64 0,.str [],.slice 4 .nil []]) l ad;have bg:∀S:aD→Prop,aH S (hW cQ.e (.agg [.int .i64 0,.int .i64 0,.int .i64 0,.str [],.slice 4 .nil []]) l (i+1)):=fun S=>BH S _ _ _ _ (fun x=>by simp) (by simp[aB,aH]);generalize hW cQ.e (.agg [.int .i64 0,.int .i64 0,.int .i64 0,.str [],.slice 4 .nil []]) l i=r0 at aj aC;generalize oI:hW cQ.e (.agg [.int .i64 0,.int .i64 0,.int .i64 0,.str [],.slice 4 .nil []]) l (i+1)=dC at aC bg;clear ad;simp[hi,cz];(with_reducible repeat' first|refine ak ?_|refine aE key ?_|refine aF key ?_|simp[hi,cz,aj,aC]);all_goals refine bL.rng () hi trivial ?_
  all_goals rw[oI]
  all_goals first
   |exact⟨by simp[fresh,aH,aB,cf,inObs,Pv.look,bg],eh (by simp[fresh,aH,aB,cf,inObs,Pv.look,bg]),ei (by simp[fresh,aH,aB,dN,inObs,Pv.look,bg]),by simp⟩
   |exact⟨by simp[fresh,aH,aB,cf,inObs,Pv.look,bg],eh (by simp[fresh,aH,aB,cf,inObs,Pv.look,bg]),ei (by simp[fresh,aH,aB,dN,inObs,Pv.look,bg];exact aC),by simp⟩
theorem ajD(l:List cQ)(aI:∀x∈l,bI ao 103 [cQ.e x,cQ.e x] (.bool true)):bI ao 37 [.slice 5 .no (l.map cQ.e),.slice 5 .no (l.map cQ.e)] (.bool true):=by
 refine br fe Zq afN fun aR=>?_;unfold Ng;have eX:l.length≤68719476736:=by simp[eE,ej,eu,lim]at aR;omega
 simp;(with_reducible repeat' first|refine ak ?_|simp);refine dU [0,1] (fun i (_:Unit)=>[(5,.int .i64 i)]) l.length (fun _ _=>True) () b4 trivial (fun _ _ _=>?_) (fun i _ hi _ _=>?_)
 ·exact ct
 ·obtain⟨x,ad,cz⟩:=ep hi;have key:=aI x (eP ad);clear ad;exact hM
theorem akk(l:cZ gY)(hw:∀p n cap,l= .b p n cap→ma n)(aI:∀xs,l= .l xs→∀x∈xs,∀m,0≤m→m≤1048576→bI ao 144 [gY.e x,.int .i64 m] (.int .i64 (lg x m)))(m:Int)(bs:0≤m)(J:m≤1048576):bI ao 74 [l.e 2 gY.e,.int .i64 m] (.int .i64 (gS lg l m)):=by
 cases l with
 |b p n cap=>
  have aA:=hw p n cap rfl;simp only[ma,lim]at aA;have g:m-n<0:=by omega
  simp only[cZ.e,gS];clear hw aI;refine br fe Pj S0 fun aR=>?_;unfold GX;exact ct
 |l l=>
 have aI:=aI l rfl;clear hw;simp only[cZ.e,gS];generalize bh:n5 lg l m=R;unfold n5 at bh;refine br fe Pj S0 fun aR=>?_;unfold GX;have eX:l.length≤68719476736:=by simp[eE,ej,eu,lim]at aR;omega
 simp;by_cases g:m-l.length<0
 ·rw[if_pos g]at bh;subst bh;exact ct
 rw[if_neg g]at bh;(with_reducible repeat' first|refine ak ?_|simp[g]);refine dU [0] (fun i (k:Int)=>[(1,.int .i64 k),(5,.int .i64 i)]) l.length (fun i k=>(0≤k∧k≤1048576)∧jB lg (l.drop i) k=R) (m-l.length) b4 ⟨⟨by omega,by omega⟩,by simpa using bh⟩ (fun k af _=>?_) (fun i k hi af _=>?_)
 ·obtain⟨_,af⟩:=af;rw[List.drop_length]at af;simp only[jB]at af;subst af;exact ct
 ·obtain⟨⟨e9,a8⟩,af⟩:=af;obtain⟨x,ad,cz⟩:=ep hi;have key:=aI x (eP ad) k e9 a8;have hle:=FW x k e9;rw[sd ad]at af;simp only[jB]at af;generalize lg x k=q at key hle af;clear ad;by_cases bp:q<0
  ·rw[if_pos bp]at af;subst af;exact ct
  ·rw[if_neg bp]at af;simp[hi,cz];((with_reducible repeat' first|refine ak ?_|refine aE key ?_|refine aF key ?_|simp[hi,cz,bp]|((first|apply bO|apply bS|apply bR)<;>intro h<;>try simp at h))<;>(try exact cq));all_goals exact bL.rng q hi ⟨⟨by omega,by omega⟩,af⟩ b4
theorem akt(l:List bf)(aI:∀x∈l,bI ao 157 [bf.e x] (bf.e x)):bI ao 85 [.slice 2 .no (l.map bf.e)] (.slice 2 .no (l.map bf.e)):=by
 refine br fe ZD af0 fun aR=>?_;unfold Nv;have eX:l.length≤68719476736:=by simp[eE,ej,eu,lim]at aR;omega
 simp;all_goals first|(refine⟨by unfold lim;omega,?_⟩)|skip
 (with_reducible repeat' first|refine ak ?_|simp);have ff:∀(S:aD→Prop) (n:Nat),aH S (qp n ((⟨0,[]⟩:bf).e))=True:=fun S n=>eq_true (w9 S _ (by simp[aB,aH]) n);refine ik (fun i (_:Unit)=>⟨[(0,.slice 2 .no (l.map bf.e)),(3,.row 2 (.loc 0) l.length),(4,.int .i64 i)],[],[(.loc 0,⟨l.length,100,2,some (hW bf.e ((⟨0,[]⟩:bf).e) l i)⟩)],1,[]⟩) l.length (fun _ _=>True) () ⟨by simp[fresh,aH,aB,cf,inObs,Pv.look,nW,ff],eh (by simp[fresh,aH,aB,cf,inObs,Pv.look,nW,ff]),ei (by simp[fresh,aH,aB,dN,inObs,Pv.look,nW,ff]),by simp⟩ trivial (fun _ _ _=>?_) (fun i _ hi _ _=>?_)
 ·rw[BS];exact ct
 ·obtain⟨x,ad,cz⟩:=ep hi;have key:=aI x (eP ad);have aj:=BT bf.e ((⟨0,[]⟩:bf).e) l hi;have aC:=BU bf.e ((⟨0,[]⟩:bf).e) l ad;have bg:∀S:aD→Prop,aH S (hW bf.e ((⟨0,[]⟩:bf).e) l (i+1)):=fun S=>BH S _ _ _ _ (fun x=>by simp) (by simp[aB,aH]);generalize hW bf.e ((⟨0,[]⟩:bf).e) l i=r0 at aj aC;generalize oI:hW bf.e ((⟨0,[]⟩:bf).e) l (i+1)=dC at aC bg;clear ad;simp[hi,cz];(with_reducible repeat' first|refine ak ?_|refine aE key ?_|refine aF key ?_|simp[hi,cz,aj,aC,-l9]);all_goals refine bL.rng () hi trivial ?_
  all_goals rw[oI]
  all_goals first
   |exact⟨by simp[fresh,aH,aB,cf,inObs,Pv.look,bg],eh (by simp[fresh,aH,aB,cf,inObs,Pv.look,bg]),ei (by simp[fresh,aH,aB,dN,inObs,Pv.look,bg]),by simp⟩
   |exact⟨by simp[fresh,aH,aB,cf,inObs,Pv.look,bg],eh (by simp[fresh,aH,aB,cf,inObs,Pv.look,bg]),ei (by simp[fresh,aH,aB,dN,inObs,Pv.look,bg];exact aC),by simp⟩
theorem ajG(l:List bf)(aI:∀x∈l,bI ao 171 [bf.e x,bf.e x] (.bool true)):bI ao 94 [.slice 2 .no (l.map bf.e),.slice 2 .no (l.map bf.e)] (.bool true):=by
 refine br fe Zt afQ fun aR=>?_;unfold Nj;have eX:l.length≤68719476736:=by simp[eE,ej,eu,lim]at aR;omega
 simp;(with_reducible repeat' first|refine ak ?_|simp);refine dU [0,1] (fun i (_:Unit)=>[(5,.int .i64 i)]) l.length (fun _ _=>True) () b4 trivial (fun _ _ _=>?_) (fun i _ hi _ _=>?_)
 ·exact ct
 ·obtain⟨x,ad,cz⟩:=ep hi;have key:=aI x (eP ad);clear ad;exact hM
theorem aky(l:List bG)(aI:∀x∈l,bI ao 156 [bG.e x] (bG.e x)):bI ao 84 [.slice 2 .no (l.map bG.e)] (.slice 2 .no (l.map bG.e)):=by
 refine br fe ZI af5 fun aR=>?_;unfold NA;have eX:l.length≤68719476736:=by simp[eE,ej,eu,lim]at aR;omega
 simp;all_goals first|(refine⟨by unfold lim;omega,?_⟩)|skip
 (with_reducible repeat' first|refine ak ?_|simp);have ff:∀(S:aD→Prop) (n:Nat),aH S (qp n ((⟨0,0⟩:bG).e))=True:=fun S n=>eq_true (w9 S _ (by simp[aB,aH]) n);refine ik (fun i (_:Unit)=>⟨[(0,.slice 2 .no (l.map bG.e)),(3,.row 2 (.loc 0) l.length),(4,.int .i64 i)],[],[(.loc 0,⟨l.length,98,2,some (hW bG.e ((⟨0,0⟩:bG).e) l i)⟩)],1,[]⟩) l.length (fun _ _=>True) () ⟨by simp[fresh,aH,aB,cf,inObs,Pv.look,nW,ff],eh (by simp[fresh,aH,aB,cf,inObs,Pv.look,nW,ff]),ei (by simp[fresh,aH,aB,dN,inObs,Pv.look,nW,ff]),by simp⟩ trivial (fun _ _ _=>?_) (fun i _ hi _ _=>?_)
 ·rw[BS];exact ct
 ·obtain⟨x,ad,cz⟩:=ep hi;have key:=aI x (eP ad);have aj:=BT bG.e ((⟨0,0⟩:bG).e) l hi;have aC:=BU bG.e ((⟨0,0⟩:bG).e) l ad;have bg:∀S:aD→Prop,aH S (hW bG.e ((⟨0,0⟩:bG).e) l (i+1)):=fun S=>BH S _ _ _ _ (fun x=>by simp) (by simp[aB,aH]);generalize hW bG.e ((⟨0,0⟩:bG).e) l i=r0 at aj aC;generalize oI:hW bG.e ((⟨0,0⟩:bG).e) l (i+1)=dC at aC bg;clear ad;simp[hi,cz];(with_reducible repeat' first|refine ak ?_|refine aE key ?_|refine aF key ?_|simp[hi,cz,aj,aC,-l9]);all_goals refine bL.rng () hi trivial ?_
  all_goals rw[oI]
  all_goals first
   |exact⟨by simp[fresh,aH,aB,cf,inObs,Pv.look,bg],eh (by simp[fresh,aH,aB,cf,inObs,Pv.look,bg]),ei (by simp[fresh,aH,aB,dN,inObs,Pv.look,bg]),by simp⟩
   |exact⟨by simp[fresh,aH,aB,cf,inObs,Pv.look,bg],eh (by simp[fresh,aH,aB,cf,inObs,Pv.look,bg]),ei (by simp[fresh,aH,aB,dN,inObs,Pv.look,bg];exact aC),by simp⟩
theorem ajL(l:List bG)(aI:∀x∈l,bI ao 170 [bG.e x,bG.e x] (.bool true)):bI ao 93 [.slice 2 .no (l.map bG.e),.slice 2 .no (l.map bG.e)] (.bool true):=by
 refine br fe Zy afV fun aR=>?_;unfold Nq;have eX:l.length≤68719476736:=by simp[eE,ej,eu,lim]at aR;omega
 simp;(with_reducible repeat' first|refine ak ?_|simp);refine dU [0,1] (fun i (_:Unit)=>[(5,.int .i64 i)]) l.length (fun _ _=>True) () b4 trivial (fun _ _ _=>?_) (fun i _ hi _ _=>?_)
 ·exact ct
 ·obtain⟨x,ad,cz⟩:=ep hi;have key:=aI x (eP ad);clear ad;exact hM
def oS:cZ bG→Int→Int
 | .l l,m=>if m-l.length<0 then-1 else m-l.length
 | .b _ _ _,_=> -1
theorem UN(l:cZ bG)(m:Int)(h:0≤m): -1≤oS l m∧oS l m≤m:=by
 cases l with
 |l l=>simp only[oS];split<;>omega
 |b=>simp only[oS];omega
theorem akn(l:cZ bG)(hw:∀p n cap,l= .b p n cap→ma n)(m:Int)(bs:0≤m)(J:m≤1048576):bI ao 73 [l.e 2 bG.e,.int .i64 m] (.int .i64 (oS l m)):=by
 cases l with
 |b p n cap=>
  have aA:=hw p n cap rfl;simp only[ma,lim]at aA;have g:m-n<0:=by omega
  simp only[cZ.e,oS];clear hw;refine br fe Hz JX fun aR=>?_;unfold Dg;exact ct
 |l l=>
  simp only[cZ.e,oS];clear hw;by_cases g:m-l.length<0
  ·rw[if_pos g];refine br fe Hz JX fun aR=>?_;unfold Dg;have eX:l.length≤68719476736:=by simp[eE,ej,eu,lim]at aR;omega
   exact ct
  ·rw[if_neg g];refine br fe Hz JX fun aR=>?_;unfold Dg;have eX:l.length≤68719476736:=by simp[eE,ej,eu,lim]at aR;omega
   exact ct
def jW(d:cZ eU):ah:=d.e 5 eU.e
@[simp] theorem am8(S:aD→Prop)(d:cZ eU):aB S (jW d)=True:=by cases d<;>simp[jW,cZ.e,aB]
@[simp] theorem apb(d:cZ eU):dn (jW d)=jW d:=by
 cases d with
 |l l=>
  have:∀l:List eU,cU (l.map eU.e)=l.map eU.e:=by
   intro l;induction l with
   |nil=>rfl
   |cons x l bM=>simp[cU,bM]
  simp[jW,cZ.e,dn,this]
 |b=>simp[jW,cZ.e,dn]
theorem RV(S:aD→Prop):∀l:List (cZ eU),aH S (l.map jW)
 |[]=>by simp[aH]
 |x::xs=>by simp[aH,RV S xs]
@[simp] theorem am1(S:aD→Prop)(l:List (cZ eU)):aH S (l.map jW)=True:=eq_true (RV S l)
@[simp] theorem aoJ(d:cZ eU):dS (jW d)=true:=by cases d<;>rfl
@[simp] theorem alf(d:cZ eU):cells (jW d)=[jW d]:=by cases d<;>rfl
def iW(d:cZ eU)(m:Int):Int:=gS rn d m
theorem zQ(d:cZ eU)(m:Int)(h:0≤m): -1≤iW d m∧iW d m≤m:=xL Lb d m h
def vN(d:cZ eU):Prop:=d.wf fun b=>b.t.wf
@[simp] theorem ai3:∀l:List (List cQ),cU (l.map fP)=l.map fP
 |[]=>rfl
 |x::xs=>by simp[cU,ai3 xs]
theorem Vy(d:cZ eU)(hw:vN d)(m:Int)(bs:0≤m)(J:m≤1048576):bI ao 33 [jW d,.int .i64 m] (.int .i64 (iW d m)):=akh d (fun p n c e=>by subst e;exact hw) (fun xs e x ad m bs J=>by subst e;exact akg x (hw x ad) m bs J) m bs J
theorem VA(d:List cQ):bI ao 35 [fP d] (fP d):=akq d fun x _=>akp x
theorem Vi(d:List cQ):bI ao 37 [fP d,fP d] (.bool true):=ajD d fun x _=>ajC x
theorem aki(l:cZ (cZ eU))(hw:∀p n cap,l= .b p n cap→ma n)(aI:∀xs,l= .l xs→∀x∈xs,∀m,0≤m→m≤1048576→bI ao 33 [jW x,.int .i64 m] (.int .i64 (iW x m)))(m:Int)(bs:0≤m)(J:m≤1048576):bI ao 72 [l.e 1 jW,.int .i64 m] (.int .i64 (gS iW l m)):=by
 cases l with
 |b p n cap=>
  have aA:=hw p n cap rfl;simp only[ma,lim]at aA;have g:m-n<0:=by omega
  simp only[cZ.e,gS];clear hw aI;refine br fe Ph SZ fun aR=>?_;unfold GW;exact ct
 |l l=>
 have aI:=aI l rfl;clear hw;simp only[cZ.e,gS];generalize bh:n5 iW l m=R;unfold n5 at bh;refine br fe Ph SZ fun aR=>?_;unfold GW;have eX:l.length≤68719476736:=by simp[eE,ej,eu,lim]at aR;omega
 simp;by_cases g:m-l.length<0
 ·rw[if_pos g]at bh;subst bh;exact ct
 rw[if_neg g]at bh;(with_reducible repeat' first|refine ak ?_|simp[g]);refine dU [0] (fun i (k:Int)=>[(1,.int .i64 k),(5,.int .i64 i)]) l.length (fun i k=>(0≤k∧k≤1048576)∧jB iW (l.drop i) k=R) (m-l.length) b4 ⟨⟨by omega,by omega⟩,by simpa using bh⟩ (fun k af _=>?_) (fun i k hi af _=>?_)
 ·obtain⟨_,af⟩:=af;rw[List.drop_length]at af;simp only[jB]at af;subst af;exact ct
 ·obtain⟨⟨e9,a8⟩,af⟩:=af;obtain⟨x,ad,cz⟩:=ep hi;have key:=aI x (eP ad) k e9 a8;have hle:=zQ x k e9;rw[sd ad]at af;simp only[jB]at af;generalize iW x k=q at key hle af;clear ad;by_cases bp:q<0
  ·rw[if_pos bp]at af;subst af;exact ct
  ·rw[if_neg bp]at af;simp[hi,cz];((with_reducible repeat' first|refine ak ?_|refine aE key ?_|refine aF key ?_|simp[hi,cz,bp]|((first|apply bO|apply bS|apply bR)<;>intro h<;>try simp at h))<;>(try exact cq));all_goals exact bL.rng q hi ⟨⟨by omega,by omega⟩,af⟩ b4
theorem akr(l:List (List cQ))(aI:∀x∈l,bI ao 35 [fP x] (fP x)):bI ao 83 [.slice 1 .no (l.map fP)] (.slice 1 .no (l.map fP)):=by
 refine br fe ZB afY fun aR=>?_;unfold Nt;have eX:l.length≤68719476736:=by simp[eE,ej,eu,lim]at aR;omega
 simp;all_goals first|(refine⟨by unfold lim;omega,?_⟩)|skip
 (with_reducible repeat' first|refine ak ?_|simp);have ff:∀(S:aD→Prop) (n:Nat),aH S (qp n (.slice 5 .nil []))=True:=fun S n=>eq_true (w9 S _ (by simp[aB,aH]) n);refine ik (fun i (_:Unit)=>⟨[(0,.slice 1 .no (l.map fP)),(3,.row 1 (.loc 0) l.length),(4,.int .i64 i)],[],[(.loc 0,⟨l.length,46,1,some (hW fP (.slice 5 .nil []) l i)⟩)],1,[]⟩) l.length (fun _ _=>True) () ⟨by simp[fresh,aH,aB,cf,inObs,Pv.look,nW,ff],eh (by simp[fresh,aH,aB,cf,inObs,Pv.look,nW,ff]),ei (by simp[fresh,aH,aB,dN,inObs,Pv.look,nW,ff]),by simp⟩ trivial (fun _ _ _=>?_) (fun i _ hi _ _=>?_)
 ·rw[BS];exact ct
 ·obtain⟨x,ad,cz⟩:=ep hi;have key:=aI x (eP ad);have aj:=BT fP (.slice 5 .nil []) l hi;have aC:=BU fP (.slice 5 .nil []) l ad;have bg:∀S:aD→Prop,aH S (hW fP (.slice 5 .nil []) l (i+1)):=fun S=>BH S _ _ _ _ (fun x=>by simp) (by simp[aB,aH]);generalize hW fP (.slice 5 .nil []) l i=r0 at aj aC;generalize oI:hW fP (.slice 5 .nil []) l (i+1)=dC at aC bg;clear ad;simp[hi,cz];(with_reducible repeat' first|refine ak ?_|refine aE key ?_|refine aF key ?_|simp[hi,cz,aj,aC]);all_goals refine bL.rng () hi trivial ?_
  all_goals rw[oI]
  all_goals first
   |exact⟨by simp[fresh,aH,aB,cf,inObs,Pv.look,bg],eh (by simp[fresh,aH,aB,cf,inObs,Pv.look,bg]),ei (by simp[fresh,aH,aB,dN,inObs,Pv.look,bg]),by simp⟩
   |exact⟨by simp[fresh,aH,aB,cf,inObs,Pv.look,bg],eh (by simp[fresh,aH,aB,cf,inObs,Pv.look,bg]),ei (by simp[fresh,aH,aB,dN,inObs,Pv.look,bg];exact aC),by simp⟩
theorem ajE(l:List (List cQ))(aI:∀x∈l,bI ao 37 [fP x,fP x] (.bool true)):bI ao 92 [.slice 1 .no (l.map fP),.slice 1 .no (l.map fP)] (.bool true):=by
 refine br fe Zr afO fun aR=>?_;unfold Nh;have eX:l.length≤68719476736:=by simp[eE,ej,eu,lim]at aR;omega
 simp;(with_reducible repeat' first|refine ak ?_|simp);refine dU [0,1] (fun i (_:Unit)=>[(5,.int .i64 i)]) l.length (fun _ _=>True) () b4 trivial (fun _ _ _=>?_) (fun i _ hi _ _=>?_)
 ·exact ct
 ·obtain⟨x,ad,cz⟩:=ep hi;have key:=aI x (eP ad);clear ad;exact hM
end Go.Proofs.YtahlgcidhnjlbaaGreat
