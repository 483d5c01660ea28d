/- The laws' copying, counting and comparing of data, II. -/
import Derived.Lib.OwnBridge
import Derived.Shelf.GgSortMore.Stable
import Derived.Shelf.GgSortFunc.SmallK
import Derived.Shelf.GgSortFunc.Slice
import Derived.Ground.GgsProg
import Derived.Test.YtohaalphocaebaaGreatProg
import Derived.ProofKit
import Derived.Carry
import Derived.WalkKit
import Derived.Deep.Slices
import Derived.Test.YtohaalphocaebaaGreatZ3
set_option linter.all false
set_option maxHeartbeats 4000000
open Array renaming getElem?_toList→tg
open BitVec renaming ofInt→p3
open Bool renaming eq_iff_iff→p4,false_eq_true→gT,or_eq_true→lF
open Go renaming Program→cB,TypeId→fV
open Go.DataW renaming trod→h0
open Go.Extern.ReflectliteSwapper renaming swap→DC,swapper→as0
open Go.Extern.ReflectliteValue renaming len→as1,method→as2,unpack→anv,valueError→anw
open Go.Extern.Rtype renaming kind→XH
open Go.IntKind renaming bits→nO,signed→r1,u64→hj,wrap→r2
open Go.IntWalk renaming i64_in→oF
open Go.Proofs.Tryz renaming prog→al
open Go.Value renaming cells→oH
open List renaming cons_append→bP,drop_eq_getElem_cons→k5,getElem?_eq_getElem→cf,getElem?_eq_some_iff→fw,getElem_of_mem→nj,length_append→oI,length_cons→oJ,length_map→p6,map_cons→gM,map_nil→mz,mem_cons→fK,mem_cons_of_mem→oK,mem_of_getElem?→eo,nil_append→bX,pairwise_iff_getElem→pt,replicate→qP,take_length→k6,take_of_length_le→hB,take_succ→nR
open List.cons renaming injEq→nQ
open Nat renaming add_mul→pw,le_refl→eV,le_trans→j4
open Ne renaming symm→kL
open Option renaming bind_eq_some_iff→mB,isSome_none→l0,map_eq_some_iff→gN,map_some→nS
open Option.some renaming injEq→dE
open Prod.mk renaming injEq→jj
open _root_ renaming False→eR,Option→aY,UInt8→dz,beq_iff_eq→dL,congrArg→eZ,decide_eq_false→k8,decide_eq_false_iff_not→gr,decide_eq_true→kN,decide_eq_true_eq→fm
namespace Go.Proofs.YtohaalphocaebaaGreat
open Go Go.Pv
variable {α:Type} [Inhabited α] {S:List α→cE} {n g b5:Nat} {lc b0:List ah} {lt:α→α→Bool}
theorem Rn(H:e1 S n g b5 lc b0 lt)(d:Array α)(aR:d.size=n)(lo hi first:Nat)(J:first+hi≤n)(U:2≤n)(ao:lo≤n):
  bF al 278 [eS g b5 lc b0,.int .i64 lo,.int .i64 hi,.int .i64 first] (S d.toList) fun r ai=>r= .tuple []∧∃b9,ai=S b9.toList∧b9=Sort.siftDown lt hi first lo d∧b9.size=n:=by
 have ag:=H.ok d.toList;have ar:d.toList.length=n:=by simpa using aR
 have aA:∀l m,Pv.look (.loc m) (S l).b=none:=fun l=>(H.ok l).obj.1;have hu:∀l m cs,cw (.loc m) cs (S l).b=(S l).b++[(.loc m,cs)]:=fun l m cs=>jB (aA l m);have av:∀m,aD.loc m∉cW (S d.toList):=jx ag.obj;have hle:=H.le;refine bF.mk mixed nK ab1 aiE (by simp) ag.obj fun aQ cN=>?_;unfold Po;simp[eS,hu,av,cD,aA];refine H.loopA ar [2,3,4] (fun(x:Nat×Array α)=>[(8,.int .i64 x.1)]) (·.2) (fun x=>hi-x.1) (fun x=>x.2.size=n∧x.1≤n∧Sort.siftDown lt hi first x.1 x.2=Sort.siftDown lt hi first lo d) (lo,d) aR ⟨aR,ao,rfl⟩ (by simp[cD,aA]) aO aO (by simp[aB]) ?_;rintro⟨root,cl⟩ ⟨aZ,bI,ck⟩;simp only at aZ bI ck;have ak:((first:Int)+(2*root+1))=(first+(2*root+1):Nat):=by omega
 have aC:(((first+(2*root+1):Nat):Int)+1)=(first+(2*root+1)+1:Nat):=by omega
 have bj:((first:Int)+root)=(first+root:Nat):=by omega
 have dd:((first:Int)+(2*root+1+1))=(first+(2*root+2):Nat):=by omega
 simp[Pv.look,H.slc,H.ssc];(with_reducible repeat' first|((first|apply bR|apply bU|apply bT)<;>intro h<;>try simp at h)|refine aj ?_|simp[Pv.look,H.slc,H.ssc])
 ·rw[Sort.siftDown,dif_pos (by omega)]at ck;exact H.retA ar aZ (.inr rfl) ⟨rfl,cl,rfl,ck,aZ⟩
 ·rw[Sort.siftDown,dif_neg (by omega)]at ck;rw[ak,aC];refine H.lessA aZ _ _ (by omega) (by omega) fun o=>?_;have aw:decide (2*root+1+1<hi)=true:=by simp;omega
  cases ad:lt cl[first+(2*root+1)]! cl[first+(2*root+1)+1]! with
  |true=>
   rw[if_pos (by rw[aw,ad];rfl)]at ck;simp;(with_reducible repeat' first|refine aj ?_|simp[Pv.look,H.slc,H.ssc]);rw[bj,dd];refine H.lessA aZ _ _ (by omega) (by omega) fun o=>?_;cases aM:lt cl[first+root]! cl[first+(2*root+2)]! with
   |true=>rw[if_neg (by simp[aM]),dif_pos (by omega)]at ck;simp;(with_reducible repeat' first|refine aj ?_|simp[Pv.look,H.slc,H.ssc]);rw[bj,dd];refine H.swapA aZ U _ _ (by omega) (by omega) fun o=>?_;simp;(with_reducible repeat' first|refine aj ?_|simp);refine bO.whl (2*root+2,Sort.swp cl (first+root) (first+(2*root+2))) (by simp;omega) ⟨by rw[gK,aZ],by simp;omega,ck⟩ (H.weakC ar (by simp[gK,aZ]) (by simp[aB];omega))
   |false=>rw[if_pos (by simp[aM])]at ck;simp;(with_reducible repeat' first|refine aj ?_|simp);all_goals exact H.retA ar aZ (.inl rfl) ⟨rfl,cl,rfl,ck,aZ⟩
  |false=>
   rw[if_neg (by simp[ad])]at ck;simp;(with_reducible repeat' first|refine aj ?_|simp[Pv.look,H.slc,H.ssc]);rw[bj,ak];refine H.lessA aZ _ _ (by omega) (by omega) fun o=>?_;cases aM:lt cl[first+root]! cl[first+(2*root+1)]! with
   |true=>rw[if_neg (by simp[aM])]at ck;simp;(with_reducible repeat' first|refine aj ?_|simp[Pv.look,H.slc,H.ssc]);rw[bj,ak];refine H.swapA aZ U _ _ (by omega) (by omega) fun o=>?_;simp;(with_reducible repeat' first|refine aj ?_|simp);refine bO.whl (2*root+1,Sort.swp cl (first+root) (first+(2*root+1))) (by simp;omega) ⟨by rw[gK,aZ],by simp;omega,ck⟩ (H.weakC ar (by simp[gK,aZ]) (by simp[aB]))
   |false=>rw[if_pos (by simp[aM])]at ck;simp;(with_reducible repeat' first|refine aj ?_|simp);all_goals exact H.retA ar aZ (.inl rfl) ⟨rfl,cl,rfl,ck,aZ⟩
 ·rw[Sort.siftDown,dif_neg (by omega)]at ck;have aw:decide (2*root+1+1<hi)=false:=by simp;omega
  rw[if_neg (by rw[aw];simp)]at ck;rw[bj,ak];refine H.lessA aZ _ _ (by omega) (by omega) fun o=>?_;cases aM:lt cl[first+root]! cl[first+(2*root+1)]! with
  |true=>rw[if_neg (by simp[aM])]at ck;simp;(with_reducible repeat' first|refine aj ?_|simp[Pv.look,H.slc,H.ssc]);rw[bj,ak];refine H.swapA aZ U _ _ (by omega) (by omega) fun o=>?_;simp;(with_reducible repeat' first|refine aj ?_|simp);refine bO.whl (2*root+1,Sort.swp cl (first+root) (first+(2*root+1))) (by simp;omega) ⟨by rw[gK,aZ],by simp;omega,ck⟩ (H.weakC ar (by simp[gK,aZ]) (by simp[aB]))
  |false=>rw[if_pos (by simp[aM])]at ck;simp;(with_reducible repeat' first|refine aj ?_|simp);all_goals exact H.retA ar aZ (.inl rfl) ⟨rfl,cl,rfl,ck,aZ⟩
theorem adr(H:e1 S n g b5 lc b0 lt)(d:Array α)(aR:d.size=n)(a b:Nat)(mN:a<b)(ae:b≤n)(U:2≤n):
  bF al 264 [eS g b5 lc b0,.int .i64 a,.int .i64 b] (S d.toList) fun r ai=>r= .tuple []∧∃b9,ai=S b9.toList∧b9=Sort.reverseRange d a b∧b9.size=n:=by
 have ag:=H.ok d.toList;have ar:d.toList.length=n:=by simpa using aR
 have aA:∀l m,Pv.look (.loc m) (S l).b=none:=fun l=>(H.ok l).obj.1;have hu:∀l m cs,cw (.loc m) cs (S l).b=(S l).b++[(.loc m,cs)]:=fun l m cs=>jB (aA l m);have av:∀m,aD.loc m∉cW (S d.toList):=jx ag.obj;have hle:=H.le;refine bF.mk mixed nK abZ aiC (by simp) ag.obj fun aQ cN=>?_;unfold Pm;simp[eS,hu,av,cD,aA];have e8:((b:Int)-1)=(b-1:Nat):=by omega
 (with_reducible repeat' first|refine aj ?_|simp[hu,av,cD,aA]);rw[e8];refine H.loopA ar [3] (fun(x:(Nat×Nat)×Array α)=>[(6,.int .i64 x.1.1),(7,.int .i64 x.1.2)]) (·.2) (fun x=>x.1.2+1-x.1.1) (fun x=>x.2.size=n∧x.1.2<n∧Sort.reverseLoop x.1.1 x.1.2 x.2=Sort.reverseRange d a b) ((a,b-1),d) aR ⟨aR,by simp;omega,rfl⟩ (by simp[cD,aA]) aO aO (by simp[aB]) ?_;rintro⟨⟨i,j⟩,cl⟩ ⟨aZ,bI,ck⟩;simp only at aZ bI ck;rw[Sort.reverseLoop]at ck;simp[Pv.look,H.slc,H.ssc];(with_reducible repeat' first|((first|apply bR|apply bU|apply bT)<;>intro h<;>try simp at h)|refine aj ?_|simp[Pv.look,H.slc,H.ssc])
 ·rw[if_pos (by omega)]at ck;refine H.swapA aZ U _ _ (by omega) (by omega) fun o=>?_;have ak:((i:Int)+1)=(i+1:Nat):=by omega
  have aC:((j:Int)-1)=(j-1:Nat):=by omega
  simp;((with_reducible repeat' first|refine aj ?_|simp|((first|apply bR|apply bU|apply bT)<;>intro h<;>try simp at h))<;>(try exact cv));rw[ak,aC];refine bO.whl ((i+1,j-1),Sort.swp cl i j) (by simp;omega) ⟨by rw[gK,aZ],by simp;omega,ck⟩ (H.weakC ar (by simp[gK,aZ]) (by simp[aB]))
 ·rw[if_neg (by omega)]at ck;exact H.retA ar aZ (.inr rfl) ⟨rfl,cl,rfl,ck,aZ⟩
theorem ada(H:e1 S n g b5 lc b0 lt)(d:Array α)(aR:d.size=n)(a b:Nat)(mN:a≤b)(ae:b≤n)(U:2≤n):
  bF al 261 [eS g b5 lc b0,.int .i64 a,.int .i64 b] (S d.toList) fun r ai=>r= .tuple []∧∃b9,ai=S b9.toList∧b9=Sort.heapSort lt d a b∧b9.size=n:=by
 have ag:=H.ok d.toList;have ar:d.toList.length=n:=by simpa using aR
 have aA:∀l m,Pv.look (.loc m) (S l).b=none:=fun l=>(H.ok l).obj.1;have hu:∀l m cs,cw (.loc m) cs (S l).b=(S l).b++[(.loc m,cs)]:=fun l m cs=>jB (aA l m);have av:∀m,aD.loc m∉cW (S d.toList):=jx ag.obj;have hle:=H.le;refine bF.mk mixed nK abQ ait (by simp) ag.obj fun aQ cN=>?_;unfold Pc;simp[eS,hu,av,cD,aA];(with_reducible repeat' first|refine aj ?_|simp[hu,av,cD,aA]);have e8:IntKind.i64.wrap (((b:Int)-a-1).tdiv 2)=(((b-a-1)/2+1:Nat):Int)-1:=by
  have e:((b:Int)-a-1).tdiv 2=(((b-a-1)/2+1:Nat):Int)-1:=by
   rcases Nat.eq_or_lt_of_le mN with h|h
   ·subst h;simp
   ·rw[show((b:Int)-a-1)=((b-a-1:Nat):Int) by omega,Int.tdiv_eq_ediv_of_nonneg (by omega)];omega
  rw[e,oF _ (by omega)]
 rw[e8];refine H.loopA ar [3,6,7,8] (fun(x:Nat×Array α)=>[(9,.int .i64 ((x.1:Int)-1))]) (·.2) (fun x=>x.1) (fun x=>x.2.size=n∧x.1≤n∧Sort.heapBuild lt (b-a) a x.1 x.2=Sort.heapBuild lt (b-a) a ((b-a-1)/2+1) d) ((b-a-1)/2+1,d) aR ⟨aR,by simp;omega,rfl⟩ (by simp[cD,aA]) aO aO (by simp[aB]) ?_;rintro⟨k,cl⟩ ⟨aZ,bI,ck⟩;simp only at aZ bI ck;have ZD:((b:Int)-a)=(b-a:Nat):=by omega
 simp[Pv.look,H.slc,H.ssc];(with_reducible repeat' first|((first|apply bR|apply bU|apply bT)<;>intro h<;>try simp at h)|refine aj ?_|simp[Pv.look,H.slc,H.ssc])
 ·obtain⟨k,rfl⟩:∃bM,k=bM+1:=⟨k-1,by omega⟩;have Io:(((k+1:Nat):Int)-1)=(k:Nat):=by omega
  rw[Sort.heapBuild]at ck;simp only[ib H,H.slc,H.ssc,h5,Io,ZD];refine H.doFn (lk:=cl.toList) (by simpa using aZ) (R:=fun aX=> ∃b9,aX=b9.toList∧b9=Sort.siftDown lt (b-a) a k cl∧b9.size=n) ((Rn H cl aZ k (b-a) a (by omega) U (by omega)).mono fun r ai ⟨a6,b9,bB,bS,c1⟩=>⟨a6,b9.toList,bB,b9,rfl,bS,c1⟩) (by rintro aX ⟨b9,rfl,_,q⟩;simpa using q) (by simp[aG,aB,H.kdata (lk:=cl.toList) (by simpa using aZ)]) ?_;rintro aX ⟨b9,rfl,a6,bB⟩;simp;((with_reducible repeat' first|refine aj ?_|simp|((first|apply bR|apply bU|apply bT)<;>intro h<;>try simp at h))<;>(try exact cv));refine bO.whl (k,b9) (by simp) ⟨bB,by simp;omega,by rw[←ck,a6]⟩ (H.weakC ar (by simpa using bB) (by simp[aB]))
 ·obtain rfl:k=0:=by omega
  rw[Sort.heapBuild]at ck;have ao4:cl.size=n:=aZ;refine H.loopA ar [3,6,7] (fun(x:Nat×Array α)=>[(10,.int .i64 ((x.1:Int)-1))]) (·.2) (fun x=>x.1) (fun x=>x.2.size=n∧x.1≤b-a∧Sort.heapPop lt a x.1 x.2=Sort.heapPop lt a (b-a) cl) (b-a,cl) aZ ⟨aZ,by simp,rfl⟩ (by simp[Pv.look]) aO aO (by simp[aB];omega) ?_;rintro⟨k,fH⟩ ⟨gH,vD,gZ⟩;simp only at gH vD gZ;simp[Pv.look,H.slc,H.ssc];(with_reducible repeat' first|((first|apply bR|apply bU|apply bT)<;>intro h<;>try simp at h)|refine aj ?_|simp[Pv.look,H.slc,H.ssc])
  ·obtain⟨k,rfl⟩:∃bM,k=bM+1:=⟨k-1,by omega⟩;have Io:(((k+1:Nat):Int)-1)=(k:Nat):=by omega
   have ZC:((a:Int)+k)=(a+k:Nat):=by omega
   rw[Sort.heapPop]at gZ;simp only[Io,ZC];refine H.swapA gH U _ _ (by omega) (by omega) fun o=>?_;have Kb:(Sort.swp fH a (a+k)).size=n:=by rw[gK,gH]
   simp;simp only[ib H,H.slc,H.ssc,h5];refine H.doFn (lk:=(Sort.swp fH a (a+k)).toList) (by simpa using Kb) (R:=fun aX=> ∃b9,aX=b9.toList∧b9=Sort.siftDown lt k a 0 (Sort.swp fH a (a+k))∧b9.size=n) ((Rn H (Sort.swp fH a (a+k)) Kb 0 k a (by omega) U (by omega)).mono fun r ai ⟨a6,b9,bB,bS,c1⟩=>⟨a6,b9.toList,bB,b9,rfl,bS,c1⟩) (by rintro aX ⟨b9,rfl,_,q⟩;simpa using q) (by simp[aG,aB,H.kdata (lk:=(Sort.swp fH a (a+k)).toList) (by simpa using Kb)]) ?_;rintro aX ⟨b9,rfl,a6,bB⟩;simp;((with_reducible repeat' first|refine aj ?_|simp|((first|apply bR|apply bU|apply bT)<;>intro h<;>try simp at h))<;>(try exact cv));refine bO.whl (k,b9) (by simp) ⟨bB,by simp;omega,by rw[←gZ,a6]⟩ (H.weakC ar (by simpa using bB) (by simp[aB]))
  ·obtain rfl:k=0:=by omega
   rw[Sort.heapPop]at gZ;refine H.retA ar gH (.inr rfl) ⟨rfl,fH,rfl,?_,gH⟩;rw[Sort.heapSort,←ck,←gZ]
theorem adb(H:e1 S n g b5 lc b0 lt)(d:Array α)(aR:d.size=n)(a b:Nat)(mN:a≤b)(ae:b≤n):
  bF al 260 [eS g b5 lc b0,.int .i64 a,.int .i64 b] (S d.toList) fun r ai=>r= .tuple []∧∃b9,ai=S b9.toList∧b9=Sort.insertionSort lt d a b∧b9.size=n:=by
 have ag:=H.ok d.toList;have ar:d.toList.length=n:=by simpa using aR
 have aA:∀l m,Pv.look (.loc m) (S l).b=none:=fun l=>(H.ok l).obj.1;have hu:∀l m cs,cw (.loc m) cs (S l).b=(S l).b++[(.loc m,cs)]:=fun l m cs=>jB (aA l m);have av:∀m,aD.loc m∉cW (S d.toList):=jx ag.obj;have hle:=H.le;refine bF.mk mixed AK QU UM (by simp) ag.obj fun aQ cN=>?_;unfold H0;simp[eS,hu,av,cD,aA];have e8:((a:Int)+1)=(a+1:Nat):=by omega
 (with_reducible repeat' first|refine aj ?_|simp[hu,av,cD,aA]);rw[e8];refine H.loopA ar [1,2,3] (fun(x:Nat×Array α)=>[(6,.int .i64 x.1)]) (·.2) (fun x=>b+1-x.1) (fun x=>x.2.size=n∧x.1≤b+1∧Sort.insOuter lt a b x.1 x.2=Sort.insertionSort lt d a b) (a+1,d) aR ⟨aR,by simp;omega,rfl⟩ (by simp[cD,aA]) aO aO (by simp[aB]) ?_;rintro⟨i,cl⟩ ⟨aZ,bI,ck⟩;simp only at aZ bI ck;rw[Sort.insOuter]at ck;simp;(with_reducible repeat' first|((first|apply bR|apply bU|apply bT)<;>intro h<;>try simp at h)|refine aj ?_|simp)
 ·rw[if_pos (by omega)]at ck;refine H.loopA ar [1,2,3,6] (fun(x:Nat×Array α)=>[(7,.int .i64 x.1)]) (·.2) (fun x=>x.1) (fun x=>x.2.size=n∧x.1≤i∧Sort.insInner lt a x.1 x.2=Sort.insInner lt a i cl) (i,cl) aZ ⟨aZ,by simp,rfl⟩ (by simp[Pv.look]) aO aO (by simp[aB]) ?_;rintro⟨j,fH⟩ ⟨gH,vD,gZ⟩;simp only at gH vD gZ;simp[Pv.look,H.slc,H.ssc];(with_reducible repeat' first|((first|apply bR|apply bU|apply bT)<;>intro h<;>try simp at h)|refine aj ?_|simp[Pv.look,H.slc,H.ssc])
  ·obtain⟨j,rfl⟩:∃dy,j=dy+1:=⟨j-1,by omega⟩;have n2:(((j+1:Nat):Int)-1)=(j:Nat):=by omega
   have oZ:((i:Int)+1)=(i+1:Nat):=by omega
   have ZG:((j:Int)+1)=(j+1:Nat):=by omega
   rw[Sort.insInner]at gZ;have aw:decide (j+1>a)=true:=by simp;omega
   rw[n2];refine H.lessA gH _ _ (by omega) (by omega) fun o=>?_;cases ad:lt fH[j+1]! fH[j]! with
   |true=>rw[if_pos (by rw[aw,ad];rfl)]at gZ;simp;(with_reducible repeat' first|refine aj ?_|simp[Pv.look,H.slc,H.ssc]);rw[ZG];refine H.swapA gH (by omega) _ _ (by omega) (by omega) fun o=>?_;simp;(with_reducible repeat' first|refine aj ?_|simp);refine bO.whl (j,Sort.swp fH (j+1) j) (by simp) ⟨by rw[gK,gH],by simp;omega,gZ⟩ (H.weakC ar (by simp[gK,gH]) (by simp[aB]))
   |false=>rw[if_neg (by simp[ad])]at gZ;simp;((with_reducible repeat' first|refine aj ?_|simp|((first|apply bR|apply bU|apply bT)<;>intro h<;>try simp at h))<;>(try exact cv));rw[oZ];refine bO.whl (i+1,fH) (by simp;omega) ⟨gH,by simp;omega,by rw[←ck,←gZ]⟩ (H.weakC ar (by simpa using gH) (by simp[aB]))
  ·have oZ:((i:Int)+1)=(i+1:Nat):=by omega
   have xF:Sort.insInner lt a j fH=fH:=by
    cases j with
    |zero=>rfl
    |succ j=>rw[Sort.insInner,if_neg (by simp;omega)]
   rw[oZ];refine bO.whl (i+1,fH) (by simp;omega) ⟨gH,by simp;omega,by rw[←ck,←gZ,xF]⟩ (H.weakC ar (by simpa using gH) (by simp[aB]))
 ·rw[if_neg (by omega)]at ck;exact H.retA ar aZ (.inr rfl) ⟨rfl,cl,rfl,ck,aZ⟩
end Go.Proofs.YtohaalphocaebaaGreat
namespace Go.Proofs.YtohaalphocaebaaGreat
open Go Go.Pv
variable {α:Type} [Inhabited α] {S:List α→cE} {n g b5:Nat} {lc b0:List ah} {lt:α→α→Bool}
theorem uL{p:α→Bool}{d:Array α}{i j:Nat}(h:¬(i≤j∧p d[j]! =true)):Sort.scanDown p d i j=j:=by
 cases j with
 |zero=>rfl
 |succ j=>rw[Sort.scanDown,if_neg (by simpa using h)]
theorem Aw{p:α→Bool}{d:Array α}{i j:Nat}(h:¬(i≤j∧p d[i]! =true)):Sort.scanUp p d j i=i:=by rw[Sort.scanUp,if_neg (by simpa using h)]
theorem L8{p:α→Bool}{d:Array α}{i j:Nat}(J:i≤j)(U:p d[i]! =true):Sort.scanUp p d j i=Sort.scanUp p d j (i+1):=by rw[Sort.scanUp,if_pos (by simp[J,U])]
theorem L7{p:α→Bool}{d:Array α}{i j:Nat}(J:i≤j+1)(U:p d[j+1]! =true):Sort.scanDown p d i (j+1)=Sort.scanDown p d i j:=by rw[Sort.scanDown,if_pos (by simp[J,U])]
theorem adl(H:e1 S n g b5 lc b0 lt)(d:Array α)(aR:d.size=n)(a b pivot:Nat)(ra:a≤pivot)(ae1:pivot<b)(mN:a+1<b)(ae:b≤n):
  bF al 267 [eS g b5 lc b0,.int .i64 a,.int .i64 b,.int .i64 pivot] (S d.toList) fun r ai=>r= .tuple [.int .i64 (Sort.partition lt d a b pivot).1,.bool (Sort.partition lt d a b pivot).2.1]∧∃b9,ai=S b9.toList∧b9=(Sort.partition lt d a b pivot).2.2∧b9.size=n:=by
 obtain⟨R,a1⟩:∃R,R=Sort.partition lt d a b pivot:=⟨_,rfl⟩;rw[←a1];unfold Sort.partition at a1;have ag:=H.ok d.toList;have ar:d.toList.length=n:=by simpa using aR
 have aA:∀l m,Pv.look (.loc m) (S l).b=none:=fun l=>(H.ok l).obj.1;have hu:∀l m cs,cw (.loc m) cs (S l).b=(S l).b++[(.loc m,cs)]:=fun l m cs=>jB (aA l m);have av:∀m,aD.loc m∉cW (S d.toList):=jx ag.obj;have hle:=H.le;refine bF.mk mixed nK abX aiA (by simp) ag.obj fun aQ cN=>?_;unfold Pk;simp[eS,hu,av,cD,aA];rw[H.ssc];refine H.swapA0 aR (by omega) a pivot (by omega) (by omega) fun o=>?_;obtain⟨d1,fo⟩:∃d1,d1=Sort.swp d a pivot:=⟨_,rfl⟩;have s1:d1.size=n:=by rw[fo,gK,aR]
 rw[←fo];simp only[←fo]at a1;have ak:((a:Int)+1)=(a+1:Nat):=by omega
 have aC:((b:Int)-1)=(b-1:Nat):=by omega
 simp;(with_reducible repeat' first|refine aj ?_|simp);rw[ak,aC];refine H.loopA ar [1,4,11] (fun(i:Nat)=>[(10,.int .i64 i)]) (fun _=>d1) (fun i=>b+1-i) (fun i=>a+1≤i∧i≤b∧Sort.scanUp (fun x=>lt x d1[a]!) d1 (b-1) i=Sort.scanUp (fun x=>lt x d1[a]!) d1 (b-1) (a+1)) (a+1) s1 ⟨by omega,by omega,rfl⟩ (by simp[Pv.look]) aO aO (by simp[aB]) ?_;rintro i ⟨i1,i2,i3⟩;simp[Pv.look,H.slc];((with_reducible repeat' first|refine aj ?_|simp[Pv.look,H.slc]|((first|apply bR|apply bU|apply bT)<;>intro h<;>try simp at h))<;>(try exact cv));refine H.lessA s1 i a (by omega) (by omega) fun o=>?_;cases ad:lt d1[i]! d1[a]!;rotate_left
 ·have oZ:((i:Int)+1)=(i+1:Nat):=by omega
  simp;(with_reducible repeat' first|refine aj ?_|simp);rw[oZ];refine bO.whl (i+1) (by omega) ⟨by omega,by omega,by rw[←i3];exact(L8 (p:=fun x=>lt x d1[a]!) (by omega) ad).symm⟩ (H.weakC ar (by simpa using s1) (by simp[aB]))
 rotate_left
 ·have i4:Sort.scanUp (fun x=>lt x d1[a]!) d1 (b-1) i=i:=Aw (by simp[ad]);rw[i4]at i3;rw[←i3]at a1;simp;refine H.loopA ar [1,4,10] (fun(j:Nat)=>[(11,.int .i64 j)]) (fun _=>d1) (fun j=>j) (fun j=>i≤j+1∧j≤b-1∧Sort.scanDown (fun x=> !lt x d1[a]!) d1 i j=Sort.scanDown (fun x=> !lt x d1[a]!) d1 i (b-1)) (b-1) s1 ⟨by omega,by omega,rfl⟩ (by simp[Pv.look]) aO aO (by simp[aB]) ?_;rintro j ⟨gH,vD,gZ⟩;simp[Pv.look,H.slc];((with_reducible repeat' first|refine aj ?_|simp[Pv.look,H.slc,H.ssc]|((first|apply bR|apply bU|apply bT)<;>intro h<;>try simp at h))<;>(try exact cv))
  ·refine H.lessA s1 j a (by omega) (by omega) fun o=>?_;cases aM:lt d1[j]! d1[a]!
   ·obtain⟨j,rfl⟩:∃dy,j=dy+1:=⟨j-1,by omega⟩;have n2:(((j+1:Nat):Int)-1)=(j:Nat):=by omega
    simp;(with_reducible repeat' first|refine aj ?_|simp);try rw[n2]
    refine bO.whl j (by omega) ⟨by omega,by omega,by rw[←gZ];exact(L7 (p:=fun x=> !lt x d1[a]!) (by omega) (by simp[aM])).symm⟩ (H.weakC ar (by simpa using s1) (by simp[aB]))
   ·have xF:Sort.scanDown (fun x=> !lt x d1[a]!) d1 i j=j:=uL (by simp[aM]);have cF:i≠j:=fun e=>by subst e;rw[ad]at aM;cases aM
    rw[xF]at gZ;rw[←gZ,if_neg (by omega)]at a1;simp;((with_reducible repeat' first|refine aj ?_|simp[Pv.look,H.slc,H.ssc]|((first|apply bR|apply bU|apply bT)<;>intro h<;>try simp at h))<;>(try exact cv));refine H.swapA s1 (by omega) i j (by omega) (by omega) fun o=>?_;obtain⟨d2,eH⟩:∃d2,d2=Sort.swp d1 i j:=⟨_,rfl⟩;have s2:d2.size=n:=by rw[eH,gK,s1]
    rw[←eH];rw[←eH]at a1;have bj:((i:Int)+1)=(i+1:Nat):=by omega
    have dd:((j:Int)-1)=(j-1:Nat):=by omega
    simp;(with_reducible repeat' first|refine aj ?_|simp);rw[bj,dd];refine H.loopA ar [1,4] (fun(x:(Nat×Nat)×Array α)=>[(10,.int .i64 x.1.1),(11,.int .i64 x.1.2)]) (·.2) (fun x=>x.1.2+1-x.1.1) (fun x=>x.2.size=n∧(a+1≤x.1.1∧x.1.1≤x.1.2+1∧x.1.2≤b-1)∧Sort.partLoop lt a x.1.1 x.1.2 x.2=Sort.partLoop lt a (i+1) (j-1) d2) ((i+1,j-1),d2) s2 ⟨s2,⟨by simp;omega,by simp;omega,by simp;omega⟩,rfl⟩ (by simp[Pv.look]) aO aO (by simp[aB]) ?_;rintro⟨⟨vC,dy⟩,cl⟩ ⟨aZ,⟨bI,ck,eK⟩,c8⟩;simp only at aZ bI ck eK c8;rw[Sort.partLoop]at c8;generalize mL:Sort.partLoop lt a (i+1) (j-1) d2=G at c8 a1;simp;refine H.loopA ar [1,4,11] (fun(x:Nat)=>[(10,.int .i64 x)]) (fun _=>cl) (fun x=>b+1-x) (fun x=>vC≤x∧x≤dy+1∧Sort.scanUp (fun x=>lt x cl[a]!) cl dy x=Sort.scanUp (fun x=>lt x cl[a]!) cl dy vC) vC aZ ⟨by omega,by omega,rfl⟩ (by simp[Pv.look]) aO aO (by simp[aB]) ?_;rintro p ⟨cU,ds,iK⟩;simp[Pv.look,H.slc];((with_reducible repeat' first|refine aj ?_|simp[Pv.look,H.slc]|((first|apply bR|apply bU|apply bT)<;>intro h<;>try simp at h))<;>(try exact cv))
    ·refine H.lessA aZ p a (by omega) (by omega) fun o=>?_;cases h7:lt cl[p]! cl[a]!;rotate_left
     ·have oZ:((p:Int)+1)=(p+1:Nat):=by omega
      simp;(with_reducible repeat' first|refine aj ?_|simp);rw[oZ];refine bO.whl (p+1) (by omega) ⟨by omega,by omega,by rw[←iK];exact(L8 (p:=fun x=>lt x cl[a]!) (by omega) h7).symm⟩ (H.weakC ar (by simpa using aZ) (by simp[aB]))
     ·have ux:Sort.scanUp (fun x=>lt x cl[a]!) cl dy p=p:=Aw (by simp[h7]);rw[ux]at iK;simp only[←iK]at c8;simp;refine H.loopA ar [1,4,10] (fun(x:Nat)=>[(11,.int .i64 x)]) (fun _=>cl) (fun x=>x) (fun x=>p≤x+1∧x≤dy∧Sort.scanDown (fun x=> !lt x cl[a]!) cl p x=Sort.scanDown (fun x=> !lt x cl[a]!) cl p dy) dy aZ ⟨by omega,by omega,rfl⟩ (by simp[Pv.look]) aO aO (by simp[aB]) ?_;rintro q ⟨a6,bB,bS⟩;simp[Pv.look,H.slc];((with_reducible repeat' first|refine aj ?_|simp[Pv.look,H.slc,H.ssc]|((first|apply bR|apply bU|apply bT)<;>intro h<;>try simp at h))<;>(try exact cv))
      ·refine H.lessA aZ q a (by omega) (by omega) fun o=>?_;cases rs:lt cl[q]! cl[a]!
       ·obtain⟨q,rfl⟩:∃dy,q=dy+1:=⟨q-1,by omega⟩;have n2:(((q+1:Nat):Int)-1)=(q:Nat):=by omega
        simp;(with_reducible repeat' first|refine aj ?_|simp);try rw[n2]
        refine bO.whl q (by omega) ⟨by omega,by omega,by rw[←bS];exact(L7 (p:=fun x=> !lt x cl[a]!) (by omega) (by simp[rs])).symm⟩ (H.weakC ar (by simpa using aZ) (by simp[aB]))
       ·have c1:Sort.scanDown (fun x=> !lt x cl[a]!) cl p q=q:=uL (by simp[rs]);have cF:p≠q:=fun e=>by subst e;rw[h7]at rs;cases rs
        rw[c1]at bS;simp only[←bS]at c8;rw[if_neg (by omega),dif_pos (by omega)]at c8;simp;((with_reducible repeat' first|refine aj ?_|simp[Pv.look,H.slc,H.ssc]|((first|apply bR|apply bU|apply bT)<;>intro h<;>try simp at h))<;>(try exact cv));refine H.swapA aZ (by omega) p q (by omega) (by omega) fun o=>?_;have gW:((p:Int)+1)=(p+1:Nat):=by omega
        have hI:((q:Int)-1)=(q-1:Nat):=by omega
        simp;(with_reducible repeat' first|((first|apply bR|apply bU|apply bT)<;>intro h<;>try simp at h)|refine aj ?_|simp);rw[gW,hI];refine bO.whl ((p+1,q-1),Sort.swp cl p q) (by simp;omega) ⟨by rw[gK,aZ],⟨by simp;omega,by simp;omega,by simp;omega⟩,c8⟩ (H.weakC ar (by simp[gK,aZ]) (by simp[aB]))
      ·have c1:Sort.scanDown (fun x=> !lt x cl[a]!) cl p q=q:=uL (by omega);rw[c1]at bS;simp only[←bS]at c8;rw[if_pos (by omega)]at c8;rw[←c8]at a1;refine H.swapA aZ (by omega) q a (by omega) (by omega) fun o=>?_;simp;refine H.retR ar (d:=Sort.swp cl q a) (by rw[gK,aZ]) (.inl rfl) ?_;simp[cI,CY,aV,aW,aU];rw[a1];exact⟨⟨rfl,rfl⟩,_,rfl,rfl,by rw[gK,aZ]⟩
    ·have ux:Sort.scanUp (fun x=>lt x cl[a]!) cl dy p=p:=Aw (by omega);rw[ux]at iK;simp only[←iK]at c8;have c1:Sort.scanDown (fun x=> !lt x cl[a]!) cl p dy=dy:=uL (by omega);rw[c1,if_pos (by omega)]at c8;rw[←c8]at a1;refine H.loopA ar [1,4,10] (fun(x:Nat)=>[(11,.int .i64 x)]) (fun _=>cl) (fun x=>x) (fun x=>x=dy) dy aZ rfl (by simp[Pv.look]) aO aO (by simp[aB]) ?_;rintro q rfl;simp[Pv.look,H.slc];((with_reducible repeat' first|refine aj ?_|simp[Pv.look,H.slc,H.ssc]|((first|apply bR|apply bU|apply bT)<;>intro h<;>try simp at h))<;>(try exact cv));refine H.swapA aZ (by omega) q a (by omega) (by omega) fun o=>?_;simp;refine H.retR ar (d:=Sort.swp cl q a) (by rw[gK,aZ]) (.inl rfl) ?_;simp[cI,CY,aV,aW,aU];rw[a1];exact⟨⟨rfl,rfl⟩,_,rfl,rfl,by rw[gK,aZ]⟩
  ·have xF:Sort.scanDown (fun x=> !lt x d1[a]!) d1 i j=j:=uL (by omega);rw[xF]at gZ;rw[←gZ,if_pos (by omega)]at a1;refine H.swapA s1 (by omega) j a (by omega) (by omega) fun o=>?_;simp;refine H.retR ar (d:=Sort.swp d1 j a) (by rw[gK,s1]) (.inl rfl) ?_;simp[cI,CY,aV,aW,aU];rw[a1];exact⟨⟨rfl,rfl⟩,_,rfl,rfl,by rw[gK,s1]⟩
 ·have i4:Sort.scanUp (fun x=>lt x d1[a]!) d1 (b-1) i=i:=Aw (by omega);rw[i4]at i3;have xF:Sort.scanDown (fun x=> !lt x d1[a]!) d1 i (b-1)=b-1:=uL (by omega);rw[←i3,xF,if_pos (by omega)]at a1;refine H.loopA ar [1,4,10] (fun(j:Nat)=>[(11,.int .i64 j)]) (fun _=>d1) (fun j=>j) (fun j=>j=b-1) (b-1) s1 rfl (by simp[Pv.look]) aO aO (by simp[aB]) ?_;rintro j rfl;simp[Pv.look,H.slc];((with_reducible repeat' first|refine aj ?_|simp[Pv.look,H.slc,H.ssc]|((first|apply bR|apply bU|apply bT)<;>intro h<;>try simp at h))<;>(try exact cv));refine H.swapA s1 (by omega) (b-1) a (by omega) (by omega) fun o=>?_;simp;refine H.retR ar (d:=Sort.swp d1 (b-1) a) (by rw[gK,s1]) (.inl rfl) ?_;simp[cI,CY,aV,aW,aU];rw[a1];exact⟨⟨rfl,rfl⟩,_,rfl,rfl,by rw[gK,s1]⟩
end Go.Proofs.YtohaalphocaebaaGreat
namespace Go.Proofs.YtohaalphocaebaaGreat
open Go Go.Pv
variable {α:Type} [Inhabited α] {S:List α→cE} {n g b5:Nat} {lc b0:List ah} {lt:α→α→Bool}
theorem adm(H:e1 S n g b5 lc b0 lt)(d:Array α)(aR:d.size=n)(a b pivot:Nat)(ra:a≤pivot)(ae1:pivot<b)(mN:a+1<b)(ae:b≤n):
  bF al 266 [eS g b5 lc b0,.int .i64 a,.int .i64 b,.int .i64 pivot] (S d.toList) fun r ai=>r= .int .i64 (Sort.partitionEqual lt d a b pivot).1∧∃b9,ai=S b9.toList∧b9=(Sort.partitionEqual lt d a b pivot).2∧b9.size=n:=by
 obtain⟨R,a1⟩:∃R,R=Sort.partitionEqual lt d a b pivot:=⟨_,rfl⟩;rw[←a1];unfold Sort.partitionEqual at a1;have ag:=H.ok d.toList;have ar:d.toList.length=n:=by simpa using aR
 have aA:∀l m,Pv.look (.loc m) (S l).b=none:=fun l=>(H.ok l).obj.1;have hu:∀l m cs,cw (.loc m) cs (S l).b=(S l).b++[(.loc m,cs)]:=fun l m cs=>jB (aA l m);have av:∀m,aD.loc m∉cW (S d.toList):=jx ag.obj;have hle:=H.le;refine bF.mk mixed nK abW aiz (by simp) ag.obj fun aQ cN=>?_;unfold Pj;simp[eS,hu,av,cD,aA];rw[H.ssc];refine H.swapA0 aR (by omega) a pivot (by omega) (by omega) fun o=>?_;obtain⟨d1,fo⟩:∃d1,d1=Sort.swp d a pivot:=⟨_,rfl⟩;have s1:d1.size=n:=by rw[fo,gK,aR]
 rw[←fo];rw[←fo]at a1;have ak:((a:Int)+1)=(a+1:Nat):=by omega
 have aC:((b:Int)-1)=(b-1:Nat):=by omega
 simp;(with_reducible repeat' first|refine aj ?_|simp);rw[ak,aC];refine H.loopA ar [1,4] (fun(x:(Nat×Nat)×Array α)=>[(9,.int .i64 x.1.1),(10,.int .i64 x.1.2)]) (·.2) (fun x=>x.1.2+1-x.1.1) (fun x=>x.2.size=n∧(a+1≤x.1.1∧x.1.1≤x.1.2+1∧x.1.2≤b-1)∧Sort.partEqLoop lt a x.1.1 x.1.2 x.2=R) ((a+1,b-1),d1) s1 ⟨s1,⟨by simp,by simp;omega,by simp⟩,a1.symm⟩ (by simp[Pv.look]) aO aO (by simp[aB]) ?_;rintro⟨⟨vC,dy⟩,cl⟩ ⟨aZ,⟨bI,ck,eK⟩,c8⟩;simp only at aZ bI ck eK c8;rw[Sort.partEqLoop]at c8;simp;refine H.loopA ar [1,4,10] (fun(x:Nat)=>[(9,.int .i64 x)]) (fun _=>cl) (fun x=>b+1-x) (fun x=>vC≤x∧x≤dy+1∧Sort.scanUp (fun x=> !lt cl[a]! x) cl dy x=Sort.scanUp (fun x=> !lt cl[a]! x) cl dy vC) vC aZ ⟨by omega,by omega,rfl⟩ (by simp[Pv.look]) aO aO (by simp[aB]) ?_;rintro p ⟨cU,ds,iK⟩;simp[Pv.look,H.slc];((with_reducible repeat' first|refine aj ?_|simp[Pv.look,H.slc]|((first|apply bR|apply bU|apply bT)<;>intro h<;>try simp at h))<;>(try exact cv))
 ·refine H.lessA aZ a p (by omega) (by omega) fun o=>?_;cases h7:lt cl[a]! cl[p]!
  ·have oZ:((p:Int)+1)=(p+1:Nat):=by omega
   simp;(with_reducible repeat' first|refine aj ?_|simp);rw[oZ];refine bO.whl (p+1) (by omega) ⟨by omega,by omega,by rw[←iK];exact(L8 (p:=fun x=> !lt cl[a]! x) (by omega) (by simp[h7])).symm⟩ (H.weakC ar (by simpa using aZ) (by simp[aB]))
  ·have ux:Sort.scanUp (fun x=> !lt cl[a]! x) cl dy p=p:=Aw (by simp[h7]);rw[ux]at iK;simp only[←iK]at c8;simp;refine H.loopA ar [1,4,9] (fun(x:Nat)=>[(10,.int .i64 x)]) (fun _=>cl) (fun x=>x) (fun x=>p≤x+1∧x≤dy∧Sort.scanDown (fun x=>lt cl[a]! x) cl p x=Sort.scanDown (fun x=>lt cl[a]! x) cl p dy) dy aZ ⟨by omega,by omega,rfl⟩ (by simp[Pv.look]) aO aO (by simp[aB]) ?_;rintro q ⟨a6,bB,bS⟩;simp[Pv.look,H.slc];((with_reducible repeat' first|refine aj ?_|simp[Pv.look,H.slc,H.ssc]|((first|apply bR|apply bU|apply bT)<;>intro h<;>try simp at h))<;>(try exact cv))
   ·refine H.lessA aZ a q (by omega) (by omega) fun o=>?_;cases rs:lt cl[a]! cl[q]!;rotate_left
    ·obtain⟨q,rfl⟩:∃dy,q=dy+1:=⟨q-1,by omega⟩;have n2:(((q+1:Nat):Int)-1)=(q:Nat):=by omega
     simp;(with_reducible repeat' first|refine aj ?_|simp);try rw[n2]
     refine bO.whl q (by omega) ⟨by omega,by omega,by rw[←bS];exact(L7 (p:=fun x=>lt cl[a]! x) (by omega) (by simp[rs])).symm⟩ (H.weakC ar (by simpa using aZ) (by simp[aB]))
    ·have c1:Sort.scanDown (fun x=>lt cl[a]! x) cl p q=q:=uL (by simp[rs]);have cF:p≠q:=fun e=>by subst e;rw[h7]at rs;cases rs
     rw[c1]at bS;simp only[←bS]at c8;rw[if_neg (by omega),dif_pos (by omega)]at c8;simp;((with_reducible repeat' first|refine aj ?_|simp[Pv.look,H.slc,H.ssc]|((first|apply bR|apply bU|apply bT)<;>intro h<;>try simp at h))<;>(try exact cv));refine H.swapA aZ (by omega) p q (by omega) (by omega) fun o=>?_;have gW:((p:Int)+1)=(p+1:Nat):=by omega
     have hI:((q:Int)-1)=(q-1:Nat):=by omega
     simp;(with_reducible repeat' first|((first|apply bR|apply bU|apply bT)<;>intro h<;>try simp at h)|refine aj ?_|simp);rw[gW,hI];refine bO.whl ((p+1,q-1),Sort.swp cl p q) (by simp;omega) ⟨by rw[gK,aZ],⟨by simp;omega,by simp;omega,by simp;omega⟩,c8⟩ (H.weakC ar (by simp[gK,aZ]) (by simp[aB]))
   ·have c1:Sort.scanDown (fun x=>lt cl[a]! x) cl p q=q:=uL (by omega);rw[c1]at bS;simp only[←bS]at c8;rw[if_pos (by omega)]at c8;refine H.retR ar (d:=cl) aZ (.inl rfl) ?_;simp[cI,Lz,aV,aW,aU];rw[←c8];exact⟨rfl,_,rfl,rfl,aZ⟩
 ·have ux:Sort.scanUp (fun x=> !lt cl[a]! x) cl dy p=p:=Aw (by omega);rw[ux]at iK;simp only[←iK]at c8;have c1:Sort.scanDown (fun x=>lt cl[a]! x) cl p dy=dy:=uL (by omega);rw[c1,if_pos (by omega)]at c8;refine H.loopA ar [1,4,9] (fun(x:Nat)=>[(10,.int .i64 x)]) (fun _=>cl) (fun x=>x) (fun x=>x=dy) dy aZ rfl (by simp[Pv.look]) aO aO (by simp[aB]) ?_;rintro q rfl;simp[Pv.look,H.slc];((with_reducible repeat' first|refine aj ?_|simp[Pv.look,H.slc,H.ssc]|((first|apply bR|apply bU|apply bT)<;>intro h<;>try simp at h))<;>(try exact cv));refine H.retR ar (d:=cl) aZ (.inl rfl) ?_;simp[cI,Lz,aV,aW,aU];rw[←c8];exact⟨rfl,_,rfl,rfl,aZ⟩
end Go.Proofs.YtohaalphocaebaaGreat
namespace Go.Proofs.YtohaalphocaebaaGreat
open Go Go.Pv
variable {α:Type} [Inhabited α] {S:List α→cE} {n g b5:Nat} {lc b0:List ah} {lt:α→α→Bool}
theorem adk(H:e1 S n g b5 lc b0 lt)(d:Array α)(aR:d.size=n)(a b:Nat)(mN:a<b)(ae:b≤n)(U:2≤n):
  bF al 265 [eS g b5 lc b0,.int .i64 a,.int .i64 b] (S d.toList) fun r ai=>r= .bool (Sort.partialInsertionSort lt d a b).2∧∃b9,ai=S b9.toList∧b9=(Sort.partialInsertionSort lt d a b).1∧b9.size=n:=by
 obtain⟨R,a1⟩:∃R,R=Sort.partialInsertionSort lt d a b:=⟨_,rfl⟩;rw[←a1];unfold Sort.partialInsertionSort at a1;have ag:=H.ok d.toList;have ar:d.toList.length=n:=by simpa using aR
 have aA:∀l m,Pv.look (.loc m) (S l).b=none:=fun l=>(H.ok l).obj.1;have hu:∀l m cs,cw (.loc m) cs (S l).b=(S l).b++[(.loc m,cs)]:=fun l m cs=>jB (aA l m);have av:∀m,aD.loc m∉cW (S d.toList):=jx ag.obj;have hle:=H.le;refine bF.mk mixed nK abV aiy (by simp) ag.obj fun aQ cN=>?_;unfold Ph;simp[eS,hu,av,cD,aA];have ak:((a:Int)+1)=(a+1:Nat):=by omega
 (with_reducible repeat' first|refine aj ?_|simp);rw[ak];refine H.loopA ar [1,2,3] (fun(x:(Nat×Nat)×Array α)=>[(7,.int .i64 x.1.1),(8,.int .i64 x.1.2)]) (·.2) (fun x=>5-x.1.2) (fun x=>x.2.size=n∧(a+1≤x.1.1∧x.1.1≤b∧x.1.2≤5)∧Sort.partialIns lt a b (5-x.1.2) x.1.1 x.2=R) ((a+1,0),d) aR ⟨aR,⟨by simp,by simp;omega,by simp⟩,a1.symm⟩ (by simp[cD,aA]) aO aO (by simp[aB]) ?_;rintro⟨⟨i0,s⟩,cl⟩ ⟨aZ,⟨bI,ck,eK⟩,c8⟩;simp only at aZ bI ck eK c8;simp;((with_reducible repeat' first|refine aj ?_|simp|((first|apply bR|apply bU|apply bT)<;>intro h<;>try simp at h))<;>(try exact cv))
 ·obtain⟨m,hm⟩:∃m,5-s=m+1:=⟨5-s-1,by omega⟩;rw[hm,Sort.partialIns]at c8;refine H.loopA ar [1,2,3,8] (fun(x:Nat)=>[(7,.int .i64 x)]) (fun _=>cl) (fun x=>b-x) (fun x=>i0≤x∧x≤b∧Sort.scanSorted lt cl b x=Sort.scanSorted lt cl b i0) i0 aZ ⟨by omega,by omega,rfl⟩ (by simp[Pv.look]) aO aO (by simp[aB]) ?_;rintro i ⟨i1,i2,i3⟩;rw[Sort.scanSorted]at i3;have oZ:((i:Int)+1)=(i+1:Nat):=by omega
  have El:((i:Int)-1)=(i-1:Nat):=by omega
  have es:((s:Int)+1)=(s+1:Nat):=by omega
  have em:5-(s+1)=m:=by omega
  simp[Pv.look,H.slc];((with_reducible repeat' first|refine aj ?_|simp[Pv.look,H.slc]|((first|apply bR|apply bU|apply bT)<;>intro h<;>try simp at h))<;>(try exact cv))
  ·rw[El];refine H.lessA aZ i (i-1) (by omega) (by omega) fun o=>?_;cases ad:lt cl[i]! cl[i-1]!
   ·rw[if_pos (by simp[ad];omega)]at i3;simp;(with_reducible repeat' first|refine aj ?_|simp);rw[oZ];refine bO.whl (i+1) (by omega) ⟨by omega,by omega,i3⟩ (H.weakC ar (by simpa using aZ) (by simp[aB]))
   ·rw[if_neg (by simp[ad])]at i3;simp only[←i3]at c8;rw[if_neg (by omega)]at c8;have zh:(i:Int)≠b:=by omega
    have aes:((i:Int)==b)=false:=by simp;omega
    simp;((with_reducible repeat' first|refine aj ?_|simp[zh,aes,Pv.look,H.slc,H.ssc]|((first|apply bR|apply bU|apply bT)<;>intro h<;>try simp at h))<;>(try exact cv))
    ·rw[if_pos (by omega)]at c8;refine H.retR ar (d:=cl) aZ (.inl rfl) ?_;simp[cI,Gl,aV,aW,aU];rw[←c8];exact⟨rfl,_,rfl,rfl,aZ⟩
    ·rw[if_neg (by omega)]at c8;rw[El];refine H.swapA aZ U i (i-1) (by omega) (by omega) fun o=>?_;obtain⟨d2,eH⟩:∃d2,d2=Sort.swp cl i (i-1):=⟨_,rfl⟩;have s2:d2.size=n:=by rw[eH,gK,aZ]
     rw[←eH];simp only[←eH]at c8;by_cases jX:2≤b-i
     ·rw[if_pos jX]at c8;have sG:(2:Int)≤(b:Int)-i:=by omega
      by_cases BH:2≤i-a
      ·rw[if_pos BH]at c8;have xe:(2:Int)≤(i:Int)-a:=by omega
       simp;(with_reducible repeat' first|refine aj ?_|simp[xe]);rw[El];refine H.loopA ar [1,2,3,7,8] (fun(x:Nat×Array α)=>[(9,.int .i64 x.1)]) (·.2) (fun x=>x.1) (fun x=>x.2.size=n∧x.1≤i-1∧Sort.shiftDown lt x.1 x.2=Sort.shiftDown lt (i-1) d2) (i-1,d2) s2 ⟨s2,by simp,rfl⟩ (by simp[Pv.look]) aO aO (by simp[aB]) ?_;rintro⟨j,fH⟩ ⟨gH,vD,gZ⟩;simp only at gH vD gZ;simp[Pv.look,H.slc,H.ssc];((with_reducible repeat' first|refine aj ?_|simp[Pv.look,H.slc,H.ssc,sG]|((first|apply bR|apply bU|apply bT)<;>intro h<;>try simp at h))<;>(try exact cv))
       ·obtain⟨j,rfl⟩:∃dy,j=dy+1:=⟨j-1,by omega⟩;have n2:(((j+1:Nat):Int)-1)=(j:Nat):=by omega
        rw[Sort.shiftDown]at gZ;try rw[n2]
        refine H.lessA gH (j+1) j (by omega) (by omega) fun o=>?_;cases aM:lt fH[j+1]! fH[j]!
        ·rw[if_pos (by simp[aM])]at gZ;rw[←gZ]at c8;try simp
         try(with_reducible repeat' first|refine aj ?_|simp[Pv.look,H.slc,H.ssc,sG])
         rw[oZ];refine H.loopA ar [1,2,3,7,8] (fun(x:Nat×Array α)=>[(10,.int .i64 x.1)]) (·.2) (fun x=>b-x.1) (fun x=>x.2.size=n∧(i+1≤x.1∧x.1≤b)∧Sort.shiftUp lt b x.1 x.2=Sort.shiftUp lt b (i+1) fH) (i+1,fH) gH ⟨gH,⟨by simp,by simp;omega⟩,rfl⟩ (by simp[Pv.look]) aO aO (by simp[aB]) ?_;rintro⟨q,mG⟩ ⟨a6,⟨bB,x2⟩,bS⟩;simp only at a6 bB x2 bS;rw[Sort.shiftUp]at bS;have eq:((q:Int)-1)=(q-1:Nat):=by omega
         have Bg:((q:Int)+1)=(q+1:Nat):=by omega
         simp[Pv.look,H.slc,H.ssc];((with_reducible repeat' first|refine aj ?_|simp[Pv.look,H.slc,H.ssc]|((first|apply bR|apply bU|apply bT)<;>intro h<;>try simp at h))<;>(try exact cv))
         ·rw[if_pos (by omega)]at bS;rw[eq];refine H.lessA a6 q (q-1) (by omega) (by omega) fun o=>?_;cases bE:lt mG[q]! mG[q-1]!
          ·rw[if_pos (by simp[bE])]at bS;rw[←bS]at c8;simp;(with_reducible repeat' first|refine aj ?_|simp);rw[es];refine bO.whl ((i,s+1),mG) (by simp;omega) ⟨a6,⟨by simp;omega,by simp;omega,by simp;omega⟩,by simp only[em];exact c8⟩ (H.weakC ar (by simpa using a6) (by simp[aB]))
          ·rw[if_neg (by simp[bE])]at bS;simp;(with_reducible repeat' first|refine aj ?_|simp[Pv.look,H.slc,H.ssc]);rw[eq];refine H.swapA a6 (by omega) q (q-1) (by omega) (by omega) fun o=>?_;simp;((with_reducible repeat' first|refine aj ?_|simp|((first|apply bR|apply bU|apply bT)<;>intro h<;>try simp at h))<;>(try exact cv));rw[Bg];refine bO.whl (q+1,Sort.swp mG q (q-1)) (by simp;omega) ⟨by rw[gK,a6],⟨by simp;omega,by simp;omega⟩,bS⟩ (H.weakC ar (by simp[gK,a6]) (by simp[aB]))
         ·rw[if_neg (by omega)]at bS;rw[←bS]at c8;rw[es];refine bO.whl ((i,s+1),mG) (by simp;omega) ⟨a6,⟨by simp;omega,by simp;omega,by simp;omega⟩,by simp only[em];exact c8⟩ (H.weakC ar (by simpa using a6) (by simp[aB]))
        ·rw[if_neg (by simp[aM])]at gZ;simp;(with_reducible repeat' first|refine aj ?_|simp[Pv.look,H.slc,H.ssc]);try rw[n2]
         refine H.swapA gH U (j+1) j (by omega) (by omega) fun o=>?_;simp;((with_reducible repeat' first|refine aj ?_|simp|((first|apply bR|apply bU|apply bT)<;>intro h<;>try simp at h))<;>(try exact cv));try rw[n2]
         refine bO.whl (j,Sort.swp fH (j+1) j) (by simp) ⟨by rw[gK,gH],by simp;omega,gZ⟩ (H.weakC ar (by simp[gK,gH]) (by simp[aB]))
       ·obtain rfl:j=0:=by omega
        rw[Sort.shiftDown]at gZ;rw[←gZ]at c8;try simp
        try(with_reducible repeat' first|refine aj ?_|simp[Pv.look,H.slc,H.ssc,sG])
        rw[oZ];refine H.loopA ar [1,2,3,7,8] (fun(x:Nat×Array α)=>[(10,.int .i64 x.1)]) (·.2) (fun x=>b-x.1) (fun x=>x.2.size=n∧(i+1≤x.1∧x.1≤b)∧Sort.shiftUp lt b x.1 x.2=Sort.shiftUp lt b (i+1) fH) (i+1,fH) gH ⟨gH,⟨by simp,by simp;omega⟩,rfl⟩ (by simp[Pv.look]) aO aO (by simp[aB]) ?_;rintro⟨q,mG⟩ ⟨a6,⟨bB,x2⟩,bS⟩;simp only at a6 bB x2 bS;rw[Sort.shiftUp]at bS;have eq:((q:Int)-1)=(q-1:Nat):=by omega
        have Bg:((q:Int)+1)=(q+1:Nat):=by omega
        simp[Pv.look,H.slc,H.ssc];((with_reducible repeat' first|refine aj ?_|simp[Pv.look,H.slc,H.ssc]|((first|apply bR|apply bU|apply bT)<;>intro h<;>try simp at h))<;>(try exact cv))
        ·rw[if_pos (by omega)]at bS;rw[eq];refine H.lessA a6 q (q-1) (by omega) (by omega) fun o=>?_;cases bE:lt mG[q]! mG[q-1]!
         ·rw[if_pos (by simp[bE])]at bS;rw[←bS]at c8;simp;(with_reducible repeat' first|refine aj ?_|simp);rw[es];refine bO.whl ((i,s+1),mG) (by simp;omega) ⟨a6,⟨by simp;omega,by simp;omega,by simp;omega⟩,by simp only[em];exact c8⟩ (H.weakC ar (by simpa using a6) (by simp[aB]))
         ·rw[if_neg (by simp[bE])]at bS;simp;(with_reducible repeat' first|refine aj ?_|simp[Pv.look,H.slc,H.ssc]);rw[eq];refine H.swapA a6 (by omega) q (q-1) (by omega) (by omega) fun o=>?_;simp;((with_reducible repeat' first|refine aj ?_|simp|((first|apply bR|apply bU|apply bT)<;>intro h<;>try simp at h))<;>(try exact cv));rw[Bg];refine bO.whl (q+1,Sort.swp mG q (q-1)) (by simp;omega) ⟨by rw[gK,a6],⟨by simp;omega,by simp;omega⟩,bS⟩ (H.weakC ar (by simp[gK,a6]) (by simp[aB]))
        ·rw[if_neg (by omega)]at bS;rw[←bS]at c8;rw[es];refine bO.whl ((i,s+1),mG) (by simp;omega) ⟨a6,⟨by simp;omega,by simp;omega,by simp;omega⟩,by simp only[em];exact c8⟩ (H.weakC ar (by simpa using a6) (by simp[aB]))
      ·rw[if_neg BH]at c8;have xe:¬(2:Int)≤(i:Int)-a:=by omega
       simp;(with_reducible repeat' first|refine aj ?_|simp[xe,sG]);try simp
       try(with_reducible repeat' first|refine aj ?_|simp[Pv.look,H.slc,H.ssc,sG])
       rw[oZ];refine H.loopA ar [1,2,3,7,8] (fun(x:Nat×Array α)=>[(10,.int .i64 x.1)]) (·.2) (fun x=>b-x.1) (fun x=>x.2.size=n∧(i+1≤x.1∧x.1≤b)∧Sort.shiftUp lt b x.1 x.2=Sort.shiftUp lt b (i+1) d2) (i+1,d2) s2 ⟨s2,⟨by simp,by simp;omega⟩,rfl⟩ (by simp[Pv.look]) aO aO (by simp[aB]) ?_;rintro⟨q,mG⟩ ⟨a6,⟨bB,x2⟩,bS⟩;simp only at a6 bB x2 bS;rw[Sort.shiftUp]at bS;have eq:((q:Int)-1)=(q-1:Nat):=by omega
       have Bg:((q:Int)+1)=(q+1:Nat):=by omega
       simp[Pv.look,H.slc,H.ssc];((with_reducible repeat' first|refine aj ?_|simp[Pv.look,H.slc,H.ssc]|((first|apply bR|apply bU|apply bT)<;>intro h<;>try simp at h))<;>(try exact cv))
       ·rw[if_pos (by omega)]at bS;rw[eq];refine H.lessA a6 q (q-1) (by omega) (by omega) fun o=>?_;cases bE:lt mG[q]! mG[q-1]!
        ·rw[if_pos (by simp[bE])]at bS;rw[←bS]at c8;simp;(with_reducible repeat' first|refine aj ?_|simp);rw[es];refine bO.whl ((i,s+1),mG) (by simp;omega) ⟨a6,⟨by simp;omega,by simp;omega,by simp;omega⟩,by simp only[em];exact c8⟩ (H.weakC ar (by simpa using a6) (by simp[aB]))
        ·rw[if_neg (by simp[bE])]at bS;simp;(with_reducible repeat' first|refine aj ?_|simp[Pv.look,H.slc,H.ssc]);rw[eq];refine H.swapA a6 (by omega) q (q-1) (by omega) (by omega) fun o=>?_;simp;((with_reducible repeat' first|refine aj ?_|simp|((first|apply bR|apply bU|apply bT)<;>intro h<;>try simp at h))<;>(try exact cv));rw[Bg];refine bO.whl (q+1,Sort.swp mG q (q-1)) (by simp;omega) ⟨by rw[gK,a6],⟨by simp;omega,by simp;omega⟩,bS⟩ (H.weakC ar (by simp[gK,a6]) (by simp[aB]))
       ·rw[if_neg (by omega)]at bS;rw[←bS]at c8;rw[es];refine bO.whl ((i,s+1),mG) (by simp;omega) ⟨a6,⟨by simp;omega,by simp;omega,by simp;omega⟩,by simp only[em];exact c8⟩ (H.weakC ar (by simpa using a6) (by simp[aB]))
     ·rw[if_neg jX]at c8;have sG:¬(2:Int)≤(b:Int)-i:=by omega
      by_cases BH:2≤i-a
      ·rw[if_pos BH]at c8;have xe:(2:Int)≤(i:Int)-a:=by omega
       simp;(with_reducible repeat' first|refine aj ?_|simp[xe]);rw[El];refine H.loopA ar [1,2,3,7,8] (fun(x:Nat×Array α)=>[(9,.int .i64 x.1)]) (·.2) (fun x=>x.1) (fun x=>x.2.size=n∧x.1≤i-1∧Sort.shiftDown lt x.1 x.2=Sort.shiftDown lt (i-1) d2) (i-1,d2) s2 ⟨s2,by simp,rfl⟩ (by simp[Pv.look]) aO aO (by simp[aB]) ?_;rintro⟨j,fH⟩ ⟨gH,vD,gZ⟩;simp only at gH vD gZ;simp[Pv.look,H.slc,H.ssc];((with_reducible repeat' first|refine aj ?_|simp[Pv.look,H.slc,H.ssc,sG]|((first|apply bR|apply bU|apply bT)<;>intro h<;>try simp at h))<;>(try exact cv))
       ·obtain⟨j,rfl⟩:∃dy,j=dy+1:=⟨j-1,by omega⟩;have n2:(((j+1:Nat):Int)-1)=(j:Nat):=by omega
        rw[Sort.shiftDown]at gZ;try rw[n2]
        refine H.lessA gH (j+1) j (by omega) (by omega) fun o=>?_;cases aM:lt fH[j+1]! fH[j]!
        ·rw[if_pos (by simp[aM])]at gZ;rw[←gZ]at c8;try simp
         try(with_reducible repeat' first|refine aj ?_|simp[Pv.look,H.slc,H.ssc,sG])
         rw[es];refine bO.whl ((i,s+1),fH) (by simp;omega) ⟨gH,⟨by simp;omega,by simp;omega,by simp;omega⟩,by simp only[em];exact c8⟩ (H.weakC ar (by simpa using gH) (by simp[aB]))
        ·rw[if_neg (by simp[aM])]at gZ;simp;(with_reducible repeat' first|refine aj ?_|simp[Pv.look,H.slc,H.ssc]);try rw[n2]
         refine H.swapA gH U (j+1) j (by omega) (by omega) fun o=>?_;simp;((with_reducible repeat' first|refine aj ?_|simp|((first|apply bR|apply bU|apply bT)<;>intro h<;>try simp at h))<;>(try exact cv));try rw[n2]
         refine bO.whl (j,Sort.swp fH (j+1) j) (by simp) ⟨by rw[gK,gH],by simp;omega,gZ⟩ (H.weakC ar (by simp[gK,gH]) (by simp[aB]))
       ·obtain rfl:j=0:=by omega
        rw[Sort.shiftDown]at gZ;rw[←gZ]at c8;try simp
        try(with_reducible repeat' first|refine aj ?_|simp[Pv.look,H.slc,H.ssc,sG])
        rw[es];refine bO.whl ((i,s+1),fH) (by simp;omega) ⟨gH,⟨by simp;omega,by simp;omega,by simp;omega⟩,by simp only[em];exact c8⟩ (H.weakC ar (by simpa using gH) (by simp[aB]))
      ·rw[if_neg BH]at c8;have xe:¬(2:Int)≤(i:Int)-a:=by omega
       simp;((with_reducible repeat' first|refine aj ?_|simp[xe,sG]|((first|apply bR|apply bU|apply bT)<;>intro h<;>try simp at h))<;>(try exact cv));done
  ·rw[if_neg (by simp;omega)]at i3;simp only[←i3]at c8;rw[if_pos (by omega)]at c8;refine H.retR ar (d:=cl) aZ (.inl rfl) ?_;simp[cI,Gl,aV,aW,aU];rw[←c8];exact⟨rfl,_,rfl,rfl,aZ⟩
 ·have:5-s=0:=by omega
  rw[this,Sort.partialIns]at c8;refine H.retR ar (d:=cl) aZ (.inl rfl) ?_;simp[cI,Gl,aV,aW,aU];rw[←c8];exact⟨rfl,_,rfl,rfl,aZ⟩
end Go.Proofs.YtohaalphocaebaaGreat
namespace Go.Proofs.YtohaalphocaebaaGreat
open Go Go.Pv
variable {α:Type} [Inhabited α] {S:List α→cE} {n g b5:Nat} {lc b0:List ah} {lt:α→α→Bool}
def e6(S:List α→cE)(d:Array α)(v:Nat):cE:=⟨(.obj 901,[.int .i64 v])::(S d.toList).b,(S d.toList).e⟩
def rH(S:List α→cE)(m:Nat):Prop:= ∀l,Pv.look (.obj m) (S l).b=none∧Pv.look (.obj m) (S l).e=none
theorem nm(H:e1 S n g b5 lc b0 lt)(d:Array α)(v:Nat):dT (e6 S d v):=by
 have h:=H.ok d.toList;have jc:∀k,inObs (S d.toList) k→inObs (e6 S d v) k:=fun k ab=>by
  rcases ab with ab|ab
  ·refine .inl ?_;simp only[e6,Pv.look];split
   ·rfl
   ·exact ab
  ·exact .inr ab
 refine⟨⟨fun m=>?_,h.obj.2⟩,fun k cs ab=>?_,fun k o av xs ad=>jH jc _ (h.ke k o av xs ad)⟩
 ·simp[e6,Pv.look,h.obj.1 m]
 ·simp only[e6,Pv.look]at ab;split at ab
  ·cases ab;simp[aG,aB]
  ·exact jH jc _ (h.kb k cs ab)
theorem r8(d:Array α)(v v':Nat):Same (e6 S d v) (e6 S d v'):=⟨fun k=>by simp only[e6,Pv.look];split<;>rfl,fun _=>rfl⟩
theorem I0(H:e1 S n g b5 lc b0 lt)(ab:rH S 901)(d:Array α)(aR:d.size=n)(a b v:Nat)(bD:a<n)(ae:b<n)(aJ:v≤1000):
  bF al 285 [eS g b5 lc b0,.int .i64 a,.int .i64 b,.ptr (.obj 901) 0] (e6 S d v) fun r ai=>r= .tuple [.int .i64 (Sort.order2 lt d a b v).1,.int .i64 (Sort.order2 lt d a b v).2.1]∧ai=e6 S d (Sort.order2 lt d a b v).2.2:=by
 have ag:=H.ok d.toList;have ar:d.toList.length=n:=by simpa using aR
 have aA:∀l m,Pv.look (.loc m) (S l).b=none:=fun l=>(H.ok l).obj.1;have hu:∀l m cs,cw (.loc m) cs (S l).b=(S l).b++[(.loc m,cs)]:=fun l m cs=>jB (aA l m);have av:∀m,aD.loc m∉cW (S d.toList):=jx ag.obj;have gm:∀l,Pv.look (.obj 901) (S l).b=none:=fun l=>(ab l).1;have kS:∀l,Pv.look (.obj 901) (S l).e=none:=fun l=>(ab l).2;have hle:=H.le;have kj:=nm H d v;obtain⟨R,a1⟩:∃R,R=Sort.order2 lt d a b v:=⟨_,rfl⟩;rw[←a1];unfold Sort.order2 at a1;refine bF.mk mixed nK abU aix (by simp) kj.obj fun aQ cN=>?_;unfold Pg;have lp:aD.loc 0∉cW (e6 S d v):=jx kj.obj 0;generalize tY:cW (e6 S d v)=ob at lp⊢;unfold e6;simp[eS,hu,lp,cD,aA,Pv.look,cw];rw[H.slc];refine cV.ob (H.less d.toList ar b a _ _ (yD (by omega)) (yD (by omega))) (H.ok _) (fun k cs ad=>?_) (fun _ _ ad=>ad) (by simp[aB,aG,H.klc d.toList ar]) ?_
 ·simp only[Pv.look];split
  ·rename_i e;subst e;rw[gm]at ad;cases ad
  ·rw[cD,ad]
 rintro r ai ⟨rfl,rfl⟩;refine⟨Same.refl _,?_⟩;have hw:cn (S d.toList).b ((aD.obj 901,[ah.int .i64 v])::((S d.toList).b++[(aD.loc 0,[ah.func g lc,ah.func b5 b0])]))=[(aD.obj 901,[ah.int .i64 v]),(aD.loc 0,[ah.func g lc,ah.func b5 b0])]:=by simp only[cn,gm];rw[hT,gA];simp[cn,aA]
 rw[hw,gA];have dB:∀(t:List (Nat×ah)) (o:List aD) (v':Nat) (D:List ah) (x y:Nat),Pv.get 8 t= .int .i64 x→Pv.get 9 t= .int .i64 y→R=(x,y,v')→
   cH Ly (e6 S d v) (fun r ai=>r= .tuple [.int .i64 R.1,.int .i64 R.2.1]∧ai=e6 S d R.2.2) .ret ⟨t,(aD.obj 901,[.int .i64 v'])::(aD.loc 0,D)::(S d.toList).b,(S d.toList).e,1,o⟩:=by
  rintro t o v' D x y ad aM rfl;refine cH.at (e6 S d v') (.inl rfl) (nm H d v') (r8 _ _ _) (fun k cs aw=>?_) (fun _ _ aw=>aw) ?_
  ·simp only[e6,Pv.look]at aw⊢;split at aw
   ·rename_i e;rw[if_pos e];exact aw
   ·rename_i e;rw[if_neg e];split
    ·rename_i aC;subst aC;rw[aA]at aw;cases aw
    ·exact aw
  ·simp[cI,Ly,aV,aW,aU,ad,aM]
 cases ad:lt d[b]! d[a]! with
 |true=>
  rw[if_pos ad]at a1;simp[Pv.look,cw];(with_reducible repeat' first|refine aj ?_|simp[Pv.look,cw]);have ak:((v:Int)+1)=(v+1:Nat):=by omega
  rw[ak];exact dB _ _ (v+1) _ b a rfl rfl a1
 |false=>rw[if_neg (by simp[ad])]at a1;simp[Pv.look,cw];exact dB _ _ v _ a b rfl rfl a1
theorem Ut{s ai:cE}{f:Nat}{args:List ah}{r:ah}(aH:bF al f args s fun eF dG=>eF=r∧dG=ai)(ag:dT s)(e9:Same s ai)(ab:aG (inObs s) args){t:List (Nat×ah)}{D:List ah}{o:List aD}{d:aY Nat}{K:bp→Prop}
  (h:∀o,K ⟨eM d r t,(.loc 0,D)::ai.b,ai.e,1,o⟩):cV al f args ⟨t,s.b++[(.loc 0,D)],s.e,1,o⟩ d K:=by
 refine cV.ob aH ag (fun k cs ad=>by rw[cD,ad]) (fun _ _ ad=>ad) ab ?_;rintro r ai ⟨rfl,rfl⟩;refine⟨e9,?_⟩;have ak:cn s.b (s.b++[(.loc 0,D)])=[(.loc 0,D)]:=by rw[hT,gA];simp[cn,ag.obj.1 0]
 have aC:cn s.e s.e=[]:=gA _;simp only[ak,aC];exact h _
theorem CH{s ai:cE}{f:Nat}{args:List ah}{r:ah}(aH:bF al f args s fun eF dG=>eF=r∧dG=ai)(ag:dT s)(e9:Same s ai)(ab:aG (inObs s) args){t:List (Nat×ah)}{D:List ah}{o:List aD}{d:aY Nat}{K:bp→Prop}
  (h:∀o,K ⟨eM d r t,(.loc 0,D)::ai.b,ai.e,1,o⟩):cV al f args ⟨t,(.loc 0,D)::s.b,s.e,1,o⟩ d K:=by
 refine cV.ob aH ag (fun k cs ad=>?_) (fun _ _ ad=>ad) ab ?_
 ·cases k with
  |loc m=>rw[ag.obj.1 m]at ad;cases ad
  |obj m=>simpa[Pv.look]using ad
 rintro r ai ⟨rfl,rfl⟩;refine⟨e9,?_⟩;have ak:cn s.b ((.loc 0,D)::s.b)=[(.loc 0,D)]:=by have:=hT s.b [(aD.loc 0,D)] s.b;rw[gA]at this;simpa[cn,ag.obj.1 0]using this
 have aC:cn s.e s.e=[]:=gA _;simp only[ak,aC];exact h _
theorem z8{d:Array α}{a b v n:Nat}(bD:a<n)(ae:b<n):(Sort.order2 lt d a b v).1<n∧(Sort.order2 lt d a b v).2.1<n∧(Sort.order2 lt d a b v).2.2≤v+1:=by unfold Sort.order2;split<;>simp<;>omega
theorem uh(H:e1 S n g b5 lc b0 lt){d:Array α}(aR:d.size=n){v:Nat}:aB (inObs (e6 S d v)) (eS g b5 lc b0)∧aB (inObs (e6 S d v)) (.ptr (.obj 901) 0):=by
 refine⟨vJ (fun k ab=>?_) _ (H.kdata (lk:=d.toList) (by simpa using aR)),by simp[aB,inObs,e6,Pv.look]⟩;rcases ab with ab|ab
 ·refine .inl ?_;simp only[e6,Pv.look];split
  ·rfl
  ·exact ab
 ·exact .inr ab
theorem Wb(H:e1 S n g b5 lc b0 lt){d:Array α}{v v':Nat}{fh:List bt}{Q:ah→cE→Prop}{t:List (Nat×ah)}{D:List ah}{o:List aD}(h:cI ⟨t,(.loc 0,D)::(e6 S d v').b,(S d.toList).e,1,o⟩ fh fun r=>aB (inObs (e6 S d v')) r∧Q r (e6 S d v')):
  cH fh (e6 S d v) Q .ret ⟨t,(.loc 0,D)::(e6 S d v').b,(S d.toList).e,1,o⟩:=by
 refine cH.at (e6 S d v') (.inl rfl) (nm H d v') (r8 _ _ _) (fun k cs ad=>?_) (fun _ _ aw=>aw) h;cases k with
 |loc m=>rw[(nm H d v').obj.1 m]at ad;cases ad
 |obj m=>simpa[Pv.look]using ad
theorem IX(H:e1 S n g b5 lc b0 lt)(ab:rH S 901)(d:Array α)(aR:d.size=n)(a b c v:Nat)(bD:a<n)(ae:b<n)(aw:c<n)(aJ:v≤900):
  bF al 282 [eS g b5 lc b0,.int .i64 a,.int .i64 b,.int .i64 c,.ptr (.obj 901) 0] (e6 S d v) fun r ai=>r= .int .i64 (Sort.median lt d a b c v).1∧ai=e6 S d (Sort.median lt d a b c v).2:=by
 have kj:=nm H d v;have rk:∀v m,Pv.look (.loc m) (e6 S d v).b=none:=fun v=>(nm H d v).obj.1;have JU:∀v m cs,cw (.loc m) cs (e6 S d v).b=(e6 S d v).b++[(.loc m,cs)]:=fun v m cs=>jB (rk v m);have lp:aD.loc 0∉cW (e6 S d v):=jx kj.obj 0;obtain⟨R,a1⟩:∃R,R=Sort.median lt d a b c v:=⟨_,rfl⟩;rw[←a1];unfold Sort.median at a1;have a6:=z8 (lt:=lt) (d:=d) (v:=v) bD ae;have aZ:=I0 H ab d aR a b v bD ae (by omega);generalize Sort.order2 lt d a b v=dF at a6 aZ a1;obtain⟨rY,ks,v1⟩:=dF;simp only at a6 aZ a1;have bB:=z8 (lt:=lt) (d:=d) (v:=v1) a6.2.1 aw;have bI:=I0 H ab d aR ks c v1 a6.2.1 aw (by omega);generalize Sort.order2 lt d ks c v1=fb at bB bI a1;obtain⟨yq,oE,v2⟩:=fb;simp only at bB bI a1;have bS:=z8 (lt:=lt) (d:=d) (v:=v2) a6.1 bB.1;have ck:=I0 H ab d aR rY yq v2 a6.1 bB.1 (by omega);generalize Sort.order2 lt d rY yq v2=kG at bS ck a1;obtain⟨rZ,He,v3⟩:=kG;simp only at bS ck a1;refine bF.mk mixed nK abS aiv (by simp) kj.obj fun aQ cN=>?_;unfold Pe;simp[eS,JU,lp,cD,rk];simp only[ib H,H.slc,H.ssc,h5];refine Ut aZ (nm H d v) (r8 _ _ _) (by simp[aB,aG,(uh H aR).1];exact(uh H aR).2) fun o=>?_;simp[Pv.look];simp only[ib H,H.slc,H.ssc,h5];refine CH bI (nm H d v1) (r8 _ _ _) (by simp[aB,aG,(uh H aR).1];exact(uh H aR).2) fun o=>?_;simp[Pv.look];simp only[ib H,H.slc,H.ssc,h5];refine CH ck (nm H d v2) (r8 _ _ _) (by simp[aB,aG,(uh H aR).1];exact(uh H aR).2) fun o=>?_;simp;refine Wb H ?_;simp[cI,VC,aV,aW,aU];rw[a1];exact⟨rfl,rfl⟩
theorem IY(H:e1 S n g b5 lc b0 lt)(ab:rH S 901)(d:Array α)(aR:d.size=n)(a v:Nat)(bD:a+1<n)(kR:1≤a)(aJ:v≤900):
  bF al 281 [eS g b5 lc b0,.int .i64 a,.ptr (.obj 901) 0] (e6 S d v) fun r ai=>r= .int .i64 (Sort.medianAdjacent lt d a v).1∧ai=e6 S d (Sort.medianAdjacent lt d a v).2:=by
 have kj:=nm H d v;have rk:∀v m,Pv.look (.loc m) (e6 S d v).b=none:=fun v=>(nm H d v).obj.1;have JU:∀v m cs,cw (.loc m) cs (e6 S d v).b=(e6 S d v).b++[(.loc m,cs)]:=fun v m cs=>jB (rk v m);have lp:aD.loc 0∉cW (e6 S d v):=jx kj.obj 0;have hle:=H.le;have aZ:=IX H ab d aR (a-1) a (a+1) v (by omega) (by omega) (by omega) aJ;unfold Sort.medianAdjacent;refine bF.mk mixed nK abR aiu (by simp) kj.obj fun aQ cN=>?_;unfold Pd;have ak:((a:Int)-1)=(a-1:Nat):=by omega
 have aC:((a:Int)+1)=(a+1:Nat):=by omega
 simp[eS,JU,lp,cD,rk];(with_reducible repeat' first|refine aj ?_|simp);simp only[ib H,H.slc,H.ssc,h5,ak,aC];refine Ut aZ (nm H d v) (r8 _ _ _) (by simp[aB,aG,(uh H aR).1];exact(uh H aR).2) fun o=>?_;simp;refine Wb H ?_;simp[cI,VB,aV,aW,aU]
theorem Uu{m:Nat}(h:rH S m)(l:List α):aD.obj m∉cW (S l):=fun hm=>by
 rcases SU hm with J|J
 ·rw[(h l).1]at J;cases J
 ·rw[(h l).2]at J;cases J
theorem Cy{d:Array α}{a b c v n:Nat}(bD:a<n)(ae:b<n)(aw:c<n):(Sort.median lt d a b c v).1<n∧(Sort.median lt d a b c v).2≤v+3:=by have a6:=z8 (lt:=lt) (d:=d) (v:=v) bD ae;have bB:=z8 (lt:=lt) (d:=d) (v:=(Sort.order2 lt d a b v).2.2) a6.2.1 aw;have bS:=z8 (lt:=lt) (d:=d) (v:=(Sort.order2 lt d (Sort.order2 lt d a b v).2.1 c (Sort.order2 lt d a b v).2.2).2.2) a6.1 bB.1;refine⟨bS.2.1,j4 bS.2.2 ?_⟩;omega
def zi:Sort.Hint→Int
 | .unknown=>0
 | .increasing=>1
 | .decreasing=>2
theorem ac7(H:e1 S n g b5 lc b0 lt)(ab:rH S 901)(d:Array α)(aR:d.size=n)(a b:Nat)(mN:a<b)(ae:b≤n):
  bF al 263 [eS g b5 lc b0,.int .i64 a,.int .i64 b] (S d.toList) fun r ai=>r= .tuple [.int .i64 (Sort.choosePivot lt d a b).1,.int .i64 (zi (Sort.choosePivot lt d a b).2)]∧ai=S d.toList:=by
 have ag:=H.ok d.toList;have ar:d.toList.length=n:=by simpa using aR
 have aA:∀l m,Pv.look (.loc m) (S l).b=none:=fun l=>(H.ok l).obj.1;have hu:∀l m cs,cw (.loc m) cs (S l).b=(S l).b++[(.loc m,cs)]:=fun l m cs=>jB (aA l m);have av:∀m,aD.loc m∉cW (S d.toList):=jx ag.obj;have gm:∀l,Pv.look (.obj 901) (S l).b=none:=fun l=>(ab l).1;have kS:∀l,Pv.look (.obj 901) (S l).e=none:=fun l=>(ab l).2;have hle:=H.le;have lp:=Uu ab d.toList;obtain⟨R,a1⟩:∃R,R=Sort.choosePivot lt d a b:=⟨_,rfl⟩;rw[←a1];unfold Sort.choosePivot at a1;refine bF.mk mixed nK abP ais (by simp) ag.obj fun aQ cN=>?_;unfold Pb;have xy:∀l D cs,cw (.obj 901) cs ((S l).b++[(.loc 0,D)])=(S l).b++[(.loc 0,D),(.obj 901,cs)]:=fun l D cs=>by rw[AM (gm l)];rfl
 obtain⟨q,br⟩:∃q,q=(b-a)/4:=⟨_,rfl⟩;have dd:IntKind.i64.wrap (((b:Int)-a).tdiv 4)=(q:Nat):=by rw[show((b:Int)-a)=((b-a:Nat):Int) by omega,Int.tdiv_eq_ediv_of_nonneg (by omega),oF _ (by omega)];omega
 simp[eS,hu,xy,av,lp,cD,aA,gm,kS,Pv.look,cw];have dB:∀(t:List (Nat×ah)) (o:List aD) (b2:List (aD×List ah)) (x:Nat) (h:Sort.Hint),Pv.get 6 t= .int .i64 x→Pv.get 7 t= .int .i64 (zi h)→R=(x,h)→(∀k cs,Pv.look k (S d.toList).b=some cs→Pv.look k b2=some cs)→
   cH Lx (S d.toList) (fun r ai=>r= .tuple [.int .i64 R.1,.int .i64 (zi R.2)]∧ai=S d.toList) .ret ⟨t,b2,(S d.toList).e,1,o⟩:=by
  rintro t o b2 x h ad aM rfl fI;refine cH.at (S d.toList) (.inl rfl) ag (Same.refl _) fI (fun _ _ aw=>aw) ?_;simp[cI,Lx,aV,aW,aU,ad,aM]
 have y8:∀(D:List ah) (v:Nat) k cs,Pv.look k (S d.toList).b=some cs→Pv.look k ((.loc 0,D)::(e6 S d v).b)=some cs:=fun D v k cs h=>by
  simp only[e6,Pv.look];split
  ·rename_i e;subst e;rw[aA]at h;cases h
  ·split
   ·rename_i e;subst e;rw[gm]at h;cases h
   ·exact h
 have RM:∀{f:Nat} {args:List ah} {r:ah} {v:Nat},(bF al f args (e6 S d 0) fun eF dG=>eF=r∧dG=e6 S d v)→aG (inObs (e6 S d 0)) args→∀{t:List (Nat×ah)} {D:List ah} {o:List aD} {b9:aY Nat} {K:bp→Prop},(∀o,K ⟨eM b9 r t,(.loc 0,D)::(e6 S d v).b,(S d.toList).e,1,o⟩)→
   cV al f args ⟨t,(S d.toList).b++[(.loc 0,D),(.obj 901,[.int .i64 0])],(S d.toList).e,1,o⟩ b9 K:=by
  intro f args r v aH hn t D o b9 K h;refine cV.ob aH (nm H d 0) (fun k cs ad=>?_) (fun _ _ ad=>ad) hn ?_
  ·simp only[e6,Pv.look]at ad;rw[cD];split at ad
   ·rename_i e;subst e;rw[gm];simp[Pv.look];simpa using ad
   ·rw[ad]
  rintro r ai ⟨rfl,rfl⟩;refine⟨r8 _ _ _,?_⟩;have ak:cn (e6 S d 0).b ((S d.toList).b++[(.loc 0,D),(.obj 901,[.int .i64 0])])=[(.loc 0,D)]:=by
   rw[hT];have:cn (e6 S d 0).b (S d.toList).b=[]:=M0 _ _ fun k x hm=>by
    have:=um hm;simp only[e6,Pv.look];split
    ·rfl
    ·exact this
   rw[this];simp[cn,e6,Pv.look,aA]
  have aC:cn (e6 S d 0).e (S d.toList).e=[]:=gA _;simp only[ak,aC];exact h _
 have hn:=fun(v:Nat)=>(uh H aR (v:=v));have f1:((a:Int)+q)=(a+q:Nat):=by omega
 have f2:((a:Int)+q*2)=(a+q*2:Nat):=by omega
 have f3:((a:Int)+q*3)=(a+q*3:Nat):=by omega
 dsimp only at a1;rw[←br,Nat.mul_one]at a1;by_cases nv:b-a<8
 ·have EC:¬(8:Int)≤(b:Int)-a:=by omega
  (with_reducible repeat' first|refine aj ?_|simp[EC,dd,hu,xy,av,lp,cD,aA,gm,kS,Pv.look,cw]);rw[f2];refine dB _ _ _ (a+q*2) .increasing rfl rfl (by rw[a1,if_neg (by omega)];simp) (fun k cs h=>by rw[cD,h])
 ·have EC:(8:Int)≤(b:Int)-a:=by omega
  by_cases aoV:b-a<50
  ·have I5:¬(50:Int)≤(b:Int)-a:=by omega
   (with_reducible repeat' first|refine aj ?_|simp[EC,I5,dd,hu,xy,av,lp,cD,aA,gm,kS,Pv.look,cw]);simp only[ib H,H.slc,H.ssc,h5,f1,f2,f3];have aZ:=IX H ab d aR (a+q) (a+q*2) (a+q*3) 0 (by omega) (by omega) (by omega) (by omega);have bI:=Cy (lt:=lt) (d:=d) (a:=a+q) (b:=a+q*2) (c:=a+q*3) (v:=0) (n:=n) (by omega) (by omega) (by omega);rw[if_pos (by omega),if_neg (by omega)]at a1;generalize Sort.median lt d (a+q) (a+q*2) (a+q*3) 0=m at aZ bI a1;obtain⟨x,v⟩:=m;refine RM aZ (by simp[aB,aG,(hn 0).1];exact(hn 0).2) fun o=>?_;have xz:((v:Int)==0)=decide (v=0):=by rw[p4];simp
   have Cc:((v:Int)==12)=decide (v=12):=by rw[p4];simp;omega
   simp[Pv.look,e6];rcases(by omega:v=0∨v=12∨(v≠0∧v≠12))with bq|bq|bq
   ·have ad:((v:Int)==0)=true:=by rw[xz];simp[bq]
    (with_reducible repeat' first|refine aj ?_|simp[ad]);all_goals exact dB _ _ _ x .increasing rfl rfl (by rw[a1];simp[bq]) (y8 _ v)
   ·have ad:((v:Int)==0)=false:=by rw[xz];simp[bq]
    have xA:((v:Int)==12)=true:=by rw[Cc];simp[bq]
    (with_reducible repeat' first|refine aj ?_|simp[ad,xA]);all_goals exact dB _ _ _ x .decreasing rfl rfl (by rw[a1];simp[bq]) (y8 _ v)
   ·have ad:((v:Int)==0)=false:=by rw[xz];simp[bq.1]
    have xA:((v:Int)==12)=false:=by rw[Cc];simp[bq.2]
    (with_reducible repeat' first|refine aj ?_|simp[ad,xA]);all_goals exact dB _ _ _ x .unknown rfl rfl (by rw[a1];simp[bq]) (y8 _ v)
  ·have I5:(50:Int)≤(b:Int)-a:=by omega
   (with_reducible repeat' first|refine aj ?_|simp[EC,I5,dd,hu,xy,av,lp,cD,aA,gm,kS,Pv.look,cw]);simp only[ib H,H.slc,H.ssc,h5,f1,f2,f3];rw[if_pos (by omega),if_pos (by omega)]at a1;have aZ:=IY H ab d aR (a+q) 0 (by omega) (by omega) (by omega);have Cl:=Cy (lt:=lt) (d:=d) (a:=a+q-1) (b:=a+q) (c:=a+q+1) (v:=0) (n:=n) (by omega) (by omega) (by omega);change (Sort.medianAdjacent lt d (a+q) 0).1<n∧(Sort.medianAdjacent lt d (a+q) 0).2≤0+3 at Cl;generalize Sort.medianAdjacent lt d (a+q) 0=m1 at aZ Cl a1;obtain⟨rY,v1⟩:=m1;simp only at aZ Cl a1;have bI:=IY H ab d aR (a+q*2) v1 (by omega) (by omega) (by omega);have Cm:=Cy (lt:=lt) (d:=d) (a:=a+q*2-1) (b:=a+q*2) (c:=a+q*2+1) (v:=v1) (n:=n) (by omega) (by omega) (by omega);change (Sort.medianAdjacent lt d (a+q*2) v1).1<n∧(Sort.medianAdjacent lt d (a+q*2) v1).2≤v1+3 at Cm;generalize Sort.medianAdjacent lt d (a+q*2) v1=m2 at bI Cm a1;obtain⟨yq,v2⟩:=m2;simp only at bI Cm a1;have ck:=IY H ab d aR (a+q*3) v2 (by omega) (by omega) (by omega);have Cn:=Cy (lt:=lt) (d:=d) (a:=a+q*3-1) (b:=a+q*3) (c:=a+q*3+1) (v:=v2) (n:=n) (by omega) (by omega) (by omega);change (Sort.medianAdjacent lt d (a+q*3) v2).1<n∧(Sort.medianAdjacent lt d (a+q*3) v2).2≤v2+3 at Cn;generalize Sort.medianAdjacent lt d (a+q*3) v2=m3 at ck Cn a1;obtain⟨rZ,v3⟩:=m3;simp only at ck Cn a1;have eK:=IX H ab d aR rY yq rZ v3 Cl.1 Cm.1 Cn.1 (by omega);have Th:=Cy (lt:=lt) (d:=d) (v:=v3) Cl.1 Cm.1 Cn.1;generalize Sort.median lt d rY yq rZ v3=m4 at eK Th a1;obtain⟨x,v⟩:=m4;simp only at eK Th a1;refine RM aZ (by simp[aB,aG,(hn 0).1];exact(hn 0).2) fun o=>?_;simp[Pv.look];simp only[ib H,H.slc,H.ssc,h5,f1,f2,f3];refine CH bI (nm H d v1) (r8 _ _ _) (by simp[aB,aG,(hn v1).1];exact(hn v1).2) fun o=>?_;simp[Pv.look];simp only[ib H,H.slc,H.ssc,h5,f1,f2,f3];refine CH ck (nm H d v2) (r8 _ _ _) (by simp[aB,aG,(hn v2).1];exact(hn v2).2) fun o=>?_;simp[Pv.look];simp only[ib H,H.slc,H.ssc,h5,f1,f2,f3];refine CH eK (nm H d v3) (r8 _ _ _) (by simp[aB,aG,(hn v3).1];exact(hn v3).2) fun o=>?_;have xz:((v:Int)==0)=decide (v=0):=by rw[p4];simp
   have Cc:((v:Int)==12)=decide (v=12):=by rw[p4];simp;omega
   simp[Pv.look,e6];rcases(by omega:v=0∨v=12∨(v≠0∧v≠12))with bq|bq|bq
   ·have ad:((v:Int)==0)=true:=by rw[xz];simp[bq]
    (with_reducible repeat' first|refine aj ?_|simp[ad]);all_goals exact dB _ _ _ x .increasing rfl rfl (by rw[a1];simp[bq]) (y8 _ v)
   ·have ad:((v:Int)==0)=false:=by rw[xz];simp[bq]
    have xA:((v:Int)==12)=true:=by rw[Cc];simp[bq]
    (with_reducible repeat' first|refine aj ?_|simp[ad,xA]);all_goals exact dB _ _ _ x .decreasing rfl rfl (by rw[a1];simp[bq]) (y8 _ v)
   ·have ad:((v:Int)==0)=false:=by rw[xz];simp[bq.1]
    have xA:((v:Int)==12)=false:=by rw[Cc];simp[bq.2]
    (with_reducible repeat' first|refine aj ?_|simp[ad,xA]);all_goals exact dB _ _ _ x .unknown rfl rfl (by rw[a1];simp[bq]) (y8 _ v)
end Go.Proofs.YtohaalphocaebaaGreat
namespace Go.Proofs.YtohaalphocaebaaGreat
open Go Go.Pv
variable {α:Type} [Inhabited α] {S:List α→cE} {n g b5:Nat} {lc b0:List ah} {lt:α→α→Bool}
theorem alH:∀x:Nat,x<256→((([0,1,2,2,3,3,3,3,4,4,4,4,4,4,4,4,5,5,5,5,5,5,5,5,5,5,5,5,5,5,5,5,6,6,6,6,6,6,6,6,6,6,6,6,6,6,6,6,6,6,6,6,6,6,6,6,6,6,6,6,6,6,6,6,7,7,7,7,7,7,7,7,7,7,7,7,7,7,7,7,7,7,7,7,7,7,7,7,7,7,7,7,7,7,7,7,7,7,7,7,7,7,7,7,7,7,7,7,7,7,7,7,7,7,7,7,7,7,7,7,7,7,7,7,7,7,7,7,8,8,8,8,8,8,8,8,8,8,8,8,8,8,8,8,8,8,8,8,8,8,8,8,8,8,8,8,8,8,8,8,8,8,8,8,8,8,8,8,8,8,8,8,8,8,8,8,8,8,8,8,8,8,8,8,8,8,8,8,8,8,8,8,8,8,8,8,8,8,8,8,8,8,8,8,8,8,8,8,8,8,8,8,8,8,8,8,8,8,8,8,8,8,8,8,8,8,8,8,8,8,8,8,8,8,8,8,8,8,8,8,8,8,8,8,8,8,8,8,8,8,8,8,8,8,8,8]:List dz)[x]?).getD 0).toNat=Sort.bitsLen x:=by decide+kernel
theorem Bq(x:Int):x.fdiv (2 ^ (min 32 hj.bits))=x/4294967296:=by rw[show(2:Int) ^ (min 32 hj.bits)=4294967296 from by decide,Int.fdiv_eq_ediv_of_nonneg _ (by omega)]
theorem Bp(x:Int):x.fdiv (2 ^ (min 16 hj.bits))=x/65536:=by rw[show(2:Int) ^ (min 16 hj.bits)=65536 from by decide,Int.fdiv_eq_ediv_of_nonneg _ (by omega)]
theorem Br(x:Int):x.fdiv (2 ^ (min 8 hj.bits))=x/256:=by rw[show(2:Int) ^ (min 8 hj.bits)=256 from by decide,Int.fdiv_eq_ediv_of_nonneg _ (by omega)]
theorem Dl(x:Nat)(h:x<256):IntKind.u8.wrap (x:Int)=x:=by simp[r2,nO,r1];omega
theorem HG(x k:Nat)(h:2 ^ k≤x):Sort.bitsLen x=Sort.bitsLen (x/2 ^ k)+k:=by
 have ad:x≠0:=by have:=Nat.two_pow_pos k;omega
 have br:x/2 ^ k≠0:=by have:=Nat.div_pos h (Nat.two_pow_pos k);omega
 unfold Sort.bitsLen;rw[if_neg ad,if_neg br];have ar:=Nat.log2_lt ad (k:=Nat.log2 (x/2 ^ k)+k+1);have J:Nat.log2 (x/2 ^ k)+k≤Nat.log2 x:=by
  rw[Nat.le_log2 ad,Nat.pow_add];have:=Nat.log2_self_le br;calc 2 ^ (x/2 ^ k).log2*2 ^ k≤(x/2 ^ k)*2 ^ k:=Nat.mul_le_mul_right _ this
   _≤x:=Nat.div_mul_le_self x _
 have U:Nat.log2 x<Nat.log2 (x/2 ^ k)+k+1:=by rw[ar,show Nat.log2 (x/2 ^ k)+k+1=(Nat.log2 (x/2 ^ k)+1)+k by omega,Nat.pow_add];have:=Nat.lt_log2_self (n:=x/2 ^ k);exact(Nat.div_lt_iff_lt_mul (Nat.two_pow_pos k)).1 this
 omega
set_option maxRecDepth 20000 in
theorem al8(x:Nat)(ad:x<1099511627776):bK al 259 [.int .u64 x] (.int .i64 (Sort.bitsLen x)):=by
 refine bK.mk mixed nK abM aip (by simp) (by simp[aB]) fun aQ=>?_;unfold O8;have aL:=alH;generalize RE:([0,1,2,2,3,3,3,3,4,4,4,4,4,4,4,4,5,5,5,5,5,5,5,5,5,5,5,5,5,5,5,5,6,6,6,6,6,6,6,6,6,6,6,6,6,6,6,6,6,6,6,6,6,6,6,6,6,6,6,6,6,6,6,6,7,7,7,7,7,7,7,7,7,7,7,7,7,7,7,7,7,7,7,7,7,7,7,7,7,7,7,7,7,7,7,7,7,7,7,7,7,7,7,7,7,7,7,7,7,7,7,7,7,7,7,7,7,7,7,7,7,7,7,7,7,7,7,7,8,8,8,8,8,8,8,8,8,8,8,8,8,8,8,8,8,8,8,8,8,8,8,8,8,8,8,8,8,8,8,8,8,8,8,8,8,8,8,8,8,8,8,8,8,8,8,8,8,8,8,8,8,8,8,8,8,8,8,8,8,8,8,8,8,8,8,8,8,8,8,8,8,8,8,8,8,8,8,8,8,8,8,8,8,8,8,8,8,8,8,8,8,8,8,8,8,8,8,8,8,8,8,8,8,8,8,8,8,8,8,8,8,8,8,8,8,8,8,8,8,8,8,8,8,8,8,8]:List dz)=tab at aL⊢;have y7:tab.length=256:=by rw[←RE];rfl
 clear RE;simp[y7];have ae:∀y:Nat,y<256→Sort.bitsLen y≤8:=by decide+kernel
 have afa:4294967296≤x→Sort.bitsLen x=Sort.bitsLen (x/4294967296)+32:=fun h=>HG x 32 h;have SA:∀y,65536≤y→Sort.bitsLen y=Sort.bitsLen (y/65536)+16:=fun y h=>HG y 16 h;have SD:∀y,256≤y→Sort.bitsLen y=Sort.bitsLen (y/256)+8:=fun y h=>HG y 8 h;by_cases J:4294967296≤x
 ·have nu:(4294967296:Int)≤x:=by omega
  have g1:¬(65536:Int)≤(x:Int)/4294967296:=by omega
  have g3:¬(256:Int)≤(x:Int)/4294967296:=by omega
  (with_reducible repeat' first|refine aj ?_|simp[nu,g1,g3,Bq,Bp,Br,y7]);have aM:x/4294967296<256:=by omega
  have lh:=ae _ aM;have eJ:(x:Int)/4294967296=((x/4294967296:Nat):Int):=by omega
  rw[eJ,Dl _ aM,Int.toNat_natCast];refine⟨by omega,?_⟩;have e:=aL _ aM;rw[e,oF _ (by omega)];refine⟨by unfold sH;omega,?_⟩;simp[bu,Ai,aV,aW,aU];try((rw[afa J])<;>omega)
 ·have nu:¬(4294967296:Int)≤x:=by omega
  by_cases U:65536≤x
  ·have g2:(65536:Int)≤x:=by omega
   by_cases ao:256≤x/65536
   ·have g3:(256:Int)≤(x:Int)/65536:=by omega
    (with_reducible repeat' first|refine aj ?_|simp[nu,g2,g3,Bq,Bp,Br,y7]);have aM:x/65536/256<256:=by omega
    have lh:=ae _ aM;have eJ:(x:Int)/65536/256=((x/65536/256:Nat):Int):=by omega
    rw[eJ,Dl _ aM,Int.toNat_natCast];refine⟨by omega,?_⟩;have e:=aL _ aM;rw[e,oF _ (by omega)];refine⟨by unfold sH;omega,?_⟩;simp[bu,Ai,aV,aW,aU];try((rw[SA x U,SD _ ao])<;>omega)
   ·have g3:¬(256:Int)≤(x:Int)/65536:=by omega
    (with_reducible repeat' first|refine aj ?_|simp[nu,g2,g3,Bq,Bp,Br,y7]);have aM:x/65536<256:=by omega
    have lh:=ae _ aM;have eJ:(x:Int)/65536=((x/65536:Nat):Int):=by omega
    rw[eJ,Dl _ aM,Int.toNat_natCast];refine⟨by omega,?_⟩;have e:=aL _ aM;rw[e,oF _ (by omega)];refine⟨by unfold sH;omega,?_⟩;simp[bu,Ai,aV,aW,aU];try((rw[SA x U])<;>omega)
  ·have g2:¬(65536:Int)≤x:=by omega
   by_cases ao:256≤x
   ·have g3:(256:Int)≤x:=by omega
    (with_reducible repeat' first|refine aj ?_|simp[nu,g2,g3,Bq,Bp,Br,y7]);have aM:x/256<256:=by omega
    have lh:=ae _ aM;have eJ:(x:Int)/256=((x/256:Nat):Int):=by omega
    rw[eJ,Dl _ aM,Int.toNat_natCast];refine⟨by omega,?_⟩;have e:=aL _ aM;rw[e,oF _ (by omega)];refine⟨by unfold sH;omega,?_⟩;simp[bu,Ai,aV,aW,aU];try((rw[SD x ao])<;>omega)
   ·have g3:¬(256:Int)≤x:=by omega
    (with_reducible repeat' first|refine aj ?_|simp[nu,g2,g3,Bq,Bp,Br,y7]);have aM:x<256:=by omega
    have lh:=ae _ aM;have eJ:(x:Int)=((x:Nat):Int):=by omega
    rw[eJ,Dl _ aM,Int.toNat_natCast];refine⟨by omega,?_⟩;have e:=aL _ aM;rw[e,oF _ (by omega)];refine⟨by unfold sH;omega,?_⟩;simp[bu,Ai,aV,aW,aU];try((rw[show Sort.bitsLen x=Sort.bitsLen x from rfl])<;>omega)
theorem al7(x:Nat)(ad:x<1099511627776):bK al 209 [.int .u64 x] (.int .i64 (Sort.bitsLen x)):=by refine bK.mk mixed nK abL aio (by simp) (by simp[aB]) fun aQ=>?_;unfold O7;have agk:=al8 x ad;exact b6
theorem YD(x:Nat)(ad:x<1099511627776):Sort.bitsLen x≤40:=by
 unfold Sort.bitsLen;split
 ·omega
 ·rename_i h;have:=(Nat.log2_lt h (k:=40)).2 (by omega);omega
theorem alR{x:Nat}(h:x≠0):2 ^ Sort.bitsLen x≤2*x∧x<2 ^ Sort.bitsLen x:=by unfold Sort.bitsLen;rw[if_neg h];have J:=Nat.log2_self_le h;have U:=Nat.lt_log2_self (n:=x);rw[Nat.pow_succ];rw[Nat.pow_succ]at U;omega
theorem amP(x:Nat)(ad:x<1099511627776):bK al 279 [.int .i64 x] (.int .u64 (1<<<Sort.bitsLen x:Nat)):=by
 have ae:=YD x ad;have ak:hj.wrap ((x:Nat):Int)=x:=by simp[r2,nO,r1];omega
 have aC:hj.wrap ((Sort.bitsLen x:Nat):Int)=Sort.bitsLen x:=by simp[r2,nO,r1];omega
 refine bK.mk mixed nK abT aiw (by simp) (by simp[aB]) fun aQ=>?_;unfold Pf;simp[ak];refine cV.val (by simp) (al7 x ad) ?_;simp[ak,aC];simp[bu,VD,aV,aW,aU];have hm:min (Sort.bitsLen x) hj.bits=Sort.bitsLen x:=by simp[nO];omega
 have bH:2 ^ Sort.bitsLen x≤2 ^ 40:=Nat.pow_le_pow_right (by omega) ae;rw[hm];have aw:((2:Int) ^ Sort.bitsLen x)=((2 ^ Sort.bitsLen x:Nat):Int):=by simp
 have y9:((1<<<Sort.bitsLen x:Nat):Int)=((2 ^ Sort.bitsLen x:Nat):Int):=by rw[Nat.one_shiftLeft]
 have xc:hj.wrap ((2:Int) ^ Sort.bitsLen x)=((1<<<Sort.bitsLen x:Nat):Int):=by rw[aw,y9];generalize 2 ^ Sort.bitsLen x=y at bH;simp[r2,nO,r1];omega
 simpa using xc
def mE(r:Nat):cE:=⟨[(.obj 902,[.int .u64 r])],[]⟩
theorem Hr(r:Nat):dT (mE r):=by unfold mE;exact(dT.of ⟨by intro m;simp[Pv.look],by intro m;simp[Pv.look]⟩ (by simp[aG,aB,inObs,Pv.look]) (by simp[aG,aB,inObs,Pv.look]))
theorem Nh(a b:Nat):Same (mE a) (mE b):=⟨fun k=>by simp only[mE,Pv.look];split<;>rfl,fun _=>rfl⟩
theorem HJ(a b:Nat)(bD:a<18446744073709551616)(ae:b<18446744073709551616):hj.wrap ((p3 hj.bits (a:Int) ^^^ p3 hj.bits (b:Int)).toNat:Int)=(a ^^^ b:Nat):=by
 have ao:a ^^^ b<18446744073709551616:=Nat.xor_lt_two_pow (n:=64) bD ae;have e:(p3 hj.bits (a:Int) ^^^ p3 hj.bits (b:Int)).toNat=a ^^^ b:=by
  rw[BitVec.toNat_xor,BitVec.toNat_ofInt,BitVec.toNat_ofInt];have ak:((a:Int)%(2 ^ hj.bits:Nat)).toNat=a:=by simp[nO];omega
  have aC:((b:Int)%(2 ^ hj.bits:Nat)).toNat=b:=by simp[nO];omega
  rw[ak,aC]
 rw[e];generalize a ^^^ b=c at ao;simp[r2,nO,r1];omega
theorem akY(r:Nat):hj.wrap ((r:Int)*2 ^ (min 13 hj.bits))=(r*8192%18446744073709551616:Nat):=by simp[r2,nO,r1]
theorem akZ(r:Nat):hj.wrap ((r:Int)*2 ^ (min 17 hj.bits))=(r*131072%18446744073709551616:Nat):=by simp[r2,nO,r1]
theorem ak0(r:Nat):((r:Int)).fdiv (2 ^ (min 7 hj.bits))=(r/128:Nat):=by rw[show(2:Int) ^ (min 7 hj.bits)=128 from by decide,Int.fdiv_eq_ediv_of_nonneg _ (by omega)];omega
theorem ac1(r:Nat)(aK:r<18446744073709551616):bF al 280 [.ptr (.obj 902) 0] (mE r) fun eF ai=>eF= .int .u64 (Sort.xorNextN r)∧ai=mE (Sort.xorNextN r):=by
 have ag:=Hr r;unfold mE at ag⊢;refine bF.mk mixed nK ab5 aiI (by simp) ag.obj fun aQ cN=>?_;unfold Ps;obtain⟨m1,Sd⟩:∃m,m=r*8192%18446744073709551616:=⟨_,rfl⟩;have s1:=akY r;rw[←Sd]at s1;have iH:m1<18446744073709551616:=by omega
 obtain⟨bC,kR⟩:∃m,m=r ^^^ m1:=⟨_,rfl⟩;have t1:=HJ r m1 aK iH;rw[←kR]at t1;have TM:bC<18446744073709551616:=by rw[kR];exact Nat.xor_lt_two_pow (n:=64) aK iH
 obtain⟨m2,Se⟩:∃m,m=bC/128:=⟨_,rfl⟩;have s2:=ak0 bC;rw[←Se]at s2;have gy:m2<18446744073709551616:=by omega
 obtain⟨a2,pG⟩:∃m,m=bC ^^^ m2:=⟨_,rfl⟩;have t2:=HJ bC m2 TM gy;rw[←pG]at t2;have agm:a2<18446744073709551616:=by rw[pG];exact Nat.xor_lt_two_pow (n:=64) TM gy
 obtain⟨m3,Sf⟩:∃m,m=a2*131072%18446744073709551616:=⟨_,rfl⟩;have s3:=akZ a2;rw[←Sf]at s3;have agl:m3<18446744073709551616:=by omega
 obtain⟨a3,EF⟩:∃m,m=a2 ^^^ m3:=⟨_,rfl⟩;have t3:=HJ a2 m3 agm agl;rw[←EF]at t3;have a1:Sort.xorNextN r=a3:=by unfold Sort.xorNextN;simp only[←Sd,←kR,←Se,←pG,←Sf,←EF]
 rw[a1];simp[-BitVec.toNat_xor,-BitVec.ofInt_natCast,s1,t1,s2,t2,s3,t3];have a7:=Hr a3;have bZ:=Nh r a3;unfold mE at a7 bZ;refine cH.at _ (.inl rfl) a7 bZ aO aO ?_;simp[cI,VG,aV,aW,aU]
end Go.Proofs.YtohaalphocaebaaGreat
namespace Go.Proofs.YtohaalphocaebaaGreat
open Go Go.Pv
variable {α:Type} [Inhabited α] {S:List α→cE} {n g b5:Nat} {lc b0:List ah} {lt:α→α→Bool}
theorem Yw(a b:Nat)(bD:a<18446744073709551616)(ae:b<18446744073709551616):hj.wrap ((p3 hj.bits (a:Int)&&& p3 hj.bits (b:Int)).toNat:Int)=(a&&& b:Nat):=by
 have ao:a&&& b<18446744073709551616:=Nat.lt_of_le_of_lt Nat.and_le_left bD;have e:(p3 hj.bits (a:Int)&&& p3 hj.bits (b:Int)).toNat=a&&& b:=by
  rw[BitVec.toNat_and,BitVec.toNat_ofInt,BitVec.toNat_ofInt];have ak:((a:Int)%(2 ^ hj.bits:Nat)).toNat=a:=by simp[nO];omega
  have aC:((b:Int)%(2 ^ hj.bits:Nat)).toNat=b:=by simp[nO];omega
  rw[ak,aC]
 rw[e];generalize a&&& b=c at ao;simp[r2,nO,r1];omega
def yE(a len M i0:Nat)(d:Array α):Nat→UInt64×Array α
 |0=>(UInt64.ofNat len,d)
 |k+1=>Sort.breakStep a len M (yE a len M i0 d k) (i0+k)
theorem YG(d:Array α)(a b:Nat)(h:8≤b-a):Sort.breakPatterns d a b=(yE a (b-a) (1<<<Sort.bitsLen (b-a)) (a+(b-a)/4*2-1) d 3).2:=by unfold Sort.breakPatterns;simp only[if_pos h,yE];rfl
theorem Xz{ob O:List aD}{ai:cE}(eO:dT ai)(dh:∀k,inObs ai k→k∈O)(tY:∀k∈ob,k∈O){st:bp}{dG:List (Nat×ah)}{L:List (aD×List ah)}{n:Nat}(aL:∀x∈dG,Pv.get x.1 st.t=x.2∧aB (lV ai n) x.2)(jo:∀x∈L,Pv.look x.1 st.b=some x.2∧lV ai n x.1∧aG (lV ai n) x.2)
  (ae:∀k cs,Pv.look k ai.b=some cs→Pv.look k st.b=some cs) (he:∀k o,Pv.look k ai.e=some o→Pv.look k st.e=some o):iz ob st ⟨dG,L++ai.b,ai.e,n,O⟩:=by
 have lL:∀{k},lV ai n k→¬fresh n O k:=by
  rintro k (h|⟨m,hm,rfl⟩)
  ·exact fun aH=>aH.2 (dh k h)
  ·intro aH;have:=aH.1;simp at this;omega
 refine⟨fun x ad=>⟨(aL x ad).1,vJ (fun k ab=>lL ab) _ (aL x ad).2⟩,fun k cs ab=>?_,fun k o av=>?_,tY⟩
 ·simp only at ab;rw[cD]at ab;cases ar:Pv.look k L with
  |some x=>rw[ar]at ab;simp only[dE]at ab;subst ab;obtain⟨J,U,ao⟩:=jo _ (sN ar);exact⟨J,lL U,jH (fun k ab=>lL ab) _ ao⟩
  |none=>rw[ar]at ab;exact⟨ae k cs ab,lL (.inl (.inl (by simp[ab]))),jH (fun k ab=>lL (.inl ab)) _ (eO.kb k cs ab)⟩
 ·exact⟨he k o av,lL (.inl (.inr (by simp at av;simp[av]))),fun xs ad=>jH (fun k ab=>lL (.inl ab)) _ (eO.ke k o av xs ad)⟩
theorem MY{ans β:Type}(s:List (aD×β)):∀(l:List (aD×ans)),(∀k x,(k,x)∈l→Pv.look k s=none)→cn s l=l
 |[],_=>rfl
 |(k,x)::r,h=>by have J:=h k x (by simp);simp only[cn,J];rw[MY s r fun k x ad=>h k x (by simp[ad])]
def ja(S:List α→cE)(d:Array α)(r:Nat):cE:=⟨(.obj 902,[.int .u64 r])::(S d.toList).b,(S d.toList).e⟩
theorem DL(H:e1 S n g b5 lc b0 lt)(d:Array α)(v:Nat):dT (ja S d v):=by
 have h:=H.ok d.toList;have jc:∀k,inObs (S d.toList) k→inObs (ja S d v) k:=fun k ab=>by
  rcases ab with ab|ab
  ·refine .inl ?_;simp only[ja,Pv.look];split
   ·rfl
   ·exact ab
  ·exact .inr ab
 refine⟨⟨fun m=>?_,h.obj.2⟩,fun k cs ab=>?_,fun k o av xs ad=>jH jc _ (h.ke k o av xs ad)⟩
 ·simp[ja,Pv.look,h.obj.1 m]
 ·simp only[ja,Pv.look]at ab;split at ab
  ·cases ab;simp[aG,aB]
  ·exact jH jc _ (h.kb k cs ab)
theorem Xy{ob O:List aD}{d2:Array α}{y:Nat}{D:List ah}(eO:dT (ja S d2 y))(dh:∀k,inObs (ja S d2 y) k→k∈O)(tY:∀k∈ob,k∈O){st:bp}{dG:List (Nat×ah)}(aL:∀x∈dG,Pv.get x.1 st.t=x.2∧aB (lV (ja S d2 y) 1) x.2)(bq:Pv.look (.loc 0) st.b=some D)(By:aG (lV (ja S d2 y) 1) D)
  (ae:∀k cs,Pv.look k (ja S d2 y).b=some cs→Pv.look k st.b=some cs) (he:∀k o,Pv.look k (ja S d2 y).e=some o→Pv.look k st.e=some o):iz ob st ⟨dG,(.loc 0,D)::(.obj 902,[.int .u64 y])::(S d2.toList).b,(S d2.toList).e,1,O⟩:=
 Xz (L:=[(.loc 0,D)]) eO dh tY aL (fun x ad=>by simp only[List.mem_singleton]at ad;subst ad;exact⟨bq,Us _ _ _ (by omega),By⟩) ae he
theorem ac6(H:e1 S n g b5 lc b0 lt)(ab:rH S 902)(d:Array α)(aR:d.size=n)(a b:Nat)(mN:a≤b)(ae:b≤n)(nv:8≤b-a):
  bF al 262 [eS g b5 lc b0,.int .i64 a,.int .i64 b] (S d.toList) fun r ai=>r= .tuple []∧∃b9,ai=S b9.toList∧b9=Sort.breakPatterns d a b∧b9.size=n:=by
 have ag:=H.ok d.toList;have ar:d.toList.length=n:=by simpa using aR
 have aA:∀l m,Pv.look (.loc m) (S l).b=none:=fun l=>(H.ok l).obj.1;have hu:∀l m cs,cw (.loc m) cs (S l).b=(S l).b++[(.loc m,cs)]:=fun l m cs=>jB (aA l m);have av:∀m,aD.loc m∉cW (S d.toList):=jx ag.obj;have gm:∀l,Pv.look (.obj 902) (S l).b=none:=fun l=>(ab l).1;have kS:∀l,Pv.look (.obj 902) (S l).e=none:=fun l=>(ab l).2;have hle:=H.le;have lp:=Uu ab d.toList;rw[YG d a b nv];obtain⟨len,hlen⟩:∃len,len=b-a:=⟨_,rfl⟩;rw[←hlen];obtain⟨M,eu⟩:∃M,M=1<<<Sort.bitsLen len:=⟨_,rfl⟩;rw[←eu];have aoW:len<M∧M≤2*len:=by have:=alR (x:=len) (by omega);rw[eu,Nat.one_shiftLeft];omega
 obtain⟨q,br⟩:∃q,q=len/4:=⟨_,rfl⟩;rw[←br];have xy:∀l D cs,cw (.obj 902) cs ((S l).b++[(.loc 0,D)])=(S l).b++[(.loc 0,D),(.obj 902,cs)]:=fun l D cs=>by rw[AM (gm l)];rfl
 have SJ:∀l D x y,cw (.obj 902) y ((S l).b++[(.loc 0,D),(.obj 902,x)])=(S l).b++[(.loc 0,D),(.obj 902,y)]:=fun l D x y=>by rw[AM (gm l)];simp[cw]
 have el:((b:Int)-a)=(len:Nat):=by omega
 have dd:IntKind.i64.wrap ((len:Int).tdiv 4)=(q:Nat):=by rw[Int.tdiv_eq_ediv_of_nonneg (by omega),oF _ (by omega)];omega
 have ew:hj.wrap (len:Int)=len:=by simp[r2,nO,r1];omega
 refine bF.mk mixed nK abO air (by simp) ag.obj fun aQ cN=>?_;unfold Pa;have n5:=amP len (by omega);rw[←eu]at n5;simp[eS,hu,xy,SJ,av,lp,cD,aA,gm,kS,Pv.look,cw,el,ew];have gW:IntKind.i64.wrap ((len:Int)/4)=(q:Nat):=by rw[oF _ (by omega)];omega
 ((with_reducible repeat' first|refine aj ?_|refine aE n5 ?_|refine aF n5 ?_|simp[el,ew,dd,gW,hu,xy,SJ,av,lp,cD,aA,gm,kS,Pv.look,cw]|((first|apply bR|apply bU|apply bT)<;>intro h<;>try simp at h))<;>(try exact cv));obtain⟨i0,BP⟩:∃i0,i0=a+q*2-1:=⟨_,rfl⟩;rw[←BP];have ZF:((a:Int)+q*2-1)=(i0:Nat):=by omega
 rw[ZF];have dh:∀(cl:Array α) r k,inObs (ja S cl r) k→cl.size=n→k∈aD.obj 902::cW (S d.toList):=fun cl r k h eW=>by
  have dX:=H.same d.toList cl.toList ar (by simpa using eW);rcases h with h|h
  ·simp only[ja,Pv.look]at h;split at h
   ·rename_i e;subst e;simp
   ·exact oK _ (sS (.inl (by rw[dX.b];exact h)))
  ·exact oK _ (sS (.inr (by rw[dX.e];exact h)))
 have xl:∀(cl:Array α) r,cl.size=n→aG (lV (ja S cl r) 1) [.func g lc,.func b5 b0]:=fun cl r eW=>by
  have J:=H.kdata (lk:=cl.toList) (by simpa using eW);have U:aG (inObs (S cl.toList)) [.func g lc,.func b5 b0]:=by simpa[eS,aB,aG]using J
  refine jH (fun k ab=>.inl ?_) _ U;rcases ab with ab|ab
  ·refine .inl ?_;simp only[ja,Pv.look];split
   ·rfl
   ·exact ab
  ·exact .inr ab
 have ao9:∀(cl:Array α) r D k cs,Pv.look k (ja S cl r).b=some cs→Pv.look k ((.loc 0,D)::(ja S cl r).b)=some cs:=fun cl r D k cs h=>by
  cases k with
  |loc m=>rw[(DL H cl r).obj.1 m]at h;cases h
  |obj m=>simpa[Pv.look]using h
 refine n3 (fun(x:Nat×UInt64×Array α)=>⟨[(1,.int .i64 a),(3,.ptr (.loc 0) 0),(6,.int .i64 len),(7,.ptr (.obj 902) 0),(8,.int .u64 M),(9,.int .i64 ((i0+x.1:Nat):Int))],[(.loc 0,[.func g lc,.func b5 b0])]++(ja S x.2.2 x.2.1.toNat).b,(ja S x.2.2 x.2.1.toNat).e,1,aD.obj 902::cW (S d.toList)⟩) (fun x=>3-x.1)
  (fun x=>x.1≤3∧x.2.2.size=n∧yE a len M i0 d x.1=x.2) (0,UInt64.ofNat len,d) ?_ ⟨by simp,aR,rfl⟩ ?_
 ·refine Xz (DL H d _) (fun k h=>dh d _ k h aR) (fun k h=>oK _ h) (by simp[aB,inObs,ja,Pv.look,lV]) ?_ ?_ aO
  ·intro x ad;simp only[List.mem_singleton]at ad;subst ad;exact⟨by simp[cD,aA,Pv.look],Us _ _ _ (by omega),xl d _ aR⟩
  ·intro k cs h;simp only[ja,Pv.look]at h;rw[cD];split at h
   ·rename_i e;subst e;rw[gm];have:(UInt64.ofNat len).toNat=len:=by simp;omega
    rw[this]at h;simpa[Pv.look]using h
   ·rw[h]
 rintro⟨k,r,cl⟩ ⟨aZ,bI,ck⟩ _;simp only at aZ bI ck;have aK:=r.toNat_lt;obtain⟨x,ad⟩:∃x,x=r.toNat:=⟨_,rfl⟩;rw[←ad]at aK⊢;have nz:Sort.xorNextN x<18446744073709551616:=Sort.xorNextN_lt x (by omega);have JC:(Sort.xorNext r).toNat=Sort.xorNextN x:=by rw[Sort.xorNext_toNat,←ad]
 obtain⟨y,aM⟩:∃y,y=Sort.xorNextN x:=⟨_,rfl⟩;have Zz:hj.wrap ((M:Int)-1)=(M-1:Nat):=by simp[r2,nO,r1];omega
 have xa:=Yw y (M-1) (by omega) (by omega);obtain⟨z,bE⟩:∃z,z=y&&& (M-1):=⟨_,rfl⟩;rw[←bE]at xa;have api:z≤M-1:=by rw[bE];exact Nat.and_le_right
 have nt:IntKind.i64.wrap (z:Int)=z:=by rw[oF _ (by omega)]
 by_cases aeA:k=3
 ·subst aeA;simp[ja,Pv.look,gW];((with_reducible repeat' first|refine aj ?_|simp[gW]|((first|apply bR|apply bU|apply bT)<;>intro h<;>try simp at h))<;>(try exact cv));refine cH.at (S cl.toList) (.inr rfl) (H.ok _) (H.same _ _ ar (by simpa using bI)) (fun k cs h=>?_) (fun _ _ h=>h) ?_
  ·simp only[Pv.look];split
   ·rename_i e;subst e;rw[aA]at h;cases h
   ·split
    ·rename_i e;subst e;rw[gm]at h;cases h
    ·exact h
  ·simp[cI,VA,aV,aW,aU];exact⟨cl,rfl,by rw[ck],bI⟩
 ·have ET:((i0+k:Nat):Int)≤(a:Int)+q*2+1:=by omega
  have R9:((i0:Int)+k)≤(a:Int)+q*2+1:=by omega
  simp[ja,Pv.look,gW,R9,ET];(with_reducible repeat' first|refine aj ?_|simp[gW,R9,ET,Pv.look]);have ape:=H.same d.toList cl.toList ar (by simpa using bI);have afq:∀(fH:Array α) (v:List ah),cn [(aD.obj 902,v)] (S fH.toList).b=(S fH.toList).b:=fun fH v=>MY _ _ fun k x hm=>by
   have:=um hm;simp only[Pv.look];split
   ·rename_i e;subst e;rw[gm]at this;cases this
   ·rfl
  refine cV.ob (ac1 x (by omega)) (Hr x) (fun k cs h=>?_) (fun k o h=>by simp[mE,Pv.look]at h) (by simp[aB,aG,inObs,mE,Pv.look]) ?_
  ·simp only[mE,Pv.look]at h⊢;split at h
   ·rename_i e;subst e;simpa using h
   ·cases h
  rintro eF ai ⟨rfl,rfl⟩;refine⟨Nh _ _,?_⟩;rw[←aM];have aaz:cn (mE x).b ((aD.loc 0,[ah.func g lc,ah.func b5 b0])::(aD.obj 902,[ah.int .u64 x])::(S cl.toList).b)=(aD.loc 0,[ah.func g lc,ah.func b5 b0])::(S cl.toList).b:=by simp[mE,cn,Pv.look,afq]
  have aaA:cn (mE x).e (S cl.toList).e=(S cl.toList).e:=MY _ _ fun _ _ _=>rfl;rw[aaz,aaA,show(mE y).b=[(aD.obj 902,[ah.int .u64 y])]from rfl,show(mE y).e=[]from rfl,List.append_nil];have aoU:∀(v:List ah),Pv.look (.obj 902) ((aD.loc 0,[ah.func g lc,ah.func b5 b0])::((S cl.toList).b++[(aD.obj 902,v)]))=some v:=fun v=>by simp[Pv.look,cD,gm]
  have NO:∀o',o'<len→o'=(if z≥len then z-len else z)→Sort.breakStep a len M (r,cl) (i0+k)=(Sort.xorNext r,Sort.swp cl (i0+k) (a+o')):=fun o' J U=>by unfold Sort.breakStep;simp only[JC,←aM,←bE,←U]
  have Qs:((i0:Int)+k)=((i0+k:Nat):Int):=by omega
  simp only[eM,aD.obj.injEq];simp[-BitVec.toNat_and,-BitVec.ofInt_natCast,Zz,xa,nt,Pv.look,H.ssc];by_cases apj:len≤z
  ·have JZ:(len:Int)≤z:=by omega
   have Ir:((a:Int)+(z-len))=((a+(z-len):Nat):Int):=by omega
   ((with_reducible repeat' first|refine aj ?_|simp[JZ,Pv.look,H.ssc]|((first|apply bR|apply bU|apply bT)<;>intro h<;>try simp at h))<;>(try exact cv));rw[Ir,Qs];refine cV.ob (H.swap cl.toList (by simpa using bI) (by omega) (i0+k) (a+(z-len)) (by omega) (by omega)) (H.ok _) (fun bM cs h=>?_) (fun _ _ h=>h) (by simp[aB,aG,H.ksc cl.toList (by simpa using bI)]) ?_
   ·simp only[Pv.look];split
    ·rename_i e;subst e;rw[aA]at h;cases h
    ·rw[cD,h]
   rintro eF ai ⟨rfl,rfl⟩;refine⟨H.same _ _ (by simpa using bI) (by simpa using bI),?_⟩;rw[FG cl (by omega) (by omega)];obtain⟨d2,eH⟩:∃d2,d2=Sort.swp cl (i0+k) (a+(z-len)):=⟨_,rfl⟩;have s2:d2.size=n:=by rw[eH,gK,bI]
   rw[←eH];have Iv:∀v:List ah,cn (S cl.toList).b ((aD.loc 0,[ah.func g lc,ah.func b5 b0])::((S cl.toList).b++[(aD.obj 902,v)]))=[(aD.loc 0,[ah.func g lc,ah.func b5 b0]),(aD.obj 902,v)]:=fun v=>by simp only[cn,aA];rw[hT,gA];simp[cn,gm]
   dsimp only;rw[Iv,gA];simp;(with_reducible repeat' first|refine aj ?_|simp);have Im:((i0:Int)+k+1)=((i0+(k+1):Nat):Int):=by omega
   rw[Im];refine bO.whl (k+1,Sort.xorNext r,d2) (by simp;omega) ⟨by simp;omega,s2,by simp only[yE,ck];rw[NO (z-len) (by omega) (by rw[if_pos (by omega)]),eH]⟩ ?_;rw[JC,←aM];refine Xy (DL H d2 y) (fun k h=>dh d2 _ k h s2) (fun k h=>oK _ h) (by simp[aB,inObs,ja,Pv.look,lV]) (by simp[Pv.look]) (xl d2 _ s2) ?_ (fun _ _ h=>h);intro k cs h;simp only[ja,Pv.look]at h⊢;split at h
   ·rename_i e;subst e;simpa using h
   ·rename_i e;split
    ·rename_i aC;subst aC;rw[aA]at h;cases h
    ·exact h
  ·have JZ:¬(len:Int)≤z:=by omega
   have Ir:((a:Int)+z)=((a+z:Nat):Int):=by omega
   ((with_reducible repeat' first|refine aj ?_|simp[JZ,Pv.look,H.ssc]|((first|apply bR|apply bU|apply bT)<;>intro h<;>try simp at h))<;>(try exact cv));rw[Ir,Qs];refine cV.ob (H.swap cl.toList (by simpa using bI) (by omega) (i0+k) (a+z) (by omega) (by omega)) (H.ok _) (fun bM cs h=>?_) (fun _ _ h=>h) (by simp[aB,aG,H.ksc cl.toList (by simpa using bI)]) ?_
   ·simp only[Pv.look];split
    ·rename_i e;subst e;rw[aA]at h;cases h
    ·rw[cD,h]
   rintro eF ai ⟨rfl,rfl⟩;refine⟨H.same _ _ (by simpa using bI) (by simpa using bI),?_⟩;rw[FG cl (by omega) (by omega)];obtain⟨d2,eH⟩:∃d2,d2=Sort.swp cl (i0+k) (a+z):=⟨_,rfl⟩;have s2:d2.size=n:=by rw[eH,gK,bI]
   rw[←eH];have Iv:∀v:List ah,cn (S cl.toList).b ((aD.loc 0,[ah.func g lc,ah.func b5 b0])::((S cl.toList).b++[(aD.obj 902,v)]))=[(aD.loc 0,[ah.func g lc,ah.func b5 b0]),(aD.obj 902,v)]:=fun v=>by simp only[cn,aA];rw[hT,gA];simp[cn,gm]
   dsimp only;rw[Iv,gA];simp;(with_reducible repeat' first|refine aj ?_|simp);have Im:((i0:Int)+k+1)=((i0+(k+1):Nat):Int):=by omega
   rw[Im];refine bO.whl (k+1,Sort.xorNext r,d2) (by simp;omega) ⟨by simp;omega,s2,by simp only[yE,ck];rw[NO z (by omega) (by rw[if_neg (by omega)]),eH]⟩ ?_;rw[JC,←aM];refine Xy (DL H d2 y) (fun k h=>dh d2 _ k h s2) (fun k h=>oK _ h) (by simp[aB,inObs,ja,Pv.look,lV]) (by simp[Pv.look]) (xl d2 _ s2) ?_ (fun _ _ h=>h);intro k cs h;simp only[ja,Pv.look]at h⊢;split at h
   ·rename_i e;subst e;simpa using h
   ·rename_i e;split
    ·rename_i aC;subst aC;rw[aA]at h;cases h
    ·exact h
end Go.Proofs.YtohaalphocaebaaGreat
namespace Go.Proofs.YtohaalphocaebaaGreat
open Go Go.Pv
variable {α:Type} [Inhabited α] {S:List α→cE} {n g b5:Nat} {lc b0:List ah} {lt:α→α→Bool}
theorem e1.fnD{d d2:Array α}(H:e1 S n g b5 lc b0 lt)(J:d.size=n){f:Nat}{args:List ah}{r:ah}(aH:bF al f args (S d.toList) fun eF ai=>eF=r∧∃b9,ai=S b9.toList∧b9=d2∧b9.size=n)(ab:aG (inObs (S d.toList)) args){t:List (Nat×ah)}{D:List ah}{o:List aD}{b9:aY Nat}{K:bp→Prop}
  (h:d2.size=n→∀o,K ⟨eM b9 r t,(.loc 0,D)::(S d2.toList).b,(S d2.toList).e,1,o⟩):cV al f args ⟨t,(.loc 0,D)::(S d.toList).b,(S d.toList).e,1,o⟩ b9 K:=
 H.call (by simpa using J) (R:=fun eF aX=>eF=r∧aX=d2.toList∧d2.size=n) (aH.mono fun r ai ⟨ak,b9,aC,bj,dd⟩=>⟨b9.toList,aC,ak,by rw[bj],by rw[←bj];exact dd⟩) (fun r aX ⟨_,e,h⟩=>by rw[e];simpa using h) ab (by rintro eF aX ⟨rfl,rfl,U⟩;exact h U _)
attribute [local simp] o4
def AW(S:List α→cE)(n g b5:Nat)(lc b0:List ah)(lt:α→α→Bool)(m:Nat):Prop:=
 ∀k,k<m→∀(d:Array α),d.size=n→∀a b vN:Nat,b-a≤k→a≤b→b≤n→vN≤1000→Sort.Below lt a b d→
  bF al 210 [eS g b5 lc b0,.int .i64 a,.int .i64 b,.int .i64 vN] (S d.toList) fun r ai=>r= .tuple []∧∃b9,ai=S b9.toList∧Sort.PermIn a b d b9∧Sort.SortedIn lt a b b9
structure wG (S:List α→cE) (n g b5:Nat) (lc b0:List ah) (lt:α→α→Bool) (bn b2 lim:Nat) (d:Array α) (Q:Exit→bp→Prop):Prop where
 k:∀e,e= .normal∨e= .exit 1→∀(a2 b3:Nat) (w v:Bool) (L:Array α) (t:List (Nat×ah)) (o:List aD),L.size=n→a2≤b3→b3≤n→b3-a2<b2-bn→Sort.Below lt a2 b3 L→(∀R,Sort.PermIn a2 b3 L R→Sort.SortedIn lt a2 b3 R→Sort.PermIn bn b2 d R∧Sort.SortedIn lt bn b2 R)→
  Pv.get 1 t= .int .i64 a2→Pv.get 2 t= .int .i64 b3→Pv.get 3 t= .int .i64 lim→Pv.get 4 t= .ptr (.loc 0) 0→Pv.get 8 t= .bool w→Pv.get 9 t= .bool v→Q e ⟨t,(.loc 0,[.func g lc,.func b5 b0])::(S L.toList).b,(S L.toList).e,1,o⟩
 r:∀(R:Array α) t o,Sort.PermIn bn b2 d R→Sort.SortedIn lt bn b2 R→Q .ret ⟨t,(.loc 0,[.func g lc,.func b5 b0])::(S R.toList).b,(S R.toList).e,1,o⟩
theorem wG.mono{bn b2 lim:Nat}{d b9:Array α}{Q:Exit→bp→Prop}(h:wG S n g b5 lc b0 lt bn b2 lim d Q)(p:Sort.PermIn bn b2 d b9):wG S n g b5 lc b0 lt bn b2 lim b9 Q:=⟨fun e he a2 b3 w v L t o ak aC bj dd gW hI=>h.k e he a2 b3 w v L t o ak aC bj dd gW fun R dF fb=>⟨Sort.permIn_trans _ _ _ bn b2 p (hI R dF fb).1,(hI R dF fb).2⟩,fun R t o dF fb=>h.r R t o (Sort.permIn_trans _ _ _ bn b2 p dF) fb⟩
structure yy (t:List (Nat×ah)) (bn b2 lim:Nat):Prop where
 t1:Pv.get 1 t= .int .i64 bn
 t2:Pv.get 2 t= .int .i64 b2
 t3:Pv.get 3 t= .int .i64 lim
 t4:Pv.get 4 t= .ptr (.loc 0) 0
 t10:Pv.get 10 t= .int .i64 ((b2:Int)-bn)
section
variable {bn b2 lim:Nat} {cG:Array α} {t:List (Nat×ah)} {o:List aD} {ob:List aD} {Q:Exit→bp→Prop}
theorem U0(H:e1 S n g b5 lc b0 lt)(bA:Sort.SWO lt)(bN:AW S n g b5 lc b0 lt (b2-bn)){pv:Nat}(T:yy t bn b2 lim)(t11:Pv.get 11 t= .int .i64 pv)(rj:lim≤1000)(oy:cG.size=n)(pI:bn≤pv∧pv<b2)(ck:b2≤n)(sn:12<b2-bn)(ti:Sort.Below lt bn b2 cG)(hF:wG S n g b5 lc b0 lt bn b2 lim cG Q):
  c0 al ob H2 Q ⟨t,(.loc 0,[.func g lc,.func b5 b0])::(S cG.toList).b,(S cG.toList).e,1,o⟩:=by
 obtain⟨t1,t2,t3,t4,t10⟩:=T;have sA:∀fH:Array α,fH.size=n→aB (inObs (S fH.toList)) (eS g b5 lc b0):=fun fH h=>H.kdata (lk:=fH.toList) (by simpa using h);have hle:=H.le;unfold H2;simp[t1,t2,t4,t11,Pv.look,H.slc,H.ssc];simp only[ib H,H.slc,H.ssc,h5];have qy:=adl H cG oy bn b2 pv pI.1 pI.2 (by omega) ck;have br:Sort.partition lt cG bn b2 pv=((Sort.partition lt cG bn b2 pv).1,(Sort.partition lt cG bn b2 pv).2.1,(Sort.partition lt cG bn b2 pv).2.2):=rfl;generalize (Sort.partition lt cG bn b2 pv).1=mid at qy br;generalize (Sort.partition lt cG bn b2 pv).2.1=ap at qy br;generalize (Sort.partition lt cG bn b2 pv).2.2=d4 at qy br;obtain⟨g1,g2,g3,g4,g5,g6,g7⟩:=Sort.round_part bA (Sort.partition_holds lt) pI.1 pI.2 (by omega) ti br;refine H.fnD oy qy (by simp[aB,aG,sA cG oy]) fun s4 o=>?_;have em:((mid:Int)+1)=(mid+1:Nat):=by omega
 simp[t1,t2,t3,t4,t10];by_cases apa:mid-bn<b2-mid
 ·have Ju:(mid:Int)-bn<b2-mid:=by omega
  (with_reducible repeat' first|refine aj ?_|simp[Ju,Pv.look,t1,t2,t3,t4,t10]);simp only[ib H,H.slc,H.ssc,h5];refine H.doFn (lk:=d4.toList) (by simpa using s4) (R:=fun aX=> ∃L:Array α,aX=L.toList∧Sort.PermIn bn mid d4 L∧Sort.SortedIn lt bn mid L) ((bN (mid-bn) (by omega) d4 s4 bn mid lim (eV _) g1 (by omega) rj g4).mono fun r ai ⟨a6,b9,bB,bS,c1⟩=>⟨a6,b9.toList,bB,b9,rfl,bS,c1⟩) (by rintro aX ⟨L,rfl,q,_⟩;simpa using q.1.trans s4) (by simp[aG,aB,sA d4 s4]) ?_;rintro aX ⟨L,rfl,cU,ds⟩;obtain⟨ks,oE⟩:=g6 L cU ds;simp;(with_reducible repeat' first|refine aj ?_|simp[t1,t2,t3,t4]);rw[em];exact hF.k _ (.inl rfl) (mid+1) b2 _ ap L _ _ (cU.1.trans s4) (by omega) ck (by omega) ks oE (by simp) (by simp[t2]) (by simp[t3]) (by simp[t4]) (by simp;rfl) (by simp)
 ·have Ju:¬(mid:Int)-bn<b2-mid:=by omega
  (with_reducible repeat' first|refine aj ?_|simp[Ju,Pv.look,t1,t2,t3,t4,t10]);simp only[ib H,H.slc,H.ssc,h5];rw[em];refine H.doFn (lk:=d4.toList) (by simpa using s4) (R:=fun aX=> ∃L:Array α,aX=L.toList∧Sort.PermIn (mid+1) b2 d4 L∧Sort.SortedIn lt (mid+1) b2 L) ((bN (b2-(mid+1)) (by omega) d4 s4 (mid+1) b2 lim (eV _) (by omega) ck rj g5).mono fun r ai ⟨a6,b9,bB,bS,c1⟩=>⟨a6,b9.toList,bB,b9,rfl,bS,c1⟩) (by rintro aX ⟨L,rfl,q,_⟩;simpa using q.1.trans s4) (by simp[aG,aB,sA d4 s4]) ?_;rintro aX ⟨L,rfl,cU,ds⟩;obtain⟨ks,oE⟩:=g7 L cU ds;simp;(with_reducible repeat' first|refine aj ?_|simp[t1,t2,t3,t4]);exact hF.k _ (.inl rfl) bn mid _ ap L _ _ (cU.1.trans s4) g1 (by omega) (by omega) ks oE (by simp[t1]) (by simp) (by simp[t3]) (by simp[t4]) (by simp;rfl) (by simp)
theorem ajl(H:e1 S n g b5 lc b0 lt)(bA:Sort.SWO lt)(bN:AW S n g b5 lc b0 lt (b2-bn)){pv:Nat}(T:yy t bn b2 lim)(t11:Pv.get 11 t= .int .i64 pv){w v:Bool}(t8:Pv.get 8 t= .bool w)(t9:Pv.get 9 t= .bool v)(rj:lim≤1000)(oy:cG.size=n)(pI:bn≤pv∧pv<b2)(ck:b2≤n)(sn:12<b2-bn)(ti:Sort.Below lt bn b2 cG)(hF:wG S n g b5 lc b0 lt bn b2 lim cG Q):
  c0 al ob Ba Q ⟨t,(.loc 0,[.func g lc,.func b5 b0])::(S cG.toList).b,(S cG.toList).e,1,o⟩:=by
 obtain⟨t1,t2,t3,t4,t10⟩:=id T;have hle:=H.le;unfold Ba;by_cases ss:0<bn
 ·have Jb:(0:Int)<bn:=by omega
  simp[t1,t2,t4,t11,ss,Jb,Pv.look,H.slc,H.ssc];(with_reducible repeat' first|refine aj ?_|simp[t1,t2,t4,t11,ss,Jb,Pv.look,H.slc,H.ssc]);rw[show((bn:Int)-1)=((bn-1:Nat):Int) by omega];refine H.lessA oy (bn-1) pv (by omega) (by omega) fun o=>?_;cases js:lt cG[bn-1]! cG[pv]!
  ·simp;(with_reducible repeat' first|refine aj ?_|simp[Pv.look,H.slc,H.ssc,t1,t2,t4,t11]);simp only[ib H,H.slc,H.ssc,h5];have qy:=adm H cG oy bn b2 pv pI.1 pI.2 (by omega) ck;have br:Sort.partitionEqual lt cG bn b2 pv=((Sort.partitionEqual lt cG bn b2 pv).1,(Sort.partitionEqual lt cG bn b2 pv).2):=rfl;generalize (Sort.partitionEqual lt cG bn b2 pv).1=mid at qy br;generalize (Sort.partitionEqual lt cG bn b2 pv).2=d4 at qy br;obtain⟨g1,g2,g3,g4,g5⟩:=Sort.round_eq bA (Sort.partitionEqual_holds lt) ss pI.1 pI.2 (by omega) ti js br;refine H.fnD oy qy (by simp[aB,aG,H.kdata (lk:=cG.toList) (by simpa using oy)]) fun s4 o=>?_;simp[t1,t2,t3,t4];exact hF.k _ (.inr rfl) mid b2 w v d4 _ _ s4 g2 ck (by omega) g4 g5 (by simp) (by simp[t2]) (by simp[t3]) (by simp[t4]) (by simp[t8]) (by simp[t9])
  ·simp;exact U0 H bA bN ⟨by simp[t1],by simp[t2],by simp[t3],by simp[t4],by simp[t10]⟩ (by simp[t11]) rj oy pI ck sn ti hF
 ·have Jb:¬(0:Int)<bn:=by omega
  simp[t1,ss];exact U0 H bA bN ⟨by simp[t1],by simp[t2],by simp[t3],by simp[t4],by simp[t10]⟩ (by simp[t11]) rj oy pI ck sn ti hF
theorem Lh(H:e1 S n g b5 lc b0 lt)(bA:Sort.SWO lt)(bN:AW S n g b5 lc b0 lt (b2-bn)){pv:Nat}(T:yy t bn b2 lim)(t11:Pv.get 11 t= .int .i64 pv){h:Nat}(t12:Pv.get 12 t= .int .i64 h){w v:Bool}(t8:Pv.get 8 t= .bool w)(t9:Pv.get 9 t= .bool v)(rj:lim≤1000)(oy:cG.size=n)(pI:bn≤pv∧pv<b2)(ck:b2≤n)(sn:12<b2-bn)(ti:Sort.Below lt bn b2 cG)(hF:wG S n g b5 lc b0 lt bn b2 lim cG Q):
  c0 al ob H3 Q ⟨t,(.loc 0,[.func g lc,.func b5 b0])::(S cG.toList).b,(S cG.toList).e,1,o⟩:=by
 obtain⟨t1,t2,t3,t4,t10⟩:=id T;have hle:=H.le;unfold H3;have next:∀{d5:Array α} {t o},yy t bn b2 lim→Pv.get 11 t= .int .i64 pv→Pv.get 8 t= .bool w→Pv.get 9 t= .bool v→d5.size=n→Sort.Below lt bn b2 d5→Sort.PermIn bn b2 cG d5→c0 al ob Ba Q ⟨t,(.loc 0,[.func g lc,.func b5 b0])::(S d5.toList).b,(S d5.toList).e,1,o⟩:=fun ak aC bj dd gW hI qU=>ajl H bA bN ak aC bj dd rj gW pI ck sn hI (hF.mono qU)
 have skip:∀{t o},yy t bn b2 lim→Pv.get 11 t= .int .i64 pv→Pv.get 8 t= .bool w→Pv.get 9 t= .bool v→c0 al ob Ba Q ⟨t,(.loc 0,[.func g lc,.func b5 b0])::(S cG.toList).b,(S cG.toList).e,1,o⟩:=fun ak aC bj dd=>next ak aC bj dd oy ti (Sort.permIn_refl _ _ _)
 by_cases aw:(w=true∧v=true)∧h=1
 ·obtain⟨⟨rfl,rfl⟩,rfl⟩:=aw;simp[t1,t2,t4,t8,t9,t12,Pv.look,H.slc,H.ssc];simp only[ib H,H.slc,H.ssc,h5];have qy:=adk H cG oy bn b2 (by omega) ck (by omega);have br:=Sort.partialInsertionSort_holds bA cG bn b2 (by omega) (by omega) ti;generalize (Sort.partialInsertionSort lt cG bn b2).1=d5 at qy br;generalize (Sort.partialInsertionSort lt cG bn b2).2=ok at qy br;refine H.fnD oy qy (by simp[aB,aG,H.kdata (lk:=cG.toList) (by simpa using oy)]) fun akO o=>?_;cases ok
  ·simp;exact next ⟨by simp[t1],by simp[t2],by simp[t3],by simp[t4],by simp[t10]⟩ (by simp[t11]) (by simp[t8]) (by simp[t9]) akO (ti.perm (by omega) br.1) br.1
  ·simp;exact hF.r _ _ _ br.1 (br.2 rfl)
 ·cases w
  ·simp[t8,t9,t12];exact skip ⟨by simp[t1],by simp[t2],by simp[t3],by simp[t4],by simp[t10]⟩ (by simp[t11]) (by simp[t8]) (by simp[t9])
  ·cases v
   ·simp[t8,t9,t12];exact skip ⟨by simp[t1],by simp[t2],by simp[t3],by simp[t4],by simp[t10]⟩ (by simp[t11]) (by simp[t8]) (by simp[t9])
   ·have J:((h:Int)==1)=false:=by simp at aw⊢;omega
    simp[t8,t9,t12,J];exact skip ⟨by simp[t1],by simp[t2],by simp[t3],by simp[t4],by simp[t10]⟩ (by simp[t11]) (by simp[t8]) (by simp[t9])
theorem U1(H:e1 S n g b5 lc b0 lt)(gm:rH S 901)(bA:Sort.SWO lt)(bN:AW S n g b5 lc b0 lt (b2-bn))(T:yy t bn b2 lim){w v:Bool}(t8:Pv.get 8 t= .bool w)(t9:Pv.get 9 t= .bool v)(rj:lim≤1000)(s1:cG.size=n)(ck:b2≤n)(sn:12<b2-bn)(Hg:Sort.Below lt bn b2 cG)(hF:wG S n g b5 lc b0 lt bn b2 lim cG Q):
  c0 al ob H4 Q ⟨t,(.loc 0,[.func g lc,.func b5 b0])::(S cG.toList).b,(S cG.toList).e,1,o⟩:=by
 obtain⟨t1,t2,t3,t4,t10⟩:=id T;have hle:=H.le;have sA:∀fH:Array α,fH.size=n→aB (inObs (S fH.toList)) (eS g b5 lc b0):=fun fH h=>H.kdata (lk:=fH.toList) (by simpa using h);unfold H4;simp[t1,t2,t4,Pv.look,H.slc,H.ssc];simp only[ib H,H.slc,H.ssc,h5];have tO:=Sort.choosePivot_holds lt cG bn b2 (by omega);have Kd:=ac7 H gm cG s1 bn b2 (by omega) ck;generalize Sort.choosePivot lt cG bn b2=Ic at Kd tO;obtain⟨p,hint⟩:=Ic;simp only at Kd tO;refine H.fnA s1 s1 Kd (by simp[aB,aG,sA cG s1]) fun o=>?_;cases hint
 ·simp[zi];exact Lh H bA bN ⟨by simp[t1],by simp[t2],by simp[t3],by simp[t4],by simp[t10]⟩ (pv:=p) (by simp) (h:=0) (by simp) (w:=w) (v:=v) (by simp[t8]) (by simp[t9]) rj s1 tO ck sn Hg hF
 ·simp[zi];exact Lh H bA bN ⟨by simp[t1],by simp[t2],by simp[t3],by simp[t4],by simp[t10]⟩ (pv:=p) (by simp) (h:=1) (by simp) (w:=w) (v:=v) (by simp[t8]) (by simp[t9]) rj s1 tO ck sn Hg hF
 ·simp[zi,t1,t2,t4,Pv.look,H.slc,H.ssc];simp only[ib H,H.slc,H.ssc,h5];refine H.fnD s1 (adr H cG s1 bn b2 (by omega) ck (by omega)) (by simp[aB,aG,sA cG s1]) fun s2 o=>?_;have aK:=Sort.reverseRange_holds cG bn b2 (by omega) (by omega);have Qv:((b2:Int)-1-(p-bn))=((b2-1)-(p-bn):Nat):=by omega
  simp[t1,t2,Qv];(with_reducible repeat' first|refine aj ?_|simp[Qv,t1,t2]);exact Lh H bA bN ⟨by simp[t1],by simp[t2],by simp[t3],by simp[t4],by simp[t10]⟩ (pv:=(b2-1)-(p-bn)) (by simp) (h:=1) (by simp) (w:=w) (v:=v) (by simp[t8]) (by simp[t9]) rj s2 (by omega) ck sn (Hg.perm (by omega) aK) (hF.mono aK)
end
theorem adn(H:e1 S n g b5 lc b0 lt)(gm:rH S 901)(kS:rH S 902)(bA:Sort.SWO lt)(m:Nat):∀(d:Array α) (aR:d.size=n) (a b vN:Nat) (hm:b-a≤m) (mN:a≤b) (ae:b≤n) (eI:vN≤1000) (BG:Sort.Below lt a b d),
  bF al 210 [eS g b5 lc b0,.int .i64 a,.int .i64 b,.int .i64 vN] (S d.toList) fun r ai=>r= .tuple []∧∃b9,ai=S b9.toList∧Sort.PermIn a b d b9∧Sort.SortedIn lt a b b9:=by
 induction m using Nat.strongRecOn with
 |ind m bN=>
 intro d aR a b vN hm mN ae eI BG;have ag:=H.ok d.toList;have ar:d.toList.length=n:=by simpa using aR
 have aA:∀l m,Pv.look (.loc m) (S l).b=none:=fun l=>(H.ok l).obj.1;have hu:∀l m cs,cw (.loc m) cs (S l).b=(S l).b++[(.loc m,cs)]:=fun l m cs=>jB (aA l m);have av:∀m,aD.loc m∉cW (S d.toList):=jx ag.obj;have hle:=H.le;refine bF.mk mixed nK abY aiB (by simp) ag.obj fun aQ cN=>?_;unfold Pl;simp[eS,hu,av,cD,aA];refine H.loopA ar [4] (fun(x:((Nat×Nat×Nat)×Bool×Bool)×Array α)=>[(1,.int .i64 x.1.1.1),(2,.int .i64 x.1.1.2.1),(3,.int .i64 x.1.1.2.2),(8,.bool x.1.2.1),(9,.bool x.1.2.2)]) (·.2) (fun x=>x.1.1.2.1-x.1.1.1) (fun x=>x.2.size=n∧(x.1.1.1≤x.1.1.2.1∧x.1.1.2.1≤n∧x.1.1.2.1-x.1.1.1≤m∧x.1.1.2.2≤1000)∧Sort.Below lt x.1.1.1 x.1.1.2.1 x.2∧∀R,Sort.PermIn x.1.1.1 x.1.1.2.1 x.2 R→Sort.SortedIn lt x.1.1.1 x.1.1.2.1 R→Sort.PermIn a b d R∧Sort.SortedIn lt a b R)
  (((a,b,vN),true,true),d) aR ⟨aR,⟨mN,ae,hm,eI⟩,BG,fun R J U=>⟨J,U⟩⟩ (by simp[cD,aA]) aO aO (by simp[aB]) ?_
 rintro⟨⟨⟨bn,b2,uk⟩,anl,wp⟩,cl⟩ ⟨aZ,⟨bI,ck,eK,c8⟩,Kc,Fm⟩;simp only at aZ bI ck eK c8 Kc Fm;have sA:∀fH:Array α,fH.size=n→aB (inObs (S fH.toList)) (eS g b5 lc b0):=fun fH h=>H.kdata (lk:=fH.toList) (by simpa using h);have GD:∀(R:Array α) t o,Sort.PermIn bn b2 cl R→Sort.SortedIn lt bn b2 R→cH VE (S d.toList) (fun r ai=>r= .tuple []∧∃b9,ai=S b9.toList∧Sort.PermIn a b d b9∧Sort.SortedIn lt a b b9) .ret ⟨t,(.loc 0,[.func g lc,.func b5 b0])::(S R.toList).b,(S R.toList).e,1,o⟩:=fun R t o J U=>by refine H.retA ar (by rw[J.1];exact aZ) (.inl rfl) ⟨rfl,R,rfl,Fm R J U⟩
 simp;by_cases sn:b2-bn≤12
 ·have Bw:(b2:Int)-bn≤12:=by omega
  (with_reducible repeat' first|refine aj ?_|simp[Bw,Pv.look,H.slc,H.ssc]);simp only[ib H,H.slc,H.ssc,h5];refine H.fnD aZ (adb H cl aZ bn b2 bI ck) (by simp[aB,aG,sA cl aZ]) fun s2 o=>?_;obtain⟨a6,bB⟩:=Sort.insertionSort_holds bA cl bn b2 bI (by omega);simp;exact GD _ _ _ a6 bB
 have Bw:¬(b2:Int)-bn≤12:=by omega
 by_cases zl:uk=0
 ·have EV:(((uk:Nat):Int)==0)=true:=by simp[zl]
  (with_reducible repeat' first|refine aj ?_|simp[Bw,EV,Pv.look,H.slc,H.ssc]);simp only[ib H,H.slc,H.ssc,h5];refine H.fnD aZ (ada H cl aZ bn b2 bI ck (by omega)) (by simp[aB,aG,sA cl aZ]) fun s2 o=>?_;obtain⟨a6,bB⟩:=Sort.heapSort_holds bA cl bn b2 bI (by omega);simp;exact GD _ _ _ a6 bB
 have EV:(((uk:Nat):Int)==0)=false:=by simp[zl]
 have SQ:AW S n g b5 lc b0 lt (b2-bn):=fun k ab=>bN k (by omega);cases anl
 ·(with_reducible repeat' first|refine aj ?_|simp[Bw,EV,Pv.look,H.slc,H.ssc]);simp only[ib H,H.slc,H.ssc,h5];refine H.fnD aZ (ac6 H kS cl aZ bn b2 bI ck (by omega)) (by simp[aB,aG,sA cl aZ]) fun s1 o=>?_;have DF:=Sort.breakPatterns_holds cl bn b2 bI (by omega);generalize Sort.breakPatterns cl bn b2=d1 at s1 DF;have el:((uk:Int)-1)=(uk-1:Nat):=by omega
  simp[el];(with_reducible repeat' first|refine aj ?_|simp[el,Pv.look]);refine U1 (lim:=uk-1) H gm bA SQ ⟨by simp,by simp,by simp,by simp,by simp⟩ (w:=false) (v:=wp) (by simp) (by simp) (by omega) s1 ck (by omega) (Kc.perm (by omega) DF) ⟨?_,fun R t o dF fb=>?_⟩
  ·rintro e he a2 b3 w v L t o ak aC bj dd gW hI t1 t2 t3 t4 t8 t9;rcases he with rfl|rfl<;>simp<;>exact bO.whl (((a2,b3,uk-1),w,v),L) (by simp;omega) ⟨ak,⟨aC,bj,by simp;omega,by simp;omega⟩,gW,fun R dF fb=>Fm R (Sort.permIn_trans _ _ _ bn b2 DF (hI R dF fb).1) (hI R dF fb).2⟩ (H.weakC ar (by simpa using ak) (by simp[aB,t1,t2,t3,t4,t8,t9]))
  ·simpa using GD R t o (Sort.permIn_trans _ _ _ bn b2 DF dF) fb
 ·(with_reducible repeat' first|refine aj ?_|simp[Bw,EV,Pv.look,H.slc,H.ssc]);refine U1 (lim:=uk) H gm bA SQ ⟨by simp,by simp,by simp,by simp,by simp⟩ (w:=true) (v:=wp) (by simp) (by simp) c8 aZ ck (by omega) Kc ⟨?_,fun R t o dF fb=>?_⟩
  ·rintro e he a2 b3 w v L t o ak aC bj dd gW hI t1 t2 t3 t4 t8 t9;rcases he with rfl|rfl<;>simp<;>exact bO.whl (((a2,b3,uk),w,v),L) (by simp;omega) ⟨ak,⟨aC,bj,by simp;omega,c8⟩,gW,fun R dF fb=>Fm R (hI R dF fb).1 (hI R dF fb).2⟩ (H.weakC ar (by simpa using ak) (by simp[aB,t1,t2,t3,t4,t8,t9]))
  ·simpa using GD R t o dF fb
end Go.Proofs.YtohaalphocaebaaGreat
namespace Go.Proofs.YtohaalphocaebaaGreat
open Go Go.Pv
variable {α:Type} {S:List α→cE} {n g b5:Nat} {lc b0:List ah} {lt:α→α→Bool}
theorem agJ(bA:p9 lt){l lk:List α}{a b i:Nat}(mO:a+1≤i)(zh:i≤b)(ae:b≤l.length)(ag:e7 lt (a+1) b l){z:α}(bE:l[a]? =some z)(BU:∀h x,a+1≤h→h<i→l[h]? =some x→lt x z=true)(BO:∀h x,i≤h→h<b→l[h]? =some x→lt x z=false)
  (aK:∀k,lk[k]? =l[hO a (a+1) i k]?):e7 lt a b lk:=by
 intro p q x y bH kh br ad aM;rw[aK]at ad aM;simp only[hO]at ad aM;rw[if_neg (by omega)]at ad aM;by_cases a6:q<i-1
 ·rw[if_pos (by omega)]at ad aM;exact ag _ _ _ _ (by omega) (by omega) (by omega) ad aM
 ·rw[if_neg (by omega)]at aM;by_cases bB:q<i
  ·rw[if_pos bB,show q-(i-(a+1))=a by omega,bE]at aM;cases aM;rw[if_pos (by omega)]at ad;exact bA.asym _ _ (BU _ _ (by omega) (by omega) ad)
  ·rw[if_neg bB]at aM;by_cases cU:p<i-1
   ·rw[if_pos (by omega)]at ad;exact ag _ _ _ _ (by omega) (by omega) (by omega) ad aM
   ·rw[if_neg (by omega)]at ad;by_cases ds:p<i
    ·rw[if_pos ds,show p-(i-(a+1))=a by omega,bE]at ad;cases ad;exact BO _ _ (by omega) br aM
    ·rw[if_neg ds]at ad;exact ag _ _ _ _ (by omega) (by omega) br ad aM
theorem agK(bA:p9 lt){l lk:List α}{a m i:Nat}(mO:a≤i)(ao7:i≤m)(ae:m+1≤l.length)(ag:e7 lt a m l){z:α}(bE:l[m]? =some z)(BU:∀h x,a≤h→h<i→l[h]? =some x→lt z x=false)(BO:∀h x,i≤h→h<m→l[h]? =some x→lt z x=true)
  (aK:∀k,lk[k]? =l[hO i m (m+1) k]?):e7 lt a (m+1) lk:=by
 intro p q x y bH kh br ad aM;rw[aK]at ad aM;simp only[hO]at ad aM;by_cases a6:q<i
 ·rw[if_pos (by omega)]at ad aM;exact ag _ _ _ _ bH kh (by omega) ad aM
 ·rw[if_neg a6]at aM;by_cases bB:q=i
  ·rw[if_pos (by omega),show q+(m-i)=m by omega,bE]at aM;cases aM;rw[if_pos (by omega)]at ad;exact BU _ _ bH (by omega) ad
  ·rw[if_neg (by omega),if_pos (by omega)]at aM;by_cases cU:p<i
   ·rw[if_pos cU]at ad;exact ag _ _ _ _ bH (by omega) (by omega) ad aM
   ·rw[if_neg cU]at ad;by_cases ds:p=i
    ·rw[if_pos (by omega),show p+(m-i)=m by omega,bE]at ad;cases ad;exact bA.asym _ _ (BO _ _ (by omega) (by omega) aM)
    ·rw[if_neg (by omega),if_pos (by omega)]at ad;exact ag _ _ _ _ (by omega) (by omega) (by omega) ad aM
structure DE (lt:α→α→Bool) (a s m e b mid:Nat) (lk:List α):Prop where
 s1:e7 lt a s lk
 s2:e7 lt s mid lk
 s3:e7 lt mid e lk
 s4:e7 lt e b lk
 cross:∀p q x y,a≤p→p<mid→mid≤q→q<b→lk[p]? =some x→lk[q]? =some y→lt y x=false
theorem e7.le(bA:p9 lt){a b:Nat}{l:List α}(h:e7 lt a b l){i j:Nat}{x y:α}(J:a≤i)(U:i≤j)(ao:j<b)(ad:l[i]? =some x)(aM:l[j]? =some y):lt y x=false:=by
 by_cases e:i=j
 ·subst e;rw[ad]at aM;cases aM;cases SM:lt x x with
  |false=>rfl
  |true=>have:=bA.asym _ _ SM;rw[SM]at this;exact this
 ·exact h _ _ _ _ J (by omega) ao ad aM
theorem agT(bA:p9 lt){l lk:List α}{a m b mid s e:Nat}(has:a≤s)(dX:s≤m)(apb:m≤e)(ao5:e≤b)(ae:b≤l.length)(lr:s+e=mid+m)(J:e7 lt a m l)(U:e7 lt m b l)
  (bG:s=a∨e=b∨ ∃x y,l[s-1]? =some x∧l[e]? =some y∧lt y x=false) (ch:s=m∨e=m∨ ∃x y,l[s]? =some x∧l[e-1]? =some y∧lt y x=true) (aK:∀k,lk[k]? =l[hO s m e k]?):DE lt a s m e b mid lk:=by
 have g1:∀p,p<s→lk[p]? =l[p]?:=fun p bH=>by rw[aK];simp[hO,bH]
 have g2:∀p,s≤p→p<mid→lk[p]? =l[p+(m-s)]?:=fun p ao a7=>by rw[aK];simp only[hO];rw[if_neg (by omega),if_pos (by omega)]
 have g3:∀p,mid≤p→p<e→lk[p]? =l[p-(e-m)]?:=fun p ao a7=>by rw[aK];simp only[hO];rw[if_neg (by omega),if_neg (by omega),if_pos (by omega)]
 have g4:∀p,e≤p→lk[p]? =l[p]?:=fun p ao=>by
  rw[aK];simp only[hO];rw[if_neg (by omega)];by_cases bZ:p<s+(e-m)
  ·omega
  ·rw[if_neg bZ,if_neg (by omega)]
 refine⟨fun p q x y bH kh br ad aM=>?_,fun p q x y bH kh br ad aM=>?_,fun p q x y bH kh br ad aM=>?_,fun p q x y bH kh br ad aM=>?_,fun p q x y bH ae2 br JG ad aM=>?_⟩
 ·rw[g1 _ (by omega)]at ad aM;exact J _ _ _ _ bH kh (by omega) ad aM
 ·rw[g2 _ (by omega) (by omega)]at ad aM;exact U _ _ _ _ (by omega) (by omega) (by omega) ad aM
 ·rw[g3 _ (by omega) (by omega)]at ad aM;exact J _ _ _ _ (by omega) (by omega) (by omega) ad aM
 ·rw[g4 _ (by omega)]at ad aM;exact U _ _ _ _ (by omega) (by omega) (by omega) ad aM
 ·by_cases cU:p<s
  ·rw[g1 _ cU]at ad;by_cases a6:q<e
   ·rw[g3 _ br a6]at aM;exact J _ _ _ _ bH (by omega) (by omega) ad aM
   ·rw[g4 _ (by omega)]at aM;rcases bG with bG|bG|⟨u,v,aZ,bI,ck⟩
    ·omega
    ·omega
    ·exact bA.ntr _ _ _ (bA.ntr _ _ _ (e7.le bA J bH (by omega) (by omega) ad aZ) ck) (e7.le bA U (by omega) (by omega) JG bI aM)
  ·rw[g2 _ (by omega) ae2]at ad;by_cases a6:q<e
   ·rw[g3 _ br a6]at aM;rcases ch with ch|ch|⟨u,v,aZ,bI,ck⟩
    ·omega
    ·omega
    ·exact bA.ntr _ _ _ (bA.ntr _ _ _ (e7.le bA U (by omega) (by omega) (by omega) ad bI) (bA.asym _ _ ck)) (e7.le bA J (by omega) (by omega) (by omega) aZ aM)
   ·rw[g4 _ (by omega)]at aM;exact U _ _ _ _ (by omega) (by omega) JG ad aM
theorem agU{a mid b:Nat}(BE:a≤mid){lk iH gy:List α}(J:gk a mid lk iH)(s1:e7 lt a mid iH)(U:gk mid b iH gy)(s2:e7 lt mid b gy)(Zw:∀p q x y,a≤p→p<mid→mid≤q→q<b→lk[p]? =some x→lk[q]? =some y→lt y x=false):e7 lt a b gy:=by
 intro p q x y bH kh br ad aM;by_cases ao:q<mid
 ·rw[U.out _ (.inl (by omega))]at ad;rw[U.out _ (.inl (by omega))]at aM;exact s1 _ _ _ _ bH kh ao ad aM
 ·by_cases a7:mid≤p
  ·exact s2 _ _ _ _ a7 kh br ad aM
  ·rw[U.out _ (.inl (by omega))]at ad;refine U.all (fun y=>lt y x=false) (fun k y gm kS aM=>?_) q y (by omega) br aM;rw[J.out _ (.inr gm)]at aM;exact J.all (fun x=>lt y x=false) (fun bM x aey aez ad=>Zw bM k x y aey aez gm kS ad aM) p x bH (by omega) ad
end Go.Proofs.YtohaalphocaebaaGreat
namespace Go.Proofs.YtohaalphocaebaaGreat
open Go Go.Pv
variable {α:Type} {S:List α→cE} {n g b5:Nat} {lc b0:List ah} {lt:α→α→Bool}
def aly(lt:α→α→Bool)(l:List α)(mid m s0 r0:Nat)(x:Nat×Nat):Prop:=s0≤x.1∧x.1≤x.2∧x.2≤r0∧(x.1=s0∨ ∃u v,l[x.1-1]? =some u∧l[mid+m-x.1]? =some v∧lt v u=false)∧(x.2=r0∨ ∃u v,l[x.2]? =some u∧l[mid+m-x.2-1]? =some v∧lt v u=true)
attribute [local simp] o4
def DM(S:List α→cE)(n g b5:Nat)(lc b0:List ah)(lt:α→α→Bool)(d:Nat):Prop:=
 ∀(l:List α) (a m b:Nat),l.length=n→b-a≤d→a<m→m<b→b≤n→e7 lt a m l→e7 lt m b l→
  bF al 277 [eS g b5 lc b0,.int .i64 a,.int .i64 m,.int .i64 b] (S l) fun r ai=>r= .tuple []∧∃aX,ai=S aX∧gk a b l aX∧e7 lt a b aX
def DN(S:List α→cE)(g b5:Nat)(lc b0:List ah)(lt:α→α→Bool)(a b:Nat)(l:List α)(Q:Exit→bp→Prop):Prop:=∀gy t o,gk a b l gy→e7 lt a b gy→Q .normal ⟨t,(.loc 0,[.func g lc,.func b5 b0])::(S gy).b,(S gy).e,1,o⟩
section
variable {a m b mid i e d:Nat} {l:List α} {t:List (Nat×ah)} {o:List aD} {ob:List aD} {Q:Exit→bp→Prop}
theorem ala(H:e1 S n g b5 lc b0 lt)(bN:DM S n g b5 lc b0 lt d)(t3:Pv.get 3 t= .int .i64 b)(t4:Pv.get 4 t= .ptr (.loc 0) 0)(t16:Pv.get 16 t= .int .i64 mid)(t22:Pv.get 22 t= .int .i64 e)(ar:l.length=n)(J:mid≤e)(U:e≤b)(ae:b≤n)(aR:b-mid≤d)(SB:e7 lt mid e l)(SC:e7 lt e b l)(hF:DN S g b5 lc b0 lt mid b l Q):
  c0 al ob D5 Q ⟨t,(.loc 0,[.func g lc,.func b5 b0])::(S l).b,(S l).e,1,o⟩:=by
 unfold D5;by_cases lh:mid<e∧e<b
 ·simp[t3,t4,t16,t22,lh.1,lh.2,Pv.look];simp only[ib H,H.slc,H.ssc,h5];refine H.doFn ar (bN l mid e b ar aR lh.1 lh.2 ae SB SC) (fun aX h=>by rw[h.1.length];exact ar) (by simp[aG,aB,H.kdata ar]) ?_;rintro gy ⟨kJ,z2⟩;simp;exact hF _ _ _ kJ z2
 ·have pK:e7 lt mid b l:=by
   by_cases o6:mid<e
   ·rwa[show e=b by omega]at SB
   ·rwa[show e=mid by omega]at SC
  by_cases o6:mid<e
  ·have ad3:¬e<b:=by omega
   simp[t3,t16,t22,o6,ad3];exact hF _ _ _ (.refl _) pK
  ·simp[t16,t22,o6];exact hF _ _ _ (.refl _) pK
theorem alb(H:e1 S n g b5 lc b0 lt)(bN:DM S n g b5 lc b0 lt d)(t1:Pv.get 1 t= .int .i64 a)(t3:Pv.get 3 t= .int .i64 b)(t4:Pv.get 4 t= .ptr (.loc 0) 0)(t16:Pv.get 16 t= .int .i64 mid)(t18:Pv.get 18 t= .int .i64 i)(t22:Pv.get 22 t= .int .i64 e)(ar:l.length=n)(bq:a≤i∧i≤mid∧a≤m)(J:mid≤e)(U:e≤b)(ae:b≤n)(aR:b-mid≤d)(l9:mid-a≤d)(eu:DE lt a i m e b mid l)(hF:DN S g b5 lc b0 lt a b l Q):
  c0 al ob D6 Q ⟨t,(.loc 0,[.func g lc,.func b5 b0])::(S l).b,(S l).e,1,o⟩:=by
 unfold D6;have next:∀{iH t o},Pv.get 3 t= .int .i64 b→Pv.get 4 t= .ptr (.loc 0) 0→Pv.get 16 t= .int .i64 mid→Pv.get 22 t= .int .i64 e→iH.length=n→gk a mid l iH→e7 lt a mid iH→c0 al ob D5 Q ⟨t,(.loc 0,[.func g lc,.func b5 b0])::(S iH).b,(S iH).e,1,o⟩:=fun ak aC bj dd xm cU ds=>by
  refine ala H bN ak aC bj dd xm J U ae aR (fun p q x y J U ao ad aM=>?_) (fun p q x y J U ao ad aM=>?_) fun gy t o a6 bB=>?_
  ·rw[cU.out _ (.inr J)]at ad;rw[cU.out _ (.inr (by omega))]at aM;exact eu.s3 p q x y J U ao ad aM
  ·rw[cU.out _ (.inr (by omega))]at ad;rw[cU.out _ (.inr (by omega))]at aM;exact eu.s4 p q x y J U ao ad aM
  ·exact hF gy t o ((cU.mono (by omega) (by omega)).trans (a6.mono (by omega) (by omega))) (agU (by omega) cU ds a6 bB eu.cross)
 by_cases kR:a<i∧i<mid
 ·simp[t1,t4,t16,t18,kR.1,kR.2,Pv.look];simp only[ib H,H.slc,H.ssc,h5];refine H.doFn ar (bN l a i mid ar l9 kR.1 kR.2 (by omega) eu.s1 eu.s2) (fun aX h=>by rw[h.1.length];exact ar) (by simp[aG,aB,H.kdata ar]) ?_;rintro iH ⟨cU,ds⟩;simp;exact next (by simp[t3]) (by simp[t4]) (by simp[t16]) (by simp[t22]) (by rw[cU.length];exact ar) cU ds
 ·have ds:e7 lt a mid l:=by
   by_cases pG:a<i
   ·have:=eu.s1;rwa[show i=mid by omega]at this
   ·have:=eu.s2;rwa[show i=a by omega]at this
  by_cases pG:a<i
  ·have EF:¬i<mid:=by omega
   simp[t1,t16,t18,pG,EF];exact next (by simp[t3]) (by simp[t4]) (by simp[t16]) (by simp[t22]) ar (.refl _) ds
  ·simp[t1,t18,pG];exact next (by simp[t3]) (by simp[t4]) (by simp[t16]) (by simp[t22]) ar (.refl _) ds
theorem alc(H:e1 S n g b5 lc b0 lt)(bN:DM S n g b5 lc b0 lt d)(t1:Pv.get 1 t= .int .i64 a)(t2:Pv.get 2 t= .int .i64 m)(t3:Pv.get 3 t= .int .i64 b)(t4:Pv.get 4 t= .ptr (.loc 0) 0)(t16:Pv.get 16 t= .int .i64 mid)(t18:Pv.get 18 t= .int .i64 i)(t22:Pv.get 22 t= .int .i64 e)(ar:l.length=n)(bq:a≤i∧i≤mid∧a≤m)(J:mid≤e)(U:e≤b)(ae:b≤n)(aR:b-mid≤d)(l9:mid-a≤d)(Sg:∀lk:List α,(∀k,lk[k]? =l[hO i m e k]?)→DE lt a i m e b mid lk)(hF:DN S g b5 lc b0 lt a b l Q):
  c0 al ob H5 Q ⟨t,(.loc 0,[.func g lc,.func b5 b0])::(S l).b,(S l).e,1,o⟩:=by
 unfold H5;have next:∀{lk t o},Pv.get 1 t= .int .i64 a→Pv.get 3 t= .int .i64 b→Pv.get 4 t= .ptr (.loc 0) 0→Pv.get 16 t= .int .i64 mid→Pv.get 18 t= .int .i64 i→Pv.get 22 t= .int .i64 e→lk.length=n→DE lt a i m e b mid lk→gk a b l lk→c0 al ob D6 Q ⟨t,(.loc 0,[.func g lc,.func b5 b0])::(S lk).b,(S lk).e,1,o⟩:=fun ak aC bj dd gW hI hZ eu adX=>alb H bN ak aC bj dd gW hI hZ bq J U ae aR l9 eu fun gy t o a6 bB=>hF gy t o (adX.trans a6) bB
 by_cases o7:i<m∧m<e
 ·simp[t2,t4,t18,t22,o7.1,o7.2,Pv.look];simp only[ib H,H.slc,H.ssc,h5];refine H.doFn ar (ads H l ar i m e o7.1 o7.2 (by omega)) (fun aX h=>by rw[h.1.length];exact ar) (by simp[aG,aB,H.kdata ar]) ?_;rintro lk ⟨a6,bB⟩;simp;exact next (by simp[t1]) (by simp[t3]) (by simp[t4]) (by simp[t16]) (by simp[t18]) (by simp[t22]) (by rw[a6.length];exact ar) (Sg lk bB) (a6.mono (by omega) (by omega))
 ·have eu:=Sg l (fun k=>by
   congr 1;simp only[hO];repeat' split
   all_goals omega)
  by_cases me:i<m
  ·have ae4:¬m<e:=by omega
   simp[t2,t18,t22,me,ae4];exact next (by simp[t1]) (by simp[t3]) (by simp[t4]) (by simp[t16]) (by simp[t18]) (by simp[t22]) ar eu (.refl _)
  ·simp[t2,t18,me];exact next (by simp[t1]) (by simp[t3]) (by simp[t4]) (by simp[t16]) (by simp[t18]) (by simp[t22]) ar eu (.refl _)
theorem Wk{bb:List (aD×List ah)}(H:e1 S n g b5 lc b0 lt)(vg:Pv.look (.loc 0) bb=some [.func g lc,.func b5 b0])(cN:∀k cs,Pv.look k (S l).b=some cs→Pv.look k bb=some cs)(bA:p9 lt)(bN:DM S n g b5 lc b0 lt d){s0 r0:Nat}(t1:Pv.get 1 t= .int .i64 a)(t2:Pv.get 2 t= .int .i64 m)(t3:Pv.get 3 t= .int .i64 b)(t4:Pv.get 4 t= .ptr (.loc 0) 0)(t16:Pv.get 16 t= .int .i64 mid)(t17:Pv.get 17 t= .int .i64 ((mid:Int)+m))(t18:Pv.get 18 t= .int .i64 s0)(t19:Pv.get 19 t= .int .i64 r0)(ar:l.length=n)(bq:a<m∧m<b∧mid=(a+b)/2)(J:mid<m∧s0=mid+m-b∧r0=mid∨m≤mid∧s0=a∧r0=m)(ae:b≤n)(aR:b-a≤d+1)(kj:e7 lt a m l)(o8:e7 lt m b l)(hF:DN S g b5 lc b0 lt a b l Q):
  c0 al (cW (S l)) H6 Q ⟨t,bb,(S l).e,1,o⟩:=by
 have hle:=H.le;unfold H6;simp[t17];(with_reducible repeat' first|refine aj ?_|simp[t17]);refine n3 (fun(x:Nat×Nat)=>⟨[(1,.int .i64 a),(2,.int .i64 m),(3,.int .i64 b),(4,.ptr (.loc 0) 0),(16,.int .i64 mid),(17,.int .i64 (mid+m)),(20,.int .i64 (mid+m-1)),(18,.int .i64 x.1),(19,.int .i64 x.2)],(.loc 0,[.func g lc,.func b5 b0])::(S l).b,(S l).e,1,cW (S l)⟩) (fun x=>x.2-x.1)
  (aly lt l mid m s0 r0) (s0,r0) (H.weak ar ar (by simp[aB,t1,t2,t3,t4,t16,t17,t18,t19]) vg cN fun _ _ h=>h) ⟨by simp,by simp;omega,by simp,.inl rfl,.inl rfl⟩ ?_
 rintro⟨i,j⟩ ⟨aZ,bI,ck,eK,c8⟩ _;simp only at aZ bI ck eK c8;have oi:=EH i j (by omega);by_cases lN:i<j
 ·simp[lN];(with_reducible repeat' first|refine aj ?_|simp[Pv.look]);obtain⟨c,aw⟩:∃c,c=(i+j)/2:=⟨_,rfl⟩;rw[←aw]at oi;simp only[oi];(with_reducible repeat' first|refine aj ?_|simp[Pv.look]);obtain⟨u,JV⟩:∃u,l[c]? =some u:=⟨_,cf (by omega)⟩;obtain⟨v,JW⟩:∃v,l[mid+m-1-c]? =some v:=⟨_,cf (by omega)⟩;have dd:((mid:Int)+m-1-c)=(mid+m-1-c:Nat):=by omega
  simp only[H.slc,dd];refine H.doLess ar (mid+m-1-c) c JW JV ?_;simp;cases rv:lt v u with
  |false=>simp;(with_reducible repeat' first|refine aj ?_|simp);refine bO.whl (c+1,j) (by simp;omega) ⟨by simp;omega,by simp;omega,ck,.inr ⟨u,v,by simpa using JV,?_,rv⟩,c8⟩ (H.weakC ar ar (by simp[aB]));simp only;rw[show mid+m-(c+1)=mid+m-1-c by omega];exact JW
  |true=>simp;(with_reducible repeat' first|refine aj ?_|simp);refine bO.whl (i,c) (by simp;omega) ⟨aZ,by simp;omega,by simp;omega,eK,.inr ⟨u,v,JV,?_,rv⟩⟩ (H.weakC ar ar (by simp[aB]));simp only;rw[show mid+m-c-1=mid+m-1-c by omega];exact JW
 ·obtain rfl:i=j:=by omega
  obtain⟨e,he⟩:∃e,e=mid+m-i:=⟨_,rfl⟩;have gW:((mid:Int)+m-i)=(e:Nat):=by omega
  have bG:i=a∨e=b∨ ∃x y,l[i-1]? =some x∧l[e]? =some y∧lt y x=false:=by
   rcases eK with eK|⟨u,v,a6,bB,bS⟩
   ·omega
   ·exact .inr (.inr ⟨u,v,a6,by rw[he];exact bB,bS⟩)
  have ch:i=m∨e=m∨ ∃x y,l[i]? =some x∧l[e-1]? =some y∧lt y x=true:=by
   rcases c8 with c8|⟨u,v,a6,bB,bS⟩
   ·omega
   ·exact .inr (.inr ⟨u,v,a6,by rw[he];exact bB,bS⟩)
  simp[lN];(with_reducible repeat' first|refine aj ?_|simp);rw[gW];exact alc H bN (a:=a) (m:=m) (b:=b) (mid:=mid) (i:=i) (e:=e) (by simp) (by simp) (by simp) (by simp) (by simp) (by simp) (by simp) ar (by omega) (by omega) (by omega) ae (by omega) (by omega) (fun lk aK=>agT bA (by omega) (by omega) (by omega) (by omega) (by omega) (by omega) kj o8 bG ch aK) hF
end
theorem Rr(H:e1 S n g b5 lc b0 lt)(bA:p9 lt)(d:Nat):∀(l:List α) (a m b:Nat),l.length=n→b-a≤d→a<m→m<b→b≤n→e7 lt a m l→e7 lt m b l→
  bF al 277 [eS g b5 lc b0,.int .i64 a,.int .i64 m,.int .i64 b] (S l) fun r ai=>r= .tuple []∧∃aX,ai=S aX∧gk a b l aX∧e7 lt a b aX:=by
 induction d with
 |zero=>intro l a m b ar aR BE vq;omega
 |succ d bN=>
 intro l a m b ar aR BE vq ae kj o8;have ag:=H.ok l;have aA:∀l m,Pv.look (.loc m) (S l).b=none:=fun l=>(H.ok l).obj.1;have hu:∀l m cs,cw (.loc m) cs (S l).b=(S l).b++[(.loc m,cs)]:=fun l m cs=>jB (aA l m);have av:∀m,aD.loc m∉cW (S l):=jx ag.obj;have hle:=H.le;refine bF.mk mixed AK ab4 aiH (by simp) ag.obj fun aQ cN=>?_;unfold Pr;simp[eS,hu,av,cD,aA];(with_reducible repeat' first|((first|apply bR|apply bU|apply bT)<;>intro h<;>try simp at h)|refine aj ?_|simp[hu,av,cD,aA])
 ·obtain rfl:m=a+1:=by omega
  have JJ:∀k,hO a (a+1) (a+1) k=k:=by
   intro k;simp only[hO];repeat' split
   all_goals omega
  obtain⟨z,bE⟩:∃z,l[a]? =some z:=⟨_,cf (by omega)⟩;refine n3 (fun(x:Nat×Nat)=>⟨[(1,.int .i64 a),(4,.ptr (.loc 0) 0),(8,.int .i64 x.1),(9,.int .i64 x.2)],(.loc 0,[.func g lc,.func b5 b0])::(S l).b,(S l).e,1,cW (S l)⟩) (fun x=>x.2-x.1)
   (fun x=>a+1≤x.1∧x.1≤x.2∧x.2≤b∧(∀h y,a+1≤h→h<x.1→l[h]? =some y→lt y z=true)∧(∀h y,x.2≤h→h<b→l[h]? =some y→lt y z=false)) (a+1,b)
   (H.weak ar ar (by simp[aB]) (by simp[cD,aA]) aO aO) ⟨by simp,by simp;omega,by simp,fun h y J U=>by simp at U;omega,fun h y J U=>by simp at J;omega⟩ ?_
  rintro⟨i,j⟩ ⟨aZ,bI,ck,eK,c8⟩ _;simp only at aZ bI ck eK c8;have hw:=EH i j (by omega);simp[Pv.look];(with_reducible repeat' first|((first|apply bR|apply bU|apply bT)<;>intro h<;>try simp at h)|refine aj ?_|simp[Pv.look])
  ·obtain⟨c,aw⟩:∃c,c=(i+j)/2:=⟨_,rfl⟩;rw[←aw]at hw;obtain⟨y,aM⟩:∃y,l[c]? =some y:=⟨_,cf (by omega)⟩;simp only[hw,H.slc];refine H.doLess ar c a aM bE ?_;simp;cases rv:lt y z with
   |true=>
    simp;(with_reducible repeat' first|refine aj ?_|simp);refine bO.whl (c+1,j) (by simp;omega) ⟨by simp;omega,by simp;omega,ck,fun h u J U hu=>?_,c8⟩ (H.weakC ar ar (by simp[aB]));cases e:lt u z with
    |true=>rfl
    |false=>simp only at U;have:=bA.ntr _ _ _ e (e7.le bA o8 J (by omega) (by omega) hu aM);rw[rv]at this;cases this
   |false=>simp;(with_reducible repeat' first|refine aj ?_|simp);refine bO.whl (i,c) (by simp;omega) ⟨aZ,by simp;omega,by simp;omega,eK,fun h u J U hu=>?_⟩ (H.weakC ar ar (by simp[aB]));exact bA.ntr _ _ _ rv (e7.le bA o8 (by omega) J U aM hu)
  ·obtain rfl:i=j:=by omega
   refine n3 (fun(x:Nat×List α)=>⟨[(4,.ptr (.loc 0) 0),(8,.int .i64 i),(11,.int .i64 x.1)],(.loc 0,[.func g lc,.func b5 b0])::(S x.2).b,(S x.2).e,1,cW (S l)⟩) (fun x=>i-x.1)
    (fun x=>x.2.length=n∧a≤x.1∧x.1<i∧gk a b l x.2∧∀k,x.2[k]? =l[hO a (a+1) (x.1+1) k]?) (a,l)
    (H.weakC ar ar (by simp[aB])) ⟨ar,by simp,by simp;omega,.refl _,fun k=>by simp[JJ]⟩ ?_
   rintro⟨k,lk⟩ ⟨a6,bB,bS,c1,c9⟩ _;simp only at a6 bB bS c1 c9;simp[Pv.look];((with_reducible repeat' first|refine aj ?_|simp[Pv.look]|((first|apply bR|apply bU|apply bT)<;>intro h<;>try simp at h))<;>(try exact cv))
   ·have bj:((k:Int)+1)=(k+1:Nat):=by omega
    rw[H.ssc,bj];refine H.doSwap a6 k (k+1) (by omega) (by omega) (by omega) ?_;simp;(with_reducible repeat' first|((first|apply bR|apply bU|apply bT)<;>intro h<;>try simp at h)|refine aj ?_|simp);refine bO.whl (k+1,hb lk k (k+1)) (by simp;omega) ⟨by simp[a6],by simp;omega,by simp;omega,.step c1 (by omega) (by omega) (by omega) (by omega) (by omega) (by omega),fun t=>?_⟩ (H.weakC ar (by simp[a6]) (by simp[aB]));rw[zM _ _ _ _ (by omega) (by omega),c9,c9,c9];have:hO a (a+1) (k+1+1) t=if t=k then hO a (a+1) (k+1) (k+1)else if t=k+1 then hO a (a+1) (k+1) k else hO a (a+1) (k+1) t:=by
     simp only[hO];repeat' split
     all_goals omega
    rw[this];split
    ·rfl
    ·split<;>rfl
   ·obtain rfl:i=k+1:=by omega
    refine H.ret ar a6 (.inl rfl) ⟨rfl,lk,rfl,c1,agJ bA (by omega) ck (by omega) o8 bE eK c8 c9⟩
 ·obtain rfl:b=m+1:=by omega
  have JJ:∀k,hO m m (m+1) k=k:=by
   intro k;simp only[hO];repeat' split
   all_goals omega
  obtain⟨z,bE⟩:∃z,l[m]? =some z:=⟨_,cf (by omega)⟩;refine n3 (fun(x:Nat×Nat)=>⟨[(2,.int .i64 m),(4,.ptr (.loc 0) 0),(12,.int .i64 x.1),(13,.int .i64 x.2)],(.loc 0,[.func g lc,.func b5 b0])::(S l).b,(S l).e,1,cW (S l)⟩) (fun x=>x.2-x.1)
   (fun x=>a≤x.1∧x.1≤x.2∧x.2≤m∧(∀h y,a≤h→h<x.1→l[h]? =some y→lt z y=false)∧(∀h y,x.2≤h→h<m→l[h]? =some y→lt z y=true)) (a,m)
   (H.weak ar ar (by simp[aB]) (by simp[cD,aA]) aO aO) ⟨by simp,by simp;omega,by simp,fun h y J U=>by simp at U;omega,fun h y J U=>by simp at J;omega⟩ ?_
  rintro⟨i,j⟩ ⟨aZ,bI,ck,eK,c8⟩ _;simp only at aZ bI ck eK c8;have hw:=EH i j (by omega);simp[Pv.look];(with_reducible repeat' first|((first|apply bR|apply bU|apply bT)<;>intro h<;>try simp at h)|refine aj ?_|simp[Pv.look])
  ·obtain⟨c,aw⟩:∃c,c=(i+j)/2:=⟨_,rfl⟩;rw[←aw]at hw;obtain⟨y,aM⟩:∃y,l[c]? =some y:=⟨_,cf (by omega)⟩;simp only[hw,H.slc];refine H.doLess ar m c bE aM ?_;simp;cases rv:lt z y with
   |false=>simp;((with_reducible repeat' first|refine aj ?_|simp|((first|apply bR|apply bU|apply bT)<;>intro h<;>try simp at h))<;>(try exact cv));refine bO.whl (c+1,j) (by simp;omega) ⟨by simp;omega,by simp;omega,ck,fun h u J U hu=>?_,c8⟩ (H.weakC ar ar (by simp[aB]));simp only at U;exact bA.ntr _ _ _ (e7.le bA kj J (by omega) (by omega) hu aM) rv
   |true=>
    simp;((with_reducible repeat' first|refine aj ?_|simp|((first|apply bR|apply bU|apply bT)<;>intro h<;>try simp at h))<;>(try exact cv));refine bO.whl (i,c) (by simp;omega) ⟨aZ,by simp;omega,by simp;omega,eK,fun h u J U hu=>?_⟩ (H.weakC ar ar (by simp[aB]));cases e:lt z u with
    |true=>rfl
    |false=>have:=bA.ntr _ _ _ (e7.le bA kj (by omega) J U aM hu) e;rw[rv]at this;cases this
  ·obtain rfl:i=j:=by omega
   refine n3 (fun(x:Nat×List α)=>⟨[(4,.ptr (.loc 0) 0),(12,.int .i64 i),(15,.int .i64 x.1)],(.loc 0,[.func g lc,.func b5 b0])::(S x.2).b,(S x.2).e,1,cW (S l)⟩) (fun x=>x.1)
    (fun x=>x.2.length=n∧i≤x.1∧x.1≤m∧gk a (m+1) l x.2∧∀k,x.2[k]? =l[hO x.1 m (m+1) k]?) (m,l)
    (H.weakC ar ar (by simp[aB])) ⟨ar,by simp;omega,by simp,.refl _,fun k=>by simp[JJ]⟩ ?_
   rintro⟨k,lk⟩ ⟨a6,bB,bS,c1,c9⟩ _;simp only at a6 bB bS c1 c9;simp[Pv.look];((with_reducible repeat' first|refine aj ?_|simp[Pv.look]|((first|apply bR|apply bU|apply bT)<;>intro h<;>try simp at h))<;>(try exact cv))
   ·have bj:((k:Int)-1)=(k-1:Nat):=by omega
    rw[H.ssc,bj];refine H.doSwap a6 k (k-1) (by omega) (by omega) (by omega) ?_;simp;(with_reducible repeat' first|refine aj ?_|simp);refine bO.whl (k-1,hb lk k (k-1)) (by simp;omega) ⟨by simp[a6],by simp;omega,by simp;omega,.step c1 (by omega) (by omega) (by omega) (by omega) (by omega) (by omega),fun t=>?_⟩ (H.weakC ar (by simp[a6]) (by simp[aB];omega));rw[zM _ _ _ _ (by omega) (by omega),c9,c9,c9];have:hO (k-1) m (m+1) t=if t=k then hO k m (m+1) (k-1)else if t=k-1 then hO k m (m+1) k else hO k m (m+1) t:=by
     simp only[hO];repeat' split
     all_goals omega
    rw[this];split
    ·rfl
    ·split<;>rfl
   ·obtain rfl:i=k:=by omega
    refine H.ret ar a6 (.inl rfl) ⟨rfl,lk,rfl,c1,agK bA (by omega) ck (by omega) kj bE eK c8 c9⟩
 ·obtain⟨mid,Jw⟩:∃mid,mid=(a+b)/2:=⟨_,rfl⟩;have hw:=EH a b (by omega);rw[←Jw]at hw;simp only[hw];(with_reducible repeat' first|((first|apply bR|apply bU|apply bT)<;>intro h<;>try simp at h)|refine aj ?_|simp[hu,av,cD,aA])
  ·exact Wk (s0:=mid+m-b) (r0:=mid) H (by simp[cD,aA]) aO bA bN (a:=a) (m:=m) (b:=b) (mid:=mid) (by simp) (by simp) (by simp) (by simp) (by simp) (by simp) (by simp;omega) (by simp) ar ⟨BE,vq,Jw⟩ (by omega) ae aR kj o8 fun gy t o a6 bB=>H.ret ar (by rw[a6.length];exact ar) (.inr rfl) ⟨rfl,gy,rfl,a6,bB⟩
  ·exact Wk (s0:=a) (r0:=m) H (by simp[cD,aA]) aO bA bN (a:=a) (m:=m) (b:=b) (mid:=mid) (by simp) (by simp) (by simp) (by simp) (by simp) (by simp) (by simp) (by simp) ar ⟨BE,vq,Jw⟩ (by omega) ae aR kj o8 fun gy t o a6 bB=>H.ret ar (by rw[a6.length];exact ar) (.inr rfl) ⟨rfl,gy,rfl,a6,bB⟩
end Go.Proofs.YtohaalphocaebaaGreat
namespace Go.Proofs.YtohaalphocaebaaGreat
open Go Go.Pv
variable {α:Type} {S:List α→cE} {n g b5:Nat} {lc b0:List ah} {lt:α→α→Bool}
def oM(lt:α→α→Bool)(z a b:Nat)(l:List α):Prop:= ∀i j x y,a≤i→i<j→j<b→i/z=j/z→l[i]? =some x→l[j]? =some y→lt y x=false
theorem oM.snoc{z q:Nat}(bE:0<z){l aX:List α}(h:oM lt z 0 (q*z) l){b:Nat}(ag:gk (q*z) b l aX)(U:e7 lt (q*z) b aX):oM lt z 0 b aX:=by
 intro i j x y hi lN af aR ad aM;by_cases R6:j<q*z
 ·rw[ag.out _ (.inl (by omega))]at ad;rw[ag.out _ (.inl R6)]at aM;exact h i j x y hi lN R6 aR ad aM
 ·have ao:q≤j/z:=(Nat.le_div_iff_mul_le bE).2 (by omega);have a7:q*z≤i:=(Nat.le_div_iff_mul_le bE).1 (by omega);exact U i j x y a7 lN af ad aM
theorem oM.srt{z q:Nat}(bE:0<z){l:List α}{a b:Nat}(h:oM lt z a b l){c:Nat}(aoZ:a≤q*z)(aw:c≤(q+1)*z)(ao1:c≤b):e7 lt (q*z) c l:=by intro i j x y hi lN af ad aM;have hl:i/z=q:=Nat.div_eq_of_lt_le hi (by omega);have pH:j/z=q:=Nat.div_eq_of_lt_le (by omega) (by omega);exact h i j x y (by omega) lN (by omega) (by omega) ad aM
theorem oM.after{z a b bn b2:Nat}{l aX:List α}(h:oM lt z a b l)(ag:gk a bn l aX)(bD:a≤bn)(ae:b2≤b):oM lt z bn b2 aX:=by intro i j x y hi lN af aR ad aM;rw[ag.out _ (.inr (by omega))]at ad;rw[ag.out _ (.inr (by omega))]at aM;exact h i j x y (by omega) lN (by omega) aR ad aM
theorem I1(H:e1 S n g b5 lc b0 lt)(bA:p9 lt)(l:List α)(ar:l.length=n):
  bF al 248 [eS g b5 lc b0,.int .i64 n] (S l) fun r ai=>r= .tuple []∧∃aX,ai=S aX∧gk 0 n l aX∧e7 lt 0 n aX:=by
 have ag:=H.ok l;have aA:∀l m,Pv.look (.loc m) (S l).b=none:=fun l=>(H.ok l).obj.1;have hu:∀l m cs,cw (.loc m) cs (S l).b=(S l).b++[(.loc m,cs)]:=fun l m cs=>jB (aA l m);have av:∀m,aD.loc m∉cW (S l):=jx ag.obj;have hle:=H.le;refine bF.mk mixed AK ab2 aiF (by simp) ag.obj fun aQ cN=>?_;unfold Pp;simp[eS,hu,av,cD,aA];refine n3 (fun(x:Nat×List α)=>⟨[(1,.int .i64 n),(2,.ptr (.loc 0) 0),(4,.int .i64 20),(5,.int .i64 (x.1*20)),(6,.int .i64 (x.1*20+20))],(.loc 0,[.func g lc,.func b5 b0])::(S x.2).b,(S x.2).e,1,cW (S l)⟩) (fun x=>n+20-x.1*20)
  (fun x=>x.2.length=n∧x.1*20≤n∧gk 0 n l x.2∧oM lt 20 0 (x.1*20) x.2) (0,l)
  (H.weak ar ar (by simp[aB]) (by simp[cD,aA]) aO aO) ⟨ar,by simp,.refl _,fun i j x y J U ao=>by simp at ao⟩ ?_
 rintro⟨q,lk⟩ ⟨J,U,ao,a7⟩ _;simp only at J U ao a7;simp[Pv.look];((with_reducible repeat' first|refine aj ?_|simp[Pv.look]|((first|apply bR|apply bU|apply bT)<;>intro h<;>try simp at h))<;>(try exact cv))
 ·have ak:((q:Int)*20)=(q*20:Nat):=by omega
  have aC:((q:Int)*20+20)=(q*20+20:Nat):=by omega
  simp only[ib H,H.slc,H.ssc,h5,aC];simp only[ak];refine H.doFn J (Rj H bA lk J (q*20) (q*20+20) (by omega) (by omega)) (fun aX h=>by rw[h.1.length];exact J) (by simp[aG,aB,H.kdata J]) ?_;rintro aX ⟨cU,ds⟩;have sB:aX.length=n:=by rw[cU.length];exact J
  simp;((with_reducible repeat' first|refine aj ?_|simp|((first|apply bR|apply bU|apply bT)<;>intro h<;>try simp at h))<;>(try exact cv));refine bO.whl (q+1,aX) (by simp;omega) ⟨sB,by simp;omega,ao.trans (cU.mono (by omega) (by omega)),?_⟩ (H.weakC ar sB (by simp[aB];omega));have:=a7.snoc (by omega) cU ds;rwa[show q*20+20=(q+1)*20 by omega]at this
 ·have ak:((q:Int)*20)=(q*20:Nat):=by omega
  simp only[ib H,H.slc,H.ssc,h5,ak];refine H.doFn J (Rj H bA lk J (q*20) n (by omega) (by omega)) (fun aX h=>by rw[h.1.length];exact J) (by simp[aG,aB,H.kdata J]) ?_;rintro aX ⟨cU,ds⟩;have sB:aX.length=n:=by rw[cU.length];exact J
  have fA:=a7.snoc (by omega) cU ds;simp;refine n3 (fun(x:Nat×List α)=>⟨[(1,.int .i64 n),(2,.ptr (.loc 0) 0),(4,.int .i64 x.1)],(.loc 0,[.func g lc,.func b5 b0])::(S x.2).b,(S x.2).e,1,cW (S l)⟩) (fun x=>1099511627776-x.1)
   (fun x=>x.2.length=n∧20≤x.1∧x.1≤2*n+20∧gk 0 n l x.2∧oM lt x.1 0 n x.2) (20,aX)
   (H.weakC ar sB (by simp[aB])) ⟨sB,by simp,by simp,ao.trans (cU.mono (by omega) (by omega)),fA⟩ ?_
  rintro⟨z,T1⟩ ⟨kJ,z2,z3,z4,z5⟩ _;simp only at kJ z2 z3 z4 z5;simp[Pv.look];((with_reducible repeat' first|refine aj ?_|simp[Pv.look]|((first|apply bR|apply bU|apply bT)<;>intro h<;>try simp at h))<;>(try exact cv))
  ·refine n3 (fun(x:Nat×List α)=>⟨[(1,.int .i64 n),(2,.ptr (.loc 0) 0),(4,.int .i64 z),(5,.int .i64 (x.1*(2*z):Nat)),(6,.int .i64 (x.1*(2*z)+2*z:Nat))],(.loc 0,[.func g lc,.func b5 b0])::(S x.2).b,(S x.2).e,1,cW (S l)⟩) (fun x=>n+2*z-x.1*(2*z))
    (fun x=>x.2.length=n∧x.1*(2*z)≤n∧gk 0 n l x.2∧oM lt (2*z) 0 (x.1*(2*z)) x.2∧oM lt z (x.1*(2*z)) n x.2) (0,T1)
    (H.weakC ar kJ (by simp[aB])) ⟨kJ,by simp,z4,fun i j x y J U ao=>by simp at ao,by simpa using z5⟩ ?_
   rintro⟨p,Cu⟩ ⟨ea,di,oD,mw,Dw⟩ _;simp only at ea di oD mw Dw;obtain⟨A,bh⟩:∃A,A=p*(2*z):=⟨_,rfl⟩;have ED:A=(2*p)*z:=by rw[bh,Nat.mul_comm 2 p,Nat.mul_assoc]
   have I6:(2*p+1)*z=A+z:=by rw[pw,←ED,Nat.one_mul]
   have adL:(2*p+2)*z=A+2*z:=by rw[pw,←ED]
   have y5:(p+1)*(2*z)=A+2*z:=by rw[pw,←bh,Nat.one_mul]
   have kj:∀c,c≤A+z→c≤n→e7 lt A c Cu:=fun c aw zc=>by have:=oM.srt (q:=2*p) (by omega) Dw (c:=c) (by rw[←ED,bh];omega) (by rw[I6];exact aw) zc;rwa[←ED]at this
   have o8:∀c,c≤A+2*z→c≤n→e7 lt (A+z) c Cu:=fun c aw zc=>by have:=oM.srt (q:=2*p+1) (by omega) Dw (c:=c) (by rw[I6,bh];omega) (by rw[adL];exact aw) zc;rwa[I6]at this
   rw[←bh]at di mw Dw;simp only[←bh];simp[Pv.look];((with_reducible repeat' first|refine aj ?_|simp[Pv.look]|((first|apply bR|apply bU|apply bT)<;>intro h<;>try simp at h))<;>(try exact cv))
   ·have bj:((A:Int)+z)=(A+z:Nat):=by omega
    have dd:((A:Int)+2*z)=(A+2*z:Nat):=by omega
    simp only[ib H,H.slc,H.ssc,h5,bj,dd];refine H.doFn ea (Rr H bA (A+2*z-A) Cu A (A+z) (A+2*z) ea (by omega) (by omega) (by omega) (by omega) (kj _ (by omega) (by omega)) (o8 _ (by omega) (by omega))) (fun aX h=>by rw[h.1.length];exact ea) (by simp[aG,aB,H.kdata ea]) ?_;rintro gy ⟨ks,oE⟩;have oc:gy.length=n:=by rw[ks.length];exact ea
    simp;(with_reducible repeat' first|refine aj ?_|simp);refine bO.whl (p+1,gy) (by simp only[y5,←bh];omega) ⟨oc,by simp only[y5];omega,oD.trans (ks.mono (by omega) (by omega)),?_,?_⟩ ?_
    ·simp only[y5];rw[bh]at mw ks oE;have:=mw.snoc (by omega) ks oE;rwa[←bh]at this
    ·simp only[y5];exact Dw.after ks (by omega) (by omega)
    ·simp only[y5];have adM:((p:Int)+1)*(2*(z:Int))=(A:Int)+2*z:=by have h:=eZ (Nat.cast:Nat→Int) y5;push_cast at h;exact h
     exact H.weakC ar oc (by simp[aB,adM])
   ·have bj:((A:Int)+z)=(A+z:Nat):=by omega
    simp only[ib H,H.slc,H.ssc,h5,bj];refine H.doFn ea (Rr H bA (n-A) Cu A (A+z) n ea (by omega) (by omega) (by omega) (by omega) (kj _ (by omega) (by omega)) (o8 _ (by omega) (by omega))) (fun aX h=>by rw[h.1.length];exact ea) (by simp[aG,aB,H.kdata ea]) ?_;rintro gy ⟨ks,oE⟩;have oc:gy.length=n:=by rw[ks.length];exact ea
    simp;((with_reducible repeat' first|refine aj ?_|simp|((first|apply bR|apply bU|apply bT)<;>intro h<;>try simp at h))<;>(try exact cv));refine bO.whl (2*z,gy) (by simp;omega) ⟨oc,by simp;omega,by simp;omega,oD.trans (ks.mono (by omega) (by omega)),?_⟩ (H.weakC ar oc (by simp[aB];omega));rw[bh]at mw ks oE;exact mw.snoc (by omega) ks oE
   ·refine bO.whl (2*z,Cu) (by simp;omega) ⟨ea,by simp;omega,by simp;omega,oD,?_⟩ (H.weakC ar ea (by simp[aB];omega));have bZ:=kj n (by omega) (by omega);rw[bh]at mw bZ;exact mw.snoc (by omega) (.refl _) bZ
  ·refine H.ret ar kJ (.inr rfl) ?_;refine⟨rfl,T1,rfl,z4,fun i j x y J U ao=>z5 i j x y J U ao ?_⟩;rw[Nat.div_eq_of_lt (by omega),Nat.div_eq_of_lt (by omega)]
end Go.Proofs.YtohaalphocaebaaGreat
namespace Go.Proofs.YtohaalphocaebaaGreat
open Go Go.Pv Go.Sort Go.RowKit
theorem aeY{w:World}{base:Nat}{e:fV}{sz:Nat}{v:Value}{n:Nat}{us:List Value}(h:w.ownsRow base e sz v n us)(aJ:v≠ .slice none 0 0):
  ∃g cap,v= .slice (some ⟨g,0,none⟩) n cap∧g<w.heap.size∧cap≤maxLen∧n≤cap∧us.length=n*sz∧Holds id w g 0 us.toArray:=by
 rcases h.2 with⟨e8,_⟩|⟨g,cap,cur,rfl,ae,a8,aA,hm,ag,aL⟩
 ·exact absurd e8 aJ
 ·have bA:g<w.heap.size:=by
   rcases Nat.lt_or_ge g w.heap.size with cr|cr
   ·exact cr
   ·rw[Array.getElem?_eq_none cr]at a8;cases a8
  refine⟨g,cap,rfl,bA,hm,aA,h.1,fun j af=>?_⟩;have jd:j<us.length:=by simpa using af
  have ar:=h.1;refine⟨?_,by simp[World.frozen?,a8]⟩;have ak:(cur.toList.take (n*sz))[j]? =us[j]?:=by rw[aL]
  rw[List.getElem?_take,if_pos (by omega),tg,cf jd]at ak;simp only[World.cell?,a8,Nat.zero_add];simp only[l0,gT,if_false];rw[ak];simp[getElem!_pos,jd]
theorem aji{w:World}{base:Nat}{e:fV}{sz g n cap q:Nat}{us:List Value}{F:Array Value}(h:w.ownsRow base e sz (.slice (some ⟨g,0,none⟩) n cap) n us)(gG:F.size=n*sz):
  (putRow id (Sort.ahead w q) g 0 F).ownsRow base e sz (.slice (some ⟨g,0,none⟩) n cap) n F.toList:=by
 rcases h.2 with⟨e8,_⟩|⟨fe,Ec,cur,e8,ae,a8,aA,hm,ag,aL⟩
 ·cases e8
 ·injection e8 with ak _ bj;injection ak with ak;injection ak with ak;subst ak;subst bj;refine⟨by simpa using gG,.inr ⟨g,cap,putCells id 0 F cur,rfl,ae,?_,aA,hm,by simpa[putCells]using ag,?_⟩⟩
  ·simp[putRow,mapBlock,Sort.ahead,Array.getElem?_modify,a8,onCells]
  ·have hle:n*sz≤cur.size:=by rw[ag];exact Nat.mul_le_mul_right _ aA
   apply List.ext_getElem?;intro j;rw[List.getElem?_take,tg,tg];by_cases af:j<n*sz
   ·have aew:j<cur.size:=by omega
    simp only[if_pos af,putCells,Array.getElem?_mapIdx,Array.getElem?_eq_getElem aew,nS];rw[if_pos (by omega)];simp[getElem!_pos,show j<F.size by omega]
   ·simp[af];omega
end Go.Proofs.YtohaalphocaebaaGreat
namespace Go.Pv
open Go Go.RowKit Go.Lib Go.Sort Go.Proofs.YtohaalphocaebaaGreat
theorem Tv{S:aD→Prop}:∀{l:List ah},aG S l↔∀x∈l,aB S x
 |[]=>by simp[aG]
 |x::r=>by simp only[aG,Tv (l:=r),fK,forall_eq_or_imp]
theorem Tn{α:Type}{s:cE}{l:List (aD×α)}:lU s l↔∀k,(look k l).isSome→inObs s k:=by
 refine⟨fun h k ab=>zG h k ab,fun h=>?_⟩;have:∀aX:List (aD×α),(∀x∈aX,inObs s x.1)→lU s aX:=by
  intro aX;induction aX with
  |nil=>intro _;trivial
  |cons x r bN=>obtain⟨k,x⟩:=x;exact fun h=>⟨h (k,x) (by simp),bN fun y aM=>h y (by simp[aM])⟩
 exact this l fun x ad=>h x.1 (um (x:=x.2) ad)
theorem LV{w:World}{ν:bd}{sz:Nat}:∀{xs:List ah} {us:List Value} {i:Nat} {p:ah},dx w ν sz xs us→xs[i]? =some p→∃u,(us.drop (i*sz)).take sz=u.cells.toList∧ba w ν p u∧u.cells.size=sz∧∀c∈u.cells.toList,c.oneCell'=true
 |[],_,_,_,_,bH=>by simp at bH
 |x::xs,us,0,p,h,bH=>by simp only[dx]at h;obtain⟨u,cj,rfl,⟨J,U,ao⟩,_⟩:=h;simp at bH;subst bH;refine⟨u,?_,J,U,ao⟩;simp only[Nat.zero_mul,List.drop_zero];rw[List.take_append_of_le_length (by simp[U])];exact hB (by simp[U])
 |x::xs,us,i+1,p,h,bH=>by simp only[dx]at h;obtain⟨u,cj,rfl,⟨J,U,ao⟩,bZ⟩:=h;obtain⟨v,ak,aC⟩:=LV (i:=i) bZ (by simpa using bH);refine⟨v,?_,aC⟩;rw[←ak,Nat.succ_mul,Nat.add_comm,←List.drop_drop];congr 2;rw[List.drop_append_of_le_length (by simp[U]),List.drop_of_length_le (by simp[U])];rfl
theorem Mb:∀(bc:List Value) (s:Nat) (F:Array Value),s+bc.length≤F.size→(setMany F s bc).toList=F.toList.take s++bc++F.toList.drop (s+bc.length)
 |[],s,F,h=>by simp[setMany]
 |v::r,s,F,h=>by
  simp only[oJ]at h;rw[setMany,Mb r (s+1) _ (by simp;omega)];have bA:s<F.toList.length:=by simp;omega
  have ak:(F.setIfInBounds s v).toList=F.toList.set s v:=by simp
  rw[ak];have aC:(F.toList.set s v).take (s+1)=F.toList.take s++[v]:=by rw[nR,List.getElem?_set_self bA,List.take_set_of_le (eV _)];simp
  have bj:(F.toList.set s v).drop (s+1+r.length)=F.toList.drop (s+(v::r).length):=by rw[List.drop_set_of_lt (by omega)];congr 1;simp;omega
  rw[aC,bj];simp
theorem Yf(w:World):Sort.ahead w 0=w:=by simp[Sort.ahead]
theorem Rq{P:cB}(w5:Bool)(b5:Nat)(ad:∀args W,(callFunc b5 args).run P W=((DC w5 args).run P W).andThen fun v w'=>.ok (.value v) w')(e:fV)(en:TypeInfo)(sy:P.info? e=some en)(w9:(∀w,(Go.isAgg e).run P w= .ok true w)∨(en.size=1∧∀w,(Go.isAgg e).run P w= .ok false w)){s:cE}(ag:dT s){K n el sz:Nat}(eh:en.size=sz){xs:List ah}(ab:look (.obj K) s.e=some ⟨n,el,sz,some xs⟩)
  (i j:Nat) (hi:i<n) (af:j<n):bF P b5 [.int .i64 i,.int .i64 j,.row sz (.obj K) n,.cst (typeHandle P e)] s fun r ai=>r= .tuple []∧ai=⟨s.b,cw (.obj K) ⟨n,el,sz,some (hb xs i j)⟩ s.e⟩:=by
 subst eh;refine bF.sem ag.obj fun w ν bc kE aK=>?_;right;have s0:=aK.slot 0;have s1:=aK.slot 1;have s2:=aK.slot 2;have s3:=aK.slot 3;simp[j2,get,ba]at s0 s1 s2 s3;obtain⟨v,us,a6,bB,bS,c1⟩:=aK.good.own (.obj K) _ ab;obtain⟨c9,nF,uA⟩:=c1 _ rfl;simp only at c9 nF a6 bB;obtain⟨⟨g0,YO,vg⟩,_,n',eQ,ak,aC,bj⟩:=s2;rw[a6]at ak;simp only[dE,jj]at ak;obtain⟨rfl,rfl⟩:=ak;have aJ:=bj rfl;have cF:v≠ .slice none 0 0:=by rw[←aJ,vg];simp
 obtain⟨g,cap,rfl,qq,rf,aeo,BL,BA⟩:=aeY bB cF;have afn:bc= #[.int .i64 i,.int .i64 j,.slice (some ⟨g,0,none⟩) n cap,typeHandle P e]:=by
  have J:bc.size=4:=by simpa using kE
  apply Array.ext (by simpa using J);intro t U ao;simp at ao;rcases(by omega:t=0∨t=1∨t=2∨t=3)with rfl|rfl|rfl|rfl
  ·simpa[Array.getD,J]using s0
  ·simpa[Array.getD,J]using s1
  ·simpa[Array.getD,J]using aJ
  ·simpa[Array.getD,J]using s3
 subst afn;obtain⟨p,bH⟩:∃p,xs[i]? =some p:=⟨_,cf (by omega)⟩;obtain⟨q,br⟩:∃q,xs[j]? =some q:=⟨_,cf (by omega)⟩;obtain⟨u,iM,ji,pZ,yo⟩:=LV nF bH;obtain⟨x,rY,yq,rZ,Hd⟩:=LV nF br;have Sh:i*en.size+en.size≤n*en.size:=by have:=Nat.mul_le_mul_right en.size (show i+1≤n from hi);rwa[pw,Nat.one_mul]at this
 have Si:j*en.size+en.size≤n*en.size:=by have:=Nat.mul_le_mul_right en.size (show j+1≤n from af);rwa[pw,Nat.one_mul]at this
 have cell:∀t v,us[t]? =some v→w.cell? ⟨g,t,none⟩=some v:=fun t v aL=>by obtain⟨J,U⟩:=fw.1 aL;have:=(BA t (by simpa using J)).1;simp at this;rw[this];simp[getElem!_pos,J,U]
 have Ex:∀t,t<n*en.size→w.frozen? ⟨g,t,none⟩=false:=fun t aL=>by have:=(BA t (by simpa[BL]using aL)).2;simpa using this
 have run:(DC w5 #[.int .i64 i,.int .i64 j,.slice (some ⟨g,0,none⟩) n cap,typeHandle P e]).run P w= .ok (.tuple #[]) ((w.setCells g (0+i*en.size) x.cells.toList).setCells g (0+j*en.size) u.cells.toList):=by
  rcases w9 with w9|⟨EB,w9⟩
  ·exact run_swap_cells (P:=P) w5 e en sy w9 g 0 n cap i j hi af u.cells.toList x.cells.toList (by simp[pZ]) (by simp[rZ]) yo Hd w
     (fun k v aJ=>by
      rw[←iM,List.getElem?_take]at aJ;split at aJ
      ·rw[List.getElem?_drop]at aJ;simpa using cell _ _ aJ
      ·cases aJ)
     (fun k v aJ=>by
      rw[←rY,List.getElem?_take]at aJ;split at aJ
      ·rw[List.getElem?_drop]at aJ;simpa using cell _ _ aJ
      ·cases aJ)
     (fun k ab=>by simpa using Ex (i*en.size+k) (by omega)) (fun k ab=>by simpa using Ex (j*en.size+k) (by omega))
  ·rw[EB]at iM pZ rY rZ⊢;obtain⟨Eh,Jg⟩:∃c,u.cells.toList=[c]:=List.length_eq_one_iff.1 (by simpa using pZ);obtain⟨oW,ln⟩:∃c,x.cells.toList=[c]:=List.length_eq_one_iff.1 (by simpa using rZ);rw[Jg]at iM yo⊢;rw[ln]at rY Hd⊢;simp only[World.setCells,Nat.mul_one]at iM rY⊢;have Rt:us[i]? =some Eh:=by have:=eZ (·[0]?) iM;simpa using this
   have Rv:us[j]? =some oW:=by have:=eZ (·[0]?) rY;simpa using this
   have:=run_swap_one (P:=P) w5 e en sy EB w9 g 0 n cap i j hi af Eh oW (yo Eh (by simp)) (Hd oW (by simp)) w (by simpa using cell i Eh Rt) (by simpa using cell j oW Rv) (by simpa using Ex i (by rw[EB];omega)) (by simpa using Ex j (by rw[EB];omega));simpa using this
 have afp:putRow id w g 0 us.toArray=w:=putRow_self id w g 0 _ BA;have afg:us.toArray.size=n*en.size:=by simpa using BL
 have E9:w.setCells g (0+i*en.size) x.cells.toList=putRow id w g 0 (setMany us.toArray (i*en.size) x.cells.toList):=by have J:=setCells_putRow w g 0 x.cells.toList (i*en.size) us.toArray (by simp[rZ,BL];exact Sh);rw[afp]at J;exact J
 obtain⟨h2,mK⟩:∃h2,h2=setMany us.toArray (i*en.size) x.cells.toList:=⟨_,rfl⟩;have adR:h2.toList=us.take (i*en.size)++x.cells.toList++us.drop (i*en.size+en.size):=by rw[mK,Mb _ _ _ (by simp[rZ,BL];exact Sh)];simp[rZ]
 have I8:h2.size=n*en.size:=by rw[mK,size_setMany];exact afg
 have oi:(w.setCells g (0+i*en.size) x.cells.toList).setCells g (0+j*en.size) u.cells.toList=putRow id w g 0 (setMany h2 (j*en.size) u.cells.toList):=by rw[E9,←mK,setCells_putRow w g 0 u.cells.toList (j*en.size) h2 (by simp[pZ,I8];exact Si)]
 obtain⟨ic,Bz⟩:∃ic,ic=setMany h2 (j*en.size) u.cells.toList:=⟨_,rfl⟩;have adS:ic.toList=h2.toList.take (j*en.size)++u.cells.toList++h2.toList.drop (j*en.size+en.size):=by rw[Bz,Mb _ _ _ (by simp[pZ,I8];exact Si)];simp[pZ]
 have adT:ic.size=n*en.size:=by rw[Bz,size_setMany];exact I8
 have dF:=Gw nF bH yq rZ Hd;rw[←adR]at dF;have fb:=Gw (i:=j) (q:=q) dF (by rw[List.getElem?_set];split;(rename_i e;subst e;rw[if_pos (by omega)]);exact br) ji pZ yo;rw[←adS]at fb;have B9:(xs.set i q).set j p=hb xs i j:=by simp[hb,bH,br]
 rw[B9]at fb;have hlen:(hb xs i j).length=n:=by simpa using c9
 have lq:=aji (q:=0) (F:=ic) bB adT;rw[Yf]at lq;obtain⟨ks,oE,_⟩:=aK.setRowM (w':=putRow id w g 0 ic) ab rfl a6 (bl:=g) rfl (v':= .slice (some ⟨g,0,none⟩) n cap) rfl (xs':=hb xs i j) (us:=ic.toList) (.inl ⟨hlen,rfl⟩) rfl rfl rfl
  (fun t aL=>by simp[putRow,mapBlock,Array.getElem?_modify,kL aL]) (by simp[putRow,mapBlock]) (by rw[hlen];exact lq) fb
 refine⟨.tuple #[],putRow id w g 0 ic,?_,?_⟩
 ·rw[ad,run,oi,←Bz];rfl
 ·have jc:∀k,inObs ⟨s.b,cw (.obj K) ⟨n,el,en.size,some (hb xs i j)⟩ s.e⟩ k↔inObs s k:=fun k=>by
   unfold inObs;simp only[iI];by_cases c7:aD.obj K=k
   ·subst c7;simp[ab]
   ·simp[c7]
  refine⟨_,_,_,_,.tuple [],⟨s.b,cw (.obj K) ⟨n,el,en.size,some (hb xs i j)⟩ s.e⟩,rfl,ks,by simp[ba,cP],Tn.2 fun k nx=>(jc k).2 (.inl nx),Tn.2 fun k nx=>(jc k).2 (.inr nx),fun k cs aw=>⟨aw,(jc k).2 (.inl (by simp at aw;simp[aw])),jH (fun k h=>(jc k).2 h) _ (ag.kb k cs aw)⟩,fun k o av=>⟨by simpa[hlen]using av,?_,fun ys aM=>?_⟩,⟨ag.obj.1,fun m=>?_⟩,by simp[aB,aG],rfl,rfl⟩
  ·exact(.inr (by simp at av;simp[av]))
  ·simp only[iI]at av;split at av
   ·cases av;simp only[dE]at aM;subst aM;have Sb:=ag.ke _ _ ab xs rfl;refine jH (fun k h=>(jc k).2 h) _ ?_;rw[Tv]at Sb⊢;exact fun z bE=>Sb z ((T0 xs i j).mem_iff.1 bE)
   ·exact jH (fun k h=>(jc k).2 h) _ (ag.ke k o av ys aM)
  ·simp only[iI];simp[ag.obj.2 m]
theorem Rp{P:cB}(w5:Bool)(b5:Nat)(ad:∀args W,(callFunc b5 args).run P W=((DC w5 args).run P W).andThen fun v w'=>.ok (.value v) w')(e:fV)(en:TypeInfo)(sy:P.info? e=some en)(w9:∀w,(Go.isAgg e).run P w= .ok true w){s:cE}(ag:dT s){K n el sz:Nat}(eh:en.size=sz){xs:List ah}(ab:look (.obj K) s.e=some ⟨n,el,sz,some xs⟩)
  (i j:Nat) (hi:i<n) (af:j<n):bF P b5 [.int .i64 i,.int .i64 j,.row sz (.obj K) n,.cst (typeHandle P e)] s fun r ai=>r= .tuple []∧ai=⟨s.b,cw (.obj K) ⟨n,el,sz,some (hb xs i j)⟩ s.e⟩:=Rq w5 b5 ad e en sy (.inl w9) ag eh ab i j hi af
end Go.Pv
namespace Go.Proofs.YtohaalphocaebaaGreat
open Go Go.RowKit Go.Lib Go.Sort Go.Pv
set_option maxRecDepth 100000 in
theorem ak5(t e:fV)(i en:TypeInfo)(hi:al.info? t=some i)(aR:i.desc= .slice e)(B2:al.packed t=false)(sy:al.info? e=some en)(ke:Nat)(tW:∀w,(XH e).run al w= .ok ke w)
  (p:aY Addr) (n c:Nat) (aA:n<4611686018427387904) (f:Nat) (aH:al.funcs.findIdx? (·.name== "internal/reflectlite" ++ ".Swapper$" ++toString (swapperK n en ke))=some f) (TW:Fn) (Cr qz:Array Value) (w:World) (R:World→Prop)
  (bH:Calls al 248 #[.agg #[.func TW Cr qz,.func (.func f) #[] (sliceBound al e en ke p n c)],.int .i64 n] ((w.alloc (.cells #[.slice p n c] t)).alloc (.cells #[typeHandle al t,.pointer (some ⟨w.heap.size,0,none⟩),.int .u64 151] 214)) fun e w'=>e= .returned (.tuple #[])∧R w'):
  Calls al 202 #[.iface t (.slice p n c),.func TW Cr qz] w fun e w'=>e= .returned (.tuple #[])∧R w':=by
 have aJ:=run_valueOf_slice (P:=al) t e i hi aR p n c w;have ag:=fun w=>run_swapper_slice (P:=al) t e i en hi aR sy ke tW p n c f aH w;have ar:=fun a w bD=>run_valueLen_slice (P:=al) t e i hi aR B2 a p n c w bD;unfold sliceBound at bH;generalize (if swapperK n en ke≤2 then(#[]:Array Value)else #[.slice p n c,typeHandle al e])=B at ag bH;have aer:al.globals.size=0:=by kernel_rfl
 simp only[typeHandle,aer]at aJ ar bH;have Ek:∀args w,(callFunc 248 args).run al w= .ok (.enter 248 args) w:=enters_of Tryz.func248 (by kernel_rfl) rfl;go_enter Tryz.func202,Tryz.ntmps202;go_wp2;rw[run_callFunc_extern Tryz.func206 (by kernel_rfl) (by kernel_rfl) (by kernel_rfl) (e:=fun args=>anv (args.getD 0 (.tuple #[]))) (by kernel_rfl),
  show Sem.run al ((fun args:Array Value=>anv (args.getD 0 (.tuple #[]))) #[.iface t (.slice p n c)]) w=_ from aJ]
 simp only[Result.andThen];rw[Oper.upon_value];go_wp2;rw[run_callFunc_extern Tryz.func207 (by kernel_rfl) (by kernel_rfl) (by kernel_rfl) (e:=as0 "internal/reflectlite" (anw "Swapper")) (by kernel_rfl),ag];simp only[Result.andThen];rw[Oper.upon_value];go_wp2;rw[run_callFunc_extern Tryz.func208 (by kernel_rfl) (by kernel_rfl) (by kernel_rfl) (e:=as2 (anw "reflectlite.Value.Len" 0) as1) (by kernel_rfl),
  ar _ _ (by simp)]
 simp only[Result.andThen];rw[Oper.upon_value];go_wp2_with (go_at_fn 248;refine bH.mono ?_;rintro e w' ⟨rfl,a1⟩);go_end0;exact⟨rfl,a1⟩
theorem _root_.Go.Pv.Good.prMono{pr CU:Nat→Prop}{w:World}{ν:bd}{b:List (aD×List ah)}{e:List (aD×fM)}(h:Pv.Good pr w ν b e)(bH:∀bl,pr bl→fx ν ⟨b,e⟩ bl→CU bl):Pv.Good CU w ν b e:=by
 refine⟨h.alt,fun k cs ab=>?_,h.inj,fun g o a8=>?_,h.oinj,h.obx,h.one,h.otr⟩
 ·obtain⟨bl,us,el,f1,f2,f3⟩:=h.box k cs ab;exact⟨bl,us,el,f1,bH bl f2 (.inl ⟨k,by simp[ab],f1⟩),f3⟩
 ·obtain⟨v,us,f1,f2,f3,f4⟩:=h.own g o a8;exact⟨v,us,f1,f2,fun bl ae=>⟨bH bl (f3 bl ae).1 (.inr ⟨g,o.n,v,by simp[a8],f1,ae⟩),(f3 bl ae).2⟩,f4⟩
theorem Rw(w:World)(gR gJ:Obj):w.grownBy ((w.alloc gR).alloc gJ) none:=by
 have J:w.heap.size≤(w.alloc gR).heap.size:=by simp
 have U:(w.alloc gR).heap.size≤((w.alloc gR).alloc gJ).heap.size:=by simp
 exact⟨rfl,rfl,rfl,j4 J U,fun k ab _=>(Below.heap_alloc _ gJ k (Nat.lt_of_lt_of_le ab J)).trans (Below.heap_alloc w gR k ab)⟩
def dO{α:Type}(e:α→ah)(K B el sz:Nat)(l:List α):cE:=⟨[(.obj B,[.row sz (.obj K) l.length])],[(.obj K,⟨l.length,el,sz,some (l.map e)⟩)]⟩
section
variable {α:Type} {e:α→ah} (he:∀S x,aB S (e x)) {K B el sz:Nat}
include he
theorem af8(S:aD→Prop)(l:List α):aG S (l.map e):=by
 induction l with
 |nil=>simp[aG]
 |cons x r bN=>simp only[gM,aG];exact⟨he S x,bN⟩
theorem wK(l:List α):dT (dO e K B el sz l):=by unfold dO;refine dT.of ⟨by intro m;simp[Pv.look],by intro m;simp[Pv.look]⟩ (by simp[aG,aB,inObs,Pv.look]) ?_;intro x ad xs gY;simp at ad;subst ad;simp at gY;subst gY;exact af8 he _ l
omit he in
theorem wL(l aX:List α):Same (dO e K B el sz l) (dO e K B el sz aX):=by
 refine⟨fun k=>?_,fun k=>?_⟩
 ·simp only[dO,Pv.look];split<;>rfl
 ·simp only[dO,Pv.look];split<;>rfl
theorem ac3(t:fV)(i en:TypeInfo)(hi:al.info? t=some i)(aR:i.desc= .slice el)(B2:al.packed t=false)(sy:al.info? el=some en)(ke:Nat)(tW:∀w,(XH el).run al w= .ok ke w)(sq:∀n,2≤n→swapperK n en ke=9)
  (g:Nat) (lt:α→α→Bool) (bA:p9 lt) (l:List α) (ar:l.length≤68719476736)
  (xo:∀aX:List α,aX.length=l.length→∀(i j:Nat) x y,aX[i]? =some x→aX[j]? =some y→bF al g [.int .i64 i,.int .i64 j,.ptr (.obj B) 0] (dO e K B el sz aX) fun r ai=>r= .bool (lt x y)∧ai=dO e K B el sz aX)
  (zv:∀aX:List α,aX.length=l.length→∀i j:Nat,i<l.length→j<l.length→bF al 257 [.int .i64 i,.int .i64 j,.row sz (.obj K) l.length,.cst (typeHandle al el)] (dO e K B el sz aX) fun r ai=>r= .tuple []∧ai=dO e K B el sz (hb aX i j)):
  bF al 202 [.iface t (.row sz (.obj K) l.length),.func g [.ptr (.obj B) 0]] (dO e K B el sz l) fun r ai=>r= .tuple []∧∃aX,ai=dO e K B el sz aX∧aX.Perm l∧aX.Pairwise fun x y=>lt y x=false:=by
 have BI:al.funcs.findIdx? (·.name== "internal/reflectlite" ++ ".Swapper$" ++toString 1)=some 249:=by kernel_rfl
 have tR:al.funcs.findIdx? (·.name== "internal/reflectlite" ++ ".Swapper$" ++toString 2)=some 250:=by kernel_rfl
 have Jl:al.funcs.findIdx? (·.name== "internal/reflectlite" ++ ".Swapper$" ++toString 9)=some 257:=by kernel_rfl
 have JP:∃f b0,al.funcs.findIdx? (·.name== "internal/reflectlite" ++ ".Swapper$" ++toString (swapperK l.length en ke))=some f∧(b0=(if swapperK l.length en ke≤2 then []else [ah.row sz (.obj K) l.length,.cst (typeHandle al el)]))∧
   bF al 248 [eS g f [.ptr (.obj B) 0] b0,.int .i64 l.length] (dO e K B el sz l) fun r ai=>r= .tuple []∧∃aX,ai=dO e K B el sz aX∧gk 0 l.length l aX∧e7 lt 0 l.length aX:=by
  have eX:=fun aX=>wK (K:=K) (B:=B) (el:=el) (sz:=sz) he aX;rcases(by omega:l.length=0∨l.length=1∨2≤l.length)with bq|J|U
  ·refine⟨249,[],by rw[bq];exact BI,by rw[bq];rfl,I1 (lt:=lt) ⟨eX,fun iH gy _ _=>wL iH gy,fun aX _=>by simp[aG,aB,inObs,dO,Pv.look],fun aX _=>by simp[aG],by simp[dm,cY],rfl,ar,fun aX h=>xo aX h,fun aX _ U i j hi=>by omega⟩ bA l rfl⟩
  ·refine⟨250,[],by rw[J];exact tR,by rw[J];rfl,I1 (lt:=lt) ⟨eX,fun iH gy _ _=>wL iH gy,fun aX _=>by simp[aG,aB,inObs,dO,Pv.look],fun aX _=>by simp[aG],by simp[dm,cY],rfl,ar,fun aX h=>xo aX h,fun aX _ U i j hi af=>by omega⟩ bA l rfl⟩
  ·refine⟨257,_,by rw[sq _ U];exact Jl,rfl,?_⟩;rw[sq _ U];simp only[show¬((9:Nat)≤2)from by decide,if_false];exact I1 (lt:=lt) ⟨eX,fun iH gy _ _=>wL iH gy,fun aX _=>by simp[aG,aB,inObs,dO,Pv.look],fun aX _=>by simp[aG,aB,inObs,dO,Pv.look],by simp[dm,cY],by simp[dm,cY],ar,fun aX h=>xo aX h,fun aX h _ i j hi af=>zv aX h i j hi af⟩ bA l rfl
 obtain⟨f,b0,aH,JL,cO⟩:=JP;intro w ν bc a8 ad aK;have pJ:=cT.start (wK he l).obj a8 ad aK;have JH:=aK;simp only[cP,ba]at aK;obtain⟨v0,vs1,hv0,⟨u,rfl,⟨b,cap,rfl⟩,eI,n',eQ,ak,aC,bj⟩,v1,vs2,hv1,⟨qz,rfl,qs⟩,rfl⟩:=aK;have kE:bc= #[.iface t (.slice (some ⟨b,0,none⟩) l.length cap),.func (.func g) #[] qz]:=by apply Array.ext';rw[hv0,hv1]
 subst kE;have qp:∃fn,al.funcs[(202:Nat)]? =some fn∧fn.body.isSome=true∧(fn.name== "runtime.NumGoroutine")=false:=⟨_,Tryz.func202,by kernel_rfl,by kernel_rfl⟩;refine .inl ⟨qp,?_⟩;obtain⟨di,oi⟩:∃di,di=(w.alloc (.cells #[.slice (some ⟨b,0,none⟩) l.length cap] t)).alloc (.cells #[typeHandle al t,.pointer (some ⟨w.heap.size,0,none⟩),.int .u64 151] 214):=⟨_,rfl⟩;have jF:w.grownBy di none:=by rw[oi];exact Rw _ _ _
 have JI:=pJ.grown jF;have kD:la w ν di ν:=⟨fun b o bh=>⟨bh,Ed jF (a8.alt b o bh)⟩,fun _ _ _ h=>h,fun _ n u _ h=>⟨n,u,h,.inl ⟨rfl,rfl⟩⟩,fun b o bh=>wh (jF.block b (a8.alt b o bh) (by simp)),fun _ _ _ _ h=>h⟩;have rf:Pv.Good (fx ν (dO e K B el sz l)) di ν (dO e K B el sz l).b (dO e K B el sz l).e:=JI.good.prMono fun bl _ h=>h;have kT:=GB kD JH;simp only[cP]at kT;obtain⟨a0,Yt,ss,B4,bC,Yu,kR,ae5,rfl⟩:=kT;simp at ss;obtain⟨rfl,rfl⟩:=ss;simp at kR;subst kR;have JK:ba di ν (.row sz (.obj K) l.length) (.slice (some ⟨b,0,none⟩) l.length cap):=by simp only[ba]at B4;obtain⟨u,hu,h⟩:=B4;simp at hu;obtain⟨_,rfl⟩:=hu;simp only[ba];exact h
 have qt:cP di ν b0 (sliceBound al el en ke (some ⟨b,0,none⟩) l.length cap).toList:=by
  unfold sliceBound;rw[JL];split
  ·simp[cP]
  ·simp only[cP];exact⟨_,_,rfl,JK,_,_,rfl,by simp[ba],rfl⟩
 have tN:cP di ν [eS g f [.ptr (.obj B) 0] b0,.int .i64 l.length] (#[.agg #[.func (.func g) #[] qz,.func (.func f) #[] (sliceBound al el en ke (some ⟨b,0,none⟩) l.length cap)],.int .i64 l.length]:Array Value).toList:=by simp only[cP,eS];refine⟨_,_,rfl,?_,_,_,rfl,by simp[ba],rfl⟩;simp only[ba,c4];exact⟨_,rfl,_,_,rfl,⟨⟨qz,rfl,GB kD qs⟩,rfl⟩,_,_,rfl,⟨⟨_,rfl,qt⟩,rfl⟩,rfl⟩
 have Ji:=cO di ν _ rf ad tN;have Ek:∀args w,(callFunc 248 args).run al w= .ok (.enter 248 args) w:=enters_of Tryz.func248 (by kernel_rfl) rfl;rcases Ji with⟨_,aw⟩|⟨v,w',aw,_⟩
 ·have Jv:=ak5 t el i en hi aR B2 sy ke tW (some ⟨b,0,none⟩) l.length cap (by omega) f aH (.func g) #[] qz w
   (fun w'=> ∃ai bo,(∃aX,ai=dO e K B el sz aX∧gk 0 l.length l aX∧e7 lt 0 l.length aX)∧Pv.Good (fun bl=>fx ν (dO e K B el sz l) bl∨di.heap.size≤bl) w' bo ai.b ai.e∧o2 bo ai∧iJ ai∧p8 ⟨di,ν,fx ν (dO e K B el sz l),0,cW (dO e K B el sz l)⟩ w' bo) (by
    rw[←oi];refine aw.mono ?_;rintro e w' ⟨v,r,ai,bo,rfl,⟨rfl,br⟩,vu,a7,bZ,c6,eg⟩;simp only[ba,cP]at vu;obtain⟨us,rfl,qv⟩:=vu;have:us= #[]:=by apply Array.ext';simpa using qv
    subst this;exact⟨rfl,ai,bo,br,a7,bZ,c6,eg⟩)
  refine Jv.mono ?_;rintro e w' ⟨rfl,ai,bo,⟨aX,rfl,E7,zu⟩,a7,bZ,c6,eg⟩;refine⟨.tuple #[],.tuple [],_,bo,rfl,⟨rfl,aX,rfl,E7.perm,?_⟩,by simp[ba,cP],a7.prMono fun bl h _=>?_,bZ,c6,⟨eg.os.trans jF.os,eg.tape.trans jF.tape,eg.output.trans jF.output,j4 jF.size eg.size,fun k ab hm=>?_,fun b o bh=>?_,fun b o bh=>?_,eg.obj,eg.obn,eg.row,eg.obr,eg.trd,fun k j b ae=>⟨(eg.trb k j b ae).1.imp id (fun h=>j4 jF.size h),(eg.trb k j b ae).2⟩,eg.trn,fun b o bh=>(eg.sh b o bh).trans (kD.sh b o bh)⟩⟩
  ·have xp:=E7.length;rw[←xp]at zu;exact zu.pairwise
  ·rcases h with h|h
   ·exact .inl h
   ·exact .inr (j4 jF.size h)
  ·rw[eg.block k (Nat.lt_of_lt_of_le ab jF.size) hm];exact jF.block k ab (by simp)
  ·obtain⟨aZ,bI⟩:=eg.keep b o bh;exact⟨aZ,bI.trans (kD.A b o bh).2⟩
  ·rcases eg.fresh b o bh with h|h|h
   ·exact .inl h
   ·exact .inr (.inl h)
   ·exact .inr (.inr (j4 jF.size h))
 ·rw[Ek]at aw;cases aw
end
end Go.Proofs.YtohaalphocaebaaGreat
namespace Go.Proofs
open Go.Shelf
def Tryz.lays6_ren:Go.Shelf.Ren:=⟨fun|6=>126|10=>206|11=>207|12=>208|13=>209|14=>210|24=>258|25=>259|26=>260|27=>261|28=>262|29=>263|30=>264|31=>265|32=>266|33=>267|34=>278|35=>279|36=>280|37=>281|38=>282|39=>285|n=>n,fun|20=>20|26=>160|35=>214|0=>0|37=>216|3=>3|41=>163|44=>222|49=>254|51=>256|4=>4|54=>259|53=>258|58=>246|5=>5|9=>9|60=>265|64=>269|66=>272|67=>273|17=>17|32=>211|33=>212|82=>300|12=>12|75=>293|76=>294|77=>295|78=>296|79=>297|80=>298|n=>n,fun|n=>n⟩
theorem Tryz.lays6:Go.Proofs.LaysGg.n6 al Tryz.lays6_ren:={
 mixed:=by kernel_rfl
 f6:=Tryz.func126.trans (eZ some (by kernel_rfl))
 f10:=Tryz.func206.trans (eZ some (by kernel_rfl))
 f11:=Tryz.func207.trans (eZ some (by kernel_rfl))
 f12:=Tryz.func208.trans (eZ some (by kernel_rfl))
 f13:=Tryz.func209.trans (eZ some (by kernel_rfl))
 f14:=Tryz.func210.trans (eZ some (by kernel_rfl))
 f24:=Tryz.func258.trans (eZ some (by kernel_rfl))
 f25:=Tryz.func259.trans (eZ some (by kernel_rfl))
 f26:=Tryz.func260.trans (eZ some (by kernel_rfl))
 f27:=Tryz.func261.trans (eZ some (by kernel_rfl))
 f28:=Tryz.func262.trans (eZ some (by kernel_rfl))
 f29:=Tryz.func263.trans (eZ some (by kernel_rfl))
 f30:=Tryz.func264.trans (eZ some (by kernel_rfl))
 f31:=Tryz.func265.trans (eZ some (by kernel_rfl))
 f32:=Tryz.func266.trans (eZ some (by kernel_rfl))
 f33:=Tryz.func267.trans (eZ some (by kernel_rfl))
 f34:=Tryz.func278.trans (eZ some (by kernel_rfl))
 f35:=Tryz.func279.trans (eZ some (by kernel_rfl))
 f36:=Tryz.func280.trans (eZ some (by kernel_rfl))
 f37:=Tryz.func281.trans (eZ some (by kernel_rfl))
 f38:=Tryz.func282.trans (eZ some (by kernel_rfl))
 f39:=Tryz.func285.trans (eZ some (by kernel_rfl))
 t0:=Tryz.underlying0
 a0:=Tryz.isAgg0
 z0:=Tryz.sizeOf0
 v0:=Tryz.zeroValue0
 i0:=by kernel_rfl
 t3:=Tryz.underlying3
 a3:=Tryz.isAgg3
 z3:=Tryz.sizeOf3
 v3:=Tryz.zeroValue3
 i3:=by kernel_rfl
 t4:=Tryz.underlying4
 a4:=Tryz.isAgg4
 z4:=Tryz.sizeOf4
 v4:=Tryz.zeroValue4
 i4:=by kernel_rfl
 t5:=Tryz.underlying5
 a5:=Tryz.isAgg5
 z5:=Tryz.sizeOf5
 v5:=Tryz.zeroValue5
 i5:=by kernel_rfl
 t9:=Tryz.underlying9
 a9:=Tryz.isAgg9
 z9:=Tryz.sizeOf9
 v9:=Tryz.zeroValue9
 i9:=by kernel_rfl
 t12:=Tryz.underlying12
 a12:=Tryz.isAgg12
 z12:=Tryz.sizeOf12
 v12:=Tryz.zeroValue12
 i12:=by kernel_rfl
 t17:=Tryz.underlying17
 a17:=Tryz.isAgg17
 z17:=Tryz.sizeOf17
 v17:=Tryz.zeroValue17
 i17:=by kernel_rfl
 t20:=Tryz.underlying20
 a20:=Tryz.isAgg20
 z20:=Tryz.sizeOf20
 v20:=Tryz.zeroValue20
 i20:=by kernel_rfl
 t26:=Tryz.underlying160
 a26:=Tryz.isAgg160
 z26:=Tryz.sizeOf160
 v26:=Tryz.zeroValue160
 i26:=by kernel_rfl
 t32:=Tryz.underlying211
 a32:=Tryz.isAgg211
 z32:=Tryz.sizeOf211
 v32:=Tryz.zeroValue211
 i32:=by kernel_rfl
 t33:=Tryz.underlying212
 a33:=Tryz.isAgg212
 z33:=Tryz.sizeOf212
 v33:=Tryz.zeroValue212
 i33:=by kernel_rfl
 t35:=Tryz.underlying214
 a35:=Tryz.isAgg214
 z35:=Tryz.sizeOf214
 v35:=Tryz.zeroValue214
 i35:=by kernel_rfl
 t37:=Tryz.underlying216
 a37:=Tryz.isAgg216
 z37:=Tryz.sizeOf216
 v37:=Tryz.zeroValue216
 i37:=by kernel_rfl
 t41:=Tryz.underlying163
 a41:=Tryz.isAgg163
 z41:=Tryz.sizeOf163
 v41:=Tryz.zeroValue163
 i41:=by kernel_rfl
 t44:=Tryz.underlying222
 a44:=Tryz.isAgg222
 z44:=Tryz.sizeOf222
 v44:=Tryz.zeroValue222
 i44:=by kernel_rfl
 t49:=Tryz.underlying254
 a49:=Tryz.isAgg254
 z49:=Tryz.sizeOf254
 v49:=Tryz.zeroValue254
 i49:=by kernel_rfl
 t51:=Tryz.underlying256
 a51:=Tryz.isAgg256
 z51:=Tryz.sizeOf256
 v51:=Tryz.zeroValue256
 i51:=by kernel_rfl
 t53:=Tryz.underlying258
 a53:=Tryz.isAgg258
 z53:=Tryz.sizeOf258
 v53:=Tryz.zeroValue258
 i53:=by kernel_rfl
 t54:=Tryz.underlying259
 a54:=Tryz.isAgg259
 z54:=Tryz.sizeOf259
 v54:=Tryz.zeroValue259
 i54:=by kernel_rfl
 t58:=Tryz.underlying246
 a58:=Tryz.isAgg246
 z58:=Tryz.sizeOf246
 v58:=Tryz.zeroValue246
 i58:=by kernel_rfl
 t60:=Tryz.underlying265
 a60:=Tryz.isAgg265
 z60:=Tryz.sizeOf265
 v60:=Tryz.zeroValue265
 i60:=by kernel_rfl
 t64:=Tryz.underlying269
 a64:=Tryz.isAgg269
 z64:=Tryz.sizeOf269
 v64:=Tryz.zeroValue269
 i64:=by kernel_rfl
 t66:=Tryz.underlying272
 a66:=Tryz.isAgg272
 z66:=Tryz.sizeOf272
 v66:=Tryz.zeroValue272
 i66:=by kernel_rfl
 t67:=Tryz.underlying273
 a67:=Tryz.isAgg273
 z67:=Tryz.sizeOf273
 v67:=Tryz.zeroValue273
 i67:=by kernel_rfl
 t75:=Tryz.underlying293
 a75:=Tryz.isAgg293
 z75:=Tryz.sizeOf293
 v75:=Tryz.zeroValue293
 i75:=by kernel_rfl
 t76:=Tryz.underlying294
 a76:=Tryz.isAgg294
 z76:=Tryz.sizeOf294
 v76:=Tryz.zeroValue294
 i76:=by kernel_rfl
 t77:=Tryz.underlying295
 a77:=Tryz.isAgg295
 z77:=Tryz.sizeOf295
 v77:=Tryz.zeroValue295
 i77:=by kernel_rfl
 t78:=Tryz.underlying296
 a78:=Tryz.isAgg296
 z78:=Tryz.sizeOf296
 v78:=Tryz.zeroValue296
 i78:=by kernel_rfl
 t79:=Tryz.underlying297
 a79:=Tryz.isAgg297
 z79:=Tryz.sizeOf297
 v79:=Tryz.zeroValue297
 i79:=by kernel_rfl
 t80:=Tryz.underlying298
 a80:=Tryz.isAgg298
 z80:=Tryz.sizeOf298
 v80:=Tryz.zeroValue298
 i80:=by kernel_rfl
 t82:=Tryz.underlying300
 a82:=Tryz.isAgg300
 z82:=Tryz.sizeOf300
 v82:=Tryz.zeroValue300
 i82:=by kernel_rfl}
end Go.Proofs
namespace Go.Proofs.YtohaalphocaebaaGreat
open Go Go.RowKit Go.Lib Go.Pv Go.Proofs
theorem YC(n:Nat)(h:n<1099511627776):Lib.bitLen n≤1000:=by
 have:∀f x,bitLenAux f x≤f:=by
  intro f;induction f with
  |zero=>intro x;simp[bitLenAux]
  |succ f bN=>
   intro x;rw[bitLenAux];split
   ·omega
   ·have:=bN (x/2);omega
 have:=this 64 n;unfold Lib.bitLen;omega
theorem ajm{α:Type}[Inhabited α]{lt:α→α→Bool}{l:List α}{b9:Array α}(h:Sort.PermIn 0 l.length l.toArray b9)(ag:Sort.SortedIn lt 0 l.length b9):b9.toList.Perm l∧b9.toList.Pairwise fun x y=>lt y x=false:=by
 obtain⟨kJ,_,z3⟩:=h;have eh:b9.size=l.length:=by simpa using kJ
 have ak:b9.extract 0 l.length=b9:=by rw[←eh];simp
 have aC:l.toArray.extract 0 l.length=l.toArray:=by simp
 rw[ak,aC]at z3;refine⟨by simpa using z3,?_⟩;rw[pt];intro i j hi af lN;have J:=ag i j (by omega) lN (by simpa[eh]using af);have sx:i<b9.size:=by simpa using hi
 have jd:j<b9.size:=by simpa using af
 rw[getElem!_pos b9 i sx,getElem!_pos b9 j jd]at J;simpa using J
section
variable {α:Type} {e:α→ah} (he:∀S x,aB S (e x)) {K B el sz:Nat}
include he
theorem Rf[Inhabited α](RB:K≠901∧K≠902)(RA:B≠901∧B≠902)(t:fV)(i en:TypeInfo)(hi:al.info? t=some i)(aR:i.desc= .slice el)(B2:al.packed t=false)(sy:al.info? el=some en)(ke:Nat)(tW:∀w,(XH el).run al w= .ok ke w)(sq:∀n,2≤n→swapperK n en ke=9)
  (g:Nat) (lt:α→α→Bool) (bA:Sort.SWO lt) (l:List α) (ar:l.length≤68719476736)
  (xo:∀aX:List α,aX.length=l.length→∀(i j:Nat) x y,aX[i]? =some x→aX[j]? =some y→bF al g [.int .i64 i,.int .i64 j,.ptr (.obj B) 0] (dO e K B el sz aX) fun r ai=>r= .bool (lt x y)∧ai=dO e K B el sz aX)
  (zv:∀aX:List α,aX.length=l.length→∀i j:Nat,i<l.length→j<l.length→bF al 257 [.int .i64 i,.int .i64 j,.row sz (.obj K) l.length,.cst (typeHandle al el)] (dO e K B el sz aX) fun r ai=>r= .tuple []∧ai=dO e K B el sz (hb aX i j)):
  bF al 126 [.iface t (.row sz (.obj K) l.length),.func g [.ptr (.obj B) 0]] (dO e K B el sz l) fun r ai=>r= .tuple []∧∃aX,ai=dO e K B el sz aX∧aX.Perm l∧aX.Pairwise fun x y=>lt y x=false:=by
 have BI:al.funcs.findIdx? (·.name== "internal/reflectlite" ++ ".Swapper$" ++toString 1)=some 249:=by kernel_rfl
 have tR:al.funcs.findIdx? (·.name== "internal/reflectlite" ++ ".Swapper$" ++toString 2)=some 250:=by kernel_rfl
 have Jl:al.funcs.findIdx? (·.name== "internal/reflectlite" ++ ".Swapper$" ++toString 9)=some 257:=by kernel_rfl
 have xu:rH (dO e K B el sz) 901:=fun l=>⟨by simp[dO,Pv.look,RA.1],by simp[dO,Pv.look,RB.1]⟩;have xv:rH (dO e K B el sz) 902:=fun l=>⟨by simp[dO,Pv.look,RA.2],by simp[dO,Pv.look,RB.2]⟩;have fA:=YC l.length (by omega);have JP:∃f b0,al.funcs.findIdx? (·.name== "internal/reflectlite" ++ ".Swapper$" ++toString (swapperK l.length en ke))=some f∧(b0=(if swapperK l.length en ke≤2 then []else [ah.row sz (.obj K) l.length,.cst (typeHandle al el)]))∧
   bF al 210 [eS g f [.ptr (.obj B) 0] b0,.int .i64 0,.int .i64 l.length,.int .i64 (Lib.bitLen l.length)] (dO e K B el sz l) fun r ai=>r= .tuple []∧∃aX,ai=dO e K B el sz aX∧aX.Perm l∧aX.Pairwise fun x y=>lt y x=false:=by
  have eX:=fun aX=>wK (K:=K) (B:=B) (el:=el) (sz:=sz) he aX;have key:∀{b5:Nat} {b0:List ah},e1 (dO e K B el sz) l.length g b5 [.ptr (.obj B) 0] b0 lt→bF al 210 [eS g b5 [.ptr (.obj B) 0] b0,.int .i64 0,.int .i64 l.length,.int .i64 (Lib.bitLen l.length)] (dO e K B el sz l) fun r ai=>r= .tuple []∧∃aX,ai=dO e K B el sz aX∧aX.Perm l∧aX.Pairwise fun x y=>lt y x=false:=by intro b5 b0 H;have:=adn H xu xv bA l.length l.toArray (by simp) 0 l.length (Lib.bitLen l.length) (by omega) (by omega) (eV _) (by omega) (.inl rfl);simp only[Int.ofNat_zero,Int.natCast_zero,Int.cast_ofNat_Int]at this;refine bF.mono this ?_;rintro r ai ⟨a6,b9,bB,bS,c1⟩;obtain⟨cU,ds⟩:=ajm bS c1;exact⟨a6,b9.toList,bB,cU,ds⟩
  rcases(by omega:l.length=0∨l.length=1∨2≤l.length)with bq|J|U
  ·refine⟨249,[],by rw[bq];exact BI,by rw[bq];rfl,key ⟨eX,fun iH gy _ _=>wL iH gy,fun aX _=>by simp[aG,aB,inObs,dO,Pv.look],fun aX _=>by simp[aG],by simp[dm,cY],rfl,ar,fun aX h=>xo aX h,fun aX _ U i j hi=>by omega⟩⟩
  ·refine⟨250,[],by rw[J];exact tR,by rw[J];rfl,key ⟨eX,fun iH gy _ _=>wL iH gy,fun aX _=>by simp[aG,aB,inObs,dO,Pv.look],fun aX _=>by simp[aG],by simp[dm,cY],rfl,ar,fun aX h=>xo aX h,fun aX _ U i j hi af=>by omega⟩⟩
  ·refine⟨257,_,by rw[sq _ U];exact Jl,rfl,?_⟩;rw[sq _ U];simp only[show¬((9:Nat)≤2)from by decide,if_false];exact key ⟨eX,fun iH gy _ _=>wL iH gy,fun aX _=>by simp[aG,aB,inObs,dO,Pv.look],fun aX _=>by simp[aG,aB,inObs,dO,Pv.look],by simp[dm,cY],by simp[dm,cY],ar,fun aX h=>xo aX h,fun aX h _ i j hi af=>zv aX h i j hi af⟩
 obtain⟨f,b0,aH,JL,cO⟩:=JP;intro w ν bc a8 ad aK;have pJ:=cT.start (wK he l).obj a8 ad aK;have JH:=aK;simp only[cP,ba]at aK;obtain⟨v0,vs1,hv0,⟨u,rfl,⟨b,cap,rfl⟩,eI,n',eQ,ak,aC,bj⟩,v1,vs2,hv1,⟨qz,rfl,qs⟩,rfl⟩:=aK;have kE:bc= #[.iface t (.slice (some ⟨b,0,none⟩) l.length cap),.func (.func g) #[] qz]:=by apply Array.ext';rw[hv0,hv1]
 subst kE;have qp:∃fn,al.funcs[(126:Nat)]? =some fn∧fn.body.isSome=true∧(fn.name== "runtime.NumGoroutine")=false:=⟨_,Tryz.func126,by kernel_rfl,by kernel_rfl⟩;refine .inl ⟨qp,?_⟩;obtain⟨di,oi⟩:∃di,di=sliceWorld al Tryz.lays6_ren t (some ⟨b,0,none⟩) l.length cap w:=⟨_,rfl⟩;have jF:w.grownBy di none:=by rw[oi];unfold sliceWorld;exact Rw _ _ _
 have JI:=pJ.grown jF;have kD:la w ν di ν:=⟨fun b o bh=>⟨bh,Ed jF (a8.alt b o bh)⟩,fun _ _ _ h=>h,fun _ n u _ h=>⟨n,u,h,.inl ⟨rfl,rfl⟩⟩,fun b o bh=>wh (jF.block b (a8.alt b o bh) (by simp)),fun _ _ _ _ h=>h⟩;have rf:Pv.Good (fx ν (dO e K B el sz l)) di ν (dO e K B el sz l).b (dO e K B el sz l).e:=JI.good.prMono fun bl _ h=>h;have kT:=GB kD JH;simp only[cP]at kT;obtain⟨a0,Yt,ss,B4,bC,Yu,kR,ae5,rfl⟩:=kT;simp at ss;obtain⟨rfl,rfl⟩:=ss;simp at kR;subst kR;have JK:ba di ν (.row sz (.obj K) l.length) (.slice (some ⟨b,0,none⟩) l.length cap):=by simp only[ba]at B4;obtain⟨u,hu,h⟩:=B4;simp at hu;obtain⟨_,rfl⟩:=hu;simp only[ba];exact h
 have qt:cP di ν b0 (sliceBound al el en ke (some ⟨b,0,none⟩) l.length cap).toList:=by
  unfold sliceBound;rw[JL];split
  ·simp[cP]
  ·simp only[cP];exact⟨_,_,rfl,JK,_,_,rfl,by simp[ba],rfl⟩
 have tN:cP di ν [eS g f [.ptr (.obj B) 0] b0,.int .i64 0,.int .i64 l.length,.int .i64 (Lib.bitLen l.length)] (#[.agg #[.func (.func g) #[] qz,.func (.func f) #[] (sliceBound al el en ke (some ⟨b,0,none⟩) l.length cap)],.int .i64 0,.int .i64 l.length,.int .i64 (Lib.bitLen l.length)]:Array Value).toList:=by simp only[cP,eS];refine⟨_,_,rfl,?_,_,_,rfl,by simp[ba],_,_,rfl,by simp[ba],_,_,rfl,by simp[ba],rfl⟩;simp only[ba,c4];exact⟨_,rfl,_,_,rfl,⟨⟨qz,rfl,GB kD qs⟩,rfl⟩,_,_,rfl,⟨⟨_,rfl,qt⟩,rfl⟩,rfl⟩
 have Ji:=cO di ν _ rf ad tN;have Ek:∀args w,(callFunc 210 args).run al w= .ok (.enter 210 args) w:=enters_of Tryz.func210 (by kernel_rfl) rfl;rcases Ji with⟨_,aw⟩|⟨v,w',aw,_⟩
 ·have Jv:=Any.sort_Slice_of_pdq Tryz.lays6 t el i en hi aR B2 sy ke tW (some ⟨b,0,none⟩) l.length cap (by omega) f aH (.func g) #[] qz w
   (fun w'=> ∃ai bo,(∃aX,ai=dO e K B el sz aX∧aX.Perm l∧aX.Pairwise fun x y=>lt y x=false)∧Pv.Good (fun bl=>fx ν (dO e K B el sz l) bl∨di.heap.size≤bl) w' bo ai.b ai.e∧o2 bo ai∧iJ ai∧p8 ⟨di,ν,fx ν (dO e K B el sz l),0,cW (dO e K B el sz l)⟩ w' bo) (by
    rw[←oi];refine aw.mono ?_;rintro e w' ⟨v,r,ai,bo,rfl,⟨rfl,br⟩,vu,a7,bZ,c6,eg⟩;simp only[ba,cP]at vu;obtain⟨us,rfl,qv⟩:=vu;have:us= #[]:=by apply Array.ext';simpa using qv
    subst this;exact⟨rfl,ai,bo,br,a7,bZ,c6,eg⟩)
  refine Jv.mono ?_;rintro e w' ⟨rfl,ai,bo,⟨aX,rfl,E7,zu⟩,a7,bZ,c6,eg⟩;refine⟨.tuple #[],.tuple [],_,bo,rfl,⟨rfl,aX,rfl,E7,zu⟩,by simp[ba,cP],a7.prMono fun bl h _=>?_,bZ,c6,⟨eg.os.trans jF.os,eg.tape.trans jF.tape,eg.output.trans jF.output,j4 jF.size eg.size,fun k ab hm=>?_,fun b o bh=>?_,fun b o bh=>?_,eg.obj,eg.obn,eg.row,eg.obr,eg.trd,fun k j b ae=>⟨(eg.trb k j b ae).1.imp id (fun h=>j4 jF.size h),(eg.trb k j b ae).2⟩,eg.trn,fun b o bh=>(eg.sh b o bh).trans (kD.sh b o bh)⟩⟩
  ·rcases h with h|h
   ·exact .inl h
   ·exact .inr (j4 jF.size h)
  ·rw[eg.block k (Nat.lt_of_lt_of_le ab jF.size) hm];exact jF.block k ab (by simp)
  ·obtain⟨aZ,bI⟩:=eg.keep b o bh;exact⟨aZ,bI.trans (kD.A b o bh).2⟩
  ·rcases eg.fresh b o bh with h|h|h
   ·exact .inl h
   ·exact .inr (.inl h)
   ·exact .inr (.inr (j4 jF.size h))
 ·rw[Ek]at aw;cases aw
end
end Go.Proofs.YtohaalphocaebaaGreat
namespace Go.Proofs.YtohaalphocaebaaGreat
open Go Go.Pv Go.Lib
abbrev wJ(l:List bg):cE:=dO bg.e 814 815 106 2 l
theorem Un:∀(S:aD→Prop) (x:bg),aB S x.e:=fun S x=>by simp
theorem Ho(l:List bg):dT (wJ l):=wK Un l
theorem agx:Sort.SWO (hG fa):=by
 refine⟨fun x=>?_,fun x y z J U=>?_,fun x y z J U=>?_⟩
 ·simp only[hG,gr];have:=lA.refl x;omega
 ·simp only[hG,fm]at*;exact lA.ltr J (by omega)
 ·simp only[hG,gr]at*;have ak:=lA.neg x y;have aC:=lA.neg y z;have bj:=lA.neg x z;have:=lA.tr z y x (by omega) (by omega);omega
theorem acX(l:List bg)(i j:Nat)(x y:bg)(ar:l.length≤68719476736)(hi:l[i]? =some x)(af:l[j]? =some y):bF al 131 [.int .i64 i,.int .i64 j,.ptr (.obj 815) 0] (wJ l) fun r ai=>r= .bool (hG fa x y)∧ai=wJ l:=by have ag:=Ho l;obtain⟨lM,hl⟩:=fw.1 hi;obtain⟨eb,pH⟩:=fw.1 af;unfold wJ dO at ag⊢;refine bF.mk mixed jN aaF ahi (by simp) ag.obj fun aQ cN=>?_;unfold NX;simp[lM,eb,hl,pH];(with_reducible repeat' first|refine aj ?_|refine aE (AN _ _) ?_|refine aF (AN _ _) ?_|simp[lM,eb,hl,pH]);refine cH.at _ (.inl rfl) ag (Same.refl _) aO aO ?_;simp[cI,U9,aV,aW,aU]
noncomputable def Tryz.maT:TypeInfo:=(al.info? 26).get (by kernel_rfl)
noncomputable def Tryz.maE:TypeInfo:=(al.info? 106).get (by kernel_rfl)
theorem Tryz.maK(n:Nat)(U:2≤n):Lib.swapperK n Tryz.maE 25=9:=by
 have a:Tryz.maE.hasPointers=true:=by kernel_rfl
 have b:Tryz.maE.bytes=24:=by kernel_rfl
 have c:(n==0)=false:=by simp;omega
 have d:(n==1)=false:=by simp;omega
 simp[Lib.swapperK,a,b,c,d]
theorem TZ{α β:Type}(f:α→β)(l:List α)(i j:Nat):(hb l i j).map f=hb (l.map f) i j:=by
 unfold hb;simp only[List.getElem?_map];cases l[i]? with
 |none=>simp
 |some x=>
  cases l[j]? with
  |none=>simp
  |some y=>simp[List.map_set]
theorem adz(l:List bg)(ar:l.length≤68719476736):bF al 126 [.iface 26 (.row 2 (.obj 814) l.length),.func 131 [.ptr (.obj 815) 0]] (wJ l) fun r ai=>r= .tuple []∧ai=wJ (oz fa l):=by
 refine(Rf Un (K:=814) (B:=815) (sz:=2) (by decide) (by decide) 26 Tryz.maT Tryz.maE (by kernel_rfl) (by kernel_rfl) (by kernel_rfl) (by kernel_rfl) 25 (fun _=>by kernel_rfl) Tryz.maK 131 (hG fa) agx l ar (fun aX h i j x y hi af=>acX aX i j x y (by omega) hi af) (fun aX h i j hi af=>?_)).mono ?_
 ·have:=Rp (P:=al) false 257 (fun args W=>run_callFunc_extern Tryz.func257 (by kernel_rfl) (by kernel_rfl) (by kernel_rfl) (e:=DC false) (by kernel_rfl) args W)
   106 Tryz.maE (by kernel_rfl) (fun _=>by kernel_rfl) (Ho aX) (K:=814) (n:=l.length) (el:=106) (sz:=2) (by kernel_rfl) (xs:=aX.map bg.e) (by simp[dO,Pv.look,h]) i j hi af
  refine this.mono ?_;rintro r ai ⟨rfl,rfl⟩;refine⟨rfl,?_⟩;simp[dO,cw,TZ,h]
 ·rintro r ai ⟨rfl,aX,rfl,J,U⟩;exact⟨rfl,by rw[Wq lA J U]⟩
def nD(l:List bg):List ah:= .hdm l.length (List.range l.length)::l.flatMap fun m=>[m.e,.bool true]
def kO(m:bg)(l:List bg):List bg:=if m∈l then l else l++[m]
theorem af3(a b:bg):sK (.a [false,true]) a.e b.e=some (decide (a=b)):=by simp only[bg.e,sK,jT,if_true,nS];congr 1;rw[p4];cases a;cases b;simp
theorem af4(a:bg):ue (.a [false,true]) a.e=true:=by simp[bg.e,ue,jT,-HB]
theorem Ur(m:bg):∀l:List bg,uu (.a [false,true]) m.e (.bool true) (l.flatMap fun m=>[m.e,.bool true])=some (if m∈l then some (l.flatMap fun m=>[m.e,.bool true])else none)
 |[]=>rfl
 |a::l=>by
  simp only[List.flatMap_cons,bP,bX,uu,af3];by_cases h:m=a
  ·subst h;simp
  ·have cr:decide (m=a)=false:=by simp[h]
   rw[cr];simp only[Ur m l];by_cases hm:m∈l
   ·simp[hm]
   ·simp[hm,h]
@[simp] theorem aqL(m:bg)(l:List bg):ou (.a [false,true]) m.e (.bool true) (nD l)=some (nD (kO m l)):=by
 simp only[nD,ou,af4,Bool.true_eq_false,reduceCtorEq,if_false,Ur,kO];by_cases h:m∈l
 ·simp[h]
 ·simp[h,List.range_succ]
end Go.Proofs.YtohaalphocaebaaGreat
namespace Go.Proofs.YtohaalphocaebaaGreat
open Go Go.Pv
@[simp] theorem zJ(S:aD→Prop)(l:List bg):aG S (nD l)=True:=by
 refine eq_true ?_;unfold nD;have:∀l:List bg,aG S (l.flatMap fun m=>[m.e,ah.bool true]):=fun l=>by
  induction l with
  |nil=>simp[aG]
  |cons x r bN=>simp only[List.flatMap_cons,bP,bX,aG,af9,aB,true_and];exact bN
 simp only[aG,aB,true_and];exact this l
@[simp] theorem aqt:[ah.hdm 0 []]=nD []:=rfl
def nW(tag:List dz)(l:List bg):cE:=⟨[(.obj 811,[.str tag]),(.obj 812,nD l),(.obj 813,[.gmap (.obj 812)])],[]⟩
theorem DK(tag:List dz)(l:List bg):dT (nW tag l):=by unfold nW;refine dT.of ⟨by intro m;simp[Pv.look],by intro m;simp[Pv.look]⟩ (by simp[aG,aB,inObs,Pv.look]) (by simp)
theorem Hq(tag:List dz)(l aX:List bg):Same (nW tag l) (nW tag aX):=Same.keys (by simp[nW]) (by simp[nW])
theorem acW(tag:List dz)(v:Int)(l:List bg):bF al 130 [.int .i64 v,.ptr (.obj 813) 0,.ptr (.obj 811) 0] (nW tag l) fun r ai=>r= .tuple []∧ai=nW tag (kO ⟨v,tag⟩ l):=by have ag:=DK tag l;have eO:=DK tag (kO ⟨v,tag⟩ l);have dX:=Hq tag l (kO ⟨v,tag⟩ l);unfold nW at ag eO dX⊢;refine bF.mk mixed jN aaE ahh (by simp) ag.obj fun aQ cN=>?_;unfold NW;simp;refine cH.at _ (.inr rfl) eO dX aO aO ?_;simp[cI,U8,aV,aW,aU]
end Go.Proofs.YtohaalphocaebaaGreat
namespace Go.Proofs.YtohaalphocaebaaGreat
open Go Go.Pv Go.Lib
abbrev uU(l:List bL):cE:=dO bL.e 803 804 104 2 l
theorem Tk:∀(S:aD→Prop) (x:bL),aB S x.e:=fun S x=>by simp
theorem DH(l:List bL):dT (uU l):=wK Tk l
def vO(x y:bL):Bool:=decide (x.v<y.v)
theorem agw:Sort.SWO vO:=⟨fun x=>by simp[vO],fun x y z J U=>by simp[vO]at*;omega,fun x y z J U=>by simp[vO]at*;omega⟩
theorem acY(l:List bL)(i j:Nat)(x y:bL)(ar:l.length≤68719476736)(hi:l[i]? =some x)(af:l[j]? =some y):bF al 127 [.int .i64 i,.int .i64 j,.ptr (.obj 804) 0] (uU l) fun r ai=>r= .bool (vO x y)∧ai=uU l:=by have ag:=DH l;obtain⟨lM,hl⟩:=fw.1 hi;obtain⟨eb,pH⟩:=fw.1 af;unfold uU dO at ag⊢;refine bF.mk mixed jN aaG ahj (by simp) ag.obj fun aQ cN=>?_;unfold NY;simp[lM,eb,hl,pH];(with_reducible repeat' first|refine aj ?_|simp);refine cH.at _ (.inl rfl) ag (Same.refl _) aO aO ?_;simp[cI,Va,aV,aW,aU,vO]
noncomputable def Tryz.vkT:TypeInfo:=(al.info? 25).get (by kernel_rfl)
noncomputable def Tryz.vkE:TypeInfo:=(al.info? 104).get (by kernel_rfl)
theorem Tryz.vkK(n:Nat)(U:2≤n):Lib.swapperK n Tryz.vkE 25=9:=by
 have a:Tryz.vkE.hasPointers=false:=by kernel_rfl
 have b:Tryz.vkE.bytes=16:=by kernel_rfl
 have c:(n==0)=false:=by simp;omega
 have d:(n==1)=false:=by simp;omega
 simp[Lib.swapperK,a,b,c,d]
theorem agv{α β:Type}(f:α→β)(l:List α)(i j:Nat):(hb l i j).map f=hb (l.map f) i j:=by
 unfold hb;simp only[List.getElem?_map];cases l[i]? with
 |none=>simp
 |some x=>
  cases l[j]? with
  |none=>simp
  |some y=>simp[List.map_set]
theorem Ro(l:List bL)(ar:l.length≤68719476736):bF al 126 [.iface 25 (.row 2 (.obj 803) l.length),.func 127 [.ptr (.obj 804) 0]] (uU l) fun r ai=>r= .tuple []∧∃aX,ai=uU aX∧aX.Perm l∧aX.Pairwise fun x y=>vO y x=false:=by
 refine(Rf Tk (K:=803) (B:=804) (sz:=2) (by decide) (by decide) 25 Tryz.vkT Tryz.vkE (by kernel_rfl) (by kernel_rfl) (by kernel_rfl) (by kernel_rfl) 25 (fun _=>by kernel_rfl) Tryz.vkK 127 vO agw l ar (fun aX h i j x y hi af=>acY aX i j x y (by omega) hi af) (fun aX h i j hi af=>?_));have:=Rp (P:=al) false 257 (fun args W=>run_callFunc_extern Tryz.func257 (by kernel_rfl) (by kernel_rfl) (by kernel_rfl) (e:=DC false) (by kernel_rfl) args W)
  104 Tryz.vkE (by kernel_rfl) (fun _=>by kernel_rfl) (DH aX) (K:=803) (n:=l.length) (el:=104) (sz:=2) (by kernel_rfl) (xs:=aX.map bL.e) (by simp[dO,Pv.look,h]) i j hi af
 refine this.mono ?_;rintro r ai ⟨rfl,rfl⟩;refine⟨rfl,?_⟩;simp[dO,cw,agv,h]
end Go.Proofs.YtohaalphocaebaaGreat
namespace Go.Proofs.YtohaalphocaebaaGreat
open Go Go.Pv
def fU(o:aY (List bL)):ah:= .tuple [.slice 2 .no ((o.getD []).map bL.e),.bool o.isSome]
@[simp] theorem aqb(S:aD→Prop)(o:aY (List bL)):aB S (fU o)=True:=by simp[fU]
theorem WY{l:List bL}(h:iU l):bK al 56 [.slice 2 .no (l.map bL.e)] (.bool true):=by have:=WX l;simpa only[h,decide_true]using this
theorem MI{t:T}(h:t.fit=true):bK al 117 [t.e] (.bool true):=by have:=amf t;rwa[h]at this
set_option maxRecDepth 4000 in
theorem al1{s:List au}(ag:eP s){l:List bL}(ar:iU l)(t:T)(aL:t.fit=true)(k:Int):
  bK al 52 [.slice 5 .no (s.map au.e),.slice 2 .no (l.map bL.e),t.e,.int .i64 k] (fU (if(k=2∨k=3)∧(t.ap (cz s)).size≤5000 then j5 l (t.ap (cz s)) k else none)):=by
 have xp:=vF ar;have dq:=p0 ag;have dn:=MI aL;have dj:=WY ar;have fj:=Hb s t ag.len ag.sol.asc ag.fit;generalize ad:t.ap (cz s)=x at fj⊢;generalize dh:(if(k=2∨k=3)∧x.size≤5000 then j5 l x k else none)=O;by_cases ab:k=2∨k=3;rotate_left
 ·have gm:(k !=2)=true:=by simp;omega
  have kS:(k !=3)=true:=by simp;omega
  rw[if_neg (fun h=>ab h.1)]at dh;rw[←dh];refine bm jN q1 rI fun aQ=>?_;unfold qf;simp;(with_reducible repeat' first|refine aj ?_|refine aE dq ?_|refine aF dq ?_|refine aE dn ?_|refine aF dn ?_|refine aE dj ?_|refine aF dj ?_|simp[gm,kS]);simp[bu,jK,aV,aW,aU];simp[fU]
 by_cases bE:x.size≤5000;rotate_left
 ·rw[if_neg (fun h=>bE h.2)]at dh;rw[←dh];rw[if_neg bE,k8 bE]at fj;refine bm jN q1 rI fun aQ=>?_;unfold qf;simp;rcases ab with rfl|rfl;all_goals(with_reducible repeat' first|refine aj ?_|refine aE dq ?_|refine aF dq ?_|refine aE dn ?_|refine aF dn ?_|refine aE dj ?_|refine aF dj ?_|refine aE fj ?_|refine aF fj ?_|simp)
  all_goals simp[bu,jK,aV,aW,aU]
  all_goals simp[fU]
 rw[if_pos ⟨ab,bE⟩]at dh;rw[if_pos bE,kN bE]at fj;have ET:(k !=2)=true→(k !=3)=false:=fun h=>by simp at h⊢;omega
 have tV:((k !=2)=false)∨((k !=2)=true∧(k !=3)=false):=by
  rcases ab with rfl|rfl
  ·left;rfl
  ·right;exact⟨rfl,rfl⟩
 clear ET;cases x with
 |var n=>
  have dP:O=match kX l n with|some bM=>if bM=k then some l else none|none=>some (lu ⟨n,k⟩ l):=by rw[←dh];rfl
  refine bm jN q1 rI fun aQ=>?_;unfold qf;simp;rcases tV with br|⟨br,ki⟩
  ·(with_reducible repeat' first|refine aj ?_|refine aE dq ?_|refine aF dq ?_|refine aE dn ?_|refine aF dn ?_|refine aE dj ?_|refine aF dj ?_|refine aE fj ?_|refine aF fj ?_|simp[br]);refine dW [3,10,12,55,56] (fun i (_:Unit)=>[(57,.int .i64 i)]) l.length (fun i _=> ∀j y,j<i→l[j]? =some y→y.v≠n) () bV (fun j y af=>by omega) (fun _ af _=>?_) (fun i _ hi af _=>?_)
   ·have a8:kX l n=none:=xI.2 fun y aM=>by obtain⟨m,hm,e⟩:=nj aM;exact af m y hm (by rw[cf hm,e])
    rw[a8]at dP;simp only at dP;simp;(with_reducible repeat' first|refine aj ?_|simp);all_goals first|(refine⟨by unfold lim;omega,?_⟩)|skip
    have key:=Ro (l++[⟨n,k⟩]) (by simp;omega);have eX:=DH (l++[⟨n,k⟩]);have hlen:(l++[(⟨n,k⟩:bL)]).length=l.length+1:=by simp
    unfold uU dO at key eX;rw[hlen,List.map_append,gM,mz]at key eX;refine cV.ob key eX aO aO (by simp[inObs,Pv.look]) ?_;rintro r ai ⟨rfl,aX,rfl,J,U⟩;have sB:aX=lu ⟨n,k⟩ l:=Tl (J.trans ((List.perm_append_comm (l₁:=l) (l₂:=[⟨n,k⟩])).trans (J5 ⟨n,k⟩ l).symm)) (Fe ar.asc (xI.1 a8)) U;subst sB;refine⟨Same.keys (by simp) (by simp),?_⟩;rw[dP];simp[cn];(with_reducible repeat' first|refine aj ?_|simp);simp[bu,jK,aV,aW,aU];simp[fU]
   ·obtain⟨b,ae,cy⟩:=dV hi;by_cases mQ:b.v=n
    ·have a8:kX l n=some b.k:=by rw[←mQ];exact Ft ar.asc (eo ae)
     rw[a8]at dP;simp only at dP;by_cases n9:b.k=k
     ·rw[if_pos n9]at dP;rw[dP];have xb:(b.k !=k)=false:=by simp[n9]
      have rb:(b.v==n)=true:=by simp[mQ]
      simp[hi,cy];(with_reducible repeat' first|refine aj ?_|simp[cy,hi,xb,rb,n9,mQ]);simp[bu,jK,aV,aW,aU];simp[fU]
     ·rw[if_neg n9]at dP;rw[dP];have xb:(b.k !=k)=true:=by simp[n9]
      have rb:(b.v==n)=true:=by simp[mQ]
      simp[hi,cy];(with_reducible repeat' first|refine aj ?_|simp[cy,hi,xb,rb,n9,mQ]);simp[bu,jK,aV,aW,aU];simp[fU]
    ·have rb:(b.v==n)=false:=by simp[mQ]
     simp[hi,cy];(with_reducible repeat' first|refine aj ?_|simp[cy,hi,rb,mQ]);exact bO.rng () hi (fun j y jd aM=>by
      rcases(by omega:j<i∨j=i)with h|rfl
      ·exact af j y h aM
      ·rw[ae]at aM;cases aM;exact mQ) bV
  ·(with_reducible repeat' first|refine aj ?_|refine aE dq ?_|refine aF dq ?_|refine aE dn ?_|refine aF dn ?_|refine aE dj ?_|refine aF dj ?_|refine aE fj ?_|refine aF fj ?_|simp[br,ki]);refine dW [3,10,12,55,56] (fun i (_:Unit)=>[(57,.int .i64 i)]) l.length (fun i _=> ∀j y,j<i→l[j]? =some y→y.v≠n) () bV (fun j y af=>by omega) (fun _ af _=>?_) (fun i _ hi af _=>?_)
   ·have a8:kX l n=none:=xI.2 fun y aM=>by obtain⟨m,hm,e⟩:=nj aM;exact af m y hm (by rw[cf hm,e])
    rw[a8]at dP;simp only at dP;simp;(with_reducible repeat' first|refine aj ?_|simp);all_goals first|(refine⟨by unfold lim;omega,?_⟩)|skip
    have key:=Ro (l++[⟨n,k⟩]) (by simp;omega);have eX:=DH (l++[⟨n,k⟩]);have hlen:(l++[(⟨n,k⟩:bL)]).length=l.length+1:=by simp
    unfold uU dO at key eX;rw[hlen,List.map_append,gM,mz]at key eX;refine cV.ob key eX aO aO (by simp[inObs,Pv.look]) ?_;rintro r ai ⟨rfl,aX,rfl,J,U⟩;have sB:aX=lu ⟨n,k⟩ l:=Tl (J.trans ((List.perm_append_comm (l₁:=l) (l₂:=[⟨n,k⟩])).trans (J5 ⟨n,k⟩ l).symm)) (Fe ar.asc (xI.1 a8)) U;subst sB;refine⟨Same.keys (by simp) (by simp),?_⟩;rw[dP];simp[cn];(with_reducible repeat' first|refine aj ?_|simp);simp[bu,jK,aV,aW,aU];simp[fU]
   ·obtain⟨b,ae,cy⟩:=dV hi;by_cases mQ:b.v=n
    ·have a8:kX l n=some b.k:=by rw[←mQ];exact Ft ar.asc (eo ae)
     rw[a8]at dP;simp only at dP;by_cases n9:b.k=k
     ·rw[if_pos n9]at dP;rw[dP];have xb:(b.k !=k)=false:=by simp[n9]
      have rb:(b.v==n)=true:=by simp[mQ]
      simp[hi,cy];(with_reducible repeat' first|refine aj ?_|simp[cy,hi,xb,rb,n9,mQ]);simp[bu,jK,aV,aW,aU];simp[fU]
     ·rw[if_neg n9]at dP;rw[dP];have xb:(b.k !=k)=true:=by simp[n9]
      have rb:(b.v==n)=true:=by simp[mQ]
      simp[hi,cy];(with_reducible repeat' first|refine aj ?_|simp[cy,hi,xb,rb,n9,mQ]);simp[bu,jK,aV,aW,aU];simp[fU]
    ·have rb:(b.v==n)=false:=by simp[mQ]
     simp[hi,cy];(with_reducible repeat' first|refine aj ?_|simp[cy,hi,rb,mQ]);exact bO.rng () hi (fun j y jd aM=>by
      rcases(by omega:j<i∨j=i)with h|rfl
      ·exact af j y h aM
      ·rw[ae]at aM;cases aM;exact mQ) bV
 |nil=>
  have dP:O=if T.nil.kind=k then some l else none:=by rw[←dh];rfl
  by_cases ho:T.nil.kind=k
  ·rw[if_pos ho]at dP;rw[dP];refine bm jN q1 rI fun aQ=>?_;unfold qf;simp;simp at ho;rcases tV with br|⟨br,ki⟩
   ·((with_reducible repeat' first|refine aj ?_|refine aE dq ?_|refine aF dq ?_|refine aE dn ?_|refine aF dn ?_|refine aE dj ?_|refine aF dj ?_|refine aE fj ?_|refine aF fj ?_|simp[br,ho]|((first|apply bR|apply bU|apply bT)<;>intro h<;>try simp at h))<;>(try exact cv));all_goals simp[bu,jK,aV,aW,aU]
    all_goals simp[fU]
   ·((with_reducible repeat' first|refine aj ?_|refine aE dq ?_|refine aF dq ?_|refine aE dn ?_|refine aF dn ?_|refine aE dj ?_|refine aF dj ?_|refine aE fj ?_|refine aF fj ?_|simp[br,ki,ho]|((first|apply bR|apply bU|apply bT)<;>intro h<;>try simp at h))<;>(try exact cv));all_goals simp[bu,jK,aV,aW,aU]
    all_goals simp[fU]
  ·rw[if_neg ho]at dP;rw[dP];refine bm jN q1 rI fun aQ=>?_;unfold qf;simp;simp at ho;rcases tV with br|⟨br,ki⟩
   ·((with_reducible repeat' first|refine aj ?_|refine aE dq ?_|refine aF dq ?_|refine aE dn ?_|refine aF dn ?_|refine aE dj ?_|refine aF dj ?_|refine aE fj ?_|refine aF fj ?_|simp[br,ho]|((first|apply bR|apply bU|apply bT)<;>intro h<;>try simp at h))<;>(try exact cv));all_goals simp[bu,jK,aV,aW,aU]
    all_goals simp[fU]
   ·((with_reducible repeat' first|refine aj ?_|refine aE dq ?_|refine aF dq ?_|refine aE dn ?_|refine aF dn ?_|refine aE dj ?_|refine aF dj ?_|refine aE fj ?_|refine aF fj ?_|simp[br,ki,ho]|((first|apply bR|apply bU|apply bT)<;>intro h<;>try simp at h))<;>(try exact cv));all_goals simp[bu,jK,aV,aW,aU]
    all_goals simp[fU]
 |sym a=>
  have dP:O=if(T.sym a).kind=k then some l else none:=by rw[←dh];rfl
  by_cases ho:(T.sym a).kind=k
  ·rw[if_pos ho]at dP;rw[dP];refine bm jN q1 rI fun aQ=>?_;unfold qf;simp;simp at ho;rcases tV with br|⟨br,ki⟩
   ·((with_reducible repeat' first|refine aj ?_|refine aE dq ?_|refine aF dq ?_|refine aE dn ?_|refine aF dn ?_|refine aE dj ?_|refine aF dj ?_|refine aE fj ?_|refine aF fj ?_|simp[br,ho]|((first|apply bR|apply bU|apply bT)<;>intro h<;>try simp at h))<;>(try exact cv));all_goals simp[bu,jK,aV,aW,aU]
    all_goals simp[fU]
   ·((with_reducible repeat' first|refine aj ?_|refine aE dq ?_|refine aF dq ?_|refine aE dn ?_|refine aF dn ?_|refine aE dj ?_|refine aF dj ?_|refine aE fj ?_|refine aF fj ?_|simp[br,ki,ho]|((first|apply bR|apply bU|apply bT)<;>intro h<;>try simp at h))<;>(try exact cv));all_goals simp[bu,jK,aV,aW,aU]
    all_goals simp[fU]
  ·rw[if_neg ho]at dP;rw[dP];refine bm jN q1 rI fun aQ=>?_;unfold qf;simp;simp at ho;rcases tV with br|⟨br,ki⟩
   ·((with_reducible repeat' first|refine aj ?_|refine aE dq ?_|refine aF dq ?_|refine aE dn ?_|refine aF dn ?_|refine aE dj ?_|refine aF dj ?_|refine aE fj ?_|refine aF fj ?_|simp[br,ho]|((first|apply bR|apply bU|apply bT)<;>intro h<;>try simp at h))<;>(try exact cv));all_goals simp[bu,jK,aV,aW,aU]
    all_goals simp[fU]
   ·((with_reducible repeat' first|refine aj ?_|refine aE dq ?_|refine aF dq ?_|refine aE dn ?_|refine aF dn ?_|refine aE dj ?_|refine aF dj ?_|refine aE fj ?_|refine aF fj ?_|simp[br,ki,ho]|((first|apply bR|apply bU|apply bT)<;>intro h<;>try simp at h))<;>(try exact cv));all_goals simp[bu,jK,aV,aW,aU]
    all_goals simp[fU]
 |num a=>
  have dP:O=if(T.num a).kind=k then some l else none:=by rw[←dh];rfl
  by_cases ho:(T.num a).kind=k
  ·rw[if_pos ho]at dP;rw[dP];refine bm jN q1 rI fun aQ=>?_;unfold qf;simp;simp at ho;rcases tV with br|⟨br,ki⟩
   ·((with_reducible repeat' first|refine aj ?_|refine aE dq ?_|refine aF dq ?_|refine aE dn ?_|refine aF dn ?_|refine aE dj ?_|refine aF dj ?_|refine aE fj ?_|refine aF fj ?_|simp[br,ho]|((first|apply bR|apply bU|apply bT)<;>intro h<;>try simp at h))<;>(try exact cv));all_goals simp[bu,jK,aV,aW,aU]
    all_goals simp[fU]
   ·((with_reducible repeat' first|refine aj ?_|refine aE dq ?_|refine aF dq ?_|refine aE dn ?_|refine aF dn ?_|refine aE dj ?_|refine aF dj ?_|refine aE fj ?_|refine aF fj ?_|simp[br,ki,ho]|((first|apply bR|apply bU|apply bT)<;>intro h<;>try simp at h))<;>(try exact cv));all_goals simp[bu,jK,aV,aW,aU]
    all_goals simp[fU]
  ·rw[if_neg ho]at dP;rw[dP];refine bm jN q1 rI fun aQ=>?_;unfold qf;simp;simp at ho;rcases tV with br|⟨br,ki⟩
   ·((with_reducible repeat' first|refine aj ?_|refine aE dq ?_|refine aF dq ?_|refine aE dn ?_|refine aF dn ?_|refine aE dj ?_|refine aF dj ?_|refine aE fj ?_|refine aF fj ?_|simp[br,ho]|((first|apply bR|apply bU|apply bT)<;>intro h<;>try simp at h))<;>(try exact cv));all_goals simp[bu,jK,aV,aW,aU]
    all_goals simp[fU]
   ·((with_reducible repeat' first|refine aj ?_|refine aE dq ?_|refine aF dq ?_|refine aE dn ?_|refine aF dn ?_|refine aE dj ?_|refine aF dj ?_|refine aE fj ?_|refine aF fj ?_|simp[br,ki,ho]|((first|apply bR|apply bU|apply bT)<;>intro h<;>try simp at h))<;>(try exact cv));all_goals simp[bu,jK,aV,aW,aU]
    all_goals simp[fU]
 |pair a b=>
  have dP:O=if(T.pair a b).kind=k then some l else none:=by rw[←dh];rfl
  by_cases ho:(T.pair a b).kind=k
  ·rw[if_pos ho]at dP;rw[dP];refine bm jN q1 rI fun aQ=>?_;unfold qf;simp;simp at ho;rcases tV with br|⟨br,ki⟩
   ·((with_reducible repeat' first|refine aj ?_|refine aE dq ?_|refine aF dq ?_|refine aE dn ?_|refine aF dn ?_|refine aE dj ?_|refine aF dj ?_|refine aE fj ?_|refine aF fj ?_|simp[br,ho]|((first|apply bR|apply bU|apply bT)<;>intro h<;>try simp at h))<;>(try exact cv));all_goals simp[bu,jK,aV,aW,aU]
    all_goals simp[fU]
   ·((with_reducible repeat' first|refine aj ?_|refine aE dq ?_|refine aF dq ?_|refine aE dn ?_|refine aF dn ?_|refine aE dj ?_|refine aF dj ?_|refine aE fj ?_|refine aF fj ?_|simp[br,ki,ho]|((first|apply bR|apply bU|apply bT)<;>intro h<;>try simp at h))<;>(try exact cv));all_goals simp[bu,jK,aV,aW,aU]
    all_goals simp[fU]
  ·rw[if_neg ho]at dP;rw[dP];refine bm jN q1 rI fun aQ=>?_;unfold qf;simp;simp at ho;rcases tV with br|⟨br,ki⟩
   ·((with_reducible repeat' first|refine aj ?_|refine aE dq ?_|refine aF dq ?_|refine aE dn ?_|refine aF dn ?_|refine aE dj ?_|refine aF dj ?_|refine aE fj ?_|refine aF fj ?_|simp[br,ho]|((first|apply bR|apply bU|apply bT)<;>intro h<;>try simp at h))<;>(try exact cv));all_goals simp[bu,jK,aV,aW,aU]
    all_goals simp[fU]
   ·((with_reducible repeat' first|refine aj ?_|refine aE dq ?_|refine aF dq ?_|refine aE dn ?_|refine aF dn ?_|refine aE dj ?_|refine aF dj ?_|refine aE fj ?_|refine aF fj ?_|simp[br,ki,ho]|((first|apply bR|apply bU|apply bT)<;>intro h<;>try simp at h))<;>(try exact cv));all_goals simp[bu,jK,aV,aW,aU]
    all_goals simp[fU]
def iY(o:aY (List bg)):ah:= .tuple [.slice 2 .no ((o.getD []).map bg.e),.bool o.isSome]
@[simp] theorem aqd(S:aD→Prop)(o:aY (List bg)):aB S (iY o)=True:=by simp[iY]
theorem W0{l:List bg}(h:h8 l):bK al 57 [.slice 2 .no (l.map bg.e)] (.bool true):=by have:=WZ l;simpa only[h,decide_true]using this
theorem al5{s:List dz}(h:jv s=true):bK al 128 [.str s] (.bool true):=by have:=td s;rwa[h]at this
def Cw(l:List bg):List ah:=l.flatMap fun m=>[m.e,.bool true]
theorem T2(l:List bg):nD l= .hdm l.length (List.range l.length)::Cw l:=rfl
theorem KD(b:Nat):∀(n:Nat) (l:List bg),mq b (List.range' n l.length) (Cw l)=(if n≤b then(l[b-n]?).map fun x=>.tuple [x.e,.bool true]else none)
 |n,[]=>by simp[mq,Cw]
 |n,x::r=>by
  have e:Cw (x::r)=x.e:: .bool true::Cw r:=rfl;simp only[oJ,List.range'_succ,e,mq];by_cases h:n=b
  ·subst h;simp
  ·rw[if_neg h,KD b (n+1) r];by_cases U:n≤b
   ·rw[if_pos U,if_pos (by omega)];have:b-n=(b-(n+1))+1:=by omega
    rw[this];simp
   ·rw[if_neg U,if_neg (by omega)]
@[simp] theorem aqX(l:List bg):gn (nD l)=false:=rfl
@[simp] theorem arT(m:aD)(l:List bg):wb m (nD l)=some (cg l.length [] m):=rfl
theorem agI(f:aD→aY (List ah))(fi mk:aD)(n:Nat)(seen:List Nat)(b:Nat)(l:List bg)(x:bg)(hi:f fi=some (cg n (seen++[b]) mk))(hm:f mk=some (nD l))(aA:n=l.length)(ad:l[b]? =some x):pf f (.ptr fi 0)=some (True,.tuple [x.e,.bool true]):=by subst aA;simp only[Ud,hi,hm,cg,T2,List.getLast?_append,List.getLast?_singleton,Option.some_or,List.range_eq_range',KD,Nat.zero_le,if_true,Nat.sub_zero,Option.map_map];simp[ad]
theorem ZO{st:bp}{d:Nat}{K:bp→Prop}{fi mk:aD}{n:Nat}{seen:List Nat}{l:List bg}(hi:Pv.look fi st.b=some (cg n seen mk))(hm:Pv.look mk st.b=some (nD l))(aA:n=l.length)
  (J:(∀b,b<l.length→b∈seen)→K {st with t:=Pv.put d (.tuple [.bool false]) st.t}) (U:∀b x,l[b]? =some x→b∉seen→K {st with t:=Pv.put d (.tuple [.bool true,x.e,.bool true]) st.t,b:=cw fi (cg n (seen++[b]) mk) st.b}):
  sk st d (.ptr fi 0) K:=by
 subst aA;simp only[sk,hi,cg,hm,T2,KQ,and_self,true_and];refine⟨fun h=>J fun b ae=>h b (by simpa using ae),fun b k v xr ae=>?_⟩;rw[List.range_eq_range',KD]at xr;simp only[Nat.zero_le,if_true,Nat.sub_zero,gN,ah.tuple.injEq,nQ,and_true]at xr;obtain⟨x,ak,aC,bj⟩:=xr;subst aC bj;exact U b x ak ae
theorem agD{m x:bg}{l:List bg}:x∈kO m l↔x=m∨x∈l:=by
 unfold kO;split
 ·constructor
  ·exact .inr
  ·rintro(rfl|h)<;>assumption
 ·simp[or_comm]
theorem Ye{m:bg}{l:List bg}(h:l.Nodup):(kO m l).Nodup:=by
 unfold kO;split
 ·exact h
 ·rw[List.nodup_append];exact⟨h,by simp,fun a bD b ae=>by simp at ae;subst ae;intro e;subst e;contradiction⟩
theorem Yd(m:bg)(l:List bg):(kO m l).length≤l.length+1:=by unfold kO;split<;>simp
theorem acL(s:List dz)(t:T):∀l:List bg,(t.fold (fun v l=>kO ⟨v,s⟩ l) l).length≤l.length+t.size:=by
 induction t with
 |var n=>intro l;simp only[T.fold,T.size];exact Yd _ _
 |pair a b dM dN=>intro l;simp only[T.fold,T.size];have:=dM l;have:=dN (a.fold (fun v l=>kO ⟨v,s⟩ l) l);omega
 |_=>intro l;simp[T.fold,T.size]
theorem acM(s:List dz)(t:T):∀{l:List bg},l.Nodup→(t.fold (fun v l=>kO ⟨v,s⟩ l) l).Nodup:=by
 induction t with
 |var n=>intro l h;exact Ye h
 |pair a b dM dN=>intro l h;exact dN (dM h)
 |_=>intro l h;exact h
theorem agE(s:List dz)(t:T)(x:bg):∀{l:List bg},x∈t.fold (fun v l=>kO ⟨v,s⟩ l) l↔x∈l∨(x.s=s∧t.occ x.v=true):=by
 induction t with
 |var n=>
  intro l;simp only[T.fold,agD,T.occ,dL];constructor
  ·rintro(rfl|h)
   ·exact .inr ⟨rfl,rfl⟩
   ·exact .inl h
  ·rintro(h|⟨J,U⟩)
   ·exact .inr h
   ·left;cases x;simp at J U;subst J U;rfl
 |pair a b dM dN=>
  intro l;simp only[T.fold,dN,dM,T.occ,lF];constructor
  ·rintro((h|h)|h)
   ·exact .inl h
   ·exact .inr ⟨h.1,.inl h.2⟩
   ·exact .inr ⟨h.1,.inr h.2⟩
  ·rintro(h|⟨J,U|U⟩)
   ·exact .inl (.inl h)
   ·exact .inl (.inr ⟨J,U⟩)
   ·exact .inr ⟨J,U⟩
 |_=>intro l;simp[T.fold,T.occ]
def afM(M:List bg)(k:Nat)(st:bp):Prop:=∃(seen:List Nat) (xs:List bg),seen.Nodup∧(∀b∈seen,b<M.length)∧k=M.length-seen.length∧xs=seen.filterMap (fun b=>M[b]?)∧xs.length=seen.length∧st=⟨[(15,.ptr (.obj 815) 0),(63,.ptr (.loc 2) 0)],[(.obj 812,nD M),(.loc 2,cg M.length seen (.obj 812)),(.obj 815,[.row 2 (.obj 814) xs.length])],[(.obj 814,⟨xs.length,106,2,some (xs.map bg.e)⟩)],3,[.obj 815,.obj 814,.obj 813,.obj 812,.obj 811]⟩
set_option maxRecDepth 4000 in
theorem al0{s:List au}(ag:eP s){l:List bg}(ar:h8 l)(xp:l.length≤68719470000)(t:T)(aL:t.fit=true){g:List dz}(a8:jv g=true):
  bK al 54 [.slice 5 .no (s.map au.e),.slice 2 .no (l.map bg.e),t.e,.str g] (iY (if(t.ap (cz s)).size≤5000 then lH l (t.ap (cz s)) g else none)):=by
 have dq:=p0 ag;have dn:=MI aL;have dQ:=W0 ar;have hN:=al5 a8;have fj:=Hb s t ag.len ag.sol.asc ag.fit;generalize ad:t.ap (cz s)=x at fj⊢;generalize dh:(if x.size≤5000 then lH l x g else none)=O;by_cases bE:x.size≤5000;rotate_left
 ·rw[if_neg bE]at dh;rw[←dh];rw[if_neg bE,k8 bE]at fj;refine bm jN Iw KW fun aQ=>?_;unfold DW;simp;(with_reducible repeat' first|refine aj ?_|refine aE dq ?_|refine aF dq ?_|refine aE dn ?_|refine aF dn ?_|refine aE dQ ?_|refine aF dQ ?_|refine aE hN ?_|refine aF hN ?_|refine aE fj ?_|refine aF fj ?_|simp);simp[bu,Ga,aV,aW,aU];simp[iY]
 rw[if_pos bE]at dh;rw[if_pos bE,kN bE]at fj;have zH:=amu g x;cases cS:x.has g;rotate_left
 ·rw[cS]at zH;have dP:O=none:=by rw[←dh];unfold lH;rw[cS];rfl
  rw[dP];refine bm jN Iw KW fun aQ=>?_;unfold DW;simp;(with_reducible repeat' first|refine aj ?_|refine aE dq ?_|refine aF dq ?_|refine aE dn ?_|refine aF dn ?_|refine aE dQ ?_|refine aF dQ ?_|refine aE hN ?_|refine aF hN ?_|refine aE fj ?_|refine aF fj ?_|refine aE zH ?_|refine aF zH ?_|simp);simp[bu,Ga,aV,aW,aU];simp[iY]
 rw[cS]at zH;refine bm jN Iw KW fun aQ=>?_;unfold DW;simp;(with_reducible repeat' first|refine aj ?_|refine aE dq ?_|refine aF dq ?_|refine aE dn ?_|refine aF dn ?_|refine aE dQ ?_|refine aF dQ ?_|refine aE hN ?_|refine aF hN ?_|refine aE fj ?_|refine aF fj ?_|refine aE zH ?_|refine aF zH ?_|simp);have vr:l.Nodup:=hH.nodup lA ar.asc;have gY:∀xs:List bg,xs.Perm (x.fold (fun v l=>kO ⟨v,g⟩ l) l)→O=some (oz fa xs):=fun xs bH=>by
  rw[←dh];refine Hx cS ?_ fun y=>?_
  ·have J:=Mg lA xs;have U:(oz fa xs).Nodup:=(((yj fa xs).trans bH).nodup_iff).2 (acM g x vr);exact(J.and U).imp fun{a b} h=>by have:=mt (lA.zero a b).1 h.2;omega
  ·rw[((yj fa xs).trans bH).mem_iff,agE]
 have hlen:(x.fold (fun v l=>kO ⟨v,g⟩ l) l).length≤68719475000:=by have:=acL g x l;omega
 rw[show jf []=nD []from rfl];refine gP (fun i (_:Unit)=>⟨[(7,.ptr (.obj 811) 0),(10,.ptr (.loc 1) 0),(12,.ptr (.obj 813) 0),(49,.slice 2 .no (l.map bg.e)),(50,.int .i64 l.length),(51,.int .i64 i)],[(.obj 811,[.str g]),(.loc 1,[.int .i64 x.kind,.int .i64 x.int,.str x.name,.slice 4 .no (x.args.map T.e)]),(.obj 812,nD (l.take i)),(.obj 813,[.gmap (.obj 812)])],[],2,[.obj 813,.obj 812,.obj 811]⟩) l.length (fun _ _=>True) () bV trivial (fun _ _ _=>?_) (fun i _ hi _ _=>?_)
 ·rw[k6];simp;(with_reducible repeat' first|refine aj ?_|simp);have key:=Rg (nW g) (DK g) (Hq g) 130 [.ptr (.obj 813) 0,.ptr (.obj 811) 0] (by intro a;simp[inObs,nW,Pv.look,aG,aB]) (by simp) (fun v l=>kO ⟨v,g⟩ l) (fun v a=>acW g v a) x l;refine cV.ob key (DK g l) (by unfold nW;exact aO) (by unfold nW;exact aO) (by simp[inObs,nW,Pv.look]) ?_;rintro r ai ⟨rfl,rfl⟩;refine⟨Hq g _ _,?_⟩;unfold nW;generalize eu:x.fold (fun v l=>kO ⟨v,g⟩ l) l=M at gY hlen⊢;simp[cn];(with_reducible repeat' first|refine aj ?_|simp);refine tF (afM M) M.length _ ⟨by simp[fresh,aG,aB,cg,inObs,Pv.look,zJ],ec (by simp[fresh,aG,aB,cg,inObs,Pv.look,zJ]),ed (by simp[fresh,aG,aB,dR,inObs,Pv.look,zJ]),by simp⟩ ⟨[],[],by simp,by simp,by simp,by simp,by simp,rfl⟩ ?_;rintro k st ⟨seen,xs,aR,bA,ab,SL,ju,rfl⟩ qn cN;clear qn cN;have hle:=GI aR bA;simp;refine ZO (mk:= .obj 812) (seen:=seen) (l:=M) (by simp) (by simp) rfl (fun lg=>?_) (fun b y aM ae=>?_)
  ·have vs:=L9 aR bA lg;rw[←SL]at vs;have dB:=gY xs vs;simp;(with_reducible repeat' first|refine aj ?_|simp);have key:=adz xs (by omega);have eX:=Ho xs;unfold wJ dO at key eX;refine cV.ob key eX aO aO (by simp[inObs,Pv.look]) ?_;rintro r ai ⟨rfl,rfl⟩;refine⟨Same.keys (by simp) (by simp),?_⟩;rw[dB];simp[cn];(with_reducible repeat' first|refine aj ?_|simp);simp[bu,Ga,aV,aW,aU];simp[iY]
  ·have zn:∀f:aD→aY (List ah),f (.loc 2)=some (cg M.length (seen++[b]) (.obj 812))→f (.obj 812)=some (nD M)→pf f (.ptr (.loc 2) 0)=some (True,.tuple [y.e,.bool true]):=fun f J U=>agI f (.loc 2) (.obj 812) M.length seen b M y J U rfl aM;have fA:b<M.length:=(fw.1 aM).1;have pK:=Ma aR bA fA ae;simp[zn];(with_reducible repeat' first|refine aj ?_|simp[zn]);all_goals first|(refine⟨by unfold lim;omega,?_⟩)|skip
   have xl:∀S:aD→Prop,aG S (xs.map bg.e++[y.e])=True:=fun S=>by
    have e:xs.map bg.e++[y.e]=(xs++[y]).map bg.e:=by simp
    rw[e];simp[-List.map_append]
   refine bO.next (M.length-(seen.length+1)) (by omega) ⟨seen++[b],xs++[y],KU aR ae,(by simp;intro c aw;rcases aw with aw|rfl;exact bA c aw;exact fA),by simp,by rw[List.filterMap_append,←SL];simp[aM],by simp[ju],rfl⟩ ⟨by simp[fresh,aG,aB,cg,inObs,Pv.look,zJ,xl],ec (by simp[fresh,aG,aB,cg,inObs,Pv.look,zJ,xl]),ed (by simp[fresh,aG,aB,dR,inObs,Pv.look,zJ,xl]),by simp⟩
 ·obtain⟨b,ae,cy⟩:=dV hi;have kg:kO b (l.take i)=l.take (i+1):=by
   have J:b∉l.take i:=fun h=>by
    obtain⟨j,af,e⟩:=nj h;have jd:j<i:=by simp at af;omega
    rw[List.getElem_take]at e;have:=(List.nodup_iff_pairwise_ne.1 vr);exact(pt.1 this j i (by omega) hi jd) (by rw[e,cy])
   rw[nR,ae];simp[kO,J]
  exact hd
def Od:C:=(aa [bf 4 false] (.seq (aa [I 7 0,cb 8 7,bQ 9 0] (e4 10 9 8 (.seq (.block 1 (aa [cp 11 5 7 9,be 12 5 11,dH 6 jZ,bW 5 6 12] (aa [aI 13 0 1 6,ax 14 1 13,I 15 1,bk 16 .geq 14 15,I 17 16,aq 17 false (fY 18 1 4 6),aq 17 false (be 19 4 18),ys 17 false (.bsl 20 4 32 [.t 19]),aq 17 false (cQ 21 116 20),b4 17 false 22 1,aq 17 false (bk 23 .gtr 21 22),dc 24 17 23] (aT 24 (aa [bf 4 false] .ret) .skip)))) (.region [aS 25 .add 9 1,I 9 25])))) (aa [bf 4 true] .ret)))
@[simp] def ajG:List bt:=[.tmp 4]
def Oc:C:=(aa [bQ 2 0] (.seq (aa [I 6 0,cQ 7 68 6,cx 8 7] (aT 8 (aa [bQ 2 (-1)] .ret) .skip)) (aa [cK (.alloc 3 (some 831) (.int .i64 0)),cK (.store 1 (.t 3) (gp 0))] (.seq (aa [I 9 0,cb 10 9,bQ 11 0] (e4 12 11 10 (.seq (.block 1 (aa [cp 13 4 9 11,be 14 4 13,dH 5 dS,bW 4 5 14] (.region [be 15 4 5,b1 16 (.mkf 193 [.t 3]),cd 17 129 15 16]))) (.region [aS 18 .add 11 1,I 11 18])))) (aa [ax 19 1 3,I 2 19] .ret)))))
@[simp] def ajE:List bt:=[.tmp 2]
def N8:C:=(aa [ez 4 2,bf 5 false] (.seq (aa [I 11 0,cQ 12 55 11,cx 13 12,I 14 13,b4 14 false 15 1,aq 14 false (cQ 16 56 15),aq 14 false (cx 17 16),dc 18 14 17] (aT 18 (aa [ez 4 2,bf 5 false] .ret) .skip)) (aa [fk 19 2 104 [],I 6 19] (.seq (.seq (.fg false 6 (.region [I 20 1,cb 21 20,bQ 22 0])) (e4 23 22 21 (.seq (.block 1 (aa [cp 24 2 20 22,be 25 2 24,cK (.alloc 8 none (.agg [.int .i64 0,.int .i64 0])),bW 2 8 25] (.seq (.drawn true 42 [I 27 0,I 28 6,aI 29 0 1 8,ax 30 1 29,cQ 31 96 30,aI 32 1 1 8,ax 33 1 32,dI 34 52 [.t 27,.t 28,.t 31,.t 33],I 26 34,c2 35 0 26,c2 36 1 26,I 9 35,I 10 36]) (.seq (aa [I 37 10,cx 38 37] (aT 38 (aa [ez 4 2,bf 5 false] .ret) .skip)) (.region [I 39 9,I 6 39]))))) (.region [aS 40 .add 22 1,I 22 40])))) (aa [I 41 6,I 4 41,bf 5 true] .ret)))))
@[simp] def Ln:List bt:=[.tmp 4,.tmp 5]
def N9:C:=(aa [ez 4 2,bf 5 false] (.seq (aa [I 11 0,cQ 12 55 11,cx 13 12,I 14 13,b4 14 false 15 1,aq 14 false (cQ 16 57 15),aq 14 false (cx 17 16),dc 18 14 17] (aT 18 (aa [ez 4 2,bf 5 false] .ret) .skip)) (aa [fk 19 2 106 [],I 6 19] (.seq (.seq (.fg false 6 (.region [I 20 1,cb 21 20,bQ 22 0])) (e4 23 22 21 (.seq (.block 1 (aa [cp 24 2 20 22,be 25 2 24,cK (.alloc 8 none (.agg [.int .i64 0,.str []])),bW 2 8 25] (.seq (.drawn true 42 [I 27 0,I 28 6,aI 29 0 1 8,ax 30 1 29,cQ 31 96 30,aI 32 1 1 8,ax 33 1 32,dI 34 54 [.t 27,.t 28,.t 31,.t 33],I 26 34,c2 35 0 26,c2 36 1 26,I 9 35,I 10 36]) (.seq (aa [I 37 10,cx 38 37] (aT 38 (aa [ez 4 2,bf 5 false] .ret) .skip)) (.region [I 39 9,I 6 39]))))) (.region [aS 40 .add 22 1,I 22 40])))) (aa [I 41 6,I 4 41,bf 5 true] .ret)))))
@[simp] def Lo:List bt:=[.tmp 4,.tmp 5]
def N5:C:=(aa [ez 2 1] (.seq (aa [I 12 0,cb 13 12,bQ 14 0] (e4 15 14 13 (.seq (.block 1 (aa [cp 16 1 12 14,ax 17 1 16,I 4 17] (aa [I 18 4,cQ 19 55 18,cx 20 19] (aT 20 (aa [ez 2 1] .ret) .skip)))) (.region [aS 21 .add 14 1,I 14 21])))) (aa [cK (.bslm 22 (some 821) 1 23 []),I 23 0,cK (.appm 24 none 1 23 (.t 22) (.t 23)),cK (.alloc 5 (some 822) (.slice 1 .nil [])),bW 1 5 24] (aa [ax 25 1 5,b1 26 (.mkif 24 (.t 25)),b1 27 (.mkf 203 [.t 5]),cd 28 202 26 27] (aa [fk 29 1 23 [],I 6 29] (.seq (aa [ax 30 1 5,cb 31 30,bQ 32 0] (.block 2 (.loop (aa [bk 33 .lss 32 31] (.seq (aT 33 .skip (.exit 2)) (.seq (.block 3 (aa [I 34 32,cp 35 1 30 32,ax 36 1 35,I 7 34,I 8 36] (.seq (aa [I 37 7,aS 38 .gtr 37 0,I 39 38,aq 39 true (ax 40 1 5),b4 39 true 41 7,aq 39 true (aS 42 .sub 41 1),aq 39 true (cp 43 1 40 42),aq 39 true (ax 44 1 43),b4 39 true 45 8,aq 39 true (cd 46 204 44 45),aq 39 true (aS 47 .eql 46 0),dK 48 39 47] (aT 48 (.exit 3) .skip)) (aa [bf 9 true] (.seq (aa [ax 49 1 5,cb 50 49,bQ 51 0] (.block 4 (.loop (aa [bk 52 .lss 51 50] (.seq (aT 52 .skip (.exit 4)) (.seq (.block 5 (aa [cp 53 1 49 51,ax 54 1 53,I 11 54] (aa [I 55 11,I 56 8,cd 57 204 55 56,aS 58 .neq 57 0,I 59 58,b4 59 true 60 11,b4 59 true 61 8,aq 59 true (cd 62 205 60 61),dK 63 59 62] (aT 63 (.region [bf 9 false]) .skip)))) (.region [aS 64 .add 51 1,I 51 64]))))))) (aa [I 65 9] (aT 65 (.region [I 66 6,I 67 8,cQ 68 119 67,fk 69 1 23 [.t 68],iN 70 1 23 66 69,I 6 70]) .skip))))))) (.region [aS 71 .add 32 1,I 32 71]))))))) (aa [I 72 6,I 2 72] .ret)))))))
@[simp] def ajA:List bt:=[.tmp 2]
def HN:C:=(.region [ax 3 1 1,I 4 0,aS 5 .add 4 1,b1 6 (.max2 (.t 3) (.t 5)),bW 1 1 6])
@[simp] def Lq:List bt:=[]
def N6:C:=(aa [bf 5 false] (.seq (.drawn true 16 [ax 6 1 2,I 7 0,cp 8 1 6 7,ax 9 1 8,ax 10 1 2,I 11 1,cp 12 1 10 11,ax 13 1 12,cd 14 204 9 13,aS 15 .lss 14 0,I 5 15]) .ret))
@[simp] def Ve:List bt:=[.tmp 5]
def wu:List (Nat×dA):=[
 (3,⟨1,8,.int .i64,.int .i64 0⟩),
 (9,⟨1,16,.str,.str []⟩),
 (23,⟨1,24,.slice 61,.slice 5 .nil []⟩),
 (24,⟨1,24,.slice 23,.slice 1 .nil []⟩),
 (25,⟨1,24,.slice 104,.slice 2 .nil []⟩),
 (26,⟨1,24,.slice 106,.slice 2 .nil []⟩),
 (30,⟨1,24,.slice 32,.slice 4 .nil []⟩),
 (32,⟨4,56,.struct [(0,3),(1,3),(2,9),(3,30)],.agg [.int .i64 0,.int .i64 0,.str [],.slice 4 .nil []]⟩),
 (61,⟨5,64,.struct [(0,3),(1,32)],.agg [.int .i64 0,.int .i64 0,.int .i64 0,.str [],.slice 4 .nil []]⟩),
 (104,⟨2,16,.struct [(0,3),(1,3)],.agg [.int .i64 0,.int .i64 0]⟩),
 (106,⟨2,24,.struct [(0,3),(1,9)],.agg [.int .i64 0,.str []]⟩)]
theorem wx:fN al wu=true:=by kernel_rfl
theorem ahy:bY wu Od ajG 2 Tryz.f58=true:=by kernel_rfl
theorem aaV:al.funcs[(58:Nat)]? =some Tryz.f58:=Tryz.func58
theorem ahx:bY wu Oc ajE 1 Tryz.f116=true:=by kernel_rfl
theorem aaU:al.funcs[(116:Nat)]? =some Tryz.f116:=Tryz.func116
theorem aht:bY wu N8 Ln 2 Tryz.f120=true:=by kernel_rfl
theorem aaQ:al.funcs[(120:Nat)]? =some Tryz.f120:=Tryz.func120
theorem ahu:bY wu N9 Lo 2 Tryz.f121=true:=by kernel_rfl
theorem aaR:al.funcs[(121:Nat)]? =some Tryz.f121:=Tryz.func121
theorem ahq:bY wu N5 ajA 1 Tryz.f124=true:=by kernel_rfl
theorem aaN:al.funcs[(124:Nat)]? =some Tryz.f124:=Tryz.func124
theorem Uz:bY wu HN Lq 2 Tryz.f193=true:=by kernel_rfl
theorem QH:al.funcs[(193:Nat)]? =some Tryz.f193:=Tryz.func193
theorem ahr:bY wu N6 Ve 3 Tryz.f203=true:=by kernel_rfl
theorem aaO:al.funcs[(203:Nat)]? =some Tryz.f203:=Tryz.func203
def S6(s:List au)(l:List bL)(i:Nat)(a:List bL):Prop:=iU a∧fZ s (l.drop i) a=fZ s l []
theorem W1{s:List au}(ag:eP s){l:List bL}(ar:iU l):bK al 120 [.slice 5 .no (s.map au.e),.slice 2 .no (l.map bL.e)] (fU (fZ s l [])):=by
 have xp:=vF ar;have dq:=p0 ag;have dj:=WY ar;refine bm wx aaQ aht fun aQ=>?_;unfold N8;simp;(with_reducible repeat' first|refine aj ?_|refine aE dq ?_|refine aF dq ?_|refine aE dj ?_|refine aF dj ?_|simp);refine dW [0,20,21] (fun i (a:List bL)=>[(6,.slice 2 .no (a.map bL.e)),(22,.int .i64 i)]) l.length (S6 s l) [] bV ⟨⟨by simp,by simp⟩,rfl⟩ (fun a af _=>?_) (fun i a hi af _=>?_)
 ·obtain⟨_,af⟩:=af;rw[List.drop_length]at af;simp only[fZ]at af;rw[←af];simp;(with_reducible repeat' first|refine aj ?_|simp);simp[bu,Ln,aV,aW,aU];simp[fU]
 ·obtain⟨bD,af⟩:=af;obtain⟨b,ae,cy⟩:=dV hi;have n7:=ar.at' b (eo ae);rw[k5 hi,cy]at af;simp only[fZ]at af;have gf:=al1 ag bD (.var b.v) (by simp[T.fit,T.ok,T.size,n7.1]) b.k;have bE:((T.var b.v).ap (cz s)).size≤5000:=Dc ag b.v;rw[if_pos ⟨n7.2,bE⟩,show(T.var b.v).ap (cz s)=cz s b.v from rfl]at gf;simp[hi,cy];cases dP:j5 a (cz s b.v) b.k with
  |none=>rw[dP]at af gf;simp only at af;rw[←af];simp only[fU]at gf;(with_reducible repeat' first|refine aj ?_|refine aE (kr _) ?_|refine aF (kr _) ?_|refine aE gf ?_|refine aF gf ?_|simp[cy,hi]);simp[bu,Ln,aV,aW,aU];simp[fU]
  |some bn=>rw[dP]at af gf;simp only[fU]at gf;(with_reducible repeat' first|refine aj ?_|refine aE (kr _) ?_|refine aF (kr _) ?_|refine aE gf ?_|refine aF gf ?_|simp[cy,hi]);exact bO.rng bn hi ⟨Hw bD (Az ag n7.1) n7.2 dP,af⟩ bV
def S7(s:List au)(G:List (List dz))(l:List bg)(i:Nat)(a:List bg):Prop:=h8 a∧nf G a∧ga s (l.drop i) a=ga s l []
theorem W2{s:List au}(ag:eP s){l:List bg}(ar:h8 l){G:List (List dz)}(mL:G.length≤687000)(a8:nf G l):bK al 121 [.slice 5 .no (s.map au.e),.slice 2 .no (l.map bg.e)] (iY (ga s l [])):=by
 have hlen:∀{a:List bg},h8 a→nf G a→a.length≤68719470000:=fun J U=>by have:=Cx J U;omega
 have xp:=hlen ar a8;have dq:=p0 ag;have dj:=W0 ar;refine bm wx aaR ahu fun aQ=>?_;unfold N9;simp;(with_reducible repeat' first|refine aj ?_|refine aE dq ?_|refine aF dq ?_|refine aE dj ?_|refine aF dj ?_|simp);refine dW [0,20,21] (fun i (a:List bg)=>[(6,.slice 2 .no (a.map bg.e)),(22,.int .i64 i)]) l.length (S7 s G l) [] bV ⟨⟨by simp,by simp[hH]⟩,fun x ad=>by simp at ad,rfl⟩ (fun a af _=>?_) (fun i a hi af _=>?_)
 ·obtain⟨_,_,af⟩:=af;rw[List.drop_length]at af;simp only[ga]at af;rw[←af];simp;(with_reducible repeat' first|refine aj ?_|simp);simp[bu,Lo,aV,aW,aU];simp[iY]
 ·obtain⟨bD,Ca,af⟩:=af;obtain⟨b,ae,cy⟩:=dV hi;have n7:=ar.at' b (eo ae);have Jf:=a8 b (eo ae);rw[k5 hi,cy]at af;simp only[ga]at af;have gf:=al0 ag bD (hlen bD Ca) (.var b.v) (by simp[T.fit,T.ok,T.size,n7.1]) n7.2;have bE:((T.var b.v).ap (cz s)).size≤5000:=Dc ag b.v;rw[if_pos bE,show(T.var b.v).ap (cz s)=cz s b.v from rfl]at gf;simp[hi,cy];cases dP:lH a (cz s b.v) b.s with
  |none=>rw[dP]at af gf;simp only at af;rw[←af];simp only[iY]at gf;(with_reducible repeat' first|refine aj ?_|refine aE (kr _) ?_|refine aF (kr _) ?_|refine aE gf ?_|refine aF gf ?_|simp[cy,hi]);simp[bu,Lo,aV,aW,aU];simp[iY]
  |some bn=>rw[dP]at af gf;simp only[iY]at gf;(with_reducible repeat' first|refine aj ?_|refine aE (kr _) ?_|refine aF (kr _) ?_|refine aE gf ?_|refine aF gf ?_|simp[cy,hi]);exact bO.rng bn hi ⟨Hy bD (Az ag n7.1) n7.2 dP,Hz Ca Jf dP,af⟩ bV
end Go.Proofs.YtohaalphocaebaaGreat
namespace Go.Proofs.YtohaalphocaebaaGreat
open Go Go.Pv Go.Lib
def cR(d:List au):ah:= .slice 5 .no (d.map au.e)
@[simp] theorem apX(S:aD→Prop)(d:List au):aB S (cR d)=True:=by simp[cR]
@[simp] theorem an0(d:List au):cells (cR d)=[cR d]:=rfl
@[simp] theorem ar9(d:List au):dY (cR d)=true:=rfl
@[simp] theorem asE(d:List au):dm (cR d)=cR d:=by simp[cR]
theorem Qn:∀(S:aD→Prop) (x:List au),aB S (cR x):=fun S x=>by simp
theorem Kk(S:aD→Prop):∀l:List (List au),aG S (l.map cR)
 |[]=>by simp[aG]
 |x::xs=>by simp[aG,Kk S xs]
@[simp] theorem TF(S:aD→Prop)(l:List (List au)):aG S (l.map cR)=True:=eq_true (Kk S l)
@[simp] theorem Mn:∀l:List (List au),cY (l.map cR)=l.map cR
 |[]=>rfl
 |x::xs=>by simp[cY,Mn xs]
def fQ(d:List cX):ah:= .slice 5 .no (d.map cX.e)
@[simp] theorem an3(d:List cX):cells (fQ d)=[fQ d]:=rfl
@[simp] theorem asd(d:List cX):dY (fQ d)=true:=rfl
theorem Ii(d:List au):fQ (d.map au.b)=cR d:=by simp only[fQ,cR,xQ]
theorem Ij(l:List (List au)):(l.map fun d=>d.map au.b).map fQ=l.map cR:=by rw[List.map_map];exact List.map_congr_left fun d _=>Ii d
@[simp] theorem ap0(S:aD→Prop)(d:List cX):aB S (fQ d)=True:=by simp[fQ]
@[simp] theorem asH(d:List cX):dm (fQ d)=fQ d:=by simp[fQ]
theorem TH(S:aD→Prop):∀l:List (List cX),aG S (l.map fQ)
 |[]=>by simp[aG]
 |x::xs=>by simp[aG,TH S xs]
@[simp] theorem apS(S:aD→Prop)(l:List (List cX)):aG S (l.map fQ)=True:=eq_true (TH S l)
abbrev tq(l:List (List au)):cE:=dO cR 821 822 23 1 l
theorem Hl(l:List (List au)):dT (tq l):=wK Qn l
theorem ac0(l:List (List au))(ar:l.length≤68719476736)(i j:Nat)(x y:List au)(hi:l[i]? =some x)(af:l[j]? =some y):bF al 203 [.int .i64 i,.int .i64 j,.ptr (.obj 822) 0] (tq l) fun r ai=>r= .bool (hG ev x y)∧ai=tq l:=by have ag:=Hl l;obtain⟨lM,hl⟩:=fw.1 hi;obtain⟨eb,pH⟩:=fw.1 af;have aZ:bK al 204 [cR x,cR y] (.int .i64 (ev x y)):=G9 x y;unfold tq dO at ag⊢;refine bF.mk mixed wx aaO ahr (by simp) ag.obj fun aQ cN=>?_;unfold N6;simp[lM,eb,hl,pH];(with_reducible repeat' first|refine aj ?_|refine aE aZ ?_|refine aF aZ ?_|simp[lM,eb,hl,pH]);refine cH.at _ (.inl rfl) ag (Same.refl _) aO aO ?_;simp[cI,Ve,aV,aW,aU,hG]
noncomputable def Tryz.dsT:TypeInfo:=(al.info? 24).get (by kernel_rfl)
noncomputable def Tryz.dsE:TypeInfo:=(al.info? 23).get (by kernel_rfl)
theorem Tryz.dsK(n:Nat)(U:2≤n):Lib.swapperK n Tryz.dsE 23=9:=by
 have a:Tryz.dsE.hasPointers=true:=by kernel_rfl
 have b:Tryz.dsE.bytes=24:=by kernel_rfl
 have c:(n==0)=false:=by simp;omega
 have d:(n==1)=false:=by simp;omega
 simp[Lib.swapperK,a,b,c,d]
theorem adx(l:List (List au))(ar:l.length≤68719476736):bF al 202 [.iface 24 (.row 1 (.obj 821) l.length),.func 203 [.ptr (.obj 822) 0]] (tq l) fun r ai=>r= .tuple []∧ai=tq (oz ev l):=by
 refine(ac3 Qn (K:=821) (B:=822) (sz:=1) 24 Tryz.dsT Tryz.dsE (by kernel_rfl) (by kernel_rfl) (by kernel_rfl) (by kernel_rfl) 23 (fun _=>by kernel_rfl) Tryz.dsK 203 (hG ev) lz.ltOk l ar (fun aX h i j x y hi af=>ac0 aX (by omega) i j x y hi af) (fun aX h i j hi af=>?_)).mono ?_
 ·have:=Rq (P:=al) false 257 (fun args W=>run_callFunc_extern Tryz.func257 (by kernel_rfl) (by kernel_rfl) (by kernel_rfl) (e:=DC false) (by kernel_rfl) args W)
   23 Tryz.dsE (by kernel_rfl) (.inr ⟨by kernel_rfl,fun _=>by kernel_rfl⟩) (Hl aX) (K:=821) (n:=l.length) (el:=23) (sz:=1) (by kernel_rfl) (xs:=aX.map cR) (by simp[dO,Pv.look,h]) i j hi af
  refine this.mono ?_;rintro r ai ⟨rfl,rfl⟩;refine⟨rfl,?_⟩;simp[dO,cw,TZ,h]
 ·rintro r ai ⟨rfl,aX,rfl,J,U⟩;exact⟨rfl,by rw[Wq lz J U]⟩
end Go.Proofs.YtohaalphocaebaaGreat
namespace Go.Proofs.YtohaalphocaebaaGreat
open Go Go.Pv
inductive gU where
 |s (l:List dz)
 |b (x:ByteArray)
def gU.e:gU→ah
 | .s l=>.str l
 | .b x=>.cst (.string x)
def gU.len:gU→Int
 | .s l=>l.length
 | .b x=>x.size
def mv(n:Nat):Prop:=lim<n∧n≤9223372036854775807
def gU.wf:gU→Prop
 | .s _=>True
 | .b x=>mv x.size
inductive cJ (α:Type) where
 |l (xs:List α)
 |b (p:aY Addr) (n cap:Nat)
def cJ.e{α:Type}(sz:Nat)(f:α→ah):cJ α→ah
 | .l xs=>.slice sz .no (xs.map f)
 | .b p n cap=>.cst (.slice p n cap)
def cJ.wf{α:Type}(P:α→Prop):cJ α→Prop
 | .l xs=> ∀x∈xs,P x
 | .b _ n _=>mv n
inductive b7 where
 |mk (k n:Int) (s:gU) (a:List b7)
 |big (k n:Int) (s:gU) (p:aY Addr) (len cap:Nat)
mutual
def b7.e:b7→ah
 | .mk k n s a=>.agg [.int .i64 k,.int .i64 n,s.e,.slice 4 .no (b7.eL a)]
 | .big k n s p len cap=>.agg [.int .i64 k,.int .i64 n,s.e,.cst (.slice p len cap)]
def b7.eL:List b7→List ah
 |[]=>[]
 |x::xs=>x.e::b7.eL xs
end
theorem b7.eL_map:∀l,b7.eL l=l.map b7.e
 |[]=>rfl
 |x::xs=>by simp[b7.eL,b7.eL_map xs]
def b7.kind:b7→Int| .mk k _ _ _=>k| .big k _ _ _ _ _=>k
def b7.num:b7→Int| .mk _ n _ _=>n| .big _ n _ _ _ _=>n
def b7.name:b7→gU| .mk _ _ s _=>s| .big _ _ s _ _ _=>s
def b7.args:b7→cJ b7| .mk _ _ _ a=>.l a| .big _ _ _ p l c=>.b p l c
theorem b7.e_eq(t:b7):t.e= .agg [.int .i64 t.kind,.int .i64 t.num,t.name.e,t.args.e 4 b7.e]:=by
 cases t with
 |mk k n s a=>simp only[b7.e,b7.eL_map];rfl
 |big=>rfl
@[simp] theorem ap4(S:aD→Prop)(s:gU):aB S s.e=True:=by cases s<;>simp[gU.e,aB]
@[simp] theorem asK(s:gU):dm s.e=s.e:=by cases s<;>simp[gU.e,dm]
mutual
theorem TK(S:aD→Prop):∀t:b7,aB S t.e
 | .mk k n s a=>by simp[b7.e,aB,aG,Kl S a]
 | .big k n s p l c=>by simp[b7.e,aB,aG]
theorem Kl(S:aD→Prop):∀l:List b7,aG S (b7.eL l)
 |[]=>by simp[b7.eL,aG]
 |x::xs=>by simp[b7.eL,aG,TK S x,Kl S xs]
end
mutual
theorem Wv:∀t:b7,dm t.e=t.e
 | .mk k n s a=>by simp[b7.e,dm,cY,Mo a]
 | .big k n s p l c=>by simp[b7.e,dm,cY]
theorem Mo:∀l:List b7,cY (b7.eL l)=b7.eL l
 |[]=>by simp[b7.eL,cY]
 |x::xs=>by simp[b7.eL,cY,Wv x,Mo xs]
end
@[simp] theorem aqi(S:aD→Prop)(t:b7):aB S t.e=True:=eq_true (TK S t)
@[simp] theorem apQ(S:aD→Prop)(l:List b7):aG S (l.map b7.e)=True:=by rw[←b7.eL_map];exact eq_true (Kl S l)
@[simp] theorem asS(t:b7):dm t.e=t.e:=Wv t
@[simp] theorem asA(l:List b7):cY (l.map b7.e)=l.map b7.e:=by rw[←b7.eL_map];exact Mo l
@[simp] theorem asw(t:b7):dY t.e=true:=by rw[b7.e_eq];rfl
@[simp] theorem apz(t:b7):Pv.isAgg 4 t.e:=by rw[b7.e_eq];exact⟨_,rfl,rfl⟩
@[simp] theorem aom(t:b7):cells t.e=[.int .i64 t.kind,.int .i64 t.num,t.name.e,t.args.e 4 b7.e]:=by rw[b7.e_eq];rfl
@[simp] theorem ap3(S:aD→Prop)(x:cJ b7):aB S (x.e 4 b7.e)=True:=by cases x<;>simp[cJ.e,aB]
@[simp] theorem asJ(x:cJ b7):dm (x.e 4 b7.e)=x.e 4 b7.e:=by cases x<;>simp[cJ.e,dm]
mutual
def b7.sz:b7→Nat
 | .mk _ _ _ a=>1+b7.szL a
 | .big _ _ _ _ _ _=>1
def b7.szL:List b7→Nat
 |[]=>0
 |x::xs=>x.sz+b7.szL xs
end
theorem b7.szL_mem:∀{l:List b7} {x:b7},x∈l→x.sz≤b7.szL l
 |y::l,x,h=>by
  rcases fK.1 h with rfl|h
  ·simp[b7.szL]
  ·have:=b7.szL_mem h;simp[b7.szL];omega
mutual
def b7.wf:b7→Prop
 | .mk _ _ s a=>s.wf∧b7.wfL a
 | .big _ _ s _ l _=>s.wf∧mv l
def b7.wfL:List b7→Prop
 |[]=>True
 |x::xs=>x.wf∧b7.wfL xs
end
theorem b7.wfL_iff:∀{l:List b7},b7.wfL l↔∀x∈l,x.wf
 |[]=>by simp[b7.wfL]
 |x::l=>by simp[b7.wfL,b7.wfL_iff (l:=l)]
def jL{α:Type}(f:α→Int→Int):List α→Int→Int
 |[],m=>m
 |x::xs,m=>if f x m<0 then-1 else jL f xs (f x m)
def nI{α:Type}(f:α→Int→Int)(l:List α)(m:Int):Int:=if m-l.length<0 then-1 else jL f l (m-l.length)
def gL{α:Type}(f:α→Int→Int):cJ α→Int→Int
 | .l xs,m=>nI f xs m
 | .b _ _ _,_=> -1
theorem Wz{α:Type}{f:α→Int→Int}(aH:∀x m,0≤m→ -1≤f x m∧f x m≤m):∀(l:List α) (m:Int),0≤m→ -1≤jL f l m∧jL f l m≤m
 |[],m,h=>by simp only[jL];omega
 |x::xs,m,h=>by
  have J:=aH x m h;simp only[jL];split
  ·omega
  ·have U:=Wz aH xs (f x m) (by omega);omega
theorem alD{α:Type}{f:α→Int→Int}(aH:∀x m,0≤m→ -1≤f x m∧f x m≤m)(l:List α)(m:Int)(h:0≤m): -1≤nI f l m∧nI f l m≤m:=by
 unfold nI;split
 ·omega
 ·have:=Wz aH l (m-l.length) (by omega);omega
theorem wm{α:Type}{f:α→Int→Int}(aH:∀x m,0≤m→ -1≤f x m∧f x m≤m)(l:cJ α)(m:Int)(h:0≤m): -1≤gL f l m∧gL f l m≤m:=by
 cases l with
 |l xs=>exact alD aH xs m h
 |b=>simp only[gL];omega
mutual
def hP:b7→Int→Int
 | .mk _ _ s a,m=>if m-s.len<0 then-1 else if m-s.len-a.length<0 then-1 else s6 a (m-s.len-a.length)
 | .big _ _ s _ _ _,m=>if m-s.len<0 then-1 else-1
def s6:List b7→Int→Int
 |[],m=>m
 |x::xs,m=>if hP x m<0 then-1 else s6 xs (hP x m)
end
theorem WC:∀(l:List b7) (m:Int),s6 l m=jL hP l m
 |[],m=>rfl
 |x::xs,m=>by simp only[s6,jL,WC xs]
theorem GU(t:b7)(m:Int):hP t m=if m-t.name.len<0 then-1 else gL hP t.args (m-t.name.len):=by
 cases t with
 |mk=>simp only[hP,gL,nI,WC,b7.name,b7.args];rfl
 |big=>simp only[hP,gL,b7.name,b7.args];rfl
theorem gU.len_nn(s:gU):0≤s.len:=by cases s<;>simp[gU.len]
mutual
theorem uO:∀(t:b7) (m:Int),0≤m→ -1≤hP t m∧hP t m≤m
 | .mk _ _ s a,m,h=>by
  have:=s.len_nn;simp only[hP];split
  ·omega
  ·split
   ·omega
   ·have:=WD a (m-s.len-a.length) (by omega);omega
 | .big _ _ s _ _ _,m,h=>by simp only[hP];split<;>omega
theorem WD:∀(l:List b7) (m:Int),0≤m→ -1≤s6 l m∧s6 l m≤m
 |[],m,h=>by simp only[s6];omega
 |x::xs,m,h=>by
  have J:=uO x m h;simp only[s6];split
  ·omega
  ·have U:=WD xs (hP x m) (by omega);omega
end
theorem gU.small{s:gU}(hw:s.wf){m:Int}(bq:m≤1048576)(h:0≤m-s.len):∃l,s= .s l:=by
 cases s with
 |s l=>exact⟨l,rfl⟩
 |b x=>simp only[gU.wf,mv,lim]at hw;simp only[gU.len]at h;omega
mutual
def qL:bJ→b7
 | .mk k n s a=>.mk k n (.s s) (AG a)
def AG:List bJ→List b7
 |[]=>[]
 |x::xs=>qL x::AG xs
end
mutual
theorem Mz:∀t:bJ,(qL t).e=enc t
 | .mk k n s a=>by simp only[qL,b7.e,enc,WN a];rfl
theorem WN:∀l:List bJ,b7.eL (AG l)=o0 l
 |[]=>rfl
 |x::xs=>by simp only[AG,b7.eL,o0,Mz x,WN xs]
end
mutual
theorem Ms:∀(t:b7) (m:Int),t.wf→m≤1048576→0≤m→0≤hP t m→∃u:bJ,t=qL u
 | .mk k n s a,m,hw,J,bq,h=>by
  simp only[b7.wf]at hw;simp only[hP]at h;have:=s.len_nn;split at h
  ·omega
  rename_i g;obtain⟨l,rfl⟩:=gU.small hw.1 J (by omega);split at h
  ·omega
  obtain⟨b,ae⟩:=WE a _ hw.2 (by omega) (by omega) h;exact⟨.mk k n l b,by simp only[qL,ae]⟩
 | .big _ _ s _ _ _,m,_,_,_,h=>by simp only[hP]at h;split at h<;>omega
theorem WE:∀(l:List b7) (m:Int),b7.wfL l→m≤1048576→0≤m→0≤s6 l m→∃u:List bJ,l=AG u
 |[],_,_,_,_,_=>⟨[],rfl⟩
 |x::xs,m,hw,J,bq,h=>by
  simp only[b7.wfL]at hw;simp only[s6]at h;have U:=uO x m bq;split at h
  ·omega
  obtain⟨u,hu⟩:=Ms x m hw.1 J bq (by omega);obtain⟨v,aJ⟩:=WE xs _ hw.2 (by omega) (by omega) h;exact⟨u::v,by simp only[AG,hu,aJ]⟩
end
theorem WA{α β:Type}{f:α→Int→Int}{P:α→Prop}{g:β→α}(hle:∀x m,0≤m→ -1≤f x m∧f x m≤m)(ag:∀x m,P x→m≤1048576→0≤m→0≤f x m→∃y,x=g y):∀(l:List α) (m:Int),(∀x∈l,P x)→m≤1048576→0≤m→0≤jL f l m→∃u:List β,l=u.map g
 |[],_,_,_,_,_=>⟨[],rfl⟩
 |x::xs,m,hw,J,bq,h=>by
  simp only[jL]at h;have U:=hle x m bq;split at h
  ·omega
  obtain⟨u,hu⟩:=ag x m (hw x (by simp)) J bq (by omega);obtain⟨v,aJ⟩:=WA hle ag xs _ (fun y aM=>hw y (by simp[aM])) (by omega) (by omega) h;exact⟨u::v,by rw[gM,←hu,←aJ]⟩
theorem GS{α β:Type}{f:α→Int→Int}{P:α→Prop}{g:β→α}(hle:∀x m,0≤m→ -1≤f x m∧f x m≤m)(ag:∀x m,P x→m≤1048576→0≤m→0≤f x m→∃y,x=g y)(l:cJ α)(m:Int)(hw:l.wf P)(J:m≤1048576)(bq:0≤m)(h:0≤gL f l m):∃u:List β,l= .l (u.map g):=by
 cases l with
 |b=>simp only[gL]at h;omega
 |l xs=>
  simp only[gL,nI]at h;split at h
  ·omega
  obtain⟨u,hu⟩:=WA hle ag xs _ hw (by omega) (by omega) h;exact⟨u,by rw[hu]⟩
end Go.Proofs.YtohaalphocaebaaGreat
namespace Go.Proofs.YtohaalphocaebaaGreat
open Go Go.Pv Go.ChangeShapes Go.WideShapes Go.ChangeAt Go.RowKit Go.Deep
def qW(W:World):bd:=⟨fun b o=> ∃u,W.cell? ⟨b,o,none⟩=some u,fun _=>none,fun _=>none,fun _ _ _=>eR⟩
theorem TN(W:World)(b:Nat):∀(us:List Value) (off:Nat),(∀i u,us[i]? =some u→W.cell? ⟨b,off+i,none⟩=some u)→lx W (qW W).A b off us
 |[],_,_=>trivial
 |u::us,off,h=>by
  have bq:W.cell? ⟨b,off,none⟩=some u:=by simpa using h 0 u rfl
  exact⟨⟨⟨u,bq⟩,bq⟩,TN W b us (off+1) fun i eQ hu=>by have:=h (i+1) eQ (by simpa using hu);rwa[show off+(i+1)=off+1+i from by omega]at this⟩
section
variable {H:Type} {enc:fV×Value→H} {W:World} {spare:Nat→Bool} {held:Bool}
def reads(W:World)(p:ah)(cs:List Value):Prop:= ∃v:Value,v.cells.toList=cs∧ba W (qW W) p v∧∀c∈cs,c.oneCell'=true
theorem x7{W:World}{cu:List ah}{cs:List Value}(h:c4 W (qW W) cu cs):reads W (.agg cu) cs:=by
 refine⟨.agg cs.toArray,by simp[oH],by simp only[ba];exact⟨cs.toArray,rfl,by simpa using h⟩,?_⟩;have:∀(cu:List ah) (cs:List Value),c4 W (qW W) cu cs→∀c∈cs,c.oneCell'=true:=by
  intro cu;induction cu with
  |nil=>intro cs h;simp only[c4]at h;subst h;simp
  |cons p cu bN=>
   intro cs h c aw;simp only[c4]at h;obtain⟨u,us,rfl,J,U⟩:=h;rcases fK.1 aw with rfl|aw
   ·exact J.2
   ·exact bN us U c aw
 exact this cu cs h
def sW(W:World)(p:ah)(v:Value):Prop:=ba W (qW W) p v∧v.oneCell'=true∧v.cells= #[v]
theorem sW.reads{W:World}{p:ah}{v:Value}(h:sW W p v):reads W p [v]:=⟨v,by rw[h.2.2],h.1,fun c aw=>by simp at aw;subst aw;exact h.2.1⟩
theorem YQ{W:World}{wM wO k j:Nat}:W.cell? (((⟨wM,wO,none⟩:Addr).add k).add j)=W.cell? ⟨wM,wO+(k+j),none⟩:=by rw[add_add,Addr.add_lit]
theorem AB{α:Type}{t e:fV}{sz:Nat}(f:α→ah)(Q:α→Prop)(aL:al.underlying t=some (.slice e))(aw:al.cellsOf e=sz)(eh:0<sz){fuel:Nat}
  (aeg:∀n cs x,n<fuel→h0 enc al W 0 spare held n e cs=some x→∃a:α,Q a∧reads W (f a) cs)
  {cs:List Value} {x:DataW H×List MemPlace} (h:h0 enc al W 0 spare held fuel t cs=some x):∃l:cJ α,l.wf Q∧∃v,cs=[v]∧sW W (l.e sz f) v:=by
 rcases DataW.trod_slice aL h with⟨rfl,_⟩|⟨a,len,cap,elems,rest,n,rfl,rfl,_,_,ar,hm,hlen,RV,_,_⟩
 ·refine⟨.l [],by simp[cJ.wf],_,rfl,?_,rfl,rfl⟩;simp only[cJ.e,mz,ba];exact⟨⟨none,0,rfl,by simp,⟨by simp[maxLen],by simp[lim]⟩,.inl (by simp)⟩,fun e=>(by cases e),fun g e=>(by cases e),fun _ _ e=>(by cases e),fun _ e=>(by cases e)⟩
 by_cases EJ:lim<len
 ·refine⟨.b (some a) len cap,⟨EJ,by unfold maxLen at hm;omega⟩,_,rfl,?_,rfl,rfl⟩;simp only[cJ.e,ba]
 rcases Nat.eq_zero_or_pos len with rfl|fq
 ·refine⟨.l [],by simp[cJ.wf],_,rfl,?_,rfl,rfl⟩;simp only[cJ.e,mz,ba];exact⟨⟨some a,cap,rfl,by simp,⟨hm,by simp[lim]⟩,.inl (by simp)⟩,fun e=>(by cases e),fun g e=>(by cases e),fun _ _ e=>(by cases e),fun _ e=>(by cases e)⟩
 rw[aw]at RV;have gX:∀i,i<len→∃cs',cs'.length=sz∧(∀j,j<sz→W.cell? ((a.add (i*sz)).add j)=cs'[j]?)∧∃b:α,Q b∧reads W (f b) cs':=by intro i hi;have J:=RV i hi;rw[cf (by omega)]at J;obtain⟨cs',U,ao⟩:=mB.1 J;obtain⟨_,a7,bZ⟩:=World.cells?_some U;exact⟨cs',a7,bZ,aeg n cs' _ (by omega) ao⟩
 obtain⟨wM,wO,spot⟩:=a;have afd:spot=none:=by obtain⟨cs',J,U,_⟩:=gX 0 fq;have ao:=U 0 eh;rw[cf (by omega)]at ao;simpa[Addr.add]using World.cell?_spot ao
 subst afd;have YW:∀d,d≤len→∃xs:List α,xs.length=d∧(∀x∈xs,Q x)∧∃us:List Value,us.length=d*sz∧dx W (qW W) sz (xs.map f) us∧∀j u,us[j]? =some u→W.cell? ⟨wM,wO+((len-d)*sz+j),none⟩=some u:=by
  intro d;induction d with
  |zero=>intro _;exact⟨[],rfl,by simp,[],by simp,by simp[dx],by simp⟩
  |succ d bN=>
   intro aR;obtain⟨xs,ak,aC,us,bj,dd,gW⟩:=bN (by omega);obtain⟨cs',bG,ch,b,ae,v,v1,v2,v3⟩:=gX (len-(d+1)) (by omega);have hmul:(len-d)*sz=(len-(d+1))*sz+sz:=by rw[show len-d=(len-(d+1))+1 from by omega,Nat.succ_mul]
   refine⟨b::xs,by simp[ak],fun x ad=>?_,cs'++us,by rw[oI,bG,bj,Nat.succ_mul];omega,?_,fun j u af=>?_⟩
   ·rcases fK.1 ad with rfl|ad
    ·exact ae
    ·exact aC x ad
   ·simp only[gM,dx];exact⟨v,us,by rw[v1],⟨v2,by rw[←bG,←v1];simp,by rw[v1];exact v3⟩,dd⟩
   ·rcases Nat.lt_or_ge j sz with bA|tT
    ·rw[List.getElem?_append_left (by omega)]at af;have:=ch j bA;rw[YQ]at this;rw[this];exact af
    ·rw[List.getElem?_append_right (by omega),bG]at af;have:=gW (j-sz) u af;rwa[show(len-d)*sz+(j-sz)=(len-(d+1))*sz+j from by omega]at this
 obtain⟨xs,ak,aC,us,bj,dd,gW⟩:=YW len (eV _);refine⟨.l xs,aC,_,rfl,?_,rfl,rfl⟩;simp only[cJ.e,ba];refine⟨⟨some ⟨wM,wO,none⟩,cap,by rw[p6,ak],by rw[p6,ak];exact ar,⟨hm,by rw[p6,ak];omega⟩,.inr ⟨wM,wO,us,rfl,TN W wM us wO fun i u hu=>?_,dd⟩⟩,fun e=>(by cases e),fun g e=>(by cases e),fun _ _ e=>(by cases e),fun _ e=>(by cases e)⟩;have:=gW i u hu;simpa using this
end
end Go.Proofs.YtohaalphocaebaaGreat
namespace Go.Proofs.YtohaalphocaebaaGreat
open Go Go.Pv
def HZ:C:=(aa [bQ 4 0] (aa [I 6 1,I 7 0,cb 8 7,bk 9 .sub 6 8,I 1 9] (.seq (aa [I 10 1,aS 11 .lss 10 0] (aT 11 (aa [bQ 4 (-1)] .ret) .skip)) (.seq (aa [bQ 5 0] (.block 0 (.loop (.seq (aa [I 12 5,I 13 0,cb 14 13,bk 15 .lss 12 14] (aT 15 .skip (.exit 0))) (.seq (.block 1 (aa [I 18 0,I 19 5,cp 20 4 18 19,be 21 4 20,I 22 1,cd 23 85 21 22,I 1 23] (aa [I 24 1,aS 25 .lss 24 0] (aT 25 (aa [bQ 4 (-1)] .ret) .skip)))) (.region [I 16 5,aS 17 .add 16 1,I 5 17])))))) (aa [I 26 1,I 4 26] .ret)))))
@[simp] def aj4:List bt:=[.tmp 4]
def O4:C:=(aa [ez 2 4] (aa [I 5 0,cb 6 5,cK (.mks 7 none 4 32 (.agg dS) (.t 6)),I 3 7] (.seq (aa [bQ 4 0] (.block 0 (.loop (.seq (aa [I 8 4,I 9 0,cb 10 9,bk 11 .lss 8 10] (aT 11 .skip (.exit 0))) (.seq (.block 1 (.region [I 14 3,I 15 4,I 16 0,I 17 4,cp 18 4 16 17,be 19 4 18,cQ 20 87 19,cp 21 4 14 15,bW 4 21 20])) (.region [I 12 4,aS 13 .add 12 1,I 4 13])))))) (.seq (.pub 3 (.region [I 22 3,I 2 22])) .ret))))
@[simp] def ake:List bt:=[.tmp 2]
def OT:C:=(aa [bf 4 false] (.seq (aa [I 6 0,cb 7 6,I 8 1,cb 9 8,bk 10 .neq 7 9] (aT 10 (aa [bf 4 false] .ret) .skip)) (.seq (aa [bQ 5 0] (.block 0 (.loop (.seq (aa [I 11 5,I 12 0,cb 13 12,bk 14 .lss 11 13] (aT 14 .skip (.exit 0))) (.seq (.block 1 (.seq (.drawn true 27 [I 17 0,I 18 5,cp 19 4 17 18,be 20 4 19,I 21 1,I 22 5,cp 23 4 21 22,be 24 4 23,cd 25 90 20 24,cx 26 25]) (aT 26 (aa [bf 4 false] .ret) .skip))) (.region [I 15 5,aS 16 .add 15 1,I 5 16])))))) (aa [bf 4 true] .ret))))
@[simp] def ajV:List bt:=[.tmp 4]
def yJ:C:=(aa [cM 2 0,bQ 4 0] (aa [aI 5 1 1 2,ax 6 1 5,I 7 1,cd 8 137 6 7,I 1 8] (.seq (aa [I 9 1,aS 10 .lss 9 0] (aT 10 (aa [bQ 4 (-1)] .ret) .skip)) (aa [aI 11 2 1 2,ax 12 1 11,I 13 1,cd 14 138 12 13,I 1 14] (.seq (aa [I 15 1,aS 16 .lss 15 0] (aT 16 (aa [bQ 4 (-1)] .ret) .skip)) (aa [aI 17 3 1 2,ax 18 1 17,I 19 1,cd 20 139 18 19,I 1 20] (.seq (aa [I 21 1,aS 22 .lss 21 0] (aT 22 (aa [bQ 4 (-1)] .ret) .skip)) (aa [aI 23 4 1 2,ax 24 1 23,I 25 1,cd 26 140 24 25,I 1 26] (.seq (aa [I 27 1,aS 28 .lss 27 0] (aT 28 (aa [bQ 4 (-1)] .ret) .skip)) (aa [I 29 1,I 4 29] .ret))))))))))
@[simp] def aj2:List bt:=[.tmp 4]
def O2:C:=(aa [cM 1 0,dH 2 pd] (aa [dH 3 pd] (aa [aI 4 0 1 1,ax 5 1 4,aI 6 0 1 3,bW 1 6 5] (aa [aI 7 1 1 1,ax 8 1 7,cQ 9 149 8,aI 10 1 1 3,bW 1 10 9] (aa [aI 11 2 1 1,ax 12 1 11,cQ 13 150 12,aI 14 2 1 3,bW 1 14 13] (aa [aI 15 3 1 1,ax 16 1 15,cQ 17 151 16,aI 18 3 1 3,bW 1 18 17] (aa [aI 19 4 1 1,ax 20 1 19,cQ 21 152 20,aI 22 4 1 3,bW 1 22 21] (aa [be 23 5 3,bW 5 2 23] .ret))))))))
@[simp] def akc:List bt:=[.cell 2 true 5]
def OR:C:=(aa [cM 2 0,cM 3 1,bf 4 false] (.seq (aa [aI 5 0 1 2,ax 6 1 5,aI 7 0 1 3,ax 8 1 7,bk 9 .neq 6 8] (aT 9 (aa [bf 4 false] .ret) .skip)) (.seq (aa [aI 10 1 1 2,ax 11 1 10,aI 12 1 1 3,ax 13 1 12,cd 14 156 11 13,cx 15 14] (aT 15 (aa [bf 4 false] .ret) .skip)) (.seq (aa [aI 16 2 1 2,ax 17 1 16,aI 18 2 1 3,ax 19 1 18,cd 20 157 17 19,cx 21 20] (aT 21 (aa [bf 4 false] .ret) .skip)) (.seq (aa [aI 22 3 1 2,ax 23 1 22,aI 24 3 1 3,ax 25 1 24,cd 26 158 23 25,cx 27 26] (aT 27 (aa [bf 4 false] .ret) .skip)) (.seq (aa [aI 28 4 1 2,ax 29 1 28,aI 30 4 1 3,ax 31 1 30,cd 32 159 29 31,cx 33 32] (aT 33 (aa [bf 4 false] .ret) .skip)) (aa [bf 4 true] .ret)))))))
@[simp] def ajT:List bt:=[.tmp 4]
def tA:C:=(aa [cM 2 0,bQ 4 0] (aa [I 5 1,aI 6 2 1 2,ax 7 1 6,b1 8 (.slen (.t 7)),bk 9 .sub 5 8,I 1 9] (.seq (aa [I 10 1,aS 11 .lss 10 0] (aT 11 (aa [bQ 4 (-1)] .ret) .skip)) (aa [aI 12 3 1 2,ax 13 1 12,I 14 1,cd 15 32 13 14,I 1 15] (.seq (aa [I 16 1,aS 17 .lss 16 0] (aT 17 (aa [bQ 4 (-1)] .ret) .skip)) (aa [I 18 1,I 4 18] .ret))))))
@[simp] def aj3:List bt:=[.tmp 4]
def O3:C:=(aa [cM 1 0,dH 2 dS] (aa [dH 3 dS] (aa [aI 4 0 1 1,ax 5 1 4,aI 6 0 1 3,bW 1 6 5] (aa [aI 7 1 1 1,ax 8 1 7,aI 9 1 1 3,bW 1 9 8] (aa [aI 10 2 1 1,ax 11 1 10,aI 12 2 1 3,bW 1 12 11] (aa [aI 13 3 1 1,ax 14 1 13,cQ 15 34 14,aI 16 3 1 3,bW 1 16 15] (aa [be 17 4 3,bW 4 2 17] .ret)))))))
@[simp] def akd:List bt:=[.cell 2 true 4]
def OS:C:=(aa [cM 2 0,cM 3 1,bf 4 false] (.seq (aa [aI 5 0 1 2,ax 6 1 5,aI 7 0 1 3,ax 8 1 7,bk 9 .neq 6 8] (aT 9 (aa [bf 4 false] .ret) .skip)) (.seq (aa [aI 10 1 1 2,ax 11 1 10,aI 12 1 1 3,ax 13 1 12,bk 14 .neq 11 13] (aT 14 (aa [bf 4 false] .ret) .skip)) (.seq (aa [aI 15 2 1 2,ax 16 1 15,aI 17 2 1 3,ax 18 1 17,bk 19 .neq 16 18] (aT 19 (aa [bf 4 false] .ret) .skip)) (.seq (aa [aI 20 3 1 2,ax 21 1 20,aI 22 3 1 3,ax 23 1 22,cd 24 36 21 23,cx 25 24] (aT 25 (aa [bf 4 false] .ret) .skip)) (aa [bf 4 true] .ret))))))
@[simp] def ajU:List bt:=[.tmp 4]
def HW:C:=(aa [bQ 4 0] (aa [I 6 1,I 7 0,cb 8 7,bk 9 .sub 6 8,I 1 9] (.seq (aa [I 10 1,aS 11 .lss 10 0] (aT 11 (aa [bQ 4 (-1)] .ret) .skip)) (.seq (aa [bQ 5 0] (.block 0 (.loop (.seq (aa [I 12 5,I 13 0,cb 14 13,bk 15 .lss 12 14] (aT 15 .skip (.exit 0))) (.seq (.block 1 (aa [I 18 0,I 19 5,cp 20 5 18 19,be 21 5 20,I 22 1,cd 23 213 21 22,I 1 23] (aa [I 24 1,aS 25 .lss 24 0] (aT 25 (aa [bQ 4 (-1)] .ret) .skip)))) (.region [I 16 5,aS 17 .add 16 1,I 5 17])))))) (aa [I 26 1,I 4 26] .ret)))))
@[simp] def ajY:List bt:=[.tmp 4]
def HX:C:=(aa [bQ 4 0] (aa [I 6 1,I 7 0,cb 8 7,bk 9 .sub 6 8,I 1 9] (.seq (aa [I 10 1,aS 11 .lss 10 0] (aT 11 (aa [bQ 4 (-1)] .ret) .skip)) (.seq (aa [bQ 5 0] (.block 0 (.loop (.seq (aa [I 12 5,I 13 0,cb 14 13,bk 15 .lss 12 14] (aT 15 .skip (.exit 0))) (.seq (.block 1 (aa [I 18 0,I 19 5,cp 20 1 18 19,ax 21 1 20,I 22 1,cd 23 137 21 22,I 1 23] (aa [I 24 1,aS 25 .lss 24 0] (aT 25 (aa [bQ 4 (-1)] .ret) .skip)))) (.region [I 16 5,aS 17 .add 16 1,I 5 17])))))) (aa [I 26 1,I 4 26] .ret)))))
@[simp] def ajZ:List bt:=[.tmp 4]
def D4:C:=(aa [bQ 4 0] (aa [I 5 1,I 6 0,cb 7 6,bk 8 .sub 5 7,I 1 8] (.seq (aa [I 9 1,aS 10 .lss 9 0] (aT 10 (aa [bQ 4 (-1)] .ret) .skip)) (aa [I 11 1,I 4 11] .ret))))
@[simp] def aj5:List bt:=[.tmp 4]
def HY:C:=(aa [bQ 4 0] (aa [I 6 1,I 7 0,cb 8 7,bk 9 .sub 6 8,I 1 9] (.seq (aa [I 10 1,aS 11 .lss 10 0] (aT 11 (aa [bQ 4 (-1)] .ret) .skip)) (.seq (aa [bQ 5 0] (.block 0 (.loop (.seq (aa [I 12 5,I 13 0,cb 14 13,bk 15 .lss 12 14] (aT 15 .skip (.exit 0))) (.seq (.block 1 (aa [I 18 0,I 19 5,cp 20 2 18 19,be 21 2 20,I 22 1,cd 23 214 21 22,I 1 23] (aa [I 24 1,aS 25 .lss 24 0] (aT 25 (aa [bQ 4 (-1)] .ret) .skip)))) (.region [I 16 5,aS 17 .add 16 1,I 5 17])))))) (aa [I 26 1,I 4 26] .ret)))))
@[simp] def aj1:List bt:=[.tmp 4]
def OY:C:=(aa [ez 2 5] (aa [I 5 0,cb 6 5,cK (.mks 7 none 5 61 (.agg jZ) (.t 6)),I 3 7] (.seq (aa [bQ 4 0] (.block 0 (.loop (.seq (aa [I 8 4,I 9 0,cb 10 9,bk 11 .lss 8 10] (aT 11 .skip (.exit 0))) (.seq (.block 1 (.region [I 14 3,I 15 4,I 16 0,I 17 4,cp 18 5 16 17,be 19 5 18,cQ 20 222 19,cp 21 5 14 15,bW 5 21 20])) (.region [I 12 4,aS 13 .add 12 1,I 4 13])))))) (.seq (.pub 3 (.region [I 22 3,I 2 22])) .ret))))
@[simp] def aj8:List bt:=[.tmp 2]
def OZ:C:=(aa [ez 2 1] (aa [I 5 0,cb 6 5,cK (.mks 7 none 1 23 (.slice 5 .nil []) (.t 6)),I 3 7] (.seq (aa [bQ 4 0] (.block 0 (.loop (.seq (aa [I 8 4,I 9 0,cb 10 9,bk 11 .lss 8 10] (aT 11 .skip (.exit 0))) (.seq (.block 1 (.region [I 14 3,I 15 4,I 16 0,I 17 4,cp 18 1 16 17,ax 19 1 18,cQ 20 149 19,cp 21 1 14 15,bW 1 21 20])) (.region [I 12 4,aS 13 .add 12 1,I 4 13])))))) (.seq (.pub 3 (.region [I 22 3,I 2 22])) .ret))))
@[simp] def aj9:List bt:=[.tmp 2]
def O6:C:=(aa [ez 2 2] (aa [I 5 0,cb 6 5,cK (.mks 7 none 2 104 (.agg [.int .i64 0,.int .i64 0]) (.t 6)),I 3 7] (.seq (aa [bQ 4 0] (.block 0 (.loop (.seq (aa [I 8 4,I 9 0,cb 10 9,bk 11 .lss 8 10] (aT 11 .skip (.exit 0))) (.seq (.block 1 (.region [I 14 3,I 15 4,I 16 0,I 17 4,cp 18 2 16 17,be 19 2 18,cQ 20 223 19,cp 21 2 14 15,bW 2 21 20])) (.region [I 12 4,aS 13 .add 12 1,I 4 13])))))) (.seq (.pub 3 (.region [I 22 3,I 2 22])) .ret))))
@[simp] def akg:List bt:=[.tmp 2]
def O1:C:=(aa [ez 2 2] (aa [I 5 0,cb 6 5,cK (.mks 7 none 2 106 (.agg [.int .i64 0,.str []]) (.t 6)),I 3 7] (.seq (aa [bQ 4 0] (.block 0 (.loop (.seq (aa [I 8 4,I 9 0,cb 10 9,bk 11 .lss 8 10] (aT 11 .skip (.exit 0))) (.seq (.block 1 (.region [I 14 3,I 15 4,I 16 0,I 17 4,cp 18 2 16 17,be 19 2 18,cQ 20 224 19,cp 21 2 14 15,bW 2 21 20])) (.region [I 12 4,aS 13 .add 12 1,I 4 13])))))) (.seq (.pub 3 (.region [I 22 3,I 2 22])) .ret))))
@[simp] def akb:List bt:=[.tmp 2]
def ON:C:=(aa [bf 4 false] (.seq (aa [I 6 0,cb 7 6,I 8 1,cb 9 8,bk 10 .neq 7 9] (aT 10 (aa [bf 4 false] .ret) .skip)) (.seq (aa [bQ 5 0] (.block 0 (.loop (.seq (aa [I 11 5,I 12 0,cb 13 12,bk 14 .lss 11 13] (aT 14 .skip (.exit 0))) (.seq (.block 1 (.seq (.drawn true 27 [I 17 0,I 18 5,cp 19 5 17 18,be 20 5 19,I 21 1,I 22 5,cp 23 5 21 22,be 24 5 23,cd 25 226 20 24,cx 26 25]) (aT 26 (aa [bf 4 false] .ret) .skip))) (.region [I 15 5,aS 16 .add 15 1,I 5 16])))))) (aa [bf 4 true] .ret))))
@[simp] def ajP:List bt:=[.tmp 4]
def OO:C:=(aa [bf 4 false] (.seq (aa [I 6 0,cb 7 6,I 8 1,cb 9 8,bk 10 .neq 7 9] (aT 10 (aa [bf 4 false] .ret) .skip)) (.seq (aa [bQ 5 0] (.block 0 (.loop (.seq (aa [I 11 5,I 12 0,cb 13 12,bk 14 .lss 11 13] (aT 14 .skip (.exit 0))) (.seq (.block 1 (.seq (.drawn true 27 [I 17 0,I 18 5,cp 19 1 17 18,ax 20 1 19,I 21 1,I 22 5,cp 23 1 21 22,ax 24 1 23,cd 25 156 20 24,cx 26 25]) (aT 26 (aa [bf 4 false] .ret) .skip))) (.region [I 15 5,aS 16 .add 15 1,I 5 16])))))) (aa [bf 4 true] .ret))))
@[simp] def ajQ:List bt:=[.tmp 4]
def OV:C:=(aa [bf 4 false] (.seq (aa [I 6 0,cb 7 6,I 8 1,cb 9 8,bk 10 .neq 7 9] (aT 10 (aa [bf 4 false] .ret) .skip)) (.seq (aa [bQ 5 0] (.block 0 (.loop (.seq (aa [I 11 5,I 12 0,cb 13 12,bk 14 .lss 11 13] (aT 14 .skip (.exit 0))) (.seq (.block 1 (.seq (.drawn true 27 [I 17 0,I 18 5,cp 19 2 17 18,be 20 2 19,I 21 1,I 22 5,cp 23 2 21 22,be 24 2 23,cd 25 227 20 24,cx 26 25]) (aT 26 (aa [bf 4 false] .ret) .skip))) (.region [I 15 5,aS 16 .add 15 1,I 5 16])))))) (aa [bf 4 true] .ret))))
@[simp] def ajX:List bt:=[.tmp 4]
def OQ:C:=(aa [bf 4 false] (.seq (aa [I 6 0,cb 7 6,I 8 1,cb 9 8,bk 10 .neq 7 9] (aT 10 (aa [bf 4 false] .ret) .skip)) (.seq (aa [bQ 5 0] (.block 0 (.loop (.seq (aa [I 11 5,I 12 0,cb 13 12,bk 14 .lss 11 13] (aT 14 .skip (.exit 0))) (.seq (.block 1 (.seq (.drawn true 27 [I 17 0,I 18 5,cp 19 2 17 18,be 20 2 19,I 21 1,I 22 5,cp 23 2 21 22,be 24 2 23,cd 25 228 20 24,cx 26 25]) (aT 26 (aa [bf 4 false] .ret) .skip))) (.region [I 15 5,aS 16 .add 15 1,I 5 16])))))) (aa [bf 4 true] .ret))))
@[simp] def ajS:List bt:=[.tmp 4]
def HV:C:=(aa [cM 2 0,bQ 4 0] (aa [fY 5 1 4 2,be 6 4 5,I 7 1,cd 8 85 6 7,I 1 8] (.seq (aa [I 9 1,aS 10 .lss 9 0] (aT 10 (aa [bQ 4 (-1)] .ret) .skip)) (aa [I 11 1,I 4 11] .ret))))
@[simp] def Lw:List bt:=[.tmp 4]
def D3:C:=(aa [cM 2 0,bQ 4 0] (aa [I 5 1,aI 6 1 1 2,ax 7 1 6,b1 8 (.slen (.t 7)),bk 9 .sub 5 8,I 1 9] (.seq (aa [I 10 1,aS 11 .lss 10 0] (aT 11 (aa [bQ 4 (-1)] .ret) .skip)) (aa [I 12 1,I 4 12] .ret))))
@[simp] def aj0:List bt:=[.tmp 4]
def OX:C:=(aa [cM 1 0,dH 2 jZ] (aa [dH 3 jZ] (aa [aI 4 0 1 1,ax 5 1 4,aI 6 0 1 3,bW 1 6 5] (aa [fY 7 1 4 1,be 8 4 7,cQ 9 87 8,fY 10 1 4 3,bW 4 10 9] (aa [be 11 5 3,bW 5 2 11] .ret)))))
@[simp] def aj7:List bt:=[.cell 2 true 5]
def O5:C:=(aa [cM 1 0,cK (.alloc 2 none (.agg [.int .i64 0,.int .i64 0]))] (aa [cK (.alloc 3 none (.agg [.int .i64 0,.int .i64 0]))] (aa [aI 4 0 1 1,ax 5 1 4,aI 6 0 1 3,bW 1 6 5] (aa [aI 7 1 1 1,ax 8 1 7,aI 9 1 1 3,bW 1 9 8] (aa [be 10 2 3,bW 2 2 10] .ret)))))
@[simp] def akf:List bt:=[.cell 2 true 2]
def O0:C:=(aa [cM 1 0,cK (.alloc 2 none (.agg [.int .i64 0,.str []]))] (aa [cK (.alloc 3 none (.agg [.int .i64 0,.str []]))] (aa [aI 4 0 1 1,ax 5 1 4,aI 6 0 1 3,bW 1 6 5] (aa [aI 7 1 1 1,ax 8 1 7,aI 9 1 1 3,bW 1 9 8] (aa [be 10 2 3,bW 2 2 10] .ret)))))
@[simp] def aka:List bt:=[.cell 2 true 2]
def OM:C:=(aa [cM 2 0,cM 3 1,bf 4 false] (.seq (aa [aI 5 0 1 2,ax 6 1 5,aI 7 0 1 3,ax 8 1 7,bk 9 .neq 6 8] (aT 9 (aa [bf 4 false] .ret) .skip)) (.seq (aa [fY 10 1 4 2,be 11 4 10,fY 12 1 4 3,be 13 4 12,cd 14 90 11 13,cx 15 14] (aT 15 (aa [bf 4 false] .ret) .skip)) (aa [bf 4 true] .ret))))
@[simp] def ajO:List bt:=[.tmp 4]
def OU:C:=(aa [cM 2 0,cM 3 1,bf 4 false] (.seq (aa [aI 5 0 1 2,ax 6 1 5,aI 7 0 1 3,ax 8 1 7,bk 9 .neq 6 8] (aT 9 (aa [bf 4 false] .ret) .skip)) (.seq (aa [aI 10 1 1 2,ax 11 1 10,aI 12 1 1 3,ax 13 1 12,bk 14 .neq 11 13] (aT 14 (aa [bf 4 false] .ret) .skip)) (aa [bf 4 true] .ret))))
@[simp] def ajW:List bt:=[.tmp 4]
def OP:C:=(aa [cM 2 0,cM 3 1,bf 4 false] (.seq (aa [aI 5 0 1 2,ax 6 1 5,aI 7 0 1 3,ax 8 1 7,bk 9 .neq 6 8] (aT 9 (aa [bf 4 false] .ret) .skip)) (.seq (aa [aI 10 1 1 2,ax 11 1 10,aI 12 1 1 3,ax 13 1 12,bk 14 .neq 11 13] (aT 14 (aa [bf 4 false] .ret) .skip)) (aa [bf 4 true] .ret))))
@[simp] def ajR:List bt:=[.tmp 4]
def im:List (Nat×dA):=[
 (3,⟨1,8,.int .i64,.int .i64 0⟩),
 (9,⟨1,16,.str,.str []⟩),
 (23,⟨1,24,.slice 61,.slice 5 .nil []⟩),
 (24,⟨1,24,.slice 23,.slice 1 .nil []⟩),
 (25,⟨1,24,.slice 104,.slice 2 .nil []⟩),
 (26,⟨1,24,.slice 106,.slice 2 .nil []⟩),
 (28,⟨5,104,.struct [(0,3),(1,23),(2,24),(3,25),(4,26)],.agg [.int .i64 0,.slice 5 .nil [],.slice 1 .nil [],.slice 2 .nil [],.slice 2 .nil []]⟩),
 (30,⟨1,24,.slice 32,.slice 4 .nil []⟩),
 (32,⟨4,56,.struct [(0,3),(1,3),(2,9),(3,30)],.agg [.int .i64 0,.int .i64 0,.str [],.slice 4 .nil []]⟩),
 (43,⟨1,24,.slice 124,.slice 4 .nil []⟩),
 (44,⟨1,24,.slice 227,.slice 5 .nil []⟩),
 (45,⟨1,24,.slice 44,.slice 1 .nil []⟩),
 (46,⟨1,24,.slice 233,.slice 2 .nil []⟩),
 (47,⟨1,24,.slice 229,.slice 2 .nil []⟩),
 (49,⟨5,104,.struct [(0,3),(1,44),(2,45),(3,46),(4,47)],.agg [.int .i64 0,.slice 5 .nil [],.slice 1 .nil [],.slice 2 .nil [],.slice 2 .nil []]⟩),
 (61,⟨5,64,.struct [(0,3),(1,32)],.agg [.int .i64 0,.int .i64 0,.int .i64 0,.str [],.slice 4 .nil []]⟩),
 (104,⟨2,16,.struct [(0,3),(1,3)],.agg [.int .i64 0,.int .i64 0]⟩),
 (106,⟨2,24,.struct [(0,3),(1,9)],.agg [.int .i64 0,.str []]⟩),
 (124,⟨4,56,.struct [(0,3),(1,3),(2,9),(3,43)],.agg [.int .i64 0,.int .i64 0,.str [],.slice 4 .nil []]⟩),
 (227,⟨5,64,.struct [(0,3),(1,124)],.agg [.int .i64 0,.int .i64 0,.int .i64 0,.str [],.slice 4 .nil []]⟩),
 (229,⟨2,24,.struct [(0,3),(1,9)],.agg [.int .i64 0,.str []]⟩),
 (233,⟨2,16,.struct [(0,3),(1,3)],.agg [.int .i64 0,.int .i64 0]⟩)]
theorem fC:fN al im=true:=by kernel_rfl
theorem UL:bY im HZ aj4 2 Tryz.f32=true:=by kernel_rfl
theorem QT:al.funcs[(32:Nat)]? =some Tryz.f32:=Tryz.func32
theorem ail:bY im O4 ake 1 Tryz.f34=true:=by kernel_rfl
theorem abI:al.funcs[(34:Nat)]? =some Tryz.f34:=Tryz.func34
theorem ah9:bY im OT ajV 2 Tryz.f36=true:=by kernel_rfl
theorem abx:al.funcs[(36:Nat)]? =some Tryz.f36:=Tryz.func36
theorem CK:bY im yJ aj2 2 Tryz.f63=true:=by kernel_rfl
theorem Bk:al.funcs[(63:Nat)]? =some Tryz.f63:=Tryz.func63
theorem aij:bY im O2 akc 1 Tryz.f67=true:=by kernel_rfl
theorem abG:al.funcs[(67:Nat)]? =some Tryz.f67:=Tryz.func67
theorem ah7:bY im OR ajT 2 Tryz.f72=true:=by kernel_rfl
theorem abv:al.funcs[(72:Nat)]? =some Tryz.f72:=Tryz.func72
theorem vU:bY im tA aj3 2 Tryz.f85=true:=by kernel_rfl
theorem u9:al.funcs[(85:Nat)]? =some Tryz.f85:=Tryz.func85
theorem aik:bY im O3 akd 1 Tryz.f87=true:=by kernel_rfl
theorem abH:al.funcs[(87:Nat)]? =some Tryz.f87:=Tryz.func87
theorem ah8:bY im OS ajU 2 Tryz.f90=true:=by kernel_rfl
theorem abw:al.funcs[(90:Nat)]? =some Tryz.f90:=Tryz.func90
theorem UI:bY im HW ajY 2 Tryz.f137=true:=by kernel_rfl
theorem QQ:al.funcs[(137:Nat)]? =some Tryz.f137:=Tryz.func137
theorem UJ:bY im HX ajZ 2 Tryz.f138=true:=by kernel_rfl
theorem QR:al.funcs[(138:Nat)]? =some Tryz.f138:=Tryz.func138
theorem K4:bY im D4 aj5 2 Tryz.f139=true:=by kernel_rfl
theorem IE:al.funcs[(139:Nat)]? =some Tryz.f139:=Tryz.func139
theorem UK:bY im HY aj1 2 Tryz.f140=true:=by kernel_rfl
theorem QS:al.funcs[(140:Nat)]? =some Tryz.f140:=Tryz.func140
theorem aie:bY im OY aj8 1 Tryz.f149=true:=by kernel_rfl
theorem abC:al.funcs[(149:Nat)]? =some Tryz.f149:=Tryz.func149
theorem aif:bY im OZ aj9 1 Tryz.f150=true:=by kernel_rfl
theorem abD:al.funcs[(150:Nat)]? =some Tryz.f150:=Tryz.func150
theorem ain:bY im O6 akg 1 Tryz.f151=true:=by kernel_rfl
theorem abK:al.funcs[(151:Nat)]? =some Tryz.f151:=Tryz.func151
theorem aii:bY im O1 akb 1 Tryz.f152=true:=by kernel_rfl
theorem abF:al.funcs[(152:Nat)]? =some Tryz.f152:=Tryz.func152
theorem ah3:bY im ON ajP 2 Tryz.f156=true:=by kernel_rfl
theorem abq:al.funcs[(156:Nat)]? =some Tryz.f156:=Tryz.func156
theorem ah4:bY im OO ajQ 2 Tryz.f157=true:=by kernel_rfl
theorem abr:al.funcs[(157:Nat)]? =some Tryz.f157:=Tryz.func157
theorem aib:bY im OV ajX 2 Tryz.f158=true:=by kernel_rfl
theorem abz:al.funcs[(158:Nat)]? =some Tryz.f158:=Tryz.func158
theorem ah6:bY im OQ ajS 2 Tryz.f159=true:=by kernel_rfl
theorem abu:al.funcs[(159:Nat)]? =some Tryz.f159:=Tryz.func159
theorem UH:bY im HV Lw 2 Tryz.f213=true:=by kernel_rfl
theorem QP:al.funcs[(213:Nat)]? =some Tryz.f213:=Tryz.func213
theorem K3:bY im D3 aj0 2 Tryz.f214=true:=by kernel_rfl
theorem ID:al.funcs[(214:Nat)]? =some Tryz.f214:=Tryz.func214
theorem aid:bY im OX aj7 1 Tryz.f222=true:=by kernel_rfl
theorem abB:al.funcs[(222:Nat)]? =some Tryz.f222:=Tryz.func222
theorem aim:bY im O5 akf 1 Tryz.f223=true:=by kernel_rfl
theorem abJ:al.funcs[(223:Nat)]? =some Tryz.f223:=Tryz.func223
theorem aih:bY im O0 aka 1 Tryz.f224=true:=by kernel_rfl
theorem abE:al.funcs[(224:Nat)]? =some Tryz.f224:=Tryz.func224
theorem ah2:bY im OM ajO 2 Tryz.f226=true:=by kernel_rfl
theorem abp:al.funcs[(226:Nat)]? =some Tryz.f226:=Tryz.func226
theorem aia:bY im OU ajW 2 Tryz.f227=true:=by kernel_rfl
theorem aby:al.funcs[(227:Nat)]? =some Tryz.f227:=Tryz.func227
theorem ah5:bY im OP ajR 2 Tryz.f228=true:=by kernel_rfl
theorem abt:al.funcs[(228:Nat)]? =some Tryz.f228:=Tryz.func228
def h9{α:Type}(f:α→ah)(z:ah)(l:List α)(i:Nat):List ah:=(l.take i).map f++qP (l.length-i) z
theorem ot{α:Type}(f:α→ah)(z:ah)(l:List α):h9 f z l 0=qP l.length z:=by simp[h9]
theorem CB{α:Type}(f:α→ah)(z:ah)(l:List α):h9 f z l l.length=l.map f:=by simp[h9]
theorem CC{α:Type}(f:α→ah)(z:ah)(l:List α){i:Nat}(hi:i<l.length):(h9 f z l i)[i]? =some z:=by
 unfold h9;have h:((l.take i).map f).length=i:=by simp;omega
 rw[List.getElem?_append_right (by omega),h,Nat.sub_self,List.getElem?_replicate,if_pos (by omega)]
theorem CD{α:Type}(f:α→ah)(z:ah)(l:List α){i:Nat}{x:α}(ad:l[i]? =some x):(h9 f z l i).set i (f x)=h9 f z l (i+1):=by
 have hi:=(fw.1 ad).1;unfold h9;have h:((l.take i).map f).length=i:=by simp;omega
 rw[List.set_append_right _ _ (by omega),h,Nat.sub_self,qK ad,List.map_append,List.append_assoc];congr 1;obtain⟨m,hm⟩:∃m,l.length-i=m+1:=⟨l.length-i-1,by omega⟩;rw[hm,show l.length-(i+1)=m from by omega,List.replicate_succ,List.set_cons_zero];rfl
theorem Tu(S:aD→Prop):∀{a b:List ah},aG S (a++b)↔aG S a∧aG S b
 |[],b=>by simp[aG]
 |x::a,b=>by simp[aG,Tu S (a:=a),and_assoc]
theorem Tw{α:Type}(S:aD→Prop)(f:α→ah)(aH:∀x,aB S (f x)):∀l:List α,aG S (l.map f)
 |[]=>by simp[aG]
 |x::xs=>by simp[aG,Tw S f aH xs,aH]
theorem xK(S:aD→Prop)(z:ah)(bE:aB S z):∀n,aG S (qP n z)
 |0=>by simp[aG]
 |n+1=>by simp[List.replicate_succ,aG,xK S z bE n,bE]
theorem Cq{α:Type}(S:aD→Prop)(f:α→ah)(z:ah)(l:List α)(i:Nat)(aH:∀x,aB S (f x))(bE:aB S z):aG S (h9 f z l i):=by unfold h9;rw[Tu];exact⟨Tw S f aH _,xK S z bE _⟩
theorem MR(l:cJ b7)(hw:∀p n cap,l= .b p n cap→mv n)(aH:∀xs,l= .l xs→∀x∈xs,∀m,0≤m→m≤1048576→bK al 85 [b7.e x,.int .i64 m] (.int .i64 (hP x m)))(m:Int)(bq:0≤m)(J:m≤1048576):bK al 32 [l.e 4 b7.e,.int .i64 m] (.int .i64 (gL hP l m)):=by
 cases l with
 |b p n cap=>
  have aA:=hw p n cap rfl;simp only[mv,lim]at aA;have g:m-n<0:=by omega
  simp only[cJ.e,gL];clear hw aH;refine bm fC QT UL fun aQ=>?_;unfold HZ;exact b6
 |l l=>
 have aH:=aH l rfl;clear hw;simp only[cJ.e,gL];generalize a1:nI hP l m=R;unfold nI at a1;refine bm fC QT UL fun aQ=>?_;unfold HZ;have eI:l.length≤68719476736:=by simp[eD,ef,et,lim]at aQ;omega
 simp;by_cases g:m-l.length<0
 ·rw[if_pos g]at a1;subst a1;exact b6
 rw[if_neg g]at a1;(with_reducible repeat' first|refine aj ?_|simp[g]);refine dW [0] (fun i (k:Int)=>[(1,.int .i64 k),(5,.int .i64 i)]) l.length (fun i k=>(0≤k∧k≤1048576)∧jL hP (l.drop i) k=R) (m-l.length) bV ⟨⟨by omega,by omega⟩,by simpa using a1⟩ (fun k af _=>?_) (fun i k hi af _=>?_)
 ·obtain⟨_,af⟩:=af;rw[List.drop_length]at af;simp only[jL]at af;subst af;exact b6
 ·obtain⟨⟨ff,aZ⟩,af⟩:=af;obtain⟨x,ad,cC⟩:=dV hi;have key:=aH x (eo ad) k ff aZ;have hle:=uO x k ff;rw[sM ad]at af;simp only[jL]at af;generalize hP x k=q at key hle af;clear ad;by_cases br:q<0
  ·rw[if_pos br]at af;subst af;exact b6
  ·rw[if_neg br]at af;simp[hi,cC];((with_reducible repeat' first|refine aj ?_|refine aE key ?_|refine aF key ?_|simp[hi,cC,br]|((first|apply bR|apply bU|apply bT)<;>intro h<;>try simp at h))<;>(try exact cv));all_goals exact bO.rng q hi ⟨⟨by omega,by omega⟩,af⟩ bV
theorem Xt(l:List bJ)(aH:∀x∈l,bK al 87 [enc x] (enc x)):bK al 34 [.slice 4 .no (l.map enc)] (.slice 4 .no (l.map enc)):=by
 refine bm fC abI ail fun aQ=>?_;unfold O4;have eI:l.length≤68719476736:=by simp[eD,ef,et,lim]at aQ;omega
 simp;all_goals first|(refine⟨by unfold lim;omega,?_⟩)|skip
 (with_reducible repeat' first|refine aj ?_|simp);have e8:∀(S:aD→Prop) (n:Nat),aG S (qP n (.agg [.int .i64 0,.int .i64 0,.str [],.slice 4 .nil []]))=True:=fun S n=>eq_true (xK S _ (by simp[aB,aG]) n);refine gP (fun i (_:Unit)=>⟨[(0,.slice 4 .no (l.map enc)),(3,.row 4 (.loc 0) l.length),(4,.int .i64 i)],[],[(.loc 0,⟨l.length,32,4,some (h9 enc (.agg [.int .i64 0,.int .i64 0,.str [],.slice 4 .nil []]) l i)⟩)],1,[]⟩) l.length (fun _ _=>True) () ⟨by simp[fresh,aG,aB,cg,inObs,Pv.look,ot,e8],ec (by simp[fresh,aG,aB,cg,inObs,Pv.look,ot,e8]),ed (by simp[fresh,aG,aB,dR,inObs,Pv.look,ot,e8]),by simp⟩ trivial (fun _ _ _=>?_) (fun i _ hi _ _=>?_)
 ·rw[CB];exact b6
 ·obtain⟨x,ad,cC⟩:=dV hi;have key:=aH x (eo ad);have ak:=CC enc (.agg [.int .i64 0,.int .i64 0,.str [],.slice 4 .nil []]) l hi;have aC:=CD enc (.agg [.int .i64 0,.int .i64 0,.str [],.slice 4 .nil []]) l ad;have bj:∀S:aD→Prop,aG S (h9 enc (.agg [.int .i64 0,.int .i64 0,.str [],.slice 4 .nil []]) l (i+1)):=fun S=>Cq S _ _ _ _ (fun x=>by simp) (by simp[aB,aG]);generalize h9 enc (.agg [.int .i64 0,.int .i64 0,.str [],.slice 4 .nil []]) l i=r0 at ak aC;generalize o7:h9 enc (.agg [.int .i64 0,.int .i64 0,.str [],.slice 4 .nil []]) l (i+1)=dF at aC bj;clear ad;simp[hi,cC];(with_reducible repeat' first|refine aj ?_|refine aE key ?_|refine aF key ?_|simp[hi,cC,ak,aC]);all_goals refine bO.rng () hi trivial ?_
  all_goals rw[o7]
  all_goals first
   |exact⟨by simp[fresh,aG,aB,cg,inObs,Pv.look,bj],ec (by simp[fresh,aG,aB,cg,inObs,Pv.look,bj]),ed (by simp[fresh,aG,aB,dR,inObs,Pv.look,bj]),by simp⟩
   |exact⟨by simp[fresh,aG,aB,cg,inObs,Pv.look,bj],ec (by simp[fresh,aG,aB,cg,inObs,Pv.look,bj]),ed (by simp[fresh,aG,aB,dR,inObs,Pv.look,bj];exact aC),by simp⟩
theorem W7(l:List bJ)(aH:∀x∈l,bK al 90 [enc x,enc x] (.bool true)):bK al 36 [.slice 4 .no (l.map enc),.slice 4 .no (l.map enc)] (.bool true):=by
 refine bm fC abx ah9 fun aQ=>?_;unfold OT;have eI:l.length≤68719476736:=by simp[eD,ef,et,lim]at aQ;omega
 simp;(with_reducible repeat' first|refine aj ?_|simp);refine dW [0,1] (fun i (_:Unit)=>[(5,.int .i64 i)]) l.length (fun _ _=>True) () bV trivial (fun _ _ _=>?_) (fun i _ hi _ _=>?_)
 ·exact b6
 ·obtain⟨x,ad,cC⟩:=dV hi;have key:=aH x (eo ad);clear ad;exact hd
theorem Xp(t:b7)(hw:t.wf):∀m:Int,0≤m→m≤1048576→bK al 85 [t.e,.int .i64 m] (.int .i64 (hP t m)):=by
 suffices H:∀(k:Nat) (t:b7),t.sz≤k→t.wf→∀m:Int,0≤m→m≤1048576→bK al 85 [t.e,.int .i64 m] (.int .i64 (hP t m))from H _ t (eV _) hw
 intro k;clear hw t;induction k with
 |zero=>intro t aL;cases t<;>simp[b7.sz]at aL
 |succ k bN=>
  intro t aL hw m bq J;cases t with
  |mk s9 ta s a=>
   simp only[b7.wf,b7.wfL_iff]at hw;obtain⟨B9,BF⟩:=hw;have kc:m-s.len<0→hP (.mk s9 ta s a) m= -1:=fun g=>by rw[GU];exact if_pos g
   have kd:¬m-s.len<0→hP (.mk s9 ta s a) m=gL hP (.l a) (m-s.len):=fun g=>by rw[GU];exact if_neg g
   generalize hP (.mk s9 ta s a) m=R at kc kd;have BZ:=s.len_nn;have key:=fun h=>MR (.l a) (fun p n c e=>by cases e) (fun xs e x ad=>by cases e;exact bN x (by have:=b7.szL_mem ad;simp only[b7.sz]at aL;omega) (BF x ad)) (m-s.len) h (by omega);have hle:=fun h=>wm uO (.l a) (m-s.len) h;simp only[b7.e,b7.eL_map];simp only[cJ.e]at key;clear aL BF;cases s with
   |b x=>
    simp only[gU.wf,mv,lim]at B9;have g:m-x.size<0:=by omega
    have a1:=kc g;subst a1;clear kc kd;clear key hle bN;simp only[gU.e];refine bm fC u9 vU fun aQ=>?_;unfold tA;exact b6
   |s l=>
    simp only[gU.len]at kc kd key hle;simp only[gU.e];by_cases g:m-l.length<0
    ·have a1:=kc g;subst a1;clear kc kd;clear key hle bN;refine bm fC u9 vU fun aQ=>?_;unfold tA;have eI:l.length≤68719476736:=by simp[eD,ef,et,lim]at aQ;omega
     exact b6
    ·have a1:=kd g;clear kc kd;have key:=key (by omega);have hle:=hle (by omega);rw[←a1]at key hle;clear a1 bN;by_cases br:R<0
     ·have:R= -1:=by omega
      subst this;refine bm fC u9 vU fun aQ=>?_;unfold tA;have eI:l.length≤68719476736:=by simp[eD,ef,et,lim]at aQ;omega
      exact b6
     ·refine bm fC u9 vU fun aQ=>?_;unfold tA;have eI:l.length≤68719476736:=by simp[eD,ef,et,lim]at aQ;omega
      exact b6
  |big s9 ta s p n c=>
   simp only[b7.wf]at hw;obtain⟨B9,BF⟩:=hw;have kc:m-s.len<0→hP (.big s9 ta s p n c) m= -1:=fun g=>by rw[GU];exact if_pos g
   have kd:¬m-s.len<0→hP (.big s9 ta s p n c) m=gL hP (.b p n c) (m-s.len):=fun g=>by rw[GU];exact if_neg g
   generalize hP (.big s9 ta s p n c) m=R at kc kd;have BZ:=s.len_nn;have key:=fun h=>MR (.b p n c) (fun p n c e=>by cases e;exact BF) (fun xs e=>by cases e) (m-s.len) h (by omega);have hle:=fun h=>wm uO (.b p n c) (m-s.len) h;simp only[b7.e];simp only[cJ.e]at key;clear aL BF;cases s with
   |b x=>
    simp only[gU.wf,mv,lim]at B9;have g:m-x.size<0:=by omega
    have a1:=kc g;subst a1;clear kc kd;clear key hle bN;simp only[gU.e];refine bm fC u9 vU fun aQ=>?_;unfold tA;exact b6
   |s l=>
    simp only[gU.len]at kc kd key hle;simp only[gU.e];by_cases g:m-l.length<0
    ·have a1:=kc g;subst a1;clear kc kd;clear key hle bN;refine bm fC u9 vU fun aQ=>?_;unfold tA;have eI:l.length≤68719476736:=by simp[eD,ef,et,lim]at aQ;omega
     exact b6
    ·have a1:=kd g;clear kc kd;have key:=key (by omega);have hle:=hle (by omega);rw[←a1]at key hle;clear a1 bN;by_cases br:R<0
     ·have:R= -1:=by omega
      subst this;refine bm fC u9 vU fun aQ=>?_;unfold tA;have eI:l.length≤68719476736:=by simp[eD,ef,et,lim]at aQ;omega
      exact b6
     ·refine bm fC u9 vU fun aQ=>?_;unfold tA;have eI:l.length≤68719476736:=by simp[eD,ef,et,lim]at aQ;omega
      exact b6
theorem Xs(t:bJ):bK al 87 [enc t] (enc t):=by
 suffices H:∀(k:Nat) (t:bJ),t.sz≤k→bK al 87 [enc t] (enc t)from H _ t (eV _)
 intro k;induction k with
 |zero=>intro t aL;cases t;simp[bJ.sz]at aL
 |succ k bN=>intro t aL;have key:=Xt t.args (fun x ad=>bN x (by have:=Mt ad;omega));clear bN;refine bm fC abH aik fun aQ=>?_;unfold O3;exact b6
theorem W6(t:bJ):bK al 90 [enc t,enc t] (.bool true):=by
 suffices H:∀(k:Nat) (t:bJ),t.sz≤k→bK al 90 [enc t,enc t] (.bool true)from H _ t (eV _)
 intro k;induction k with
 |zero=>intro t aL;cases t;simp[bJ.sz]at aL
 |succ k bN=>intro t aL;have key:=W7 t.args (fun x ad=>bN x (by have:=Mt ad;omega));clear bN;refine bm fC abw ah8 fun aQ=>?_;unfold OS;exact b6
structure e0 where
 v:Int
 t:b7
def e0.e(b:e0):ah:= .agg [.int .i64 b.v,.int .i64 b.t.kind,.int .i64 b.t.num,b.t.name.e,b.t.args.e 4 b7.e]
@[simp] theorem apV(S:aD→Prop)(b:e0):aB S b.e=True:=by simp[e0.e,aB,aG]
@[simp] theorem asC(b:e0):dm b.e=b.e:=by simp[e0.e,dm,cY]
theorem Ty(S:aD→Prop):∀l:List e0,aG S (l.map e0.e)
 |[]=>by simp[aG]
 |x::xs=>by simp[aG,Ty S xs]
@[simp] theorem apK(S:aD→Prop)(l:List e0):aG S (l.map e0.e)=True:=eq_true (Ty S l)
@[simp] theorem ar4(b:e0):dY b.e=true:=rfl
@[simp] theorem aps(b:e0):Pv.isAgg 5 b.e:=⟨_,rfl,rfl⟩
@[simp] theorem anX(b:e0):cells b.e=[.int .i64 b.v,.int .i64 b.t.kind,.int .i64 b.t.num,b.t.name.e,b.t.args.e 4 b7.e]:=rfl
structure hk where
 v:Int
 s:gU
def hk.e(b:hk):ah:= .agg [.int .i64 b.v,b.s.e]
@[simp] theorem ap7(S:aD→Prop)(b:hk):aB S b.e=True:=by simp[hk.e,aB,aG]
@[simp] theorem asO(b:hk):dm b.e=b.e:=by simp[hk.e,dm,cY]
theorem TD(S:aD→Prop):∀l:List hk,aG S (l.map hk.e)
 |[]=>by simp[aG]
 |x::xs=>by simp[aG,TD S xs]
@[simp] theorem apP(S:aD→Prop)(l:List hk):aG S (l.map hk.e)=True:=eq_true (TD S l)
@[simp] theorem aso(b:hk):dY b.e=true:=rfl
@[simp] theorem apx(b:hk):Pv.isAgg 2 b.e:=⟨_,rfl,rfl⟩
@[simp] theorem aoe(b:hk):cells b.e=[.int .i64 b.v,b.s.e]:=rfl
def rS(b:e0)(m:Int):Int:=hP b.t m
theorem Mr(b:e0)(m:Int)(h:0≤m): -1≤rS b m∧rS b m≤m:=uO b.t m h
def lD(b:hk)(m:Int):Int:=if m-b.s.len<0 then-1 else m-b.s.len
theorem GV(b:hk)(m:Int)(h:0≤m): -1≤lD b m∧lD b m≤m:=by have:=b.s.len_nn;unfold lD;split<;>omega
theorem DP(t:b7):ah.agg [.int .i64 t.kind,.int .i64 t.num,t.name.e,t.args.e 4 b7.e]=t.e:=(b7.e_eq t).symm
theorem am0(b:e0)(hw:b.t.wf)(m:Int)(bq:0≤m)(J:m≤1048576):bK al 213 [b.e,.int .i64 m] (.int .i64 (rS b m)):=by
 have key:=Xp b.t hw m bq J;have hle:=uO b.t m bq;unfold rS;generalize hP b.t m=q at key hle⊢;by_cases br:q<0
 ·have:q= -1:=by omega
  subst this;refine bm fC QP UH fun aQ=>?_;unfold HV;simp[DP];(with_reducible repeat' first|refine aj ?_|refine aE key ?_|refine aF key ?_|simp[DP]);all_goals simp[bu,Lw,aV,aW,aU]
 ·refine bm fC QP UH fun aQ=>?_;unfold HV;simp[DP];(with_reducible repeat' first|refine aj ?_|refine aE key ?_|refine aF key ?_|simp[br,DP]);all_goals simp[bu,Lw,aV,aW,aU]
theorem ana(b:cX):bK al 222 [b.e] b.e:=by have key:=Xs b.t;refine bm fC abB aid fun aQ=>?_;unfold OX;exact b6
theorem amj(b:cX):bK al 226 [b.e,b.e] (.bool true):=by have key:=W6 b.t;refine bm fC abp ah2 fun aQ=>?_;unfold OM;exact b6
theorem am3(b:hk)(hw:b.s.wf)(m:Int)(bq:0≤m)(J:m≤1048576):bK al 214 [b.e,.int .i64 m] (.int .i64 (lD b m)):=by
 have kc:m-b.s.len<0→lD b m= -1:=fun g=>if_pos g;have kd:¬m-b.s.len<0→lD b m=m-b.s.len:=fun g=>if_neg g;generalize lD b m=R at kc kd;obtain⟨v,s⟩:=b;simp only[hk.e]at hw kc kd⊢;cases s with
 |b x=>
  simp only[gU.wf,mv,lim]at hw;have g:m-x.size<0:=by omega
  have a1:=kc g;subst a1;clear kc kd;simp only[gU.e];refine bm fC ID K3 fun aQ=>?_;unfold D3;exact b6
 |s l=>
  simp only[gU.e];by_cases g:m-l.length<0
  ·have a1:=kc g;subst a1;clear kc kd hw;refine bm fC ID K3 fun aQ=>?_;unfold D3;have eI:l.length≤68719476736:=by simp[eD,ef,et,lim]at aQ;omega
   exact b6
  ·have a1:R=m-l.length:=kd g;subst a1;clear kc kd hw;refine bm fC ID K3 fun aQ=>?_;unfold D3;have eI:l.length≤68719476736:=by simp[eD,ef,et,lim]at aQ;omega
   exact b6
theorem ani(b:bL):bK al 223 [b.e] b.e:=by refine bm fC abJ aim fun aQ=>?_;unfold O5;exact b6
theorem ane(b:bg):bK al 224 [b.e] b.e:=by refine bm fC abE aih fun aQ=>?_;unfold O0;exact b6
theorem amq(b:bL):bK al 227 [b.e,b.e] (.bool true):=by refine bm fC aby aia fun aQ=>?_;unfold OU;exact b6
theorem amm(b:bg):bK al 228 [b.e,b.e] (.bool true):=by refine bm fC abt ah5 fun aQ=>?_;unfold OP;exact b6
@[simp high] theorem arX(x y:bg):mu x.e 0 [.int .i64 y.v,.str y.s]=y.e:=rfl
@[simp high] theorem arW(x y:bL):mu x.e 0 [.int .i64 y.v,.int .i64 y.k]=y.e:=rfl
theorem am1(l:cJ e0)(hw:∀p n cap,l= .b p n cap→mv n)(aH:∀xs,l= .l xs→∀x∈xs,∀m,0≤m→m≤1048576→bK al 213 [e0.e x,.int .i64 m] (.int .i64 (rS x m)))(m:Int)(bq:0≤m)(J:m≤1048576):bK al 137 [l.e 5 e0.e,.int .i64 m] (.int .i64 (gL rS l m)):=by
 cases l with
 |b p n cap=>
  have aA:=hw p n cap rfl;simp only[mv,lim]at aA;have g:m-n<0:=by omega
  simp only[cJ.e,gL];clear hw aH;refine bm fC QQ UI fun aQ=>?_;unfold HW;exact b6
 |l l=>
 have aH:=aH l rfl;clear hw;simp only[cJ.e,gL];generalize a1:nI rS l m=R;unfold nI at a1;refine bm fC QQ UI fun aQ=>?_;unfold HW;have eI:l.length≤68719476736:=by simp[eD,ef,et,lim]at aQ;omega
 simp;by_cases g:m-l.length<0
 ·rw[if_pos g]at a1;subst a1;exact b6
 rw[if_neg g]at a1;(with_reducible repeat' first|refine aj ?_|simp[g]);refine dW [0] (fun i (k:Int)=>[(1,.int .i64 k),(5,.int .i64 i)]) l.length (fun i k=>(0≤k∧k≤1048576)∧jL rS (l.drop i) k=R) (m-l.length) bV ⟨⟨by omega,by omega⟩,by simpa using a1⟩ (fun k af _=>?_) (fun i k hi af _=>?_)
 ·obtain⟨_,af⟩:=af;rw[List.drop_length]at af;simp only[jL]at af;subst af;exact b6
 ·obtain⟨⟨ff,aZ⟩,af⟩:=af;obtain⟨x,ad,cC⟩:=dV hi;have key:=aH x (eo ad) k ff aZ;have hle:=Mr x k ff;rw[sM ad]at af;simp only[jL]at af;generalize rS x k=q at key hle af;clear ad;by_cases br:q<0
  ·rw[if_pos br]at af;subst af;exact b6
  ·rw[if_neg br]at af;simp[hi,cC];((with_reducible repeat' first|refine aj ?_|refine aE key ?_|refine aF key ?_|simp[hi,cC,br]|((first|apply bR|apply bU|apply bT)<;>intro h<;>try simp at h))<;>(try exact cv));all_goals exact bO.rng q hi ⟨⟨by omega,by omega⟩,af⟩ bV
theorem anb(l:List cX)(aH:∀x∈l,bK al 222 [cX.e x] (cX.e x)):bK al 149 [.slice 5 .no (l.map cX.e)] (.slice 5 .no (l.map cX.e)):=by
 refine bm fC abC aie fun aQ=>?_;unfold OY;have eI:l.length≤68719476736:=by simp[eD,ef,et,lim]at aQ;omega
 simp;all_goals first|(refine⟨by unfold lim;omega,?_⟩)|skip
 (with_reducible repeat' first|refine aj ?_|simp);have e8:∀(S:aD→Prop) (n:Nat),aG S (qP n (.agg [.int .i64 0,.int .i64 0,.int .i64 0,.str [],.slice 4 .nil []]))=True:=fun S n=>eq_true (xK S _ (by simp[aB,aG]) n);refine gP (fun i (_:Unit)=>⟨[(0,.slice 5 .no (l.map cX.e)),(3,.row 5 (.loc 0) l.length),(4,.int .i64 i)],[],[(.loc 0,⟨l.length,61,5,some (h9 cX.e (.agg [.int .i64 0,.int .i64 0,.int .i64 0,.str [],.slice 4 .nil []]) l i)⟩)],1,[]⟩) l.length (fun _ _=>True) () ⟨by simp[fresh,aG,aB,cg,inObs,Pv.look,ot,e8],ec (by simp[fresh,aG,aB,cg,inObs,Pv.look,ot,e8]),ed (by simp[fresh,aG,aB,dR,inObs,Pv.look,ot,e8]),by simp⟩ trivial (fun _ _ _=>?_) (fun i _ hi _ _=>?_)
 ·rw[CB];exact b6
 ·obtain⟨x,ad,cC⟩:=dV hi;have key:=aH x (eo ad);have ak:=CC cX.e (.agg [.int .i64 0,.int .i64 0,.int .i64 0,.str [],.slice 4 .nil []]) l hi;have aC:=CD cX.e (.agg [.int .i64 0,.int .i64 0,.int .i64 0,.str [],.slice 4 .nil []]) l ad;have bj:∀S:aD→Prop,aG S (h9 cX.e (.agg [.int .i64 0,.int .i64 0,.int .i64 0,.str [],.slice 4 .nil []]) l (i+1)):=fun S=>Cq S _ _ _ _ (fun x=>by simp) (by simp[aB,aG]);generalize h9 cX.e (.agg [.int .i64 0,.int .i64 0,.int .i64 0,.str [],.slice 4 .nil []]) l i=r0 at ak aC;generalize o7:h9 cX.e (.agg [.int .i64 0,.int .i64 0,.int .i64 0,.str [],.slice 4 .nil []]) l (i+1)=dF at aC bj;clear ad;simp[hi,cC];(with_reducible repeat' first|refine aj ?_|refine aE key ?_|refine aF key ?_|simp[hi,cC,ak,aC]);all_goals refine bO.rng () hi trivial ?_
  all_goals rw[o7]
  all_goals first
   |exact⟨by simp[fresh,aG,aB,cg,inObs,Pv.look,bj],ec (by simp[fresh,aG,aB,cg,inObs,Pv.look,bj]),ed (by simp[fresh,aG,aB,dR,inObs,Pv.look,bj]),by simp⟩
   |exact⟨by simp[fresh,aG,aB,cg,inObs,Pv.look,bj],ec (by simp[fresh,aG,aB,cg,inObs,Pv.look,bj]),ed (by simp[fresh,aG,aB,dR,inObs,Pv.look,bj];exact aC),by simp⟩
theorem amk(l:List cX)(aH:∀x∈l,bK al 226 [cX.e x,cX.e x] (.bool true)):bK al 156 [.slice 5 .no (l.map cX.e),.slice 5 .no (l.map cX.e)] (.bool true):=by
 refine bm fC abq ah3 fun aQ=>?_;unfold ON;have eI:l.length≤68719476736:=by simp[eD,ef,et,lim]at aQ;omega
 simp;(with_reducible repeat' first|refine aj ?_|simp);refine dW [0,1] (fun i (_:Unit)=>[(5,.int .i64 i)]) l.length (fun _ _=>True) () bV trivial (fun _ _ _=>?_) (fun i _ hi _ _=>?_)
 ·exact b6
 ·obtain⟨x,ad,cC⟩:=dV hi;have key:=aH x (eo ad);clear ad;exact hd
theorem am4(l:cJ hk)(hw:∀p n cap,l= .b p n cap→mv n)(aH:∀xs,l= .l xs→∀x∈xs,∀m,0≤m→m≤1048576→bK al 214 [hk.e x,.int .i64 m] (.int .i64 (lD x m)))(m:Int)(bq:0≤m)(J:m≤1048576):bK al 140 [l.e 2 hk.e,.int .i64 m] (.int .i64 (gL lD l m)):=by
 cases l with
 |b p n cap=>
  have aA:=hw p n cap rfl;simp only[mv,lim]at aA;have g:m-n<0:=by omega
  simp only[cJ.e,gL];clear hw aH;refine bm fC QS UK fun aQ=>?_;unfold HY;exact b6
 |l l=>
 have aH:=aH l rfl;clear hw;simp only[cJ.e,gL];generalize a1:nI lD l m=R;unfold nI at a1;refine bm fC QS UK fun aQ=>?_;unfold HY;have eI:l.length≤68719476736:=by simp[eD,ef,et,lim]at aQ;omega
 simp;by_cases g:m-l.length<0
 ·rw[if_pos g]at a1;subst a1;exact b6
 rw[if_neg g]at a1;(with_reducible repeat' first|refine aj ?_|simp[g]);refine dW [0] (fun i (k:Int)=>[(1,.int .i64 k),(5,.int .i64 i)]) l.length (fun i k=>(0≤k∧k≤1048576)∧jL lD (l.drop i) k=R) (m-l.length) bV ⟨⟨by omega,by omega⟩,by simpa using a1⟩ (fun k af _=>?_) (fun i k hi af _=>?_)
 ·obtain⟨_,af⟩:=af;rw[List.drop_length]at af;simp only[jL]at af;subst af;exact b6
 ·obtain⟨⟨ff,aZ⟩,af⟩:=af;obtain⟨x,ad,cC⟩:=dV hi;have key:=aH x (eo ad) k ff aZ;have hle:=GV x k ff;rw[sM ad]at af;simp only[jL]at af;generalize lD x k=q at key hle af;clear ad;by_cases br:q<0
  ·rw[if_pos br]at af;subst af;exact b6
  ·rw[if_neg br]at af;simp[hi,cC];((with_reducible repeat' first|refine aj ?_|refine aE key ?_|refine aF key ?_|simp[hi,cC,br]|((first|apply bR|apply bU|apply bT)<;>intro h<;>try simp at h))<;>(try exact cv));all_goals exact bO.rng q hi ⟨⟨by omega,by omega⟩,af⟩ bV
theorem anf(l:List bg)(aH:∀x∈l,bK al 224 [bg.e x] (bg.e x)):bK al 152 [.slice 2 .no (l.map bg.e)] (.slice 2 .no (l.map bg.e)):=by
 refine bm fC abF aii fun aQ=>?_;unfold O1;have eI:l.length≤68719476736:=by simp[eD,ef,et,lim]at aQ;omega
 simp;all_goals first|(refine⟨by unfold lim;omega,?_⟩)|skip
 (with_reducible repeat' first|refine aj ?_|simp);have e8:∀(S:aD→Prop) (n:Nat),aG S (qP n ((⟨0,[]⟩:bg).e))=True:=fun S n=>eq_true (xK S _ (by simp[aB,aG]) n);refine gP (fun i (_:Unit)=>⟨[(0,.slice 2 .no (l.map bg.e)),(3,.row 2 (.loc 0) l.length),(4,.int .i64 i)],[],[(.loc 0,⟨l.length,106,2,some (h9 bg.e ((⟨0,[]⟩:bg).e) l i)⟩)],1,[]⟩) l.length (fun _ _=>True) () ⟨by simp[fresh,aG,aB,cg,inObs,Pv.look,ot,e8],ec (by simp[fresh,aG,aB,cg,inObs,Pv.look,ot,e8]),ed (by simp[fresh,aG,aB,dR,inObs,Pv.look,ot,e8]),by simp⟩ trivial (fun _ _ _=>?_) (fun i _ hi _ _=>?_)
 ·rw[CB];exact b6
 ·obtain⟨x,ad,cC⟩:=dV hi;have key:=aH x (eo ad);have ak:=CC bg.e ((⟨0,[]⟩:bg).e) l hi;have aC:=CD bg.e ((⟨0,[]⟩:bg).e) l ad;have bj:∀S:aD→Prop,aG S (h9 bg.e ((⟨0,[]⟩:bg).e) l (i+1)):=fun S=>Cq S _ _ _ _ (fun x=>by simp) (by simp[aB,aG]);generalize h9 bg.e ((⟨0,[]⟩:bg).e) l i=r0 at ak aC;generalize o7:h9 bg.e ((⟨0,[]⟩:bg).e) l (i+1)=dF at aC bj;clear ad;simp[hi,cC];(with_reducible repeat' first|refine aj ?_|refine aE key ?_|refine aF key ?_|simp[hi,cC,ak,aC,-mu]);all_goals refine bO.rng () hi trivial ?_
  all_goals rw[o7]
  all_goals first
   |exact⟨by simp[fresh,aG,aB,cg,inObs,Pv.look,bj],ec (by simp[fresh,aG,aB,cg,inObs,Pv.look,bj]),ed (by simp[fresh,aG,aB,dR,inObs,Pv.look,bj]),by simp⟩
   |exact⟨by simp[fresh,aG,aB,cg,inObs,Pv.look,bj],ec (by simp[fresh,aG,aB,cg,inObs,Pv.look,bj]),ed (by simp[fresh,aG,aB,dR,inObs,Pv.look,bj];exact aC),by simp⟩
theorem amn(l:List bg)(aH:∀x∈l,bK al 228 [bg.e x,bg.e x] (.bool true)):bK al 159 [.slice 2 .no (l.map bg.e),.slice 2 .no (l.map bg.e)] (.bool true):=by
 refine bm fC abu ah6 fun aQ=>?_;unfold OQ;have eI:l.length≤68719476736:=by simp[eD,ef,et,lim]at aQ;omega
 simp;(with_reducible repeat' first|refine aj ?_|simp);refine dW [0,1] (fun i (_:Unit)=>[(5,.int .i64 i)]) l.length (fun _ _=>True) () bV trivial (fun _ _ _=>?_) (fun i _ hi _ _=>?_)
 ·exact b6
 ·obtain⟨x,ad,cC⟩:=dV hi;have key:=aH x (eo ad);clear ad;exact hd
theorem anj(l:List bL)(aH:∀x∈l,bK al 223 [bL.e x] (bL.e x)):bK al 151 [.slice 2 .no (l.map bL.e)] (.slice 2 .no (l.map bL.e)):=by
 refine bm fC abK ain fun aQ=>?_;unfold O6;have eI:l.length≤68719476736:=by simp[eD,ef,et,lim]at aQ;omega
 simp;all_goals first|(refine⟨by unfold lim;omega,?_⟩)|skip
 (with_reducible repeat' first|refine aj ?_|simp);have e8:∀(S:aD→Prop) (n:Nat),aG S (qP n ((⟨0,0⟩:bL).e))=True:=fun S n=>eq_true (xK S _ (by simp[aB,aG]) n);refine gP (fun i (_:Unit)=>⟨[(0,.slice 2 .no (l.map bL.e)),(3,.row 2 (.loc 0) l.length),(4,.int .i64 i)],[],[(.loc 0,⟨l.length,104,2,some (h9 bL.e ((⟨0,0⟩:bL).e) l i)⟩)],1,[]⟩) l.length (fun _ _=>True) () ⟨by simp[fresh,aG,aB,cg,inObs,Pv.look,ot,e8],ec (by simp[fresh,aG,aB,cg,inObs,Pv.look,ot,e8]),ed (by simp[fresh,aG,aB,dR,inObs,Pv.look,ot,e8]),by simp⟩ trivial (fun _ _ _=>?_) (fun i _ hi _ _=>?_)
 ·rw[CB];exact b6
 ·obtain⟨x,ad,cC⟩:=dV hi;have key:=aH x (eo ad);have ak:=CC bL.e ((⟨0,0⟩:bL).e) l hi;have aC:=CD bL.e ((⟨0,0⟩:bL).e) l ad;have bj:∀S:aD→Prop,aG S (h9 bL.e ((⟨0,0⟩:bL).e) l (i+1)):=fun S=>Cq S _ _ _ _ (fun x=>by simp) (by simp[aB,aG]);generalize h9 bL.e ((⟨0,0⟩:bL).e) l i=r0 at ak aC;generalize o7:h9 bL.e ((⟨0,0⟩:bL).e) l (i+1)=dF at aC bj;clear ad;simp[hi,cC];(with_reducible repeat' first|refine aj ?_|refine aE key ?_|refine aF key ?_|simp[hi,cC,ak,aC,-mu]);all_goals refine bO.rng () hi trivial ?_
  all_goals rw[o7]
  all_goals first
   |exact⟨by simp[fresh,aG,aB,cg,inObs,Pv.look,bj],ec (by simp[fresh,aG,aB,cg,inObs,Pv.look,bj]),ed (by simp[fresh,aG,aB,dR,inObs,Pv.look,bj]),by simp⟩
   |exact⟨by simp[fresh,aG,aB,cg,inObs,Pv.look,bj],ec (by simp[fresh,aG,aB,cg,inObs,Pv.look,bj]),ed (by simp[fresh,aG,aB,dR,inObs,Pv.look,bj];exact aC),by simp⟩
theorem amr(l:List bL)(aH:∀x∈l,bK al 227 [bL.e x,bL.e x] (.bool true)):bK al 158 [.slice 2 .no (l.map bL.e),.slice 2 .no (l.map bL.e)] (.bool true):=by
 refine bm fC abz aib fun aQ=>?_;unfold OV;have eI:l.length≤68719476736:=by simp[eD,ef,et,lim]at aQ;omega
 simp;(with_reducible repeat' first|refine aj ?_|simp);refine dW [0,1] (fun i (_:Unit)=>[(5,.int .i64 i)]) l.length (fun _ _=>True) () bV trivial (fun _ _ _=>?_) (fun i _ hi _ _=>?_)
 ·exact b6
 ·obtain⟨x,ad,cC⟩:=dV hi;have key:=aH x (eo ad);clear ad;exact hd
def pq:cJ bL→Int→Int
 | .l l,m=>if m-l.length<0 then-1 else m-l.length
 | .b _ _ _,_=> -1
theorem WB(l:cJ bL)(m:Int)(h:0≤m): -1≤pq l m∧pq l m≤m:=by
 cases l with
 |l l=>simp only[pq];split<;>omega
 |b=>simp only[pq];omega
theorem am7(l:cJ bL)(hw:∀p n cap,l= .b p n cap→mv n)(m:Int)(bq:0≤m)(J:m≤1048576):bK al 139 [l.e 2 bL.e,.int .i64 m] (.int .i64 (pq l m)):=by
 cases l with
 |b p n cap=>
  have aA:=hw p n cap rfl;simp only[mv,lim]at aA;have g:m-n<0:=by omega
  simp only[cJ.e,pq];clear hw;refine bm fC IE K4 fun aQ=>?_;unfold D4;exact b6
 |l l=>
  simp only[cJ.e,pq];clear hw;by_cases g:m-l.length<0
  ·rw[if_pos g];refine bm fC IE K4 fun aQ=>?_;unfold D4;have eI:l.length≤68719476736:=by simp[eD,ef,et,lim]at aQ;omega
   exact b6
  ·rw[if_neg g];refine bm fC IE K4 fun aQ=>?_;unfold D4;have eI:l.length≤68719476736:=by simp[eD,ef,et,lim]at aQ;omega
   exact b6
def jV(d:cJ e0):ah:=d.e 5 e0.e
@[simp] theorem apY(S:aD→Prop)(d:cJ e0):aB S (jV d)=True:=by cases d<;>simp[jV,cJ.e,aB]
@[simp] theorem asF(d:cJ e0):dm (jV d)=jV d:=by
 cases d with
 |l l=>
  have:∀l:List e0,cY (l.map e0.e)=l.map e0.e:=by
   intro l;induction l with
   |nil=>rfl
   |cons x l bN=>simp[cY,bN]
  simp[jV,cJ.e,dm,this]
 |b=>simp[jV,cJ.e,dm]
theorem TG(S:aD→Prop):∀l:List (cJ e0),aG S (l.map jV)
 |[]=>by simp[aG]
 |x::xs=>by simp[aG,TG S xs]
@[simp] theorem apR(S:aD→Prop)(l:List (cJ e0)):aG S (l.map jV)=True:=eq_true (TG S l)
@[simp] theorem asa(d:cJ e0):dY (jV d)=true:=by cases d<;>rfl
@[simp] theorem an1(d:cJ e0):cells (jV d)=[jV d]:=by cases d<;>rfl
def jg(d:cJ e0)(m:Int):Int:=gL rS d m
theorem AF(d:cJ e0)(m:Int)(h:0≤m): -1≤jg d m∧jg d m≤m:=wm Mr d m h
def wB(d:cJ e0):Prop:=d.wf fun b=>b.t.wf
@[simp] theorem alv:∀l:List (List cX),cY (l.map fQ)=l.map fQ
 |[]=>rfl
 |x::xs=>by simp[cY,alv xs]
theorem Xo(d:cJ e0)(hw:wB d)(m:Int)(bq:0≤m)(J:m≤1048576):bK al 137 [jV d,.int .i64 m] (.int .i64 (jg d m)):=am1 d (fun p n c e=>by subst e;exact hw) (fun xs e x ad m bq J=>by subst e;exact am0 x (hw x ad) m bq J) m bq J
theorem Xr(d:List cX):bK al 149 [fQ d] (fQ d):=anb d fun x _=>ana x
theorem W5(d:List cX):bK al 156 [fQ d,fQ d] (.bool true):=amk d fun x _=>amj x
theorem am2(l:cJ (cJ e0))(hw:∀p n cap,l= .b p n cap→mv n)(aH:∀xs,l= .l xs→∀x∈xs,∀m,0≤m→m≤1048576→bK al 137 [jV x,.int .i64 m] (.int .i64 (jg x m)))(m:Int)(bq:0≤m)(J:m≤1048576):bK al 138 [l.e 1 jV,.int .i64 m] (.int .i64 (gL jg l m)):=by
 cases l with
 |b p n cap=>
  have aA:=hw p n cap rfl;simp only[mv,lim]at aA;have g:m-n<0:=by omega
  simp only[cJ.e,gL];clear hw aH;refine bm fC QR UJ fun aQ=>?_;unfold HX;exact b6
 |l l=>
 have aH:=aH l rfl;clear hw;simp only[cJ.e,gL];generalize a1:nI jg l m=R;unfold nI at a1;refine bm fC QR UJ fun aQ=>?_;unfold HX;have eI:l.length≤68719476736:=by simp[eD,ef,et,lim]at aQ;omega
 simp;by_cases g:m-l.length<0
 ·rw[if_pos g]at a1;subst a1;exact b6
 rw[if_neg g]at a1;(with_reducible repeat' first|refine aj ?_|simp[g]);refine dW [0] (fun i (k:Int)=>[(1,.int .i64 k),(5,.int .i64 i)]) l.length (fun i k=>(0≤k∧k≤1048576)∧jL jg (l.drop i) k=R) (m-l.length) bV ⟨⟨by omega,by omega⟩,by simpa using a1⟩ (fun k af _=>?_) (fun i k hi af _=>?_)
 ·obtain⟨_,af⟩:=af;rw[List.drop_length]at af;simp only[jL]at af;subst af;exact b6
 ·obtain⟨⟨ff,aZ⟩,af⟩:=af;obtain⟨x,ad,cC⟩:=dV hi;have key:=aH x (eo ad) k ff aZ;have hle:=AF x k ff;rw[sM ad]at af;simp only[jL]at af;generalize jg x k=q at key hle af;clear ad;by_cases br:q<0
  ·rw[if_pos br]at af;subst af;exact b6
  ·rw[if_neg br]at af;simp[hi,cC];((with_reducible repeat' first|refine aj ?_|refine aE key ?_|refine aF key ?_|simp[hi,cC,br]|((first|apply bR|apply bU|apply bT)<;>intro h<;>try simp at h))<;>(try exact cv));all_goals exact bO.rng q hi ⟨⟨by omega,by omega⟩,af⟩ bV
theorem anc(l:List (List cX))(aH:∀x∈l,bK al 149 [fQ x] (fQ x)):bK al 150 [.slice 1 .no (l.map fQ)] (.slice 1 .no (l.map fQ)):=by
 refine bm fC abD aif fun aQ=>?_;unfold OZ;have eI:l.length≤68719476736:=by simp[eD,ef,et,lim]at aQ;omega
 simp;all_goals first|(refine⟨by unfold lim;omega,?_⟩)|skip
 (with_reducible repeat' first|refine aj ?_|simp);have e8:∀(S:aD→Prop) (n:Nat),aG S (qP n (.slice 5 .nil []))=True:=fun S n=>eq_true (xK S _ (by simp[aB,aG]) n);refine gP (fun i (_:Unit)=>⟨[(0,.slice 1 .no (l.map fQ)),(3,.row 1 (.loc 0) l.length),(4,.int .i64 i)],[],[(.loc 0,⟨l.length,23,1,some (h9 fQ (.slice 5 .nil []) l i)⟩)],1,[]⟩) l.length (fun _ _=>True) () ⟨by simp[fresh,aG,aB,cg,inObs,Pv.look,ot,e8],ec (by simp[fresh,aG,aB,cg,inObs,Pv.look,ot,e8]),ed (by simp[fresh,aG,aB,dR,inObs,Pv.look,ot,e8]),by simp⟩ trivial (fun _ _ _=>?_) (fun i _ hi _ _=>?_)
 ·rw[CB];exact b6
 ·obtain⟨x,ad,cC⟩:=dV hi;have key:=aH x (eo ad);have ak:=CC fQ (.slice 5 .nil []) l hi;have aC:=CD fQ (.slice 5 .nil []) l ad;have bj:∀S:aD→Prop,aG S (h9 fQ (.slice 5 .nil []) l (i+1)):=fun S=>Cq S _ _ _ _ (fun x=>by simp) (by simp[aB,aG]);generalize h9 fQ (.slice 5 .nil []) l i=r0 at ak aC;generalize o7:h9 fQ (.slice 5 .nil []) l (i+1)=dF at aC bj;clear ad;simp[hi,cC];(with_reducible repeat' first|refine aj ?_|refine aE key ?_|refine aF key ?_|simp[hi,cC,ak,aC]);all_goals refine bO.rng () hi trivial ?_
  all_goals rw[o7]
  all_goals first
   |exact⟨by simp[fresh,aG,aB,cg,inObs,Pv.look,bj],ec (by simp[fresh,aG,aB,cg,inObs,Pv.look,bj]),ed (by simp[fresh,aG,aB,dR,inObs,Pv.look,bj]),by simp⟩
   |exact⟨by simp[fresh,aG,aB,cg,inObs,Pv.look,bj],ec (by simp[fresh,aG,aB,cg,inObs,Pv.look,bj]),ed (by simp[fresh,aG,aB,dR,inObs,Pv.look,bj];exact aC),by simp⟩
theorem aml(l:List (List cX))(aH:∀x∈l,bK al 156 [fQ x,fQ x] (.bool true)):bK al 157 [.slice 1 .no (l.map fQ),.slice 1 .no (l.map fQ)] (.bool true):=by
 refine bm fC abr ah4 fun aQ=>?_;unfold OO;have eI:l.length≤68719476736:=by simp[eD,ef,et,lim]at aQ;omega
 simp;(with_reducible repeat' first|refine aj ?_|simp);refine dW [0,1] (fun i (_:Unit)=>[(5,.int .i64 i)]) l.length (fun _ _=>True) () bV trivial (fun _ _ _=>?_) (fun i _ hi _ _=>?_)
 ·exact b6
 ·obtain⟨x,ad,cC⟩:=dV hi;have key:=aH x (eo ad);clear ad;exact hd
end Go.Proofs.YtohaalphocaebaaGreat
